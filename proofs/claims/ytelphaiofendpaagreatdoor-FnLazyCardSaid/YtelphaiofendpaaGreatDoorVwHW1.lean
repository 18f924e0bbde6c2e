
import Derived.Test.YtelphaiofendpaaGreatDoorVmB
import Derived.Test.YtelphaiofendpaaGreatDoorVwHFacts
import Derived.Test.YtelphaiofendpaaGreatDoorVwHExt
import Derived.Recover
import Derived.Tactics
import Derived.Tactics2
import Derived.Laws.Pointers
import Derived.Lib.Hide
set_option linter.unusedVariables false
namespace Go.Vw
open Go.RowKit Dat Go.Proofs
open Go.Proofs.Tryz
open Go.Vw renaming b_g->Wq,b_J->Wg,WC.of_KC->Wo,b_h->Wl,d_e->Wc,e_8->Wr,g_Z->Wu,i_D->pT,i_E->pF,h_2->fd,c_J->l1,j_7->lN,c_h->mv,d_Q->asg,g_N->lnR,f_F->lss,h_5->eql,h_3->ext_,i_G->bP,h_4->add_,g_J->inc_,e_Y->not_,g_O->at_,f_o->fc,c_3->fs,f_n->fb,e_K->fa,i_x->sr,i_B->cr,i_C->cM,d_G->bM,i_q->iS,i_p->iA,g_I->br,c_c->oA,i_t->bs,ltge->lg,inor->io,h_6->nq,j_8->lnT,j_9->sb_,i_v->ar_,i_u->al_,i_w->ds,j_N->m1,i_z->nr_,i_y->nl_,g_L->aa_,d_F->an_,e_9->Wb,g_K->u8,i_m->pD,g_v->We,i_r->Wt,g_D->fS,g_r->or_,j_5->Wf,i_L->qL,i_l->Wd,i_H->fN,g_M->na_,i_A->nj,f_v->f0,i_F->rX,i_I->tl_,i_J->ic
variable {A0:Option Addr}{N0 C0:Nat}{B:Zone}{w0:World}{n:Nat}{A6:Option Addr}{N6 C6:Nat}{AB:Option Addr}{AA:Option Addr}{AC:Option Addr}{AD:Option Addr}{NB CB:Nat}{NA CA:Nat}{NC CC:Nat}{ND CD:Nat}{A2:Option Addr}{A3:Option Addr}{A1:Option Addr}{A5:Option Addr}{N2 C2:Nat}{N3 C3:Nat}{N1 C1:Nat}{N5 C5:Nat}{A7:Option Addr}{A8:Option Addr}{N7 C7:Nat}{N8 C8:Nat}{AE:Option Addr}{AF:Option Addr}{NE CE:Nat}{NF CF:Nat}{A9:Option Addr}{N9 C9:Nat}{A4:Option Addr}{N4 C4:Nat}
def Q0 (w0:World)(B:Zone)(r:Bool)(v:Value)(w':World):Prop:=Bw w0 w'/\(λG=>(vB G)=v) r
theorem W_w2b {x1:Bt}{res:Bool}(hm:i_n x1=some res)(H:B<=w0.z)(G:repS w0 B (sl A0 N0 C0) x1):l_ prog 4 [sl A0 N0 C0] w0 (Q0 w0 B res):=by
 unfold i_n at hm
 refine goG func4 z z z λfn hr=>Ws<|Rw z<|Wm z<|R z (lnR n_ z G)<|R z (a_g z z)<|Rw z ?_
 obtain rfl:=som hm;exact Wr<|e_ hr z ⟨br w0,z⟩
def Q1 (w0:World)(B:Zone)(r:H_)(v:Value)(w':World):Prop:=Bw w0 w'/\(λG=>∃g1 a2 H I,(pt g1)=v/\Blk w' g1 [.slice a2 H I,vI G.i,vI G.h]/\w0.z<=g1/\repS w' B (sl a2 H I) G.b/\inI G.i/\inI G.h) r
theorem W_w2c {x1:Bt}{res:H_}(hm:g_y n x1=some res)(L:B<=w0.z)(H:repS w0 B (sl A0 N0 C0) x1):l_ prog 14 [sl A0 N0 C0] w0 (Q1 w0 B res):=by
 unfold g_y at hm
 refine goG func14 z z z λfn hr=>Ws<|Rw z<|Wm z<|R z (lnR n_ z H)<|R z (add_ z z)<|Rw z<|Wq<|Ws<|Rw z ?_
 obtain ⟨_,huh,hma⟩:=bdS hm;refine c_f (σ:=Int×Int) (ρ:=H_) (λs a w=>un2 (λx0 x2=>Sat 32 [(0,sl A0 N0 C0),(3,vI x0),(4,vI x2)] a/\Below w0.z w0 w/\inI x0/\inI x2) s) (λs a w=>un2 (λx0 x2=>Sat 32 [(0,sl A0 N0 C0),(3,vI x0)] a/\Below w0.z w0 w/\inI x0/\inI x2) s) (rQ prog fn<|Q1 w0 B) huh ?_ ?_ ?_ ?_
 .exact λ_ q=>⟨q.k<|s3 z z z,br w0,iA _ _,ii z⟩
 .rintro ⟨x0,x2⟩ _ I _ ⟨hSi,s5,h4,hb⟩ hmj;refine Wu ?_ hSi;refine Wq<|Wq ?_
  obtain ⟨ul,huc,hmd⟩:=bdS<|a_O hmj;refine Wt (λa w=>∃(x6:Bool),x6=ul/\Sat 32 [(0,sl A0 N0 C0),(3,vI x0),(4,vI x2),(15,vB x6)] a/\Below I.z I w) ?_ ?_
  .refine Wg<|RM z z<|R z (lnR n_ z<|H.e s5)<|Rl z z z<|Rm z ?_
   rcases bs (decide<|x2<(x1.length:Int)) with G | G
   .exact Rh z G (mv z)<|Rh z G (lss z z)<|R z (pT z G z)<|Wl (λ_ q=>⟨decide<|x2<4000,som<|ifT huc G,q.k<|s4 z z z z,br I⟩)
   exact Nh z G<|Nh z G<|R z (pF z G z)<|Wl (λ_ q=>⟨false,som<|ifF huc G,q.k<|s4 z z z z,br I⟩)
  rintro am _ ⟨x6,rfl,_,s7⟩;revert am;refine Wo<|Wc z (λJ=>?_) (λJ=>?_)
  .refine Wk<|Wq<|Wb<|Wg<|Rm z<|R z (c_K z z)<|RM z z ?_
   obtain ⟨xn,eo,hmp⟩:=bdS<|ifT hmd J;refine RX z (at_ (α:=UInt8) n_ z_5 z z z (H.g<|(s5.ag B).e s7) eo) ?_;rintro _ ⟨_,_,_,rfl,hq,ht,_⟩;obtain rfl:=u8 ht;exact R z (l0 g_5 z<|hq.at0 z)<|R z (b_W d_5 d_3 z)<|R z (add_ z z)<|R z (add_ z z)<|R z (j_a z z)<|Rw z<|Wg<|Rm z<|R z (add_ z z)<|Ra z<|Wl (λ_ q=>⟨(a_B .i64 (· &&& ·) (i_ (i_ (a_f x0 137)<|byteI xn) 11) 1073741823,i_ x2 1),(som hmp).symm,⟨q.k<|s3 z z z,bup s5 s7,g_P _ _ _,iA _ _⟩⟩)
  exact We<|λ_ q=>b_N (som<|ifF hmd J).symm ⟨q.k<|s2 z z,bup s5 s7,h4,hb⟩
 .rintro ⟨x0,x2⟩ ar we rfl ⟨_,s9,h4,hb⟩;have hms:=elL hma;revert ar;refine Wo<|Wm z<|Rm z<|R z (bP (parts:=[(0,.tmp 28),(2,.tmp 29)]) (cs:=[sl A0 N0 C0,vI 0,vI x0]) q_r z z)<|E z (fb z) ?_
  rintro _ wv ⟨rfl,hf⟩;have hg:=hf.below;refine Rw z ?_
  obtain rfl:=som<|a_O hms;exact Wr<|e_ hr z ⟨bup s9 hg,we.z,A0,N0,C0,z,(hf.blk:Blk wv we.z [sl A0 N0 C0,vI 0,vI x0]),atp<|m1 s9.s,H.g<|(s9.ag B).e hg,ii z,h4⟩
 rintro _ _ _ _ rfl ⟨rfl,hqx⟩;have hmy:=elR hma;obtain rfl:=som hmy;exact ⟨hqx,z⟩
def Q2 (w0:World)(g1:Nat)(B:Zone)(A0:Option Addr)(N0 C0:Nat)(x1:H_)(r:Int×Int×Int)(v:Value)(w':World):Prop:=Cg [g1] w0 w'/\un3 (λG H I=>(vI G)=v/\inI G/\inI H/\inI I/\Blk w' g1 [sl A0 N0 C0,vI H,vI I]) r
theorem g_U {x1:H_}{g1:Nat}{res:Int×Int×Int}(hm:d_h x1=some res)(hB1:Blk w0 g1 [sl A0 N0 C0,vI x1.i,vI x1.h])(V:B<=w0.z)(hBg:¬B g1)(J:repS w0 B (sl A0 N0 C0) x1.b)(L:inI x1.i)(O:inI x1.h):l_ prog 73 [pt g1] w0 (Q2 w0 g1 B A0 N0 C0 x1 res):=by
 unfold d_h at hm
 refine goG func73 z z z λfn hr=>Ws<|Rw z<|Wm z<|Rm z<|R z (C_ z)<|Rf z i_R z<|R z (l0 g_3 z<|hB1.at z)<|R z (c_K z z)<|R z (add_ z z)<|R z (C_ z)<|Rf z i_R z<|E0 (fs0 (cur':=[sl A0 N0 C0,vI x1.i,(vI<|i_ (a_f x1.h 6364136223846793005) 1442695040888963407)]) z_3 z z hB1 z z z z) ?_
 rintro _ wd ⟨he,sf⟩;have ha:=sf.one;refine Wn<|Wq (Wd (X:=noX) 0 (pl_ 13 []) mo (by kernel_rfl) λwg s5 _=>dM z z z<|dR z z (C_ z)<|dR z z (fd i_R z) ?_)
 have h6:=he.e s5;refine dR z z (l0 g_3 z<|h6.at z)<|dR z z (j_c z z (by decide))<|dM z z z<|dR z z (C_ z)<|dR z z (fd i_R z)<|dR z z (l0 g_3 z<|h6.at z)<|dR z z (j_c z z (by decide))<|dR z z (rd_xor z z)<|dR z z (j_a z z)<|dQ z z z<|pD<|Wo<|Wq<|Wq (Wd (X:=noX) 0 (pl_ 10 []) mo (by kernel_rfl) λG s7 _=>dM z z z<|dR z z (C_ z)<|dR z z (fd i_Q z) ?_)
 have H:=h6.e s7;refine dR z z (l0 g_3 z<|H.at z)<|dM z z z<|dR z z (C_ z)<|dR z z (fd m_u z)<|dR z z (l0 R_ z<|H.at z) ?_
 have hb:=((ha.agc B<|b_<|c_ hBg).e s5).e s7;refine dR z z (lnR n_ z<|J.g hb)<|dR z z (lss z z)<|pD<|Wo ?_
 obtain ⟨uh,huc,hmi⟩:=bdS hm;refine Wt (λa w=>∃(x2:Int)(x3:Int),(x2,x3)=uh/\Sat 58 [(3,vI x2)] a/\Cg [g1] G w/\inI x2/\inI x3/\Blk w g1 [sl A0 N0 C0,vI x3,(vI<|i_ (a_f x1.h 6364136223846793005) 1442695040888963407)]) ?_ ?_
 .refine Wc z (λI=>?_)<|λI=>?_
  .refine Wq (Wd (X:=noX) 0 (pl_ 15 []) mo (by kernel_rfl) λwj s9 _=>dM z z z<|dM z z z<|dR z z (C_ z)<|dR z z (fd m_u z) ?_);have h4:=H.e s9;refine dR z z (l0 R_ z<|h4.at z)<|dM z z z<|dR z z (C_ z)<|dR z z (fd i_Q z)<|dR z z (l0 g_3 z<|h4.at z) ?_
   obtain ⟨xk,el,hmm⟩:=bdS<|ifT huc I;refine dRX z z (at_ (α:=UInt8) n_ z_5 z z z (J.g<|hb.e s9) el) ?_;rintro _ ⟨_,_,_,rfl,hn,ho,_⟩;obtain rfl:=u8 ho;refine dR z z (l0 g_5 z<|hn.at0 z)<|dR z z (b_W d_5 d_3 z)<|dR z z (add_ z z)<|dR z z (j_a z z)<|dQ z z z<|pD<|Wo<|Wg<|RM z z<|R z (C_ z)<|Rf z i_Q z<|R z (l0 g_3 z<|h4.at z)<|R z (add_ z z)<|R z (C_ z)<|Rf z i_Q z<|E0 (fs0 (cur':=[sl A0 N0 C0,vI<|i_ x1.i 1,(vI<|i_ (a_f x1.h 6364136223846793005) 1442695040888963407)]) z_3 z z h4 z z z z) ?_
   rintro _ wp ⟨hq,ss⟩;refine Wl ?_;exact λ_ q=>⟨a_B .i64 (· &&& ·) (i_ (a_B .i64 (· &&& ·) (a_B .i64 (· ^^^ ·) (c_g .i64 (i_ (a_f x1.h 6364136223846793005) 1442695040888963407) 33)<|c_g .i64 (i_ (a_f x1.h 6364136223846793005) 1442695040888963407) 47) 255)<|byteI xk) 255,i_ x1.i 1,som hmm,q.k<|s1 z,(cM (f_ (cr [g1] G) s9:Cg [g1] G wj) ss.one (io sr):Cg [g1] G wp),g_P _ _ _,iA _ _,hq⟩
  exact a_k<|λ_ q=>⟨a_B .i64 (· &&& ·) (a_B .i64 (· ^^^ ·) (c_g .i64 (i_ (a_f x1.h 6364136223846793005) 1442695040888963407) 33)<|c_g .i64 (i_ (a_f x1.h 6364136223846793005) 1442695040888963407) 47) 255,x1.i,som<|ifF huc I,q.k<|s1 z,cr [g1] G,g_P _ _ _,L,H⟩
 rintro ar wv ⟨x2,x3,rfl,_,sw,hx,hy,hz⟩;revert ar;refine Wo<|Wm z<|Rw z ?_
 obtain rfl:=som<|a_O hmi;exact Wr<|e_ hr z ⟨(cM (f_ (f_ (cM (cr [g1] w0) ha (io sr):Cg [g1] w0 wd) s5:Cg [g1] w0 wg) s7:Cg [g1] w0 G) sw (io sr):Cg [g1] w0 wv),z,hx,hy,iA _ _,hz⟩
theorem b_B {x1:H_}{g1:Nat}{x2:Int}{res:Int×Int×Int}(hm:a_I x1 x2=some res)(hB1:Blk w0 g1 [sl A0 N0 C0,vI x1.i,vI x1.h])(I:B<=w0.z)(hBg:¬B g1)(H:repS w0 B (sl A0 N0 C0) x1.b)(J:inI x1.i)(L:inI x1.h)(a1:inI x2):l_ prog 37 [pt g1,vI x2] w0 (Q2 w0 g1 B A0 N0 C0 x1 res):=by
 unfold a_I at hm
 refine goG func37 z z z λfn hr=>Ws<|Rw z<|Wq<|Wm z<|R z (c_5 z z)<|Wx z (λO=>?_) (λO=>?_)
 .refine Ws<|Rw z ?_
  obtain rfl:=som<|ifT hm O;exact Wr<|e_ hr z ⟨cr [g1] w0,z,ii z,J,L,hB1⟩
 have W:=ifF hm O;refine Wk<|Wq<|Wm z<|R z (c_5 z z)<|Wx z (λV=>?_) (λV=>?_)
 .refine Wm z ?_
  obtain ⟨_,_,_,e5,a0⟩:=w_<|ifT W V;refine E z (fc call73 z<|g_U (B:=B) e5 hB1 I hBg H J L) ?_;rintro _ w7 ⟨s8,rfl,h9,ha,hb,hc⟩;refine Rm z ?_;obtain ⟨_,ed,hme⟩:=bdS a0;refine R z (f_E z z<|nzS ed)<|Rw z ?_
  obtain rfl:=som hme;exact Wr<|e_ hr z ⟨(cM (cr [g1] w0) s8 (io sr):Cg [g1] w0 w7),z,g_H h9,ha,hb,hc⟩
 refine Wk<|Wm z ?_
 obtain ⟨_,_,_,eg,hmh⟩:=w_<|ifF W V;refine E z (fc call73 z<|g_U (B:=B) eg hB1 I hBg H J L) ?_;rintro _ wi ⟨G,rfl,_,hj,hk,hl⟩;refine Rw z<|Wm z ?_
 obtain ⟨_,_,_,em,hmn⟩:=w_ hmh;refine E z (fc call73 z<|g_U (B:=B) em hl (zt' I G.s) hBg (H.c G<|b_<|c_ hBg) hj hk) ?_;rintro _ wo ⟨s3,rfl,_,hp,hq,ht⟩;refine Rw z<|Wm z ?_
 obtain ⟨_,_,_,er,hms⟩:=w_ hmn;refine E z (fc call73 z<|g_U (B:=B) er ht (zt' I<|lt_ G.s s3.s) hBg (H.g<|(G.agc B<|b_<|c_ hBg).c s3<|b_<|c_ hBg) hp hq) ?_;rintro _ wu ⟨sv,rfl,_,hw,hx,hy⟩;refine Rw z<|Wm z<|R z (c_K z z)<|Rm z<|R z (c_K z z)<|R z (add_ z z)<|Rm z<|R z (add_ z z)<|Rm z ?_
 obtain ⟨_,ez,Y⟩:=bdS hms;refine R z (f_E z z<|nzS ez)<|Rw z ?_
 obtain rfl:=som Y;exact Wr<|e_ hr z ⟨(cM (cM (cM (cr [g1] w0) G (io sr):Cg [g1] w0 wi) s3 (io sr):Cg [g1] w0 wo) sv (io sr):Cg [g1] w0 wu),z,g_H<|iA _ _,hw,hx,hy⟩
def Q3 (w0:World)(g1:Nat)(B:Zone)(A0:Option Addr)(N0 C0:Nat)(x1:H_)(r:Str×Int×Int)(v:Value)(w':World):Prop:=Cg [g1] w0 w'/\un3 (λG H I=>(Str.v G)=v/\G.b.length<=LEN/\inI H/\inI I/\Blk w' g1 [sl A0 N0 C0,vI H,vI I]) r
theorem W_w1c {x1:H_}{g1:Nat}{x2:List Str}{res:Str×Int×Int}(hm:e_a x1 x2=some res)(hB1:Blk w0 g1 [sl A0 N0 C0,vI x1.i,vI x1.h])(O:B<=w0.z)(hBg:¬B g1)(I:repS w0 B (sl A0 N0 C0) x1.b)(J:inI x1.i)(L:inI x1.h)(G:repS w0 B (sl A6 N6 C6) x2):l_ prog 71 [pt g1,sl A6 N6 C6] w0 (Q3 w0 g1 B A0 N0 C0 x1 res):=by
 unfold e_a at hm
 refine goG func71 z z z λfn hr=>Ws<|Rw z<|Wm z<|RM z z<|R z (lnR a_n z G) ?_
 obtain ⟨_,_,_,Y,V⟩:=w_ hm;refine E z (fc call37 z<|b_B (B:=B) Y hB1 O hBg I J L<|b_0<|repS.len G) ?_;rintro _ w3 ⟨H,rfl,_,h4,h5,h6⟩;obtain ⟨_,e7,W⟩:=bdS V;refine RX z (at_ (α:=Str) a_n z_9 z z z (G.c H<|b_<|c_ hBg) e7) ?_;rintro _ ⟨_,_,_,rfl,h9,ha,_⟩;obtain ⟨rfl,hb⟩:=b_K ha;refine R z (l0 g_9 z<|h9.at0 z)<|Rw z ?_
 obtain rfl:=som W;exact Wr<|e_ hr z ⟨(cM (cr [g1] w0) H (io sr):Cg [g1] w0 w3),z,hb,h4,h5,h6⟩
def Q4 (w0:World)(B:Zone)(r:Str)(v:Value)(w':World):Prop:=Bw w0 w'/\(λG=>(Str.v G)=v/\G.b.length<=LEN) r
theorem e_T {x1:Int}{res:Str}(hm:c_2 n x1=some res)(V:B<=w0.z)(O:inI x1):l_ prog 68 [vI x1] w0 (Q4 w0 B res):=by
 unfold c_2 at hm
 refine goG func68 z z z λfn hr=>Ws<|Rw z<|Wq<|Wm z<|Rq z z z<|Wx z (λH=>?_) (λH=>?_)
 .refine Ws<|Rw z ?_
  obtain rfl:=som<|ifT hm H;exact Wr<|e_ hr z ⟨br w0,z,lb z⟩
 refine Wk<|Ws<|Rw z<|Wq<|Wm z<|Rw z ?_
 obtain ⟨_,huj,hmb⟩:=bdS<|ifF hm H;refine c_f (σ:=Str×Int) (ρ:=Str) (λs a w=>un2 (λx2 x0=>Sat 31 [(0,vI x1),(3,Str.v x2),(4,vI x0)] a/\Below w0.z w0 w/\x2.b.length<=LEN/\inI x0) s) (λs a w=>un2 (λx2 x0=>Sat 31 [(0,vI x1),(3,Str.v x2)] a/\Below w0.z w0 w/\x2.b.length<=LEN/\inI x0) s) (rQ prog fn<|Q4 w0 B) huj ?_ ?_ ?_ ?_
 .exact λ_ q=>⟨q.k<|s3 z z z,br w0,lb z,O⟩
 .rintro ⟨x2,x0⟩ _ G _ ⟨hSk,sc,h5,h6⟩ hml;have hmd:=a_O hml;refine Wu ?_ hSk;refine Wq<|Wm z<|R z (nq z z)<|Wx z (λI=>?_) (λI=>?_)
  .refine Wk<|Wq<|Wb<|Wm z<|R z (f_E z z (by decide))<|Rw z<|Wq<|Wm z<|Rl z z z<|Wn ?_
   obtain ⟨um,hue,hmn⟩:=bdS<|ifT hmd I;refine Wt (λa w=>∃(x3:Int),x3=um/\Sat 31 [(0,vI x1),(3,Str.v x2),(4,vI x0),(5,vI x3)] a/\Below G.z G w/\inI x3) ?_ ?_
   .refine Wc z (λJ=>?_)<|λJ=>?_
    .exact Wg<|Rm z<|R z (rd_neg z)<|Ra z<|Wl (λ_ q=>⟨f_D<|b_2 x0 10,som<|ifT hue J,q.k<|s4 z z z z,br G,p_9 _⟩)
    exact a_k<|λ_ q=>⟨b_2 x0 10,som<|ifF hue J,q.k<|s4 z z z z,br G,g_H h6⟩
   rintro ao wp ⟨x3,rfl,_,sq,_⟩;revert ao;refine Wo<|Wg<|Rm z<|R z (add_ z z)<|R z (e_N d_3 d_5 z)<|E z (fS [(.tmp 21)] a_2 z z z (a_e z) (lb z)<|lb z) ?_
   rintro _ wr ⟨rfl,L⟩;have W:Blk wr wp.z [(vU<|byteI<|mkB<|i_ 48 x3)]:=L.blk;refine R z (m_m n_ d_9 d_5 z_5 z<|a_.rep<|a_J L b_n)<|Rm z ?_
   obtain ⟨xs,ef,hmt⟩:=bdS hmn;exact R z (a_w z z ef)<|Rw z<|Wg<|Rm z<|R z (e_X z z (by decide))<|Ra z<|Wl (λ_ q=>⟨(xs,b_Z x0 10),(som hmt).symm,⟨q.k<|s3 z z z,bup (bup sc sq) L.below,b_b ef,f_r _ _⟩⟩)
  exact We<|λ_ q=>b_N (som<|ifF hmd I).symm ⟨q.k<|s2 z z,sc,h5,h6⟩
 .rintro ⟨x2,x0⟩ au _ rfl ⟨_,sg,h5,h6⟩;have hmv:=elL hmb;have hmh:=a_O hmv;revert au;refine Wo<|Wq<|Wm z<|Rl z z z<|Wx z (λhca=>?_) (λhca=>?_)
  .refine Wm z ?_
   obtain ⟨_,ei,hmw⟩:=bdS<|ifT hmh hca;refine R z (a_w z z ei)<|Rw z ?_
   obtain rfl:=som hmw;exact Wr<|e_ hr z ⟨sg,z,b_b ei⟩
  refine Wk<|Wm z<|Rw z ?_
  obtain rfl:=som<|ifF hmh hca;exact Wr<|e_ hr z ⟨sg,z,h5⟩
 rintro _ _ _ _ rfl ⟨rfl,hqx⟩;have hmy:=elR hmb;obtain rfl:=som hmy;exact ⟨hqx,z⟩
def Q5 (w0:World)(g1:Nat)(B:Zone)(A0:Option Addr)(N0 C0:Nat)(x1:H_)(r:Bool×Int×Int)(v:Value)(w':World):Prop:=Cg [g1] w0 w'/\un3 (λI G H=>(vB I)=v/\inI G/\inI H/\Blk w' g1 [sl A0 N0 C0,vI G,vI H]) r
theorem k_f {x1:H_}{g1:Nat}{x2:Int}{res:Bool×Int×Int}(hm:e_E x1 x2=some res)(hB1:Blk w0 g1 [sl A0 N0 C0,vI x1.i,vI x1.h])(L:B<=w0.z)(hBg:¬B g1)(G:repS w0 B (sl A0 N0 C0) x1.b)(H:inI x1.i)(I:inI x1.h)(J:inI x2):l_ prog 43 [pt g1,vI x2] w0 (Q5 w0 g1 B A0 N0 C0 x1 res):=by
 unfold e_E at hm
 refine goG func43 z z z λfn hr=>Ws<|Rw z<|Wm z<|Rm z ?_
 obtain ⟨_,_,_,V,O⟩:=w_ hm;refine E z (fc call37 z<|b_B (B:=B) V hB1 L hBg G H I J) ?_;rintro _ W ⟨s3,rfl,_,h4,h5,h6⟩;refine Rq z z z<|Rw z ?_
 obtain rfl:=som O;exact Wr<|e_ hr z ⟨(cM (cr [g1] w0) s3 (io sr):Cg [g1] w0 W),z,h4,h5,h6⟩
def Q6 (w0:World)(g1:Nat)(B:Zone)(A0:Option Addr)(N0 C0:Nat)(x1:H_)(r:Bt×Int×Int)(v:Value)(w':World):Prop:=Cg [g1] w0 w'/\un3 (λO G H=>∃I J L S1,(sl I J L)=v/\a_ w' S1 (sl I J L) O/\inI G/\inI H/\Blk w' g1 [sl A0 N0 C0,vI G,vI H]/\S1.Nodup/\(∀k∈S1,w0.z<=k)) r
theorem k_g {x1:H_}{g1:Nat}{x2:Int}{res:Bt×Int×Int}(hm:e_F x1 x2=some res)(hB1:Blk w0 g1 [sl A0 N0 C0,vI x1.i,vI x1.h])(V:B<=w0.z)(hBg:¬B g1)(W:repS w0 B (sl A0 N0 C0) x1.b)(Y:inI x1.i)(a0:inI x1.h)(a1:inI x2):l_ prog 42 [pt g1,vI x2] w0 (Q6 w0 g1 B A0 N0 C0 x1 res):=by
 unfold e_F at hm
 refine goG func42 z z z λfn hr=>Ws<|Rw z<|Ws<|E z (f0 (α:=UInt8) a_2) ?_
 rintro _ G ⟨ar,ns,ct,rfl,s8,hu⟩;refine Rw z<|Wq<|Ws<|Rw z ?_
 obtain ⟨_,huv,hmj⟩:=bdS hm;refine Wf (σ:=Bt×Int×Int) (ρ:=Bt×Int×Int) (λ(kk:Nat) s a w=>un3 (λO x5 x6=>∃a2 I J H,Sat 20 [(0,pt g1),(1,vI x2),(5,sl a2 I J),(6,vI ((kk:Nat):Int))] a/\Chg (· ∈ ([g1]++[w0.z])) G w/\a_ w H (sl a2 I J) O/\H.Nodup/\(∀k∈H,k∈[w0.z]∨G.z<=k)/\inI x5/\inI x6/\Blk w g1 [sl A0 N0 C0,vI x5,vI x6]) s) (λs a w=>un3 (λO x5 x6=>∃a2 I J H,Sat 20 [(5,sl a2 I J)] a/\Chg (· ∈ ([g1]++[w0.z])) G w/\a_ w H (sl a2 I J) O/\H.Nodup/\(∀k∈H,k∈[w0.z]∨G.z<=k)/\inI x5/\inI x6/\Blk w g1 [sl A0 N0 C0,vI x5,vI x6]) s) (rQ prog fn<|Q6 w0 g1 B A0 N0 C0 x1) huv ?_ ?_ ?_ ?_ ?_
 .exact λ_ q=>⟨ar,ns,ct,[w0.z],q.k<|s4 z z z z,cr ([g1]++[w0.z]) G,hu,a_y,io sr,Y,a0,hB1.e s8⟩
 .rintro kk ⟨O,x5,x6⟩ _ ww _ hkl ⟨a2,I,J,H,hSx,sc,ha,hb,L,hd,he,hf⟩ hmy;refine Wu ?_ hSx;refine Wq<|Wm z<|Rm z<|Rl z z z<|Wx z (λ_=>?_) (λhc=>(k_5 hkl hc).elim)
  refine Wk<|Wq<|Wb<|Wg<|RM z z ?_
  obtain ⟨a9,aa,ab,ad,a3⟩:=w_<|b_s hmy;refine E z (fc call73 z<|g_U (B:=B) ad hf (zt' V<|lt_ s8.s sc.s) hBg (W.g<|(s8.ag B).c sc<|nmA (b_<|c_ hBg)<|b_ (or0 (c_ lr) (k_ V):∀k∈[w0.z],¬B k)) hd he) ?_;rintro _ wm ⟨sh,rfl,_,ae,af,ah⟩;refine R z (e_N d_3 d_5 z)<|E z (fS [(.tmp 16)] a_2 z z z (a_e z) (lb z)<|lb z) ?_
  rintro _ wn ⟨rfl,hi⟩;have hg:=hi.below;have az:=a_J hi b_n;have ho:∀k∈H,k∉[g1]:=or1 L (mmr<|Blk.lt hB1)<|U_ (c_<|Blk.lt hB1) s8.s;obtain ⟨ai,aj,a4⟩:=bdS a3;refine E z (a_X (α:=UInt8) a_2 aj z z ((ha.c sh ho).e hg) hb (hi.blk:Blk wn wm.z [(vU<|byteI<|mkB a9)]) b_n an_ G_) ?_;rintro _ ak ⟨Sp,al,am,an,rfl,sq,ao,ap,aq⟩;refine Rw z<|Wg<|Rm z<|R z (inc_ hkl (tl_ a1) z z)<|Ra z<|Wl ?_
  exact λ_ q=>⟨(ai,aa,ab),(som a4).symm,⟨al,am,an,Sp,q.k<|s4 z z z z,(cM (f_ (cM (cM (cr ([g1]++[w0.z]) G) sc (aa_ (io<|D_ sr)<|io<|F_ sr):Chg (· ∈ ([g1]++[w0.z])) G ww) sh (io<|D_ sr):Chg (· ∈ ([g1]++[w0.z])) G wm) hg:Chg (· ∈ ([g1]++[w0.z])) G wn) sq (or1 L (io<|F_ sr) (B_ lr):∀k∈H,k∈([g1]++[w0.z])∨G.z<=k):Chg (· ∈ ([g1]++[w0.z])) G ak),ao,ap,(or2 aq (or1 L (io sr) (B_ lr):∀k∈H,k∈[w0.z]∨G.z<=k) an_ (B_<|lt_ (lt_ sc.s sh.s) hg.s):∀k∈Sp,k∈[w0.z]∨G.z<=k),ae,af,(ah.e hg).c sq<|djs ho⟩⟩
 .rintro ⟨O,x5,x6⟩ _ au ⟨a2,I,J,H,a5,av,ha,hb,L,hd,he,hf⟩;refine Wu ?_ a5;refine Wq<|Wm z<|Rm z<|Rl z z z<|Wx z (λhc=>(k_6 hc).elim) (λ_=>?_)
  exact We<|λ_ q=>⟨rfl,⟨a2,I,J,H,q.k<|s1 z,(cM (cr ([g1]++[w0.z]) G) av (aa_ (io<|D_ sr)<|io<|F_ sr):Chg (· ∈ ([g1]++[w0.z])) G au),ha,hb,(or1 L (io sr) (B_ lr):∀k∈H,k∈[w0.z]∨G.z<=k),hd,he,hf⟩⟩
 .rintro ⟨O,x5,x6⟩ aw ax rfl ⟨a2,I,J,H,_,ay,ha,hb,L,hd,he,hf⟩;have a6:=elL hmj;revert aw;refine Wo<|Wm z<|Rw z ?_
  obtain rfl:=som<|b_s a6;exact Wr<|e_ hr z ⟨(cM (f_ (cr [g1] w0) s8:Cg [g1] w0 G) ay (aa_ (io sr) (mor lr:∀k∈[w0.z],k∈[g1]∨w0.z<=k)):Cg [g1] w0 ax),a2,I,J,H,z,ha,hd,he,hf,hb,(or1 L (c_ lr) (b_o s8.s):∀k∈H,w0.z<=k)⟩
 rintro _ _ _ _ rfl ⟨rfl,a7⟩;have a8:=elR hmj;obtain rfl:=som a8;exact ⟨a7,z⟩
theorem k_h {x1:H_}{g1:Nat}{x2:List Int}{res:Int×Int×Int}(hm:e_G x1 x2=some res)(hB1:Blk w0 g1 [sl A0 N0 C0,vI x1.i,vI x1.h])(O:B<=w0.z)(hBg:¬B g1)(I:repS w0 B (sl A0 N0 C0) x1.b)(J:inI x1.i)(L:inI x1.h)(G:repS w0 B (sl A6 N6 C6) x2):l_ prog 44 [pt g1,sl A6 N6 C6] w0 (Q2 w0 g1 B A0 N0 C0 x1 res):=by
 unfold e_G at hm
 refine goG func44 z z z λfn hr=>Ws<|Rw z<|Wm z<|RM z z<|R z (lnR v_ z G) ?_
 obtain ⟨_,_,_,Y,V⟩:=w_ hm;refine E z (fc call37 z<|b_B (B:=B) Y hB1 O hBg I J L<|b_0<|repS.len G) ?_;rintro _ w3 ⟨H,rfl,_,h4,h5,h6⟩;obtain ⟨_,e7,W⟩:=bdS V;refine RX z (at_ (α:=Int) v_ z_3 z z z (G.c H<|b_<|c_ hBg) e7) ?_;rintro _ ⟨_,_,_,rfl,h9,ha,_⟩;obtain ⟨rfl,hb⟩:=O_ ha;refine R z (l0 g_3 z<|h9.at0 z)<|Rw z ?_
 obtain rfl:=som W;exact Wr<|e_ hr z ⟨(cM (cr [g1] w0) H (io sr):Cg [g1] w0 w3),z,hb,h4,h5,h6⟩
theorem k_i {x1:H_}{g1:Nat}{x2:d_}{res:Int×Int×Int}(hm:e_H x1 x2=some res)(hB1:Blk w0 g1 [sl A0 N0 C0,vI x1.i,vI x1.h])(a0:B<=w0.z)(hBg:¬B g1)(a1:repS w0 B (sl A0 N0 C0) x1.b)(a2:inI x1.i)(a3:inI x1.h)(Y:repS w0 B (sl A6 N6 C6) x2.rules):l_ prog 72 [pt g1,(.agg #[sl A6 N6 C6])] w0 (Q2 w0 g1 B A0 N0 C0 x1 res):=by
 unfold e_H at hm
 refine goG func72 z z z λfn hr=>Ws<|E z (fb z) ?_
 rintro _ G ⟨rfl,ht⟩;have h3:=ht.below;have hf:Blk G w0.z [sl A6 N6 C6]:=ht.blk;refine Rw z<|Ws<|E z (f0 (α:=Int) b_X) ?_
 rintro _ I ⟨ai,ak,al,rfl,s7,am⟩;refine Rw z<|Wq<|Ws<|Rw z ?_
 obtain ⟨_,a5,hms⟩:=bdS hm;refine Wf (σ:=List Int) (ρ:=Int×Int×Int) (λ(kc:Nat)(W:List Int) a w=>∃J L O H,Sat 29 [(0,pt g1),(3,pt w0.z),(5,sl J L O),(6,vI ((kc:Nat):Int))] a/\Cg [G.z] I w/\a_ w H (sl J L O) W/\H.Nodup/\(∀k∈H,k∈[G.z]∨I.z<=k)) (λ(W:List Int) a w=>∃J L O H,Sat 29 [(0,pt g1),(5,sl J L O)] a/\Cg [G.z] I w/\a_ w H (sl J L O) W/\H.Nodup/\(∀k∈H,k∈[G.z]∨I.z<=k)) (rQ prog fn<|Q2 w0 g1 B A0 N0 C0 x1) a5 ?_ ?_ ?_ ?_ ?_
 .exact λ_ q=>⟨ai,ak,al,[G.z],q.k<|s4 z z z z,cr [G.z] I,am,a_y,io sr⟩
 .rintro kc W _ V _ hkg ⟨J,L,O,H,a6,sh,ha,hd,he⟩ a7;refine Wu ?_ a6;refine Wq<|Wm z<|Rf z a_3 z ?_
  have hu:=(hf.e s7).c sh<|djs<|mmr hf.lt
  refine R z (l0 a_8 z<|hu.at z) ?_;have hv:=Y.g<|((h3.ag B).e s7).c sh<|b_ (or0 (c_ lr) (k_<|zt' a0 h3.s):∀k∈[G.z],¬B k)
  refine R z (lnR a_a z hv)<|Rl z z z<|Wx z (λ_=>?_) (λhc=>(a_6 hkg hc).elim)
  refine Wk<|Wq<|Wb<|Ws<|Rf z a_3 z<|R z (l0 a_8 z<|hu.at z)<|Rm z ?_
  obtain ⟨_,an,a8⟩:=bdS a7;refine RX z (at_ (α:=g_) a_a o_ z z z hv an) ?_;rintro _ ⟨_,_,_,rfl,ao,ap,_⟩;obtain ⟨_,_,_,_,_,_,_,_,_,_,_,_,rfl,_,_,_,_,_,_,_⟩:=a_D ap;refine Rf z a_u z<|R z (l0 g_3 z<|ao.at (j:=1) z)<|Rq z z z<|Wn ?_
  obtain ⟨aq,huw,a9⟩:=bdS a8;refine Wt (λa w=>∃(xi:List Int),xi=aq/\∃aj nk cl Sb,Sat 29 [(0,pt g1),(3,pt w0.z),(5,sl aj nk cl),(6,vI ((kc:Nat):Int))] a/\Cg H V w/\a_ w Sb (sl aj nk cl) xi/\Sb.Nodup/\(∀k∈Sb,k∈H∨V.z<=k)) ?_ ?_
  .refine Wc z (λhcn=>?_)<|λhcn=>?_
   .refine Wg<|RM z z<|E z (fS [(.tmp 23)] b_X z z z (a_e z) (lb z)<|lb z) ?_
    rintro _ wx ⟨rfl,ho⟩;have hp:=ho.below;have aS:=a_J ho<|b_y<|ic (Nat.le_of_lt hkg)<|lt_ (repS.len Y) M_
    obtain ⟨ar,au,aa⟩:=bdS<|ifT huw hcn;refine E z (a_X (α:=Int) b_X au z z (ha.e hp) hd (ho.blk:Blk wx V.z [(vI ((kc:Nat):Int))]) (b_y<|ic (Nat.le_of_lt hkg)<|lt_ (repS.len Y) M_) an_ G_) ?_;rintro _ av ⟨Sy,aw,ax,ay,rfl,az,aA,aB,aC⟩;refine Ra z<|Wl ?_
    exact λ_ q=>⟨ar,som aa,aw,ax,ay,Sy,q.k<|s4 z z z z,(cM (f_ (cr H V) hp:Cg H V wx) az (io sr):Cg H V av),aA,aB,(or2 aC (io sr) an_ (B_ hp.s):∀k∈Sy,k∈H∨V.z<=k)⟩
   exact a_k<|λ_ q=>⟨W,som<|ifF huw hcn,J,L,O,H,q.k<|s4 z z z z,cr H V,ha,hd,io sr⟩
  rintro aD aE ⟨xi,rfl,aj,nk,cl,Sb,_,aF,aG,aH,aI⟩;revert aD;refine Wo<|Wg<|Rm z<|R z (inc_ hkg (lt_ (repS.len Y) M_) z z)<|Ra z<|Wl ?_
  have hz:∀k∈H,k∈[G.z]∨I.z<=k:=or1 he (io sr)<|B_ lr;exact λ_ q=>⟨xi,(som a9).symm,⟨aj,nk,cl,Sb,q.k<|s4 z z z z,(cM (cM (cr [G.z] I) sh (io sr):Cg [G.z] I V) aF hz:Cg [G.z] I aE),aG,aH,(or1 aI hz (B_ sh.s):∀k∈Sb,k∈[G.z]∨I.z<=k)⟩⟩
 .rintro W _ aJ ⟨J,L,O,H,ab,sq,ha,hd,he⟩;refine Wu ?_ ab;refine Wq<|Wm z<|Rf z a_3 z<|R z (l0 a_8 z<|((hf.e s7).c sq<|djs<|mmr hf.lt).at z) ?_
  refine R z (lnR a_a z<|Y.g<|((h3.ag B).e s7).c sq<|b_ (or0 (c_ lr) (k_<|zt' a0 h3.s):∀k∈[G.z],¬B k))<|Rl z z z<|Wx z (λhc=>(a_7 hc).elim) (λ_=>?_)
  exact We<|λ_ q=>⟨rfl,⟨J,L,O,H,q.k<|s2 z z,(cM (cr [G.z] I) sq (io sr):Cg [G.z] I aJ),ha,hd,(or1 he (io sr) (B_ lr):∀k∈H,k∈[G.z]∨I.z<=k)⟩⟩
 .rintro W aK wr rfl ⟨J,L,O,H,_,sm,ha,hd,he⟩;have ad:=elL hms;revert aK;refine Wo<|Wm z<|Rm z ?_
  obtain ⟨_,_,_,aL,ae⟩:=w_ ad;refine E z (fc call44 z<|k_h (B:=zn B G.z wr.z) aL (((hB1.e h3).e s7).c sm<|djs<|mm1 (Blk.lt hB1) h3.s) (c_I (zt' a0<|lt_ (lt_ h3.s s7.s) sm.s) lr) (atp ((d_I (c_ hBg) (c_<|Blk.lt hB1) h3.s):∀k∈[g1],¬(zn B G.z wr.z) k)) (repS.mono (a1.g<|((h3.ag B).e s7).c sm<|b_ (or0 (c_ lr) (k_<|zt' a0 h3.s):∀k∈[G.z],¬B k)) b_Y) a2 a3<|or_ ha<|zin (B:=B) (or1 he (c_ lr) (b_o s7.s):∀k∈H,G.z<=k)<|a_.lt ha) ?_;rintro _ aM ⟨aN,rfl,aO,aP,aQ,aR⟩;refine Rw z ?_
  obtain rfl:=som ae;exact Wr<|e_ hr z ⟨(cM (cM (f_ (f_ (cr [g1] w0) h3:Cg [g1] w0 G) s7:Cg [g1] w0 I) sm (mor h3.s:∀k∈[G.z],k∈[g1]∨w0.z<=k):Cg [g1] w0 wr) aN (io sr):Cg [g1] w0 aM),z,aO,aP,aQ,aR⟩
 rintro _ _ _ _ rfl ⟨rfl,af⟩;have ah:=elR hms;obtain rfl:=som ah;exact ⟨af,z⟩
def Q7 (w0:World)(g1:Nat)(B:Zone)(A0:Option Addr)(N0 C0:Nat)(x1:H_)(r:g_×Int×Int)(v:Value)(w':World):Prop:=Cg [g1] w0 w'/\un3 (λG H I=>∃J L O S1 a2 V W S2 Y n3 c3 S3 a4 n4 c4 S4,(.agg #[Str.v G.name,vI G.kind,vI G.size,vB G.little,sl J L O,sl a2 V W,sl Y n3 c3,sl a4 n4 c4])=v/\G.name.b.length<=LEN/\inI G.kind/\inI G.size/\a_ w' S1 (sl J L O) G.bytes/\a_ w' S2 (sl a2 V W) G.names/\a_ w' S3 (sl Y n3 c3) G.tags/\a_ w' S4 (sl a4 n4 c4) G.kids/\inI H/\inI I/\Blk w' g1 [sl A0 N0 C0,vI H,vI I]/\(S1++(S2++(S3++S4))).Nodup/\(∀k∈(S1++(S2++(S3++S4))),w0.z<=k)) r
theorem W_w1d {x1:H_}{g1:Nat}{x2:d_}{x3:Int}{res:g_×Int×Int}(hm:e_I n x1 x2 x3=some res)(hB1:Blk w0 g1 [sl A0 N0 C0,vI x1.i,vI x1.h])(J:B<=w0.z)(hBg:¬B g1)(Y:repS w0 B (sl A0 N0 C0) x1.b)(jM:inI x1.i)(jN:inI x1.h)(cn:repS w0 B (sl A6 N6 C6) x2.rules)(jO:inI x3):l_ prog 36 [pt g1,.agg #[sl A6 N6 C6],vI x3] w0 (Q7 w0 g1 B A0 N0 C0 x1 res):=by
 unfold e_I at hm
 refine goG func36 z z z λfn hr=>Ws<|E z (fb z) ?_
 rintro _ wb ⟨rfl,gF⟩;have bg:=gF.below;have co:Blk wb w0.z [sl A6 N6 C6]:=gF.blk;refine E z (fa b_P) ?_;rintro _ aW ⟨rfl,gG⟩;have aj:=gG.below;have bh:Blk aW wb.z [(Str.v (⟨[]⟩:Str)),vI 0,vI 0,vB false,sN,sN,sN,sN]:=gG.blk;refine Wn<|Ws<|Rf z a_3 z ?_
 have cp:=co.e aj;refine R z (l0 a_8 z<|cp.at z) ?_;have gH:=(bg.ag B).e aj;have bi:=cn.g gH;refine R z (lnR a_a z bi)<|Rw z<|Wm z<|E z (fS [(.const<|Str.v ⟨[97]⟩),.const<|Str.v ⟨[105,116,101,109]⟩,.const<|Str.v ⟨[98]⟩,.const<|Str.v ⟨[104,101,97,100]⟩,(.const<|Str.v ⟨[120]⟩)] b_5 z z z (a_e z) (lb z)<|lb z) ?_
 rintro _ bO ⟨rfl,gI⟩;have hi:=gI.below;have gJ:a_ bO [aW.z] (sl (some ⟨aW.z,0,none⟩) 5 5) ([(⟨[97]⟩:Str),(⟨[105,116,101,109]⟩:Str),(⟨[98]⟩:Str),(⟨[104,101,97,100]⟩:Str),(⟨[120]⟩:Str)]:List Str):=m_o (l:=[(⟨[97]⟩:Str),(⟨[105,116,101,109]⟩:Str),(⟨[98]⟩:Str),(⟨[104,101,97,100]⟩:Str),(⟨[120]⟩:Str)]) (gI.blk:Blk bO aW.z [(Str.v (⟨[97]⟩:Str)),Str.v (⟨[105,116,101,109]⟩:Str),Str.v (⟨[98]⟩:Str),Str.v (⟨[104,101,97,100]⟩:Str),(Str.v (⟨[120]⟩:Str))]) (ac0 (lb z)<|ac0 (lb z)<|ac0 (lb z)<|ac0 (lb z)<|ac0 (lb z) an0) z;have hn:=gH.e hi;have gK:=lt_ bg.s aj.s;have gL:=lt_ gK hi.s;obtain ⟨_,jP,jQ,jR,iL⟩:=w_ hm;refine E z (fc call71 z<|W_w1c (B:=zn B aW.z bO.z) jR (((hB1.e bg).e aj).e hi) (c_I (zt' J gL) lr) (atp ((d_I (c_ hBg) (c_<|Blk.lt hB1) gK):∀k∈[g1],¬(zn B aW.z bO.z) k)) (repS.mono (Y.g hn) b_Y) jM jN<|or_ gJ<|zin (B:=B) (c_ lr)<|a_.lt gJ) ?_;rintro _ jS ⟨sc,rfl,_,ho,hp,hq⟩;refine Rm z ?_;have hj:=lt_ gL sc.s;obtain ⟨_,jT,iM⟩:=bdS iL;refine E z (fc call68 z<|e_T jT (zt' J hj)<|b_0<|repS.len bi) ?_;rintro _ G ⟨s3,rfl,_⟩;obtain ⟨x5,gM,iN⟩:=bdS iM;refine R z (a_w z z gM)<|Rm z<|R z (bP (parts:=[(0,.tmp 19),(1,.tmp 20)]) (cs:=[Str.v x5,vI x3,vI 0,vB false,sN,sN,sN,sN]) q_q z z)<|E z (fa b_P) ?_
 rintro _ gN ⟨rfl,gO⟩;have h4:=gO.below;have ha:Blk gN G.z [(Str.v (⟨[]⟩:Str)),vI 0,vI 0,vB false,sN,sN,sN,sN]:=gO.blk;refine E0 (fs0 (cur':=[Str.v x5,vI x3,vI 0,vB false,sN,sN,sN,sN]) o_ z z ha z z z z) ?_;rintro _ H ⟨ht,jU⟩;have I:=jU.one;refine Wn<|Wq<|Wm z<|Wn<|Wb<|Ws<|Rq z z z<|Rw z ?_
 obtain ⟨jV,gp,f2⟩:=bdS iN;refine Wt (λa w=>∃(cq:Int)(ct:Int)(bj:Int)(bQ:Bool)(fQ:Bt)(fR:List Str)(fT:List Int)(fU:List Int),Sum.inl (cq,ct,bj,bQ,fQ,fR,fT,fU)=jV/\∃bk bm bn al bo bp bq am bt bu bv an bw bx bz ao,Sat 147 [(6,pt wb.z),(8,pt G.z)] a/\Chg (· ∈ ([g1]++[G.z])) H w/\inI cq/\inI ct/\inI bj/\a_ w al (sl bk bm bn) fQ/\al.Nodup/\(∀k∈al,H.z<=k)/\a_ w am (sl bo bp bq) fR/\am.Nodup/\(∀k∈am,H.z<=k)/\(∀k∈am,k∉al)/\a_ w an (sl bt bu bv) fT/\an.Nodup/\(∀k∈an,H.z<=k)/\(∀k∈an,k∉al)/\(∀k∈an,k∉am)/\a_ w ao (sl bw bx bz) fU/\ao.Nodup/\(∀k∈ao,H.z<=k)/\(∀k∈ao,k∉al)/\(∀k∈ao,k∉am)/\(∀k∈ao,k∉an)/\Blk w g1 [sl A0 N0 C0,vI cq,vI ct]/\Blk w G.z [Str.v x5,vI x3,vI bj,vB bQ,sl bk bm bn,sl bo bp bq,sl bt bu bv,sl bw bx bz]) ?_ ?_
 .refine Wc z (λf3=>?_)<|λf3=>?_
  .refine Wm z ?_
   have fV:=lt_ hj s3.s;have gP:∀k∈[G.z],¬B k:=or0 (c_ lr)<|k_<|zt' J fV;have gQ:=(((hn.c sc<|b_<|c_ hBg).e s3).e h4).c I<|b_ gP
   have aX:=mm1 (Blk.lt hB1) fV;have gR:=lt_ (lt_ fV h4.s) I.s;obtain ⟨bA,jW,jX,jY,iO⟩:=w_<|ifT gp f3;refine E z (fc call37 z<|b_B (B:=B) jY (((hq.e s3).e h4).c I<|djs aX) (zt' J gR) hBg (Y.g gQ) ho hp<|ii z) ?_;rintro _ jZ ⟨cv,rfl,_,gS,gT,gU⟩;refine R z (add_ z z)<|Rf z a_F z<|E0 (fs0 (cur':=[Str.v x5,vI x3,vI<|i_ 1 bA,vB false,sN,sN,sN,sN]) z_3 z z (ht.c cv<|atp aX) z z z z) ?_
   rintro _ aY ⟨fW,k0⟩;have bR:=k0.one;refine Wn ?_;obtain ⟨ka,gq,iP⟩:=bdS iO;refine Wt (λa w=>∃(bS:Int)(bT:Int)(cw:Bool),(bS,bT,cw)=ka/\Sat 147 [(6,pt wb.z),(8,pt G.z)] a/\Chg (· ∈ ([g1]++[G.z])) aY w/\inI bS/\inI bT/\Blk w g1 [sl A0 N0 C0,vI bS,vI bT]/\Blk w G.z [Str.v x5,vI x3,vI<|i_ 1 bA,vB cw,sN,sN,sN,sN]) ?_ ?_
   .refine Wg<|Rf z a_F z<|R z (l0 g_3 z<|fW.at z)<|R z (a_g z z)<|Rm z ?_
    rcases bs (decide<|1<(i_ 1 bA)) with a4 | a4
    .refine Rh z a4 (mv z) ?_;obtain ⟨gV,kb,kc,kd,iQ⟩:=w_<|ifT gq a4;refine Eg z z a4 z (fc call43 z<|k_f (B:=B) kd (gU.c bR<|djs aX) (zt' J<|lt_ (lt_ gR cv.s) bR.s) hBg (Y.g<|(gQ.c cv<|b_<|c_ hBg).c bR<|b_ gP) gS gT<|ii z) ?_;rintro _ ke ⟨gW,rfl,kf,kg,kh⟩;refine R z (pT z a4 z)<|Rf z c_V z<|E0 (fs0 (cur':=[Str.v x5,vI x3,vI<|i_ 1 bA,vB gV,sN,sN,sN,sN]) z_4 z z (fW.c gW<|atp aX) z z z z) ?_
     rintro _ ki ⟨kj,kk⟩;have gX:=kk.one;refine Wl ?_;exact λ_ q=>⟨kb,kc,gV,som iQ,q.k<|s2 z z,(cM (cM (cr ([g1]++[G.z]) aY) gW (io<|D_ sr):Chg (· ∈ ([g1]++[G.z])) aY ke) gX (io<|F_ sr):Chg (· ∈ ([g1]++[G.z])) aY ki),kf,kg,kh.c gX<|djs aX,kj⟩
    refine Nh z a4<|Nh z a4<|R z (pF z a4 z)<|Rf z c_V z<|E0 (fs0 (cur':=[Str.v x5,vI x3,vI<|i_ 1 bA,vB false,sN,sN,sN,sN]) z_4 z z fW z z z z) ?_
    rintro _ kl ⟨km,kn⟩;have gY:=kn.one;refine Wl ?_;exact λ_ q=>⟨jW,jX,false,som<|ifF gq a4,q.k<|s2 z z,(cM (cr ([g1]++[G.z]) aY) gY (io<|F_ sr):Chg (· ∈ ([g1]++[G.z])) aY kl),gS,gT,(gU.c bR<|djs aX).c gY<|djs aX,km⟩
   rintro ko kp ⟨bS,bT,cw,rfl,_,kq,kr,ks,kt,ku⟩;revert ko;exact λ_ q=>⟨bS,bT,i_ 1 bA,cw,([]:Bt),([]:List Str),([]:List Int),([]:List Int),som<|b_s iP,none,0,0,[],none,0,0,[],none,0,0,[],none,0,0,[],q.k<|s2 z z,(cM (cM (cM (cr ([g1]++[G.z]) H) cv (io<|D_ sr):Chg (· ∈ ([g1]++[G.z])) H jZ) bR (io<|F_ sr):Chg (· ∈ ([g1]++[G.z])) H aY) kq (aa_ (io<|D_ sr)<|io<|F_ sr):Chg (· ∈ ([g1]++[G.z])) H kp),kr,ks,iA _ _,onL,G_,an_,onL,G_,an_,an_,onL,G_,an_,an_,an_,onL,G_,an_,an_,an_,an_,kt,ku⟩
  refine Ws<|Rq z z z<|Rw z ?_
  obtain ⟨kw,gr,f4⟩:=bdS<|ifF gp f3;refine Wt (λa w=>∃(bU:Int)(bV:Int)(bW:Int)(cx:Bt)(cy:List Str)(cz:List Int)(cA:List Int),Sum.inl (bU,bV,bW,cx,cy,cz,cA)=kw/\∃cB cC cD ap cE cF cG aq cH cI cJ au cK cL cN av,Sat 147 [(6,pt wb.z),(8,pt G.z)] a/\Chg (· ∈ ([g1]++[G.z])) H w/\inI bU/\inI bV/\inI bW/\a_ w ap (sl cB cC cD) cx/\ap.Nodup/\(∀k∈ap,H.z<=k)/\a_ w aq (sl cE cF cG) cy/\aq.Nodup/\(∀k∈aq,H.z<=k)/\(∀k∈aq,k∉ap)/\a_ w au (sl cH cI cJ) cz/\au.Nodup/\(∀k∈au,H.z<=k)/\(∀k∈au,k∉ap)/\(∀k∈au,k∉aq)/\a_ w av (sl cK cL cN) cA/\av.Nodup/\(∀k∈av,H.z<=k)/\(∀k∈av,k∉ap)/\(∀k∈av,k∉aq)/\(∀k∈av,k∉au)/\Blk w g1 [sl A0 N0 C0,vI bU,vI bV]/\Blk w G.z [Str.v x5,vI x3,vI bW,vB false,sl cB cC cD,sl cE cF cG,sl cH cI cJ,sl cK cL cN]) ?_ ?_
  .refine Wc z (λf5=>?_)<|λf5=>?_
   .refine Wg<|RM z z ?_
    have fX:=lt_ hj s3.s;have gZ:=(((hn.c sc<|b_<|c_ hBg).e s3).e h4).c I<|b_ (or0 (c_ lr) (k_<|zt' J fX):∀k∈[G.z],¬B k)
    have cO:=mm1 (Blk.lt hB1) fX;have h1:=lt_ (lt_ fX h4.s) I.s;obtain ⟨_,_,_,kx,iR⟩:=w_<|ifT gr f5;refine E z (fc call37 z<|b_B (B:=B) kx (((hq.e s3).e h4).c I<|djs cO) (zt' J h1) hBg (Y.g gZ) ho hp<|ii z) ?_;rintro _ ky ⟨bB,rfl,_,kz,kA,kB⟩;refine R z (add_ z z) ?_;obtain ⟨kC,kD,kE,kF,iT⟩:=w_ iR;refine E z (fc call42 z<|k_g (B:=B) kF kB (zt' J<|lt_ h1 bB.s) hBg (Y.g<|gZ.c bB<|b_<|c_ hBg) kz kA<|iA _ _) ?_;rintro _ kG ⟨h2,h3,h5,h6,kH,rfl,kI,kJ,kK,kL,kM,h7⟩;refine Rf z b_6 z<|E0 (fs0 (cur':=[Str.v x5,vI x3,vI 0,vB false,sl h3 h5 h6,sN,sN,sN]) z_22 z z ((ht.c bB<|atp cO).c h2<|atp cO) z z z z) ?_
    rintro _ kN ⟨kO,kP⟩;have fY:=kP.one;refine Wl ?_;exact λ_ q=>⟨kD,kE,0,kC,([]:List Str),([]:List Int),([]:List Int),som iT,h3,h5,h6,kH,none,0,0,[],none,0,0,[],none,0,0,[],q.k<|s2 z z,(cM (cM (cM (cr ([g1]++[G.z]) H) bB (io<|D_ sr):Chg (· ∈ ([g1]++[G.z])) H ky) h2 (io<|D_ sr):Chg (· ∈ ([g1]++[G.z])) H kG) fY (io<|F_ sr):Chg (· ∈ ([g1]++[G.z])) H kN),kJ,kK,ii z,kI.c fY<|j_ h7 ha.lt<|lt_ I.s bB.s,kM,m_ h7 bB.s,onL,G_,an_,an_,onL,G_,an_,an_,an_,onL,G_,an_,an_,an_,an_,kL.c fY<|djs cO,kO⟩
   refine Ws<|Rq z z z<|Rw z ?_
   obtain ⟨kQ,gs,f6⟩:=bdS<|ifF gr f5;refine Wt (λa w=>∃(bX:Int)(bY:Int)(bZ:Int)(cP:Bt)(cQ:List Str)(cR:List Int)(cS:List Int),Sum.inl (bX,bY,bZ,cP,cQ,cR,cS)=kQ/\∃cT cU cV aw cW cX cY ax cZ d0 d1 ay d2 d3 d4 az,Sat 147 [(6,pt wb.z),(8,pt G.z)] a/\Chg (· ∈ ([g1]++[G.z])) H w/\inI bX/\inI bY/\inI bZ/\a_ w aw (sl cT cU cV) cP/\aw.Nodup/\(∀k∈aw,H.z<=k)/\a_ w ax (sl cW cX cY) cQ/\ax.Nodup/\(∀k∈ax,H.z<=k)/\(∀k∈ax,k∉aw)/\a_ w ay (sl cZ d0 d1) cR/\ay.Nodup/\(∀k∈ay,H.z<=k)/\(∀k∈ay,k∉aw)/\(∀k∈ay,k∉ax)/\a_ w az (sl d2 d3 d4) cS/\az.Nodup/\(∀k∈az,H.z<=k)/\(∀k∈az,k∉aw)/\(∀k∈az,k∉ax)/\(∀k∈az,k∉ay)/\Blk w g1 [sl A0 N0 C0,vI bX,vI bY]/\Blk w G.z [Str.v x5,vI x3,vI bZ,vB false,sl cT cU cV,sl cW cX cY,sl cZ d0 d1,sl d2 d3 d4]) ?_ ?_
   .refine Wc z (λf7=>?_)<|λf7=>?_
    .refine Wg<|Rm z ?_
     have fZ:=lt_ hj s3.s;have g0:=mm1 (Blk.lt hB1) fZ;obtain ⟨h8,kR,kS,kT,iU⟩:=w_<|ifT gs f7;refine E z (fc call37 z<|b_B (B:=B) kT (((hq.e s3).e h4).c I<|djs g0) (zt' J<|lt_ (lt_ fZ h4.s) I.s) hBg (Y.g<|(((hn.c sc<|b_<|c_ hBg).e s3).e h4).c I<|b_ (or0 (c_ lr) (k_<|zt' J fZ):∀k∈[G.z],¬B k)) ho hp<|ii z) ?_;rintro _ kU ⟨h9,rfl,_,kV,kW,kX⟩;refine R z (add_ z z)<|Rf z a_F z<|E0 (fs0 (cur':=[Str.v x5,vI x3,vI<|i_ 1 h8,vB false,sN,sN,sN,sN]) z_3 z z (ht.c h9<|atp g0) z z z z) ?_
     rintro _ kY ⟨kZ,l2⟩;have hb:=l2.one;refine Wl ?_;exact λ_ q=>⟨kR,kS,i_ 1 h8,([]:Bt),([]:List Str),([]:List Int),([]:List Int),som iU,none,0,0,[],none,0,0,[],none,0,0,[],none,0,0,[],q.k<|s2 z z,(cM (cM (cr ([g1]++[G.z]) H) h9 (io<|D_ sr):Chg (· ∈ ([g1]++[G.z])) H kU) hb (io<|F_ sr):Chg (· ∈ ([g1]++[G.z])) H kY),kV,kW,iA _ _,onL,G_,an_,onL,G_,an_,an_,onL,G_,an_,an_,an_,onL,G_,an_,an_,an_,an_,kX.c hb<|djs g0,kZ⟩
    refine Ws<|Rq z z z<|Rw z ?_
    obtain ⟨l3,gt,f8⟩:=bdS<|ifF gs f7;refine Wt (λa w=>∃(c0:Int)(c1:Int)(d5:Bt)(d6:List Str)(d7:List Int)(d8:List Int),Sum.inl (c0,c1,d5,d6,d7,d8)=l3/\∃d9 da db aA dc dd de aB df dg dh aC di dj dk aD,Sat 147 [(6,pt wb.z),(8,pt G.z)] a/\Chg (· ∈ ([g1]++[G.z])) H w/\inI c0/\inI c1/\a_ w aA (sl d9 da db) d5/\aA.Nodup/\(∀k∈aA,H.z<=k)/\a_ w aB (sl dc dd de) d6/\aB.Nodup/\(∀k∈aB,H.z<=k)/\(∀k∈aB,k∉aA)/\a_ w aC (sl df dg dh) d7/\aC.Nodup/\(∀k∈aC,H.z<=k)/\(∀k∈aC,k∉aA)/\(∀k∈aC,k∉aB)/\a_ w aD (sl di dj dk) d8/\aD.Nodup/\(∀k∈aD,H.z<=k)/\(∀k∈aD,k∉aA)/\(∀k∈aD,k∉aB)/\(∀k∈aD,k∉aC)/\Blk w g1 [sl A0 N0 C0,vI c0,vI c1]/\Blk w G.z [Str.v x5,vI x3,vI 0,vB false,sl d9 da db,sl dc dd de,sl df dg dh,sl di dj dk]) ?_ ?_
    .refine Wc z (λf9=>?_)<|λf9=>?_
     .refine Wg<|Rm z ?_
      refine R z (lN (vs:=[sl A6 N6 C6]) t_ r_ z z fid<|(((((cp.e hi).c sc<|atp<|mmr<|Blk.lt hB1).e s3).e h4).c I<|djs<|mm1 co.lt<|lt_ (lt_ (lt_ aj.s hi.s) sc.s) s3.s).row 0 1 z) ?_;have g2:=lt_ hj s3.s;have hc:=(((hn.c sc<|b_<|c_ hBg).e s3).e h4).c I<|b_ (or0 (c_ lr) (k_<|zt' J g2):∀k∈[G.z],¬B k)
      have g3:=mm1 (Blk.lt hB1) g2;obtain ⟨hd,l4,l5,l6,iV⟩:=w_<|ifT gt f9;refine E z (fc call72 z<|k_i (B:=B) l6 (((hq.e s3).e h4).c I<|djs g3) (zt' J<|lt_ (lt_ g2 h4.s) I.s) hBg (Y.g hc) ho hp<|cn.g hc) ?_;rintro _ c2 ⟨dl,rfl,l7,l8,l9,la⟩;refine E z (fS [(.tmp 55)] b_X z z z (a_e z) (lb z)<|lb z) ?_;rintro _ he ⟨rfl,g4⟩;have g5:=g4.below;have qF:Blk he c2.z [vI hd]:=g4.blk;refine Rf z J_ z<|E0 (fs0 (cur':=[Str.v x5,vI x3,vI 0,vB false,sN,sN,sN,sl (some ⟨c2.z,0,none⟩) 1 1]) e_S z z ((ht.c dl<|atp g3).e g5) z z z z) ?_
      rintro _ lc ⟨ld,le⟩;have g6:=le.one;refine Wl ?_;exact λ_ q=>⟨l4,l5,([]:Bt),([]:List Str),([]:List Int),[hd],som iV,none,0,0,[],none,0,0,[],none,0,0,[],some ⟨c2.z,0,none⟩,1,1,[c2.z],q.k<|s2 z z,(cM (f_ (cM (cr ([g1]++[G.z]) H) dl (io<|D_ sr):Chg (· ∈ ([g1]++[G.z])) H c2) g5:Chg (· ∈ ([g1]++[G.z])) H he) g6 (io<|F_ sr):Chg (· ∈ ([g1]++[G.z])) H lc),l8,l9,onL,G_,an_,onL,G_,an_,an_,onL,G_,an_,an_,an_,(a_J g4<|b_y l7).c g6<|mm1 ha.lt<|lt_ I.s dl.s,a_y,m1 dl.s,nmN _,nmN _,nmN _,(la.e g5).c g6<|djs g3,ld⟩
     refine Ws<|Rq z z z<|Rw z ?_
     obtain ⟨lf,gu,fe⟩:=bdS<|ifF gt f9;refine Wt (λa w=>∃(c3:Int)(c4:Int)(dm:Bt)(dn:List Str)(dp:List Int)(dq:List Int),Sum.inl (c3,c4,dm,dn,dp,dq)=lf/\∃dr dt du aE dv dw dx aF dy dz dA aG dB dC dD aH,Sat 147 [(6,pt wb.z),(8,pt G.z)] a/\Chg (· ∈ ([g1]++[G.z])) H w/\inI c3/\inI c4/\a_ w aE (sl dr dt du) dm/\aE.Nodup/\(∀k∈aE,H.z<=k)/\a_ w aF (sl dv dw dx) dn/\aF.Nodup/\(∀k∈aF,H.z<=k)/\(∀k∈aF,k∉aE)/\a_ w aG (sl dy dz dA) dp/\aG.Nodup/\(∀k∈aG,H.z<=k)/\(∀k∈aG,k∉aE)/\(∀k∈aG,k∉aF)/\a_ w aH (sl dB dC dD) dq/\aH.Nodup/\(∀k∈aH,H.z<=k)/\(∀k∈aH,k∉aE)/\(∀k∈aH,k∉aF)/\(∀k∈aH,k∉aG)/\Blk w g1 [sl A0 N0 C0,vI c3,vI c4]/\Blk w G.z [Str.v x5,vI x3,vI 0,vB false,sl dr dt du,sl dv dw dx,sl dy dz dA,sl dB dC dD]) ?_ ?_
     .refine Wc z (λff=>?_)<|λff=>?_
      .refine Wg<|Rm z ?_
       refine R z (lN (vs:=[sl A6 N6 C6]) t_ r_ z z fid<|(((((cp.e hi).c sc<|atp<|mmr<|Blk.lt hB1).e s3).e h4).c I<|djs<|mm1 co.lt<|lt_ (lt_ (lt_ aj.s hi.s) sc.s) s3.s).row 0 1 z) ?_;have g7:=lt_ hj s3.s;have g8:=(((hn.c sc<|b_<|c_ hBg).e s3).e h4).c I<|b_ (or0 (c_ lr) (k_<|zt' J g7):∀k∈[G.z],¬B k)
       have dF:=mm1 (Blk.lt hB1) g7;have hf:=lt_ (lt_ g7 h4.s) I.s;obtain ⟨dG,_,_,lg,iW⟩:=w_<|ifT gu ff;refine E z (fc call72 z<|k_i (B:=B) lg (((hq.e s3).e h4).c I<|djs dF) (zt' J hf) hBg (Y.g g8) ho hp<|cn.g g8) ?_;rintro _ lh ⟨bC,rfl,li,lj,lk,ll⟩;refine RM z z ?_
       obtain ⟨dH,lm,ln,lo,iX⟩:=w_ iW;refine E z (fc call37 z<|b_B (B:=B) lo ll (zt' J<|lt_ hf bC.s) hBg (Y.g<|g8.c bC<|b_<|c_ hBg) lj lk<|b_0<|repS.len bi) ?_;rintro _ aZ ⟨dI,rfl,lp,lq,ls,lu⟩;refine E z (fS [(.tmp 62),(.tmp 65)] b_X z z z (a_e z) (lb z)<|lb z) ?_;rintro _ g9 ⟨rfl,hg⟩;have ga:=hg.below;refine Rf z J_ z<|E0 (fs0 (cur':=[Str.v x5,vI x3,vI 0,vB false,sN,sN,sN,sl (some ⟨aZ.z,0,none⟩) 2 2]) e_S z z (((ht.c bC<|atp dF).c dI<|atp dF).e ga) z z z z) ?_
       rintro _ lv ⟨lw,lx⟩;have gb:=lx.one;refine Wl ?_;exact λ_ q=>⟨lm,ln,([]:Bt),([]:List Str),([]:List Int),[dG,dH],som iX,none,0,0,[],none,0,0,[],none,0,0,[],some ⟨aZ.z,0,none⟩,2,2,[aZ.z],q.k<|s2 z z,(cM (f_ (cM (cM (cr ([g1]++[G.z]) H) bC (io<|D_ sr):Chg (· ∈ ([g1]++[G.z])) H lh) dI (io<|D_ sr):Chg (· ∈ ([g1]++[G.z])) H aZ) ga:Chg (· ∈ ([g1]++[G.z])) H g9) gb (io<|F_ sr):Chg (· ∈ ([g1]++[G.z])) H lv),lq,ls,onL,G_,an_,onL,G_,an_,an_,onL,G_,an_,an_,an_,(k_8 (l:=[dG,dH]) (hg.blk:Blk g9 aZ.z [vI dG,vI dH]) (ac0 li<|ac0 lp an0) z:a_ g9 [aZ.z] (sl (some ⟨aZ.z,0,none⟩) 2 2) ([dG,dH]:List Int)).c gb<|mm1 ha.lt<|lt_ (lt_ I.s bC.s) dI.s,a_y,m1<|lt_ bC.s dI.s,nmN _,nmN _,nmN _,(lu.e ga).c gb<|djs dF,lw⟩
      refine Ws<|Rq z z z<|Rw z ?_
      obtain ⟨ly,gv,fg⟩:=bdS<|ifF gu ff;refine Wt (λa w=>∃(c5:Int)(c6:Int)(dJ:Bt)(dK:List Str)(dL:List Int)(dN:List Int),Sum.inl (c5,c6,dJ,dK,dL,dN)=ly/\∃dO dP dS aI dT dU dV aJ dW dX dY aK dZ e0 e1 aL,Sat 147 [(6,pt wb.z),(8,pt G.z)] a/\Chg (· ∈ ([g1]++[G.z])) H w/\inI c5/\inI c6/\a_ w aI (sl dO dP dS) dJ/\aI.Nodup/\(∀k∈aI,H.z<=k)/\a_ w aJ (sl dT dU dV) dK/\aJ.Nodup/\(∀k∈aJ,H.z<=k)/\(∀k∈aJ,k∉aI)/\a_ w aK (sl dW dX dY) dL/\aK.Nodup/\(∀k∈aK,H.z<=k)/\(∀k∈aK,k∉aI)/\(∀k∈aK,k∉aJ)/\a_ w aL (sl dZ e0 e1) dN/\aL.Nodup/\(∀k∈aL,H.z<=k)/\(∀k∈aL,k∉aI)/\(∀k∈aL,k∉aJ)/\(∀k∈aL,k∉aK)/\Blk w g1 [sl A0 N0 C0,vI c5,vI c6]/\Blk w G.z [Str.v x5,vI x3,vI 0,vB false,sl dO dP dS,sl dT dU dV,sl dW dX dY,sl dZ e0 e1]) ?_ ?_
      .refine Wc z (λfh=>?_)<|λfh=>?_
       .refine Wm z ?_
        have gc:=lt_ hj s3.s;have ge:∀k∈[G.z],¬B k:=or0 (c_ lr)<|k_<|zt' J gc;have hh:=(((hn.c sc<|b_<|c_ hBg).e s3).e h4).c I<|b_ ge
        have aM:=mm1 (Blk.lt hB1) gc;have hu:=lt_ (lt_ gc h4.s) I.s;obtain ⟨_,_,_,lz,iY⟩:=w_<|ifT gv fh;refine E z (fc call37 z<|b_B (B:=B) lz (((hq.e s3).e h4).c I<|djs aM) (zt' J hu) hBg (Y.g hh) ho hp<|ii z) ?_;rintro _ O ⟨b0,rfl,_,lA,lB,lC⟩;refine R z (add_ z z)<|Rw z ?_
        obtain ⟨_,iZ,gw⟩:=bdS iY;refine c_f (σ:=Int×Int×Int×(List Str)×(List Int)) (ρ:=g_×Int×Int) (λs a w=>un5 (λb1 aN aO bD bE=>∃a5 a6 a7 Se ak nm cu Sf,Sat 147 [(0,pt g1),(6,pt wb.z),(7,vI (x2.rules.length:Int)),(8,pt G.z),(9,vI b1)] a/\Chg (· ∈ ([g1]++[G.z])) O w/\inI b1/\inI aN/\inI aO/\a_ w Se (sl a5 a6 a7) bD/\Se.Nodup/\(∀k∈Se,O.z<=k)/\a_ w Sf (sl ak nm cu) bE/\Sf.Nodup/\(∀k∈Sf,O.z<=k)/\(∀k∈Sf,k∉Se)/\Blk w g1 [sl A0 N0 C0,vI aN,vI aO]/\Blk w G.z [Str.v x5,vI x3,vI 0,vB false,sN,sl a5 a6 a7,sN,sl ak nm cu]) s) (λs a w=>un5 (λb1 aN aO bD bE=>∃a5 a6 a7 Se ak nm cu Sf,Sat 147 [(6,pt wb.z),(8,pt G.z)] a/\Chg (· ∈ ([g1]++[G.z])) O w/\inI b1/\inI aN/\inI aO/\a_ w Se (sl a5 a6 a7) bD/\Se.Nodup/\(∀k∈Se,O.z<=k)/\a_ w Sf (sl ak nm cu) bE/\Sf.Nodup/\(∀k∈Sf,O.z<=k)/\(∀k∈Sf,k∉Se)/\Blk w g1 [sl A0 N0 C0,vI aN,vI aO]/\Blk w G.z [Str.v x5,vI x3,vI 0,vB false,sN,sl a5 a6 a7,sN,sl ak nm cu]) s) (rQ prog fn<|Q7 w0 g1 B A0 N0 C0 x1) iZ ?_ ?_ ?_ ?_
        .exact λ_ q=>⟨none,0,0,[],none,0,0,[],q.k<|s5 z z z z z,cr ([g1]++[G.z]) O,iA _ _,lA,lB,onL,G_,an_,onL,G_,an_,an_,lC,ht.c b0<|atp aM⟩
        .rintro ⟨b1,aN,aO,bD,bE⟩ _ gf _ ⟨a5,a6,a7,Se,ak,nm,cu,Sf,j0,bF,gg,e2,e3,e4,e5,aP,c7,e6,b2,c8,e7,e8⟩ j1;have gx:=c_E j1;refine Wu ?_ j0;refine Wq<|Wm z<|R z (a_g z z)<|Wx z (λfi=>?_) (λfi=>?_)
         .refine Wk<|Wq<|Wb<|Wq (Wd (X:=λk=>k∈[g1]∨gf.z<=k) 2560 (.rd 0<|.rd 1<|.rd 2<|.rd 5<|.ef 3<|.ef 4<|.ef 6<|.rd 7<|.ef 8<|.ef 9<|.rd 10<|.ef 11 .done) mo (by kernel_rfl) λbG ss _=>dR z z (fd c_e z) ?_)
          have hw:=e8.e ss;have gh:=lt_ I.s b0.s;have hy:=lt_ gh bF.s;refine dR z z (l1 b_i z (a_t (atp aM)<|Nat.lt_of_lt_of_le ha.lt hy)<|hw.at z)<|dM z z z<|dM z z z<|dE z z (fS [(.const<|Str.v ⟨[112]⟩),.const<|Str.v ⟨[113]⟩,(.const<|Str.v ⟨[114]⟩)] b_5 z z z (a_e z) (lb z)<|lb z) (.inr λ_ _ h=>p_<|h.2.below) ?_
          rintro _ c9 ⟨rfl,hz⟩;have hv:=hz.below;have hA:a_ c9 [bG.z] (sl (some ⟨bG.z,0,none⟩) 3 3) ([(⟨[112]⟩:Str),(⟨[113]⟩:Str),(⟨[114]⟩:Str)]:List Str):=m_o (l:=[(⟨[112]⟩:Str),(⟨[113]⟩:Str),(⟨[114]⟩:Str)]) (hz.blk:Blk c9 bG.z [(Str.v (⟨[112]⟩:Str)),Str.v (⟨[113]⟩:Str),(Str.v (⟨[114]⟩:Str))]) (ac0 (lb z)<|ac0 (lb z)<|ac0 (lb z) an0) z;have hB:=(((hh.c b0<|b_<|c_ hBg).c bF<|nmA (b_<|c_ hBg)<|b_ ge).e ss).e hv;have e9:=lt_ hu b0.s;have hC:=lt_ (lt_ e9 bF.s) ss.s;have hD:=lt_ hC hv.s;obtain ⟨_,_,_,lD,j2⟩:=w_<|ifT gx fi;refine dE z z (fc call71 z<|W_w1c (B:=zn B bG.z c9.z) lD ((e7.e ss).e hv) (c_I (zt' J hD) lr) (atp ((d_I (c_ hBg) (c_<|Blk.lt hB1) hC):∀k∈[g1],¬(zn B bG.z c9.z) k)) (repS.mono (Y.g hB) b_Y) e2 e3<|or_ hA<|zin (B:=B) (c_ lr)<|a_.lt hA) (.inr λ_ _ h=>h.1.mono λk _ hk=>(io sr) k hk) ?_;rintro _ lE ⟨a8,rfl,_,lF,lG,lH⟩;have hE:=lt_ hD a8.s;obtain ⟨_,lI,j3⟩:=bdS j2;refine dE z z (fc call68 z<|e_T lI (zt' J hE) gg) (.inr λ_ _ h=>p_<|h.1) ?_;rintro _ hF ⟨sw,rfl,_⟩;obtain ⟨lJ,gi,j4⟩:=bdS j3;refine dR z z (a_w z z gi)<|dE z z (fS [(.tmp 84)] b_5 z z z (a_e z) (lb z)<|lb z) (.inr λ_ _ h=>p_<|h.2.below) ?_
          rintro _ hG ⟨rfl,gj⟩;have hx:=gj.below;have qG:=a_J gj<|c_b<|b_b gi
          have gk:=j_ aP (Blk.lt hB1) e9;obtain ⟨lK,lL,j5⟩:=bdS j4;refine dE z z (a_X (α:=Str) b_5 lL z z (((((e4.e ss).e hv).c a8 gk).e sw).e hx) e5 (gj.blk:Blk hG hF.z [Str.v lJ]) (c_b<|b_b gi) an_ G_) (.inl z) ?_;rintro _ lM ⟨bH,gl,gm,gn,rfl,aQ,hH,lO,ea⟩;refine dR z z (fd c_e z) ?_;have hI:=j_ aP ha.lt gh;refine dE0 z (fs0 (cur':=[Str.v x5,vI x3,vI 0,vB false,sN,sl gl gm gn,sN,sl ak nm cu]) e_R z z (((((hw.e hv).c a8<|atp aM).e sw).e hx).c aQ<|djs hI) z z z z) (.inl z) ?_;rintro _ hJ ⟨lP,lQ⟩;have a9:=lQ.one;refine pD<|Wo (Wd (X:=λk=>k∈[g1]∨hJ.z<=k) 320 (pl_ 9 [4,5,6,8]) mo (by kernel_rfl) λlR sy _=>dR z z (fd J_ z) ?_)
          have hK:=lP.e sy;have hL:=lt_ (lt_ (lt_ (lt_ (lt_ hy ss.s) hv.s) a8.s) sw.s) hx.s;have hM:=lt_ (lt_ hL aQ.s) a9.s;refine dR z z (l1 A_ z (a_t (atp aM)<|Nat.lt_of_lt_of_le ha.lt hM)<|hK.at z)<|dM z z z<|dM z z z ?_
          have hN:=lt_ (lt_ hE sw.s) hx.s;obtain ⟨lS,lT,lU,lV,j6⟩:=w_ j5;refine dE z z (fc call37 z<|b_B (B:=B) lV (((((lH.e sw).e hx).c aQ<|djs gk).c a9<|djs aM).e sy) (zt' J<|lt_ (lt_ (lt_ hN aQ.s) a9.s) sy.s) hBg (Y.g<|(((((hB.c a8<|b_<|c_ hBg).e sw).e hx).c aQ<|b_ (or0 aP (k_<|zt' J e9):∀k∈Se,¬B k)).c a9<|b_ ge).e sy) lF lG<|b_0<|repS.len bi) (.inr λ_ _ h=>h.1.mono λk _ hk=>(io sr) k hk) ?_;rintro _ hO ⟨b3,rfl,hP,lW,lX,lY⟩;refine dE z z (fS [(.tmp 92)] b_X z z z (a_e z) (lb z)<|lb z) (.inr λ_ _ h=>p_<|h.2.below) ?_;rintro _ hQ ⟨rfl,fj⟩;have aR:=fj.below;have qH:=a_J fj<|b_y hP
          have fk:=j_ b2 (Blk.lt hB1) e9;have fl:=j_ b2 ha.lt gh;obtain ⟨lZ,m0,j7⟩:=bdS j6;refine dE z z (a_X (α:=Int) b_X m0 z z ((((((((((c7.e ss).e hv).c a8 fk).e sw).e hx).c aQ c8).c a9 fl).e sy).c b3 fk).e aR) e6 (fj.blk:Blk hQ hO.z [vI lS]) (b_y hP) an_ G_) (.inl z) ?_;rintro _ m2 ⟨eb,hR,hS,hT,rfl,ec,m3,m4,fm⟩;refine dR z z (fd J_ z)<|dE0 z (fs0 (cur':=[Str.v x5,vI x3,vI 0,vB false,sN,sl gl gm gn,sN,sl hR hS hT]) e_S z z (((hK.c b3<|atp aM).e aR).c ec<|djs fl) z z z z) (.inl z) ?_
          rintro _ m5 ⟨m6,m7⟩;have ed:=m7.one;refine pD<|Wo<|Wg<|Rm z<|R z (sb_ z z)<|Ra z<|Wl ?_
          have hU:∀k∈bH,k∉[G.z]:=or2 ea hI an_<|U_ (c_ ha.lt) hL;have hV:∀k∈bH,k∉Sf:=or2 ea (ds c8) an_<|U_ (a_.lt c7)<|lt_ (lt_ (lt_ (lt_ ss.s hv.s) a8.s) sw.s) hx.s;have hW:=lt_ (lt_ (lt_ (lt_ (lt_ bF.s ss.s) hv.s) a8.s) sw.s) hx.s;exact λ_ q=>⟨(Q_ b1 1,lT,lU,lK,lZ),(som j7).symm,⟨gl,gm,gn,bH,hR,hS,hT,eb,q.k<|s5 z z z z z,(cM (cM (f_ (cM (f_ (cM (cM (f_ (f_ (cM (f_ (f_ (cM (cr ([g1]++[G.z]) O) bF (aa_ (io<|D_ sr)<|io<|F_ sr):Chg (· ∈ ([g1]++[G.z])) O gf) ss:Chg (· ∈ ([g1]++[G.z])) O bG) hv:Chg (· ∈ ([g1]++[G.z])) O c9) a8 (io<|D_ sr):Chg (· ∈ ([g1]++[G.z])) O lE) sw:Chg (· ∈ ([g1]++[G.z])) O hF) hx:Chg (· ∈ ([g1]++[G.z])) O hG) aQ (or0 aP (B_ lr):∀k∈Se,k∈([g1]++[G.z])∨O.z<=k):Chg (· ∈ ([g1]++[G.z])) O lM) a9 (io<|F_ sr):Chg (· ∈ ([g1]++[G.z])) O hJ) sy:Chg (· ∈ ([g1]++[G.z])) O lR) b3 (io<|D_ sr):Chg (· ∈ ([g1]++[G.z])) O hO) aR:Chg (· ∈ ([g1]++[G.z])) O hQ) ec (or0 b2 (B_ lr):∀k∈Sf,k∈([g1]++[G.z])∨O.z<=k):Chg (· ∈ ([g1]++[G.z])) O m2) ed (io<|F_ sr):Chg (· ∈ ([g1]++[G.z])) O m5),iS _ _,lW,lX,(((((hH.c a9 hU).e sy).c b3 (or2 ea gk an_ (U_ (c_<|Blk.lt hB1) hN):∀k∈bH,k∉[g1])).e aR).c ec hV).c ed hU,lO,(or2 ea aP an_ (b_o hW):∀k∈bH,O.z<=k),m3.c ed (or2 fm fl an_ (U_ (c_ ha.lt)<|lt_ (lt_ (lt_ hM sy.s) b3.s) aR.s):∀k∈eb,k∉[G.z]),m4,(or2 fm b2 an_ (b_o<|lt_ (lt_ (lt_ (lt_ (lt_ hW aQ.s) a9.s) sy.s) b3.s) aR.s):∀k∈eb,O.z<=k),(or2 fm (ds hV) an_ (U_ (a_.lt hH)<|lt_ (lt_ (lt_ a9.s sy.s) b3.s) aR.s):∀k∈eb,k∉bH),((lY.e aR).c ec<|djs fk).c ed<|djs aM,m6⟩⟩
         exact We<|λ_ q=>b_N (som<|ifF gx fi).symm ⟨a5,a6,a7,Se,ak,nm,cu,Sf,q.k<|s2 z z,(cM (cr ([g1]++[G.z]) O) bF (aa_ (io<|D_ sr)<|io<|F_ sr):Chg (· ∈ ([g1]++[G.z])) O gf),gg,e2,e3,e4,e5,aP,c7,e6,b2,c8,e7,e8⟩
        .rintro ⟨b1,aN,aO,bD,bE⟩ m8 m9 rfl ⟨a5,a6,a7,Se,ak,nm,cu,Sf,_,ma,gg,e2,e3,e4,e5,aP,c7,e6,b2,c8,e7,e8⟩;have j8:=elL gw;revert m8;exact λ_ q=>⟨aN,aO,([]:Bt),bD,([]:List Int),bE,som<|c_E j8,none,0,0,[],a5,a6,a7,Se,none,0,0,[],ak,nm,cu,Sf,q.k<|s2 z z,(cM (cM (cr ([g1]++[G.z]) H) b0 (io<|D_ sr):Chg (· ∈ ([g1]++[G.z])) H O) ma (aa_ (io<|D_ sr)<|io<|F_ sr):Chg (· ∈ ([g1]++[G.z])) H m9),e2,e3,onL,G_,an_,e4,e5,m_ aP b0.s,nmN _,onL,G_,an_,an_,an_,c7,e6,m_ b2 b0.s,nmN _,c8,nmN _,e7,e8⟩
        rintro _ _ _ _ rfl ⟨rfl,j9⟩;have ja:=elR gw;obtain rfl:=som ja;have jb:=elR fg;obtain rfl:=som jb;have jc:=elR fe;obtain rfl:=som jc;have jd:=elR f8;obtain rfl:=som jd;have je:=elR f6;obtain rfl:=som je;have jf:=elR f4;obtain rfl:=som jf;have jg:=elR f2;obtain rfl:=som jg;exact ⟨j9,z⟩
       refine Ws<|Rq z z z<|Rw z ?_
       obtain ⟨mb,gy,gz⟩:=bdS<|ifF gv fh;refine Wt (λa w=>∃(ca:Int)(cb:Int)(ee:Bt)(eg:List Int)(eh:List Int),Sum.inl (ca,cb,ee,eg,eh)=mb/\∃ei ej ek b4 em en eo b5 ep eq er b6,Sat 147 [(6,pt wb.z),(8,pt G.z)] a/\Chg (· ∈ ([g1]++[G.z])) H w/\inI ca/\inI cb/\a_ w b4 (sl ei ej ek) ee/\b4.Nodup/\(∀k∈b4,H.z<=k)/\a_ w b5 (sl em en eo) eg/\b5.Nodup/\(∀k∈b5,H.z<=k)/\(∀k∈b5,k∉b4)/\a_ w b6 (sl ep eq er) eh/\b6.Nodup/\(∀k∈b6,H.z<=k)/\(∀k∈b6,k∉b4)/\(∀k∈b6,k∉b5)/\Blk w g1 [sl A0 N0 C0,vI ca,vI cb]/\Blk w G.z [Str.v x5,vI x3,vI 0,vB false,sl ei ej ek,sN,sl em en eo,sl ep eq er]) ?_ ?_
       .refine Wc z (λeX=>?_)<|λeX=>?_
        .refine Wm z ?_
         refine R z (lN (vs:=[sl A6 N6 C6]) t_ r_ z z fid<|(((((cp.e hi).c sc<|atp<|mmr<|Blk.lt hB1).e s3).e h4).c I<|djs<|mm1 co.lt<|lt_ (lt_ (lt_ aj.s hi.s) sc.s) s3.s).row 0 1 z) ?_;have fo:=lt_ hj s3.s;have es:∀k∈[G.z],¬B k:=or0 (c_ lr)<|k_<|zt' J fo;have fp:=(((hn.c sc<|b_<|c_ hBg).e s3).e h4).c I<|b_ es
         have hl:=mm1 (Blk.lt hB1) fo;have hX:=lt_ (lt_ fo h4.s) I.s;obtain ⟨mc,_,_,md,jh⟩:=w_<|ifT gy eX;refine E z (fc call72 z<|k_i (B:=B) md (((hq.e s3).e h4).c I<|djs hl) (zt' J hX) hBg (Y.g fp) ho hp<|cn.g fp) ?_;rintro _ L ⟨aa,rfl,me,mf,mg,mh⟩;refine E z (fS [(.tmp 100)] b_X z z z (a_e z) (lb z)<|lb z) ?_;rintro _ hY ⟨rfl,fq⟩;have b7:=fq.below;have qI:Blk hY L.z [vI mc]:=fq.blk;refine Rf z J_ z<|E0 (fs0 (cur':=[Str.v x5,vI x3,vI 0,vB false,sN,sN,sN,sl (some ⟨L.z,0,none⟩) 1 1]) e_S z z ((ht.c aa<|atp hl).e b7) z z z z) ?_
         rintro _ mi ⟨mj,mk⟩;have b8:=mk.one;refine Wn<|Wm z ?_
         have hZ:=((fp.c aa<|b_<|c_ hBg).e b7).c b8<|b_ es
         have eu:=lt_ hX aa.s;have i0:=lt_ (lt_ eu b7.s) b8.s;obtain ⟨_,_,_,ml,ji⟩:=w_ jh;refine E z (fc call37 z<|b_B (B:=B) ml ((mh.e b7).c b8<|djs hl) (zt' J i0) hBg (Y.g hZ) mf mg<|ii z) ?_;rintro _ V ⟨b9,rfl,_,mm,mn,mp⟩;refine R z (add_ z z)<|Rw z ?_
         obtain ⟨_,jj,gA⟩:=bdS ji;refine c_f (σ:=Int×Int×Int×(List Int)×(List Int)) (ρ:=g_×Int×Int) (λs a w=>un5 (λba aS aT bb bI=>∃ab ad ae Sg ar nz a0 Sd,Sat 147 [(0,pt g1),(6,pt wb.z),(7,vI (x2.rules.length:Int)),(8,pt G.z),(10,vI ba)] a/\Chg (· ∈ ([g1]++([G.z]++[L.z]))) V w/\inI ba/\inI aS/\inI aT/\a_ w Sg (sl ab ad ae) bb/\Sg.Nodup/\(∀k∈Sg,V.z<=k)/\a_ w Sd (sl ar nz a0) bI/\Sd.Nodup/\(∀k∈Sd,k∈[L.z]∨V.z<=k)/\(∀k∈Sd,k∉Sg)/\Blk w g1 [sl A0 N0 C0,vI aS,vI aT]/\Blk w G.z [Str.v x5,vI x3,vI 0,vB false,sN,sN,sl ab ad ae,sl ar nz a0]) s) (λs a w=>un5 (λba aS aT bb bI=>∃ab ad ae Sg ar nz a0 Sd,Sat 147 [(6,pt wb.z),(8,pt G.z)] a/\Chg (· ∈ ([g1]++([G.z]++[L.z]))) V w/\inI ba/\inI aS/\inI aT/\a_ w Sg (sl ab ad ae) bb/\Sg.Nodup/\(∀k∈Sg,V.z<=k)/\a_ w Sd (sl ar nz a0) bI/\Sd.Nodup/\(∀k∈Sd,k∈[L.z]∨V.z<=k)/\(∀k∈Sd,k∉Sg)/\Blk w g1 [sl A0 N0 C0,vI aS,vI aT]/\Blk w G.z [Str.v x5,vI x3,vI 0,vB false,sN,sN,sl ab ad ae,sl ar nz a0]) s) (rQ prog fn<|Q7 w0 g1 B A0 N0 C0 x1) jj ?_ ?_ ?_ ?_
         .exact λ_ q=>⟨none,0,0,[],some ⟨L.z,0,none⟩,1,1,[L.z],q.k<|s5 z z z z z,cr ([g1]++([G.z]++[L.z])) V,iA _ _,mm,mn,onL,G_,an_,((a_J fq<|b_y me).c b8<|mm1 ha.lt<|lt_ I.s aa.s).c b9<|mm1 (Blk.lt hB1) eu,a_y,io sr,nmN _,mp,mj.c b9<|atp hl⟩
         .rintro ⟨ba,aS,aT,bb,bI⟩ _ fr _ ⟨ab,ad,ae,Sg,ar,nz,a0,Sd,jk,bJ,i1,ew,ex,cc,ey,af,cd,ez,bc,ce,eA,eB⟩ jl;have gB:=c_E jl;refine Wu ?_ jk;refine Wq<|Wm z<|R z (a_g z z)<|Wx z (λeY=>?_) (λeY=>?_)
          .refine Wk<|Wq<|Wb<|Wq (Wd (X:=λk=>k∈[g1]∨fr.z<=k) 5120 (pl_ 13 [7,9,10,12]) mo (by kernel_rfl) λmq a1 _=>dR z z (fd b_1 z) ?_)
           have fs:=eB.e a1;have i2:=lt_ I.s aa.s;have ft:=lt_ (lt_ (lt_ i2 b7.s) b8.s) b9.s;have fu:=lt_ ft bJ.s;refine dR z z (l1 A_ z (a_t (atp hl)<|Nat.lt_of_lt_of_le ha.lt fu)<|fs.at z)<|dR z z (fd b_1 z)<|dR z z (l1 A_ z (a_t (atp hl)<|Nat.lt_of_lt_of_le ha.lt fu)<|fs.at z) ?_
           have i3:=cc.e a1;refine dR z z (lnR v_ z<|or_ i3<|zin (B:=B) af<|a_.lt cc)<|dR z z (c_K z z)<|dM z z z ?_
           have i4:=((hZ.c b9<|b_<|c_ hBg).c bJ<|nmA (b_<|c_ hBg)<|nmA (b_ es)<|b_ (or0 (c_ lr) (k_<|zt' J eu):∀k∈[L.z],¬B k)).e a1;have eC:=lt_ i0 b9.s;have i5:=lt_ (lt_ eC bJ.s) a1.s;obtain ⟨mr,_,_,ms,jm⟩:=w_<|ifT gB eY;refine dE z z (fc call37 z<|b_B (B:=B) ms (eA.e a1) (zt' J i5) hBg (Y.g i4) ew ex<|ii z) (.inr λ_ _ h=>h.1.mono λk _ hk=>(io sr) k hk) ?_;rintro _ i6 ⟨ah,rfl,_,mt,mu,mw⟩;refine dR z z (add_ z z)<|dE z z (fS [(.tmp 118)] b_X z z z (a_e z) (lb z)<|lb z) (.inr λ_ _ h=>p_<|h.2.below) ?_
           rintro _ i7 ⟨rfl,fv⟩;have a2:=fv.below;have qJ:=a_J fv<|b_y<|iA _ _
           have fw:=j_ af (Blk.lt hB1) eC;obtain ⟨mx,my,jn⟩:=bdS jm;refine dE z z (a_X (α:=Int) b_X my z z ((i3.c ah fw).e a2) ey (fv.blk:Blk i7 i6.z [(vI<|i_ (a_f 4 (bb.length:Int)) mr)]) (b_y<|iA _ _) an_ G_) (.inl z) ?_;rintro _ mz ⟨bK,fx,fy,fz,rfl,aU,i8,mA,eD⟩;refine dR z z (fd b_1 z) ?_;have i9:=j_ af ha.lt ft;refine dE0 z (fs0 (cur':=[Str.v x5,vI x3,vI 0,vB false,sN,sN,sl fx fy fz,sl ar nz a0]) e_S z z (((fs.c ah<|atp hl).e a2).c aU<|djs i9) z z z z) (.inl z) ?_;rintro _ ia ⟨mB,mC⟩;have ai:=mC.one;refine pD<|Wo (Wd (X:=λk=>k∈[g1]∨ia.z<=k) 320 (pl_ 9 [4,5,6,8]) mo (by kernel_rfl) λmD a3 _=>dR z z (fd J_ z) ?_)
           have ib:=mB.e a3;have ic:=lt_ (lt_ (lt_ fu a1.s) ah.s) a2.s;have id:=lt_ (lt_ ic aU.s) ai.s;refine dR z z (l1 A_ z (a_t (atp hl)<|Nat.lt_of_lt_of_le ha.lt id)<|ib.at z)<|dM z z z<|dM z z z ?_
           have ie:=lt_ (lt_ i5 ah.s) a2.s;obtain ⟨mE,mF,mG,mH,jo⟩:=w_ jn;refine dE z z (fc call37 z<|b_B (B:=B) mH ((((mw.e a2).c aU<|djs fw).c ai<|djs hl).e a3) (zt' J<|lt_ (lt_ (lt_ ie aU.s) ai.s) a3.s) hBg (Y.g<|((((i4.c ah<|b_<|c_ hBg).e a2).c aU<|b_ (or0 af (k_<|zt' J eC):∀k∈Sg,¬B k)).c ai<|b_ es).e a3) mt mu<|b_0<|repS.len bi) (.inr λ_ _ h=>h.1.mono λk _ hk=>(io sr) k hk) ?_;rintro _ ig ⟨be,rfl,ih,mI,mJ,mK⟩;refine dE z z (fS [(.tmp 126)] b_X z z z (a_e z) (lb z)<|lb z) (.inr λ_ _ h=>p_<|h.2.below) ?_;rintro _ ij ⟨rfl,fA⟩;have aV:=fA.below;have qK:=a_J fA<|b_y ih
           have fB:∀k∈Sd,k∉[g1]:=or1 bc (mm1 (Blk.lt hB1) eu)<|U_ (c_<|Blk.lt hB1) eC;have fC:∀k∈Sd,k∉[G.z]:=or1 bc (mm1 ha.lt i2)<|U_ (c_ ha.lt) ft;obtain ⟨mL,mM,jp⟩:=bdS jo;refine dE z z (a_X (α:=Int) b_X mM z z ((((((((cd.e a1).c ah fB).e a2).c aU ce).c ai fC).e a3).c be fB).e aV) ez (fA.blk:Blk ij ig.z [vI mE]) (b_y ih) an_ G_) (.inl z) ?_;rintro _ mN ⟨eE,ik,il,im,rfl,eF,mO,mP,fD⟩;refine dR z z (fd J_ z)<|dE0 z (fs0 (cur':=[Str.v x5,vI x3,vI 0,vB false,sN,sN,sl fx fy fz,sl ik il im]) e_S z z (((ib.c be<|atp hl).e aV).c eF<|djs fC) z z z z) (.inl z) ?_
           rintro _ mQ ⟨mR,mS⟩;have eG:=mS.one;refine pD<|Wo<|Wg<|Rm z<|R z (sb_ z z)<|Ra z<|Wl ?_
           have ip:∀k∈bK,k∉[G.z]:=or2 eD i9 an_<|U_ (c_ ha.lt) ic;have iq:∀k∈bK,k∉Sd:=or2 eD (ds ce) an_<|U_ (a_.lt cd)<|lt_ (lt_ a1.s ah.s) a2.s;have ir:=lt_ (lt_ (lt_ bJ.s a1.s) ah.s) a2.s;exact λ_ q=>⟨(Q_ ba 1,mF,mG,mx,mL),(som jp).symm,⟨fx,fy,fz,bK,ik,il,im,eE,q.k<|s5 z z z z z,(cM (cM (f_ (cM (f_ (cM (cM (f_ (cM (f_ (cM (cr ([g1]++([G.z]++[L.z])) V) bJ (aa_ (io<|D_ sr)<|aa_ (io<|F_<|D_ sr)<|io<|F_<|F_ sr):Chg (· ∈ ([g1]++([G.z]++[L.z]))) V fr) a1:Chg (· ∈ ([g1]++([G.z]++[L.z]))) V mq) ah (io<|D_ sr):Chg (· ∈ ([g1]++([G.z]++[L.z]))) V i6) a2:Chg (· ∈ ([g1]++([G.z]++[L.z]))) V i7) aU (or0 af (B_ lr):∀k∈Sg,k∈([g1]++([G.z]++[L.z]))∨V.z<=k):Chg (· ∈ ([g1]++([G.z]++[L.z]))) V mz) ai (io<|F_<|D_ sr):Chg (· ∈ ([g1]++([G.z]++[L.z]))) V ia) a3:Chg (· ∈ ([g1]++([G.z]++[L.z]))) V mD) be (io<|D_ sr):Chg (· ∈ ([g1]++([G.z]++[L.z]))) V ig) aV:Chg (· ∈ ([g1]++([G.z]++[L.z]))) V ij) eF (or1 bc (io<|F_<|F_ sr) (B_ lr):∀k∈Sd,k∈([g1]++([G.z]++[L.z]))∨V.z<=k):Chg (· ∈ ([g1]++([G.z]++[L.z]))) V mN) eG (io<|F_<|D_ sr):Chg (· ∈ ([g1]++([G.z]++[L.z]))) V mQ),iS _ _,mI,mJ,(((((i8.c ai ip).e a3).c be (or2 eD fw an_ (U_ (c_<|Blk.lt hB1) ie):∀k∈bK,k∉[g1])).e aV).c eF iq).c eG ip,mA,(or2 eD af an_ (b_o ir):∀k∈bK,V.z<=k),mO.c eG (or2 fD fC an_ (U_ (c_ ha.lt)<|lt_ (lt_ (lt_ id a3.s) be.s) aV.s):∀k∈eE,k∉[G.z]),mP,(or2 fD (or1 bc (io sr) (B_ lr):∀k∈Sd,k∈[L.z]∨V.z<=k) an_ (B_<|lt_ (lt_ (lt_ (lt_ (lt_ ir aU.s) ai.s) a3.s) be.s) aV.s):∀k∈eE,k∈[L.z]∨V.z<=k),(or2 fD (ds iq) an_ (U_ (a_.lt i8)<|lt_ (lt_ (lt_ ai.s a3.s) be.s) aV.s):∀k∈eE,k∉bK),((mK.e aV).c eF<|djs fB).c eG<|djs hl,mR⟩⟩
          exact We<|λ_ q=>b_N (som<|ifF gB eY).symm ⟨ab,ad,ae,Sg,ar,nz,a0,Sd,q.k<|s2 z z,(cM (cr ([g1]++([G.z]++[L.z])) V) bJ (aa_ (io<|D_ sr)<|aa_ (io<|F_<|D_ sr)<|io<|F_<|F_ sr):Chg (· ∈ ([g1]++([G.z]++[L.z]))) V fr),i1,ew,ex,cc,ey,af,cd,ez,(or1 bc (io sr) (B_ lr):∀k∈Sd,k∈[L.z]∨V.z<=k),ce,eA,eB⟩
         .rintro ⟨ba,aS,aT,bb,bI⟩ mT mU rfl ⟨ab,ad,ae,Sg,ar,nz,a0,Sd,_,mV,i1,ew,ex,cc,ey,af,cd,ez,bc,ce,eA,eB⟩;have jq:=elL gA;revert mT;have it:=lt_ (lt_ (lt_ aa.s b7.s) b8.s) b9.s;exact λ_ q=>⟨aS,aT,([]:Bt),bb,bI,som<|c_E jq,none,0,0,[],ab,ad,ae,Sg,ar,nz,a0,Sd,q.k<|s2 z z,(cM (cM (cM (f_ (cM (cr ([g1]++[G.z]) H) aa (io<|D_ sr):Chg (· ∈ ([g1]++[G.z])) H L) b7:Chg (· ∈ ([g1]++[G.z])) H hY) b8 (io<|F_ sr):Chg (· ∈ ([g1]++[G.z])) H mi) b9 (io<|D_ sr):Chg (· ∈ ([g1]++[G.z])) H V) mV (aa_ (io<|D_ sr)<|aa_ (io<|F_ sr) (mor aa.s:∀k∈[L.z],k∈([g1]++[G.z])∨H.z<=k)):Chg (· ∈ ([g1]++[G.z])) H mU),ew,ex,onL,G_,an_,cc,ey,m_ af it,nmN _,cd,ez,a_s bc (m1 aa.s) it,nmN _,ce,eA,eB⟩
         rintro _ _ _ _ rfl ⟨rfl,jr⟩;have js:=elR gA;obtain rfl:=som js;have jt:=elR gz;obtain rfl:=som jt;have ju:=elR fg;obtain rfl:=som ju;have jv:=elR fe;obtain rfl:=som jv;have jw:=elR f8;obtain rfl:=som jw;have jx:=elR f6;obtain rfl:=som jx;have jy:=elR f4;obtain rfl:=som jy;have jz:=elR f2;obtain rfl:=som jz;exact ⟨jr,z⟩
        refine Wq<|Ws<|Rq z z z<|Rw z ?_
        obtain ⟨mW,gC,jA⟩:=bdS<|ifF gy eX;refine Wt (λa w=>∃(fE:Bool),fE=mW/\Sat 147 [(0,pt g1),(6,pt wb.z),(7,vI (x2.rules.length:Int)),(8,pt G.z),(22,vI x3),(130,vB fE)] a/\Below H.z H w) ?_ ?_
        .refine Wc z (λeZ=>?_)<|λeZ=>?_
         .exact a_k<|λ_ q=>⟨x3==8,som<|ifT gC eZ,q.k<|s6 z z z z z z,br H⟩
         exact Wg<|Rq z z z<|Ra z<|Wl (λ_ q=>⟨x3==9,som<|ifF gC eZ,q.k<|s6 z z z z z z,br H⟩)
        rintro mX W ⟨fE,rfl,_,sh⟩;revert mX;refine Wo ?_;obtain ⟨mY,gD,jB⟩:=bdS jA;refine Wt (λa w=>∃(cf:Int)(cg:Int)(eH:Bt)(eI:List Int),(cf,cg,eH,eI)=mY/\∃eJ eK eL bL eM eN eO bM,Sat 147 [(6,pt wb.z),(8,pt G.z)] a/\Chg (· ∈ ([g1]++[G.z])) W w/\inI cf/\inI cg/\a_ w bL (sl eJ eK eL) eH/\bL.Nodup/\(∀k∈bL,W.z<=k)/\a_ w bM (sl eM eN eO) eI/\bM.Nodup/\(∀k∈bM,W.z<=k)/\(∀k∈bM,k∉bL)/\Blk w g1 [sl A0 N0 C0,vI cf,vI cg]/\Blk w G.z [Str.v x5,vI x3,vI 0,vB false,sl eJ eK eL,sN,sN,sl eM eN eO]) ?_ ?_
        .refine Wc z (λf0=>?_)<|λf0=>?_
         .refine Wg<|RM z z ?_
          have fF:=lt_ hj s3.s;have fG:=mm1 (Blk.lt hB1) fF;obtain ⟨iu,mZ,n0,n1,jC⟩:=w_<|ifT gD f0;refine E z (fc call37 z<|b_B (B:=B) n1 ((((hq.e s3).e h4).c I<|djs fG).e sh) (zt' J<|lt_ (lt_ (lt_ fF h4.s) I.s) sh.s) hBg (Y.g<|((((hn.c sc<|b_<|c_ hBg).e s3).e h4).c I<|b_ (or0 (c_ lr) (k_<|zt' J fF):∀k∈[G.z],¬B k)).e sh) ho hp<|b_0<|repS.len bi) ?_;rintro _ ch ⟨eP,rfl,n2,n3,n4,n5⟩;refine E z (fS [(.tmp 135)] b_X z z z (a_e z) (lb z)<|lb z) ?_;rintro _ iv ⟨rfl,fH⟩;have fI:=fH.below;have qL:Blk iv ch.z [vI iu]:=fH.blk;refine Rf z J_ z<|E0 (fs0 (cur':=[Str.v x5,vI x3,vI 0,vB false,sN,sN,sN,sl (some ⟨ch.z,0,none⟩) 1 1]) e_S z z (((ht.e sh).c eP<|atp fG).e fI) z z z z) ?_
          rintro _ n6 ⟨n7,n8⟩;have fJ:=n8.one;refine Wl ?_;exact λ_ q=>⟨mZ,n0,([]:Bt),[iu],som jC,none,0,0,[],some ⟨ch.z,0,none⟩,1,1,[ch.z],q.k<|s2 z z,(cM (f_ (cM (cr ([g1]++[G.z]) W) eP (io<|D_ sr):Chg (· ∈ ([g1]++[G.z])) W ch) fI:Chg (· ∈ ([g1]++[G.z])) W iv) fJ (io<|F_ sr):Chg (· ∈ ([g1]++[G.z])) W n6),n3,n4,onL,G_,an_,(a_J fH<|b_y n2).c fJ<|mm1 ha.lt<|lt_ (lt_ I.s sh.s) eP.s,a_y,m1 eP.s,nmN _,(n5.e fI).c fJ<|djs fG,n7⟩
         refine Ws<|Rq z z z<|Rw z ?_
         obtain ⟨n9,gE,jD⟩:=bdS<|ifF gD f0;refine Wt (λa w=>∃(ci:Int)(cj:Int)(eQ:Bt),(ci,cj,eQ)=n9/\∃eR eS eT ck,Sat 147 [(6,pt wb.z),(8,pt G.z)] a/\Chg (· ∈ ([g1]++[G.z])) W w/\inI ci/\inI cj/\a_ w ck (sl eR eS eT) eQ/\ck.Nodup/\(∀k∈ck,W.z<=k)/\Blk w g1 [sl A0 N0 C0,vI ci,vI cj]/\Blk w G.z [Str.v x5,vI x3,vI 0,vB false,sl eR eS eT,sN,sN,sN]) ?_ ?_
         .refine Wc z (λf1=>?_)<|λf1=>?_
          .refine Wg<|Rm z<|E z (fS [(.const<|.int .i64 0),.const<|.int .i64 10,.const<|.int .i64 59,(.const<|.int .i64 255)] b_X z z z (a_e z) (lb z)<|lb z) ?_
           rintro _ cl ⟨rfl,iw⟩;have bf:=iw.below;have ix:a_ cl [W.z] (sl (some ⟨W.z,0,none⟩) 4 4) ([0,10,59,255]:List Int):=k_8 (l:=[0,10,59,255]) (iw.blk:Blk cl W.z [vI 0,vI 10,vI 59,vI 255]) (ac0 (ii z)<|ac0 (ii z)<|ac0 (ii z)<|ac0 (ii z) an0) z;have fK:=lt_ hj s3.s;have fL:=mm1 (Blk.lt hB1) fK;have iy:=lt_ (lt_ (lt_ fK h4.s) I.s) sh.s;obtain ⟨iz,na,nb,nc,jE⟩:=w_<|ifT gE f1;refine E z (fc call44 z<|k_h (B:=zn B W.z cl.z) nc (((((hq.e s3).e h4).c I<|djs fL).e sh).e bf) (c_I (zt' J<|lt_ iy bf.s) lr) (atp ((d_I (c_ hBg) (c_<|Blk.lt hB1) iy):∀k∈[g1],¬(zn B W.z cl.z) k)) (repS.mono (Y.g<|(((((hn.c sc<|b_<|c_ hBg).e s3).e h4).c I<|b_ (or0 (c_ lr) (k_<|zt' J fK):∀k∈[G.z],¬B k)).e sh).e bf) b_Y) ho hp<|or_ ix<|zin (B:=B) (c_ lr)<|a_.lt ix) ?_;rintro _ cm ⟨eU,rfl,_,nd,ne,nf⟩;refine R z (e_N d_3 d_5 z)<|E z (fS [(.tmp 143)] a_2 z z z (a_e z) (lb z)<|lb z) ?_
           rintro _ iB ⟨rfl,fM⟩;have fN:=fM.below;have qM:Blk iB cm.z [(vU<|byteI<|mkB iz)]:=fM.blk;refine Rf z b_6 z<|E0 (fs0 (cur':=[Str.v x5,vI x3,vI 0,vB false,sl (some ⟨cm.z,0,none⟩) 1 1,sN,sN,sN]) z_22 z z ((((ht.e sh).e bf).c eU<|atp fL).e fN) z z z z) ?_
           rintro _ ng ⟨nh,ni⟩;have fO:=ni.one;refine Wl ?_;exact λ_ q=>⟨na,nb,[mkB iz],som jE,some ⟨cm.z,0,none⟩,1,1,[cm.z],q.k<|s2 z z,(cM (f_ (cM (f_ (cr ([g1]++[G.z]) W) bf:Chg (· ∈ ([g1]++[G.z])) W cl) eU (io<|D_ sr):Chg (· ∈ ([g1]++[G.z])) W cm) fN:Chg (· ∈ ([g1]++[G.z])) W iB) fO (io<|F_ sr):Chg (· ∈ ([g1]++[G.z])) W ng),nd,ne,(a_J fM b_n).c fO<|mm1 ha.lt<|lt_ (lt_ (lt_ I.s sh.s) bf.s) eU.s,a_y,m1<|lt_ bf.s eU.s,(nf.e fN).c fO<|djs fL,nh⟩
          exact a_k<|λ_ q=>⟨jP,jQ,([]:Bt),som<|ifF gE f1,none,0,0,[],q.k<|s2 z z,cr ([g1]++[G.z]) W,ho,hp,onL,G_,an_,(((hq.e s3).e h4).c I<|djs<|mm1 (Blk.lt hB1)<|lt_ hj s3.s).e sh,ht.e sh⟩
         rintro nj nk ⟨ci,cj,eQ,rfl,eR,eS,eT,ck,_,nl,np,nq,nr,ns,nt,nu,nv⟩;revert nj;exact λ_ q=>⟨ci,cj,eQ,([]:List Int),som<|b_s jD,eR,eS,eT,ck,none,0,0,[],q.k<|s2 z z,(cM (cr ([g1]++[G.z]) W) nl (aa_ (io<|D_ sr)<|io<|F_ sr):Chg (· ∈ ([g1]++[G.z])) W nk),np,nq,nr,ns,nt,onL,G_,an_,an_,nu,nv⟩
        rintro nw nx ⟨cf,cg,eH,eI,rfl,eJ,eK,eL,bL,eM,eN,eO,bM,_,ny,nA,nB,nC,nD,nE,nF,nG,nH,nI,nJ,nK⟩;revert nw;exact λ_ q=>⟨cf,cg,eH,([]:List Int),eI,som<|c_u jB,eJ,eK,eL,bL,none,0,0,[],eM,eN,eO,bM,q.k<|s2 z z,(cM (f_ (cr ([g1]++[G.z]) H) sh:Chg (· ∈ ([g1]++[G.z])) H W) ny (aa_ (io<|D_ sr)<|io<|F_ sr):Chg (· ∈ ([g1]++[G.z])) H nx),nA,nB,nC,nD,m_ nE sh.s,onL,G_,an_,an_,nF,nG,m_ nH sh.s,nI,nmN _,nJ,nK⟩
       rintro nL nM ⟨ca,cb,ee,eg,eh,rfl,ei,ej,ek,b4,em,en,eo,b5,ep,eq,er,b6,_,nN,nO,nP,nQ,nR,nS,nT,nU,nV,nW,nX,nY,nZ,o0,o1,o2,o3⟩;have jF:=elL gz;revert nL;exact λ_ q=>⟨ca,cb,ee,([]:List Str),eg,eh,som<|c_E jF,ei,ej,ek,b4,none,0,0,[],em,en,eo,b5,ep,eq,er,b6,q.k<|s2 z z,(cM (cr ([g1]++[G.z]) H) nN (aa_ (io<|D_ sr)<|io<|F_ sr):Chg (· ∈ ([g1]++[G.z])) H nM),nO,nP,nQ,nR,nS,onL,G_,an_,an_,nT,nU,nV,nW,nmN _,nX,nY,nZ,o0,nmN _,o1,o2,o3⟩
      rintro o4 o5 ⟨c5,c6,dJ,dK,dL,dN,rfl,dO,dP,dS,aI,dT,dU,dV,aJ,dW,dX,dY,aK,dZ,e0,e1,aL,_,o6,o7,o8,o9,oa,ob,oc,od,oe,og,oh,oi,oj,ol,om,oo,oq,os,ot,ou,ov,ow,ox⟩;have jG:=elL fg;revert o4;exact λ_ q=>⟨c5,c6,dJ,dK,dL,dN,som<|un6S jG,dO,dP,dS,aI,dT,dU,dV,aJ,dW,dX,dY,aK,dZ,e0,e1,aL,q.k<|s2 z z,(cM (cr ([g1]++[G.z]) H) o6 (aa_ (io<|D_ sr)<|io<|F_ sr):Chg (· ∈ ([g1]++[G.z])) H o5),o7,o8,o9,oa,ob,oc,od,oe,og,oh,oi,oj,ol,om,oo,oq,os,ot,ou,ov,ow,ox⟩
     rintro oy oz ⟨c3,c4,dm,dn,dp,dq,rfl,dr,dt,du,aE,dv,dw,dx,aF,dy,dz,dA,aG,dB,dC,dD,aH,_,oA,oB,oC,oD,oE,oF,oG,oH,oI,oJ,oK,oL,oM,oN,oO,oP,oQ,oR,oS,oT,oU,oV,oW⟩;have jH:=elL fe;revert oy;exact λ_ q=>⟨c3,c4,dm,dn,dp,dq,som<|un6S jH,dr,dt,du,aE,dv,dw,dx,aF,dy,dz,dA,aG,dB,dC,dD,aH,q.k<|s2 z z,(cM (cr ([g1]++[G.z]) H) oA (aa_ (io<|D_ sr)<|io<|F_ sr):Chg (· ∈ ([g1]++[G.z])) H oz),oB,oC,oD,oE,oF,oG,oH,oI,oJ,oK,oL,oM,oN,oO,oP,oQ,oR,oS,oT,oU,oV,oW⟩
    rintro oX oY ⟨c0,c1,d5,d6,d7,d8,rfl,d9,da,db,aA,dc,dd,de,aB,df,dg,dh,aC,di,dj,dk,aD,_,oZ,p0,p1,p2,p3,p4,p5,p6,p7,p8,p9,pa,pb,pc,pd,pe,pf,pg,ph,pi,pj,pk,pl⟩;have jI:=elL f8;revert oX;exact λ_ q=>⟨c0,c1,0,d5,d6,d7,d8,som<|un6S jI,d9,da,db,aA,dc,dd,de,aB,df,dg,dh,aC,di,dj,dk,aD,q.k<|s2 z z,(cM (cr ([g1]++[G.z]) H) oZ (aa_ (io<|D_ sr)<|io<|F_ sr):Chg (· ∈ ([g1]++[G.z])) H oY),p0,p1,ii z,p2,p3,p4,p5,p6,p7,p8,p9,pa,pb,pc,pd,pe,pf,pg,ph,pi,pj,pk,pl⟩
   rintro pm pn ⟨bX,bY,bZ,cP,cQ,cR,cS,rfl,cT,cU,cV,aw,cW,cX,cY,ax,cZ,d0,d1,ay,d2,d3,d4,az,_,po,pp,pq,pr,ps,pu,pw,px,py,pz,pA,pB,pC,pE,pG,pH,pI,pJ,pK,pL,pM,pN,pO,pP⟩;have jJ:=elL f6;revert pm;exact λ_ q=>⟨bX,bY,bZ,cP,cQ,cR,cS,som<|un7S jJ,cT,cU,cV,aw,cW,cX,cY,ax,cZ,d0,d1,ay,d2,d3,d4,az,q.k<|s2 z z,(cM (cr ([g1]++[G.z]) H) po (aa_ (io<|D_ sr)<|io<|F_ sr):Chg (· ∈ ([g1]++[G.z])) H pn),pp,pq,pr,ps,pu,pw,px,py,pz,pA,pB,pC,pE,pG,pH,pI,pJ,pK,pL,pM,pN,pO,pP⟩
  rintro pQ pR ⟨bU,bV,bW,cx,cy,cz,cA,rfl,cB,cC,cD,ap,cE,cF,cG,aq,cH,cI,cJ,au,cK,cL,cN,av,_,pS,pU,pV,pW,pX,pY,pZ,q0,q1,q2,q3,q4,q5,q6,q7,q8,q9,qa,qb,qc,qd,qe,qf,qg⟩;have jK:=elL f4;revert pQ;exact λ_ q=>⟨bU,bV,bW,false,cx,cy,cz,cA,som<|un7S jK,cB,cC,cD,ap,cE,cF,cG,aq,cH,cI,cJ,au,cK,cL,cN,av,q.k<|s2 z z,(cM (cr ([g1]++[G.z]) H) pS (aa_ (io<|D_ sr)<|io<|F_ sr):Chg (· ∈ ([g1]++[G.z])) H pR),pU,pV,pW,pX,pY,pZ,q0,q1,q2,q3,q4,q5,q6,q7,q8,q9,qa,qb,qc,qd,qe,qf,qg⟩
 rintro qh qi ⟨cq,ct,bj,bQ,fQ,fR,fT,fU,rfl,bk,bm,bn,al,bo,bp,bq,am,bt,bu,bv,an,bw,bx,bz,ao,_,iC,qj,qk,ql,qm,qn,iD,qo,qp,iE,qq,qr,qs,iF,qt,qu,qv,qw,iG,qx,qy,qz,qA,qB⟩;have jL:=elL f2;revert qh;refine Wo<|Ws<|R z (lN (vs:=[Str.v x5,vI x3,vI bj,vB bQ,sl bk bm bn,sl bo bp bq,sl bt bu bv,sl bw bx bz]) L_ o_ z z fid<|qB.row 0 8 z) ?_
 have fP:=mm1 (Blk.lt hB1) bg.s;have iH:=lt_ (lt_ hi.s sc.s) s3.s;have iI:=mm1 bh.lt iH;refine E0 (fs0 (cur':=[Str.v x5,vI x3,vI bj,vB bQ,sl bk bm bn,sl bo bp bq,sl bt bu bv,sl bw bx bz]) o_ z z ((((((bh.e hi).c sc<|atp fP).e s3).e h4).c I<|djs iI).c iC<|atp<|nmA fP<|ds iI) z z z z) ?_;rintro _ qC ⟨qD,qE⟩;have bN:=qE.one;refine Wn ?_;obtain rfl:=som<|un8S jL;have eV:=lt_ (lt_ iH h4.s) I.s;have iJ:=lt_ hj s3.s;have iK:∀k∈[G.z],k∈[g1]∨w0.z<=k:=mor iJ;have eW:=lt_ (lt_ iJ h4.s) I.s;exact Wr<|e_ hr (s_ L_ o_ z qD z) ⟨(cM (cM (cM (f_ (f_ (cM (f_ (f_ (f_ (cr [g1] w0) bg:Cg [g1] w0 wb) aj:Cg [g1] w0 aW) hi:Cg [g1] w0 bO) sc (io sr):Cg [g1] w0 jS) s3:Cg [g1] w0 G) h4:Cg [g1] w0 gN) I iK:Cg [g1] w0 H) iC (aa_ (io sr) iK):Cg [g1] w0 qi) bN (mor bg.s:∀k∈[wb.z],k∈[g1]∨w0.z<=k):Cg [g1] w0 qC),bk,bm,bn,al,bo,bp,bq,am,bt,bu,bv,an,bw,bx,bz,ao,z,b_b gM,jO,ql,qm.c bN<|j_ iD bh.lt eV,qo.c bN<|j_ iE bh.lt eV,qr.c bN<|j_ iF bh.lt eV,qv.c bN<|j_ iG bh.lt eV,qj,qk,qA.c bN<|djs fP,na_ qn (na_ qp (na_ qs qw<|ds qz)<|nmA (ds qu)<|ds qy)<|nmA (ds qq)<|nmA (ds qt)<|ds qx,aa_ (m_ iD eW)<|aa_ (m_ iE eW)<|aa_ (m_ iF eW)<|m_ iG eW⟩
def Q8 (w0:World)(g1:Nat)(B:Zone)(A0:Option Addr)(N0 C0:Nat)(x1:H_)(r:d_×Int×Int)(v:Value)(w':World):Prop:=Cg [g1] w0 w'/\un3 (λO G H=>∃I J L S1,(.agg #[.slice I J L])=v/\a_ w' S1 (sl I J L) O.rules/\inI G/\inI H/\Blk w' g1 [sl A0 N0 C0,vI G,vI H]/\S1.Nodup/\(∀k∈S1,w0.z<=k)) r
theorem W_w2d {x1:H_}{g1:Nat}{res:d_×Int×Int}(hm:g_z n x1=some res)(hB1:Blk w0 g1 [sl A0 N0 C0,vI x1.i,vI x1.h])(Y:B<=w0.z)(hBg:¬B g1)(aa:repS w0 B (sl A0 N0 C0) x1.b)(bh:inI x1.i)(bi:inI x1.h):l_ prog 15 [pt g1] w0 (Q8 w0 g1 B A0 N0 C0 x1 res):=by
 unfold g_z at hm
 refine goG func15 z z z λfn hr=>Ws<|E z (fa g_T) ?_
 rintro _ I ⟨rfl,aF⟩;have ht:=aF.below;have hq:Blk I w0.z [sN]:=aF.blk;refine Wn<|Ws<|R z (bP (parts:=[]) (cs:=[sN]) q_o z z)<|E z (fa g_T) ?_
 rintro _ aG ⟨rfl,aH⟩;have hw:=aH.below;have h3:Blk aG I.z [sN]:=aH.blk;refine E0 (fs0 (cur':=[sN]) r_ z z h3 z z z z) ?_;rintro _ aI ⟨bw,bx⟩;have hd:=bx.one;refine Wn<|Wq (Wd (X:=λk=>k∈[g1]∨aI.z<=k) 320 (pl_ 9 [4,5,6,8]) mo (by kernel_rfl) λab si _=>dR z z (fd a_3 z) ?_)
 have al:=bw.e si;have hc:=mm1 (Blk.lt hB1) ht.s;refine dR z z (l1 a_8 z (a_t (atp hc)<|Nat.lt_of_lt_of_le h3.lt hd.s)<|al.at z)<|dM z z z<|dR z z (lN (vs:=[sN]) t_ r_ z z (a_t (atp hc)<|Nat.lt_of_lt_of_le h3.lt hd.s)<|al.row 0 1 z) ?_
 have am:∀k∈[I.z],¬B k:=or0 (c_ lr)<|k_<|zt' Y ht.s;have aJ:=(((ht.ag B).e hw).c hd<|b_ am).e si;have h4:=lt_ (lt_ (lt_ ht.s hw.s) hd.s) si.s;have a0:=zt' Y h4;obtain ⟨aK,_,_,bz,bj⟩:=w_ hm;refine dE z z (fc call36 z<|W_w1d (B:=B) (x2:=(⟨([]:List g_)⟩:d_)) bz ((((hB1.e ht).e hw).c hd<|djs hc).e si) a0 hBg (aa.g aJ) bh bi (or_ (B:=B) onL an_)<|ii z) (.inr λ_ _ h=>h.1.mono λk _ hk=>(io sr) k hk) ?_;rintro _ aL ⟨sj,bA,bB,bC,an,bD,bE,bF,ao,bG,bH,bI,ap,bJ,bK,bL,aq,rfl,bM,bN,bO,bQ,bR,bS,bT,bU,bV,bW,he,G⟩;refine dE z z (fS [(.tmp 10)] i_N z z z (a_e z) (lb z)<|lb z) (.inr λ_ _ h=>p_<|h.2.below) ?_;rintro _ aM ⟨rfl,aN⟩;have O:=aN.below;obtain ⟨_,bX,bk⟩:=bdS bj;refine dE z z (a_X (α:=g_) i_N bX z z onL G_ (aN.blk:Blk aM aL.z (vR aK bA bB bC bD bE bF bG bH bI bJ bK bL)) (m_5 (x:=aK) (S1:=an) (S2:=ao) (S3:=ap) (S4:=aq) bM bN bO (bQ.e O) (bR.e O) (bS.e O)<|bT.e O) (nmN _)<|na_ (nl_ he) (na_ (nl_<|nr_ he) (na_ (nl_<|nr_<|nr_ he) (nr_<|nr_<|nr_ he)<|nj<|nr_<|nr_ he)<|nmA (nmL<|nj<|nr_ he)<|nmR<|nj<|nr_ he)<|nmA (nmL<|nj he)<|nmA (nmL<|nmR<|nj he)<|nmR<|nmR<|nj he) (.inl z) ?_;rintro _ bY ⟨H,aO,aP,aQ,rfl,sk,bZ,c0,hl⟩;refine dR z z (fd a_3 z)<|dE0 z (fs0 (cur':=[sl aO aP aQ]) z_24 z z (((al.c sj<|atp hc).e O).c sk<|atp<|nmN _) z z z z) (.inl z) ?_
 rintro _ c1 ⟨c2,c3⟩;have hn:=c3.one;refine pD<|Wo<|Wq<|Wm z ?_
 have aR:=(((aJ.c sj<|b_<|c_ hBg).e O).c sk<|b_ an_).c hn<|b_ am
 have hx:=lt_ (lt_ h4 sj.s) O.s;have ar:=lt_ (lt_ hx sk.s) hn.s;obtain ⟨_,_,_,c4,bm⟩:=w_ bk;refine E z (fc call37 z<|b_B (B:=B) c4 (((bW.e O).c sk<|atp<|nmN _).c hn<|djs hc) (zt' Y ar) hBg (aa.g aR) bU bV<|ii z) ?_;rintro _ J ⟨sf,rfl,c5,c6,c7,c8⟩;refine Rw z ?_
 obtain ⟨_,bn,aD⟩:=bdS bm;refine c_f (σ:=Int×Int×Int×(List g_)) (ρ:=d_×Int×Int) (λs a w=>un4 (λxr xu xv xy=>∃V W ca L,Sat 32 [(0,pt g1),(2,pt w0.z),(3,pt I.z),(4,vI xr)] a/\Chg (· ∈ ([g1]++(H++[I.z]))) J w/\inI xr/\inI xu/\inI xv/\a_ w L (sl V W ca) xy/\L.Nodup/\(∀k∈L,k∈H∨J.z<=k)/\Blk w g1 [sl A0 N0 C0,vI xu,vI xv]/\Blk w I.z [sl V W ca]) s) (λs a w=>un4 (λxr xu xv xy=>∃V W ca L,Sat 32 [(2,pt w0.z),(3,pt I.z)] a/\Chg (· ∈ ([g1]++(H++[I.z]))) J w/\inI xr/\inI xu/\inI xv/\a_ w L (sl V W ca) xy/\L.Nodup/\(∀k∈L,k∈H∨J.z<=k)/\Blk w g1 [sl A0 N0 C0,vI xu,vI xv]/\Blk w I.z [sl V W ca]) s) (rQ prog fn<|Q8 w0 g1 B A0 N0 C0 x1) bn ?_ ?_ ?_ ?_
 .have a1:=lt_ hd.s si.s;exact λ_ q=>⟨aO,aP,aQ,H,q.k<|s4 z z z z,cr ([g1]++(H++[I.z])) J,c5,c6,c7,(bZ.c hn (or2 hl an_ (aa_ (j_ (al_ G) h3.lt a1)<|aa_ (j_ (al_<|ar_ G) h3.lt a1)<|aa_ (j_ (al_<|ar_<|ar_ G) h3.lt a1)<|j_ (ar_<|ar_<|ar_ G) h3.lt a1) (U_ (c_ h3.lt)<|lt_ (lt_ a1 sj.s) O.s):∀k∈H,k∉[I.z])).c sf (or2 hl an_ (aa_ (j_ (al_ G) (Blk.lt hB1) h4)<|aa_ (j_ (al_<|ar_ G) (Blk.lt hB1) h4)<|aa_ (j_ (al_<|ar_<|ar_ G) (Blk.lt hB1) h4)<|j_ (ar_<|ar_<|ar_ G) (Blk.lt hB1) h4) (U_ (c_<|Blk.lt hB1) hx):∀k∈H,k∉[g1]),c0,io sr,c8,c2.c sf<|atp hc⟩
 .rintro ⟨xr,xu,xv,xy⟩ _ a2 _ ⟨V,W,ca,L,bo,sz,aS,ad,ae,ho,af,hp,ah,ai⟩ bp;have aE:=c_u bp;refine Wu ?_ bo;refine Wq<|Wm z<|R z (a_g z z)<|Wx z (λak=>?_) (λak=>?_)
  .refine Wk<|Wq<|Wb (Wd (X:=λk=>k∈[g1]∨a2.z<=k) 2560 (pl_ 12 [5,7,8,9,11]) mo (by kernel_rfl) λc9 sm _=>dR z z (fd a_3 z) ?_)
   have au:=ai.e sm;have a3:=lt_ hd.s si.s;have aT:=lt_ (lt_ a3 sj.s) O.s;have aU:=lt_ (lt_ (lt_ aT sk.s) hn.s) sf.s;have av:=lt_ aU sz.s;refine dR z z (l1 a_8 z (a_t (atp hc)<|Nat.lt_of_lt_of_le h3.lt av)<|au.at z)<|dM z z z<|dR z z (lN (vs:=[sl V W ca]) t_ r_ z z (a_t (atp hc)<|Nat.lt_of_lt_of_le h3.lt av)<|au.row 0 1 z)<|dM z z z ?_
   have aV:=((aR.c sf<|b_<|c_ hBg).c sz<|nmA (b_<|c_ hBg)<|nmA (b_ (or2 hl an_ (aa_ (or0 (al_ G) (k_ a0):∀k∈an,¬B k)<|aa_ (or0 (al_<|ar_ G) (k_ a0):∀k∈ao,¬B k)<|aa_ (or0 (al_<|ar_<|ar_ G) (k_ a0):∀k∈ap,¬B k) (or0 (ar_<|ar_<|ar_ G) (k_ a0):∀k∈aq,¬B k)) (k_<|zt' Y hx):∀k∈H,¬B k))<|b_ am).e sm;have aW:=lt_ ar sf.s;have aX:=lt_ (lt_ aW sz.s) sm.s;obtain ⟨_,_,_,cb,bq⟩:=w_<|ifT aE ak;refine dE z z (fc call37 z<|b_B (B:=B) cb (ah.e sm) (zt' Y aX) hBg (aa.g aV) ad ae<|ii z) (.inr λ_ _ h=>h.1.mono λk _ hk=>(io sr) k hk) ?_;rintro _ cc ⟨ss,rfl,_,cd,ce,cf⟩;refine dR z z (add_ z z) ?_;have aY:=lt_ sj.s O.s;have aw:∀k∈L,k∉[g1]:=or1 hp (or2 hl an_ (aa_ (j_ (al_ G) (Blk.lt hB1) h4)<|aa_ (j_ (al_<|ar_ G) (Blk.lt hB1) h4)<|aa_ (j_ (al_<|ar_<|ar_ G) (Blk.lt hB1) h4)<|j_ (ar_<|ar_<|ar_ G) (Blk.lt hB1) h4) (U_ (c_<|Blk.lt hB1) hx):∀k∈H,k∉[g1])<|U_ (c_<|Blk.lt hB1) aW;have aZ:=(ho.e sm).c ss aw;have a4:=lt_ sm.s ss.s;obtain ⟨b0,cg,ch,ci,br⟩:=w_ bq;refine dE z z (fc call36 z<|W_w1d (B:=zn B ab.z a2.z) (x2:=(⟨xy⟩:d_)) ci cf (c_I (zt' Y<|lt_ aX ss.s) a4) (atp ((d_I (c_ hBg) (c_<|Blk.lt hB1) h4):∀k∈[g1],¬(zn B ab.z a2.z) k)) (repS.mono (aa.g<|aV.c ss<|b_<|c_ hBg) b_Y) cd ce (or_ aZ<|zin (B:=B) (a_s hp (or2 hl an_ (aa_ (al_ G)<|aa_ (al_<|ar_ G)<|aa_ (al_<|ar_<|ar_ G)<|ar_<|ar_<|ar_ G) (b_o aY):∀k∈H,ab.z<=k)<|lt_ (lt_ (lt_ aY sk.s) hn.s) sf.s)<|a_.lt ho)<|iA _ _) (.inr λ_ _ h=>h.1.mono λk _ hk=>(io sr) k hk) ?_;rintro _ b1 ⟨a5,cj,ck,cl,b2,cm,cn,co,b3,cp,cq,ct,b4,cu,cv,cw,b5,rfl,cx,cy,cz,cA,cB,cC,cD,cE,cF,cG,hg,hb⟩;refine dE z z (fS [(.tmp 27)] i_N z z z (a_e z) (lb z)<|lb z) (.inr λ_ _ h=>p_<|h.2.below) ?_;rintro _ b6 ⟨rfl,b7⟩;have hh:=b7.below;obtain ⟨cH,cI,bs⟩:=bdS br;refine dE z z (a_X (α:=g_) i_N cI z z ((aZ.c a5 aw).e hh) af (b7.blk:Blk b6 b1.z (vR b0 cj ck cl cm cn co cp cq ct cu cv cw)) (m_5 (x:=b0) (S1:=b2) (S2:=b3) (S3:=b4) (S4:=b5) cx cy cz (cA.e hh) (cB.e hh) (cC.e hh)<|cD.e hh) (aa_ (b_H (al_ hb) (a_.lt ho) a4)<|aa_ (b_H (al_<|ar_ hb) (a_.lt ho) a4)<|aa_ (b_H (al_<|ar_<|ar_ hb) (a_.lt ho) a4)<|b_H (ar_<|ar_<|ar_ hb) (a_.lt ho) a4)<|na_ (nl_ hg) (na_ (nl_<|nr_ hg) (na_ (nl_<|nr_<|nr_ hg) (nr_<|nr_<|nr_ hg)<|nj<|nr_<|nr_ hg)<|nmA (nmL<|nj<|nr_ hg)<|nmR<|nj<|nr_ hg)<|nmA (nmL<|nj hg)<|nmA (nmL<|nmR<|nj hg)<|nmR<|nmR<|nj hg) (.inl z) ?_;rintro _ cJ ⟨ax,b8,b9,ba,rfl,ay,cK,cL,bb⟩;refine dR z z (fd a_3 z) ?_;have bc:∀k∈L,k∉[I.z]:=or1 hp (or2 hl an_ (aa_ (j_ (al_ G) h3.lt a3)<|aa_ (j_ (al_<|ar_ G) h3.lt a3)<|aa_ (j_ (al_<|ar_<|ar_ G) h3.lt a3)<|j_ (ar_<|ar_<|ar_ G) h3.lt a3) (U_ (c_ h3.lt) aT):∀k∈H,k∉[I.z])<|U_ (c_ h3.lt) aU;refine dE0 z (fs0 (cur':=[sl b8 b9 ba]) z_24 z z ((((au.c ss<|atp hc).c a5<|atp hc).e hh).c ay<|djs bc) z z z z) (.inl z) ?_;rintro _ cN ⟨cO,cP⟩;have az:=cP.one;refine pD<|Wo<|Wg<|Rm z<|R z (sb_ z z)<|Ra z<|Wl ?_
   have a6:=lt_ (lt_ av sm.s) ss.s;have a7:=lt_ (lt_ sz.s sm.s) ss.s;exact λ_ q=>⟨(Q_ xr 1,cg,ch,cH),(som bs).symm,⟨b8,b9,ba,ax,q.k<|s4 z z z z,(cM (cM (f_ (cM (cM (f_ (cM (cr ([g1]++(H++[I.z])) J) sz (aa_ (io<|D_ sr)<|aa_ (io<|F_<|D_ sr)<|io<|F_<|F_ sr):Chg (· ∈ ([g1]++(H++[I.z]))) J a2) sm:Chg (· ∈ ([g1]++(H++[I.z]))) J c9) ss (io<|D_ sr):Chg (· ∈ ([g1]++(H++[I.z]))) J cc) a5 (io<|D_ sr):Chg (· ∈ ([g1]++(H++[I.z]))) J b1) hh:Chg (· ∈ ([g1]++(H++[I.z]))) J b6) ay (or1 hp (io<|F_<|D_ sr) (B_ lr):∀k∈L,k∈([g1]++(H++[I.z]))∨J.z<=k):Chg (· ∈ ([g1]++(H++[I.z]))) J cJ) az (io<|F_<|F_ sr):Chg (· ∈ ([g1]++(H++[I.z]))) J cN),iS _ _,cE,cF,cK.c az (or2 bb bc (aa_ (j_ (al_ hb) h3.lt a6)<|aa_ (j_ (al_<|ar_ hb) h3.lt a6)<|aa_ (j_ (al_<|ar_<|ar_ hb) h3.lt a6)<|j_ (ar_<|ar_<|ar_ hb) h3.lt a6) (U_ (c_ h3.lt)<|lt_ (lt_ a6 a5.s) hh.s):∀k∈ax,k∉[I.z]),cL,(or2 bb (or1 hp (io sr) (B_ lr):∀k∈L,k∈H∨J.z<=k) (aa_ (or0 (al_ hb) (B_ a7):∀k∈b2,k∈H∨J.z<=k)<|aa_ (or0 (al_<|ar_ hb) (B_ a7):∀k∈b3,k∈H∨J.z<=k)<|aa_ (or0 (al_<|ar_<|ar_ hb) (B_ a7):∀k∈b4,k∈H∨J.z<=k) (or0 (ar_<|ar_<|ar_ hb) (B_ a7):∀k∈b5,k∈H∨J.z<=k)) (B_<|lt_ (lt_ a7 a5.s) hh.s):∀k∈ax,k∈H∨J.z<=k),((cG.e hh).c ay<|djs aw).c az<|djs hc,cO⟩⟩
  exact We<|λ_ q=>b_N (som<|ifF aE ak).symm ⟨V,W,ca,L,q.k<|s2 z z,(cM (cr ([g1]++(H++[I.z])) J) sz (aa_ (io<|D_ sr)<|aa_ (io<|F_<|D_ sr)<|io<|F_<|F_ sr):Chg (· ∈ ([g1]++(H++[I.z]))) J a2),aS,ad,ae,ho,af,(or1 hp (io sr) (B_ lr):∀k∈L,k∈H∨J.z<=k),ah,ai⟩
 .rintro ⟨xr,xu,xv,xy⟩ cQ cR rfl ⟨V,W,ca,L,_,be,aS,ad,ae,ho,af,hp,ah,ai⟩;have bt:=elL aD;revert cQ;refine Wo<|Ws<|R z (lN (vs:=[sl V W ca]) t_ r_ z z fid<|ai.row 0 1 z) ?_
  have aA:=mmr hq.lt;have aj:=mmr<|Blk.lt hB1
  have a9:=lt_ (lt_ hw.s hd.s) si.s;have bf:=lt_ (lt_ a9 sj.s) O.s;have bg:∀k∈H,k∉[w0.z]:=or2 hl an_ (aa_ (j_ (al_ G) hq.lt a9)<|aa_ (j_ (al_<|ar_ G) hq.lt a9)<|aa_ (j_ (al_<|ar_<|ar_ G) hq.lt a9)<|j_ (ar_<|ar_<|ar_ G) hq.lt a9)<|U_ (c_ hq.lt) bf;refine E0 (fs0 (cur':=[sl V W ca]) r_ z z (((((((((hq.e hw).c hd<|djs aA).e si).c sj<|atp aj).e O).c sk<|atp<|nmN _).c hn<|djs aA).c sf<|atp aj).c be<|atp<|nmA aj<|nmA (ds bg)<|ds aA) z z z z) ?_;rintro _ cS ⟨cT,cU⟩;have aB:=cU.one;refine Wn ?_;obtain rfl:=som<|c_u bt;have aC:∀k∈[I.z],k∈[g1]∨w0.z<=k:=mor ht.s;exact Wr<|e_ hr (s_ t_ r_ z cT z) ⟨(cM (cM (cM (cM (cM (f_ (cM (f_ (cM (f_ (f_ (cr [g1] w0) ht:Cg [g1] w0 I) hw:Cg [g1] w0 aG) hd aC:Cg [g1] w0 aI) si:Cg [g1] w0 ab) sj (io sr):Cg [g1] w0 aL) O:Cg [g1] w0 aM) sk an_:Cg [g1] w0 bY) hn aC:Cg [g1] w0 c1) sf (io sr):Cg [g1] w0 J) be (aa_ (io sr)<|aa_ (or2 hl an_ (aa_ (or0 (al_ G) (B_ h4):∀k∈an,k∈[g1]∨w0.z<=k)<|aa_ (or0 (al_<|ar_ G) (B_ h4):∀k∈ao,k∈[g1]∨w0.z<=k)<|aa_ (or0 (al_<|ar_<|ar_ G) (B_ h4):∀k∈ap,k∈[g1]∨w0.z<=k) (or0 (ar_<|ar_<|ar_ G) (B_ h4):∀k∈aq,k∈[g1]∨w0.z<=k)) (B_ hx):∀k∈H,k∈[g1]∨w0.z<=k) aC):Cg [g1] w0 cR) aB (mor lr:∀k∈[w0.z],k∈[g1]∨w0.z<=k):Cg [g1] w0 cS),V,W,ca,L,z,ho.c aB (or1 hp bg (U_ (c_ hq.lt)<|lt_ (lt_ (lt_ bf sk.s) hn.s) sf.s):∀k∈L,k∉[w0.z]),ad,ae,ah.c aB<|djs aj,af,a_s hp (or2 hl an_ (aa_ (m_ (al_ G) h4)<|aa_ (m_ (al_<|ar_ G) h4)<|aa_ (m_ (al_<|ar_<|ar_ G) h4)<|m_ (ar_<|ar_<|ar_ G) h4) (b_o hx):∀k∈H,w0.z<=k)<|lt_ ar sf.s⟩
 rintro _ _ _ _ rfl ⟨rfl,bu⟩;have bv:=elR aD;obtain rfl:=som bv;exact ⟨bu,z⟩
def Q9 (w0:World)(B:Zone)(r:Int)(v:Value)(w':World):Prop:=Bw w0 w'/\(λG=>(vI G)=v/\inI G) r
theorem i_T {x1:Int}{res:Int}(hm:d_a x1=some res)(J:B<=w0.z)(I:inI x1):l_ prog 41 [vI x1] w0 (Q9 w0 B res):=by
 unfold d_a at hm
 refine goG func41 z z z λfn hr=>Ws<|Rw z<|Wm z<|R z (c_K z z) ?_
 obtain ⟨_,H,G⟩:=bdS hm;refine R z (j_b z z<|nnS H)<|Rw z ?_
 obtain rfl:=som G;exact Wr<|e_ hr z ⟨br w0,z,p_r<|ii z⟩
theorem g_V {x1:Int}{x2:Int}{res:Int}(hm:d_d x1 x2=some res)(J:B<=w0.z)(H:inI x1)(I:inI x2):l_ prog 40 [vI x1,vI x2] w0 (Q9 w0 B res):=by
 unfold d_d at hm
 refine goG func40 z z z λfn hr=>Ws<|Rw z<|Wq<|Wm z<|Rm z<|Rl z z z<|Wx z (λG=>?_) (λG=>?_)
 .refine Wm z<|Rw z ?_
  obtain rfl:=som<|ifT hm G;exact Wr<|e_ hr z ⟨br w0,z,I⟩
 refine Wk<|Wm z<|Rw z ?_
 obtain rfl:=som<|ifF hm G;exact Wr<|e_ hr z ⟨br w0,z,H⟩
def Q10 (w0:World)(g1:Nat)(B:Zone)(A0:Option Addr)(N0 C0:Nat)(x1:H_)(r:Val×Int×Int)(v:Value)(w':World):Prop:=Cg [g1] w0 w'/\un3 (λG H I=>∃J L O S1 a2 V W S2,(.agg #[vI G.number,sl J L O,sl a2 V W])=v/\inI G.number/\a_ w' S1 (sl J L O) G.bytes/\a_ w' S2 (sl a2 V W) G.items/\inI H/\inI I/\Blk w' g1 [sl A0 N0 C0,vI H,vI I]/\(S1++S2).Nodup/\(∀k∈(S1++S2),w0.z<=k)) r
structure k_j (f:H_->d_->Int->Int->Option (Val×Int×Int)):Prop where
  run:∀{A0 A6:Option Addr}{N0 C0 g1 N6 C6:Nat}{B:Zone}{x1:H_}{x2:d_}{x3:Int}{x4:Int}{res:Val×Int×Int}{w0:World}(hm:f x1 x2 x3 x4=some res)(hB1:Blk w0 g1 [sl A0 N0 C0,vI x1.i,vI x1.h])(hBw:B<=w0.z)(hBg:¬B g1)(p1_0:repS w0 B (sl A0 N0 C0) x1.b)(p1_1:inI x1.i)(p1_2:inI x1.h)(p2_0:repS w0 B (sl A6 N6 C6) x2.rules)(p3_0:inI x3)(p4_0:inI x4),l_ prog 17 [pt g1,.agg #[sl A6 N6 C6],vI x3,vI x4] w0<|Q10 w0 g1 B A0 N0 C0 x1 res
abbrev m_w (n:Nat):Prop:=k_j (e_J n).spec_l9Make
theorem T_w0f (aZ:m_w n):k_j (g_A n<|e_J n):=by
 constructor
 intro A0 A6 N0 C0 g1 N6 C6 B x1 x2 x3 x4 res w0 hm hB1 J hBg W a4 a5 aA p3 eK;unfold g_A at hm
 refine goG func17 z z z λfn hr=>Ws<|E z (fb z) ?_
 rintro _ wb ⟨rfl,gx⟩;have O:=gx.below;have hf:Blk wb w0.z [sl A6 N6 C6]:=gx.blk;refine E z (fa a_4) ?_;rintro _ wc ⟨rfl,gy⟩;have L:=gy.below;have b0:Blk wc wb.z [vI 0,sN,sN]:=gy.blk;refine Wn<|Ws<|Rf z a_3 z ?_
 have aB:=hf.e L;refine R z (l0 a_8 z<|aB.at z)<|Rm z ?_
 obtain ⟨aC,iP,hI⟩:=bdS hm;have a7:=(O.ag B).e L;refine RX z (at_ (α:=g_) a_a o_ z z z (aA.g a7) iP) ?_;rintro _ ⟨_,_,_,rfl,iQ,iR,_⟩;obtain ⟨gz,gA,gB,gC,gD,gE,gF,gG,gH,gI,gJ,gK,rfl,_,_,gL,iT,_,gM,aj⟩:=a_D iR;refine R z (lN (vs:=vR aC gz gA gB gC gD gE gF gG gH gI gJ gK) L_ o_ z z fid iQ)<|E z (fa b_P) ?_
 rintro _ gN ⟨rfl,gO⟩;have h5:=gO.below;have b1:Blk gN wc.z [(Str.v (⟨[]⟩:Str)),vI 0,vI 0,vB false,sN,sN,sN,sN]:=gO.blk;refine E0 (fs0 (cur':=vR aC gz gA gB gC gD gE gF gG gH gI gJ gK) o_ z z b1 z z z z) ?_;rintro _ G ⟨iU,iV⟩;have h4:=iV.one;refine Wn<|Ws<|R z (bP (parts:=[]) (cs:=[vI 0,sN,sN]) Y_ z z)<|E z (fa a_4) ?_
 rintro _ gP ⟨rfl,gQ⟩;have h6:=gQ.below;have V:Blk gP G.z [vI 0,sN,sN]:=gQ.blk;refine E0 (fs0 (cur':=[vI 0,sN,sN]) h_ z z V z z z z) ?_;rintro _ wa ⟨hw,iW⟩;have h3:=iW.one;refine Wn<|Wq<|Ws<|Rf z a_u z ?_
 have aq:=mm1 b1.lt h4.s;have ht:=(iU.e h6).c h3<|djs aq
 refine R z (l0 g_3 z<|ht.at z)<|Wn<|Wb<|Ws<|Rq z z z<|Rw z ?_
 obtain ⟨iX,eL,cY⟩:=bdS hI;refine Wt (λa w=>∃(bT:Int)(bU:Int)(aD:Int)(de:Bt)(df:List Val),Sum.inl (bT,bU,aD,de,df)=iX/\∃aE aF aG aH aI aJ aK aL,Sat 178 [(8,pt wb.z),(10,pt G.z)] a/\Chg (· ∈ ([g1]++[G.z])) wa w/\inI bT/\inI bU/\inI aD/\a_ w aH (sl aE aF aG) de/\aH.Nodup/\(∀k∈aH,wa.z<=k)/\a_ w aL (sl aI aJ aK) df/\aL.Nodup/\(∀k∈aL,wa.z<=k)/\(∀k∈aL,k∉aH)/\Blk w g1 [sl A0 N0 C0,vI bT,vI bU]/\Blk w G.z [vI aD,sl aE aF aG,sl aI aJ aK]) ?_ ?_
 .refine Wc z (λcZ=>?_)<|λcZ=>?_
  .refine Wg<|Rm z<|Rf z a_F z<|R z (l0 g_3 z<|ht.at z) ?_
   have dg:=lt_ O.s L.s;have dh:=lt_ (lt_ dg h5.s) h4.s;have gR:=lt_ (lt_ dh h6.s) h3.s;obtain ⟨_,iY,hJ⟩:=bdS<|ifT eL cZ;refine E z (fc call41 z<|i_T iY (zt' J gR) gL) ?_;rintro _ iZ ⟨b2,rfl,j0⟩;have gS:=lt_ gR b2.s;obtain ⟨_,j1,hK⟩:=bdS hJ;refine E z (fc call40 z<|g_V j1 (zt' J gS) j0<|ii z) ?_;rintro _ j2 ⟨b3,rfl,j3⟩;have di:=mm1 (Blk.lt hB1) dh;obtain ⟨gT,j4,j5,j6,hL⟩:=w_ hK;refine E z (fc call37 z<|b_B (B:=B) j6 ((((((((hB1.e O).e L).e h5).c h4<|djs<|mm1 (Blk.lt hB1) dg).e h6).c h3<|djs di).e b2).e b3) (zt' J<|lt_ gS b3.s) hBg (W.g<|(((((a7.e h5).c h4<|b_ (or0 (c_ lr) (k_<|zt' J dg):∀k∈[wc.z],¬B k)).e h6).c h3<|b_ (or0 (c_ lr) (k_<|zt' J dh):∀k∈[G.z],¬B k)).e b2).e b3) a4 a5 j3) ?_;rintro _ j7 ⟨gU,rfl,j8,j9,ja,jb⟩;refine Rf z a_S z<|E0 (fs0 (cur':=[vI gT,sN,sN]) z_3 z z (((hw.e b2).e b3).c gU<|atp di) z z z z) ?_
   rintro _ jc ⟨jd,je⟩;have gV:=je.one;refine Wl ?_;exact λ_ q=>⟨j4,j5,gT,([]:Bt),([]:List Val),som hL,none,0,0,[],none,0,0,[],q.k<|s2 z z,(cM (cM (f_ (f_ (cr ([g1]++[G.z]) wa) b2:Chg (· ∈ ([g1]++[G.z])) wa iZ) b3:Chg (· ∈ ([g1]++[G.z])) wa j2) gU (io<|D_ sr):Chg (· ∈ ([g1]++[G.z])) wa j7) gV (io<|F_ sr):Chg (· ∈ ([g1]++[G.z])) wa jc),j9,ja,j8,onL,G_,an_,onL,G_,an_,an_,jb.c gV<|djs di,jd⟩
  refine Ws<|Rq z z z<|Rw z ?_
  obtain ⟨jf,eM,d0⟩:=bdS<|ifF eL cZ;refine Wt (λa w=>∃(b4:Int)(b5:Int)(b6:Int)(bV:Bt)(bW:List Val),Sum.inl (b4,b5,b6,bV,bW)=jf/\∃bX bY bZ aM c0 c1 c2 aN,Sat 178 [(8,pt wb.z),(10,pt G.z)] a/\Chg (· ∈ ([g1]++[G.z])) wa w/\inI b4/\inI b5/\inI b6/\a_ w aM (sl bX bY bZ) bV/\aM.Nodup/\(∀k∈aM,wa.z<=k)/\a_ w aN (sl c0 c1 c2) bW/\aN.Nodup/\(∀k∈aN,wa.z<=k)/\(∀k∈aN,k∉aM)/\Blk w g1 [sl A0 N0 C0,vI b4,vI b5]/\Blk w G.z [vI b6,sl bX bY bZ,sl c0 c1 c2]) ?_ ?_
  .refine Wc z (λd1=>?_)<|λd1=>?_
   .refine Wg<|Rm z<|Rf z a_F z<|R z (l0 g_3 z<|ht.at z) ?_
    have dj:=lt_ O.s L.s;have dk:=lt_ (lt_ dj h5.s) h4.s;have dl:=mm1 (Blk.lt hB1) dk;obtain ⟨jg,jh,ji,jj,hM⟩:=w_<|ifT eM d1;refine E z (fc call42 z<|k_g (B:=B) jj ((((((hB1.e O).e L).e h5).c h4<|djs<|mm1 (Blk.lt hB1) dj).e h6).c h3<|djs dl) (zt' J<|lt_ (lt_ dk h6.s) h3.s) hBg (W.g<|(((a7.e h5).c h4<|b_ (or0 (c_ lr) (k_<|zt' J dj):∀k∈[wc.z],¬B k)).e h6).c h3<|b_ (or0 (c_ lr) (k_<|zt' J dk):∀k∈[G.z],¬B k)) a4 a5 gL) ?_;rintro _ jk ⟨gW,gX,gY,gZ,jl,rfl,jm,jn,jo,jp,jq,h0⟩;refine Rf z a_T z<|E0 (fs0 (cur':=[vI 0,sl gX gY gZ,sN]) z_22 z z (hw.c gW<|atp dl) z z z z) ?_
    rintro _ jr ⟨js,jt⟩;have dm:=jt.one;refine Wl ?_;exact λ_ q=>⟨jh,ji,0,jg,([]:List Val),som hM,gX,gY,gZ,jl,none,0,0,[],q.k<|s2 z z,(cM (cM (cr ([g1]++[G.z]) wa) gW (io<|D_ sr):Chg (· ∈ ([g1]++[G.z])) wa jk) dm (io<|F_ sr):Chg (· ∈ ([g1]++[G.z])) wa jr),jn,jo,ii z,jm.c dm<|j_ h0 V.lt h3.s,jq,h0,onL,G_,an_,an_,jp.c dm<|djs dl,js⟩
   refine Wq<|Ws<|Rq z z z<|Rw z ?_
   obtain ⟨ju,eN,hN⟩:=bdS<|ifF eM d1;refine Wt (λa w=>∃(dn:Bool),dn=ju/\Sat 178 [(0,pt g1),(3,vI x4),(5,pt w0.z),(8,pt wb.z),(9,pt wc.z),(10,pt G.z),(21,vI aC.kind),(38,vB dn)] a/\Below wa.z wa w) ?_ ?_
   .refine Wc z (λd2=>?_)<|λd2=>?_
    .exact a_k<|λ_ q=>⟨aC.kind==4,som<|ifT eN d2,q.k<|s8 z z z z z z z z,br wa⟩
    exact Wg<|Rq z z z<|Ra z<|Wl (λ_ q=>⟨aC.kind==10,som<|ifF eN d2,q.k<|s8 z z z z z z z z,br wa⟩)
   rintro jv H ⟨dn,rfl,_,I⟩;revert jv;refine Wo ?_;obtain ⟨jw,eO,d3⟩:=bdS hN;refine Wt (λa w=>∃(b7:Int)(b8:Int)(b9:Int)(c3:Bt)(c4:List Val),Sum.inl (b7,b8,b9,c3,c4)=jw/\∃c5 c6 c7 aO c8 c9 ca aP,Sat 178 [(8,pt wb.z),(10,pt G.z)] a/\Chg (· ∈ ([g1]++[G.z])) H w/\inI b7/\inI b8/\inI b9/\a_ w aO (sl c5 c6 c7) c3/\aO.Nodup/\(∀k∈aO,H.z<=k)/\a_ w aP (sl c8 c9 ca) c4/\aP.Nodup/\(∀k∈aP,H.z<=k)/\(∀k∈aP,k∉aO)/\Blk w g1 [sl A0 N0 C0,vI b7,vI b8]/\Blk w G.z [vI b9,sl c5 c6 c7,sl c8 c9 ca]) ?_ ?_
   .refine Wc z (λd4=>?_)<|λd4=>?_
    .refine Wm z<|RM z z ?_
     have dp:=lt_ O.s L.s;have dq:=lt_ (lt_ dp h5.s) h4.s;have h1:=lt_ (lt_ (lt_ dq h6.s) h3.s) I.s;obtain ⟨_,jx,hO⟩:=bdS<|ifT eO d4;refine E z (fc call40 z<|g_V jx (zt' J h1) eK<|ii z) ?_;rintro _ jy ⟨sg,rfl,_⟩;refine R z (add_ z z) ?_;have h2:∀k∈[wc.z],¬B k:=or0 (c_ lr)<|k_<|zt' J dp;have ba:∀k∈[G.z],¬B k:=or0 (c_ lr)<|k_<|zt' J dq;have ha:=(((((a7.e h5).c h4<|b_ h2).e h6).c h3<|b_ ba).e I).e sg;have ar:=mm1 (Blk.lt hB1) dp;have hx:=mm1 (Blk.lt hB1) dq;have hb:=lt_ h1 sg.s;obtain ⟨_,_,_,jz,hP⟩:=w_ hO;refine E z (fc call37 z<|b_B (B:=B) jz ((((((((hB1.e O).e L).e h5).c h4<|djs ar).e h6).c h3<|djs hx).e I).e sg) (zt' J hb) hBg (W.g ha) a4 a5<|iA _ _) ?_;rintro _ jA ⟨sk,rfl,jB,jC,jD,jE⟩;have dr:=ha.c sk<|b_<|c_ hBg
     have bb:=lt_ hb sk.s;obtain ⟨he,hg,hh,jF,hQ⟩:=w_ hP;refine E z (fc call42 z<|k_g (B:=B) jF jE (zt' J bb) hBg (W.g dr) jC jD jB) ?_;rintro _ jG ⟨sm,cb,cc,cd,Sr,rfl,ce,dt,du,dv,hi,ak⟩;refine Rf z a_T z<|E0 (fs0 (cur':=[vI 0,sl cb cc cd,sN]) z_22 z z ((((hw.e I).e sg).c sk<|atp hx).c sm<|atp hx) z z z z) ?_
     rintro _ aQ ⟨dw,jH⟩;have hd:=jH.one;refine Wn<|Wq ?_
     obtain ⟨jI,eP,hR⟩:=bdS hQ;refine Wt (λa w=>∃(dx:Bool)(bc:Int)(be:Int),(dx,bc,be)=jI/\Sat 178 [(0,pt g1),(8,pt wb.z),(9,pt wc.z),(10,pt G.z),(61,vB dx)] a/\Cg [g1] aQ w/\inI bc/\inI be/\Blk w g1 [sl A0 N0 C0,vI bc,vI be]) ?_ ?_
     .refine Wg<|Rf z a_u z<|R z (l0 g_3 z<|(((((ht.e I).e sg).c sk<|atp ar).c sm<|atp ar).c hd<|djs aq).at z)<|Rq z z z<|Rm z ?_
      rcases bs (aC.kind==10) with hcy | hcy
      .have eQ:=ifT eP hcy;refine Rh z hcy (fd a_T z)<|Rh z hcy (l0 R_ z<|dw.at z)<|Rh z hcy (lnR n_ z<|or_ (ce.c hd<|j_ ak V.lt<|lt_ (lt_ (lt_ h3.s I.s) sg.s) sk.s)<|zin (B:=B) ak<|a_.lt ce)<|Rh z hcy (a_g z z)<|R z (pT z hcy z)<|Rm z ?_
       rcases bs (decide<|0<(he.length:Int)) with a6 | a6
       .refine Rh z a6 (mv z) ?_;obtain ⟨jJ,jK,jL,jM,hS⟩:=w_<|ifT eQ a6;refine Eg z z a6 z (fc call43 z<|k_f (B:=B) jM (dv.c hd<|djs hx) (zt' J<|lt_ (lt_ bb sm.s) hd.s) hBg (W.g<|(dr.c sm<|b_<|c_ hBg).c hd<|b_ ba) dt du<|ii z) ?_;rintro _ jN ⟨jO,rfl,jP,jQ,jR⟩;refine R z (pT z a6 z)<|Wl ?_
        exact λ_ q=>⟨jJ,jK,jL,som hS,q.k<|s5 z z z z z,(cM (cr [g1] aQ) jO (io sr):Cg [g1] aQ jN),jP,jQ,jR⟩
       exact Nh z a6<|Nh z a6<|R z (pF z a6 z)<|Wl (λ_ q=>⟨false,hg,hh,som<|ifF eQ a6,q.k<|s5 z z z z z,cr [g1] aQ,dt,du,dv.c hd<|djs hx⟩)
      iterate 4 refine Nh z hcy ?_
      exact R z (pF z hcy z)<|Rm z<|Nh z z<|Nh z z<|R z (pF z z z)<|Wl (λ_ q=>⟨false,hg,hh,som<|ifF eP hcy,q.k<|s5 z z z z z,cr [g1] aQ,dt,du,dv.c hd<|djs hx⟩)
     rintro jS ws ⟨dx,bc,be,rfl,_,sn,hj,hl,hn⟩;revert jS;refine Wo ?_;obtain ⟨jT,eR,hT⟩:=bdS<|b_s hR;refine Wt (λa w=>∃(bf:Int)(bg:Int)(cf:Bt),(bf,bg,cf)=jT/\∃(bh:List Nat),Sat 178 [(8,pt wb.z),(10,pt G.z)] a/\Chg (· ∈ ([g1]++Sr)) ws w/\inI bf/\inI bg/\a_ w bh (sl cb cc cd) cf/\bh.Nodup/\(∀k∈bh,k∈Sr∨ws.z<=k)/\Blk w g1 [sl A0 N0 C0,vI bf,vI bg]/\Blk w G.z [vI 0,sl cb cc cd,sN]) ?_ ?_
     .refine Wc z (λd5=>?_)<|λd5=>?_
      .refine Wd (X:=λk=>k∈[g1]∨ws.z<=k) 4096 (pl_ 13 [8,9,12]) mo (by kernel_rfl) λaR a8 _=>dR z z (fd a_T z) ?_
       have ho:=(dw.c sn<|atp hx).e a8;have hp:=lt_ (lt_ (lt_ h3.s I.s) sg.s) sk.s;refine dR z z (l1 R_ z (a_t (atp hx)<|Nat.lt_of_lt_of_le V.lt<|lt_ (lt_ (lt_ hp sm.s) hd.s) sn.s)<|ho.at z)<|dM z z z<|dR z z (fd b_6 z) ?_
       refine dR z z (l1 R_ z (a_t (atp ar)<|Nat.lt_of_lt_of_le b1.lt<|lt_ (lt_ (lt_ (lt_ (lt_ (lt_ (lt_ (lt_ h4.s h6.s) h3.s) I.s) sg.s) sk.s) sm.s) hd.s) sn.s)<|(((((((ht.e I).e sg).c sk<|atp ar).c sm<|atp ar).c hd<|djs aq).c sn<|atp ar).e a8).at z) ?_;obtain ⟨dy,jU,hU⟩:=bdS<|ifT eR d5;refine dRX z z (at_ (α:=UInt8) n_ z_5 z z z (iT.g<|((((((((((h5.ag B).c h4<|b_ h2).e h6).c h3<|b_ ba).e I).e sg).c sk<|b_<|c_ hBg).c sm<|b_<|c_ hBg).c hd<|b_ ba).c sn<|b_<|c_ hBg).e a8) jU) ?_;rintro _ ⟨_,_,_,rfl,jV,jW,hq⟩;obtain rfl:=u8 jW;have hu:=lt_ (lt_ (lt_ bb sm.s) hd.s) sn.s;refine dR z z (l1 g_5 z (a_t ((b_<|c_ hBg) _ hq)<|zap (zt' J hu) hq)<|jV.at0 z)<|dR z z (b_W d_5 d_3 z)<|dE z z (fS [(.tmp 69),(.const<|.int .i64 92)] b_X z z z (a_e z) (lb z)<|lb z) (.inr λ_ _ h=>p_<|h.2.below) ?_
       rintro _ bi ⟨rfl,hv⟩;have au:=hv.below;have hy:a_ bi [aR.z] (sl (some ⟨aR.z,0,none⟩) 2 2) ([byteI dy,92]:List Int):=k_8 (l:=[byteI dy,92]) (hv.blk:Blk bi aR.z [vI (byteI dy),vI 92]) (ac0 (k_4 _)<|ac0 (ii z) an0) z;have hz:=lt_ hu a8.s;obtain ⟨_,jX,jY,jZ,hV⟩:=w_ hU;refine dE z z (fc call44 z<|k_h (B:=zn B aR.z bi.z) jZ ((hn.e a8).e au) (c_I (zt' J<|lt_ hz au.s) lr) (atp ((d_I (c_ hBg) (c_<|Blk.lt hB1) hz):∀k∈[g1],¬(zn B aR.z bi.z) k)) (repS.mono (W.g<|((((dr.c sm<|b_<|c_ hBg).c hd<|b_ ba).c sn<|b_<|c_ hBg).e a8).e au) b_Y) hj hl<|or_ hy<|zin (B:=B) (c_ lr)<|a_.lt hy) (.inr λ_ _ h=>h.1.mono λk _ hk=>(io sr) k hk) ?_;rintro _ k0 ⟨cg,rfl,_,ka,kb,kc⟩;refine dR z z (e_N d_3 d_5 z) ?_;obtain ⟨kd,hA,hW⟩:=bdS hV;have hB:=j_ ak V.lt hp;have dz:=j_ ak (Blk.lt hB1) bb;have hC:=((((ce.c hd hB).c sn dz).e a8).e au).c cg dz;refine dRX z z (m_i (α:=UInt8) n_ z_5 z z hC hA) ?_;rintro _ ⟨_,ke,rfl⟩;refine dE0 z (m_j (α:=UInt8) z_5 z ke z z z hA hC hi b_n an_ G_) (.inl z) ?_;rintro _ kf ⟨hD,dA,kg,kh,ki⟩;refine pD ?_;exact λ_ q=>⟨jX,jY,kd,som hW,hD,q.k<|s2 z z,(cM (cM (f_ (f_ (cr ([g1]++Sr) ws) a8:Chg (· ∈ ([g1]++Sr)) ws aR) au:Chg (· ∈ ([g1]++Sr)) ws bi) cg (io<|D_ sr):Chg (· ∈ ([g1]++Sr)) ws k0) dA (io<|F_ sr):Chg (· ∈ ([g1]++Sr)) ws kf),ka,kb,kg,kh,(or2 ki (io sr) an_ (B_<|lt_ (lt_ a8.s au.s) cg.s):∀k∈hD,k∈Sr∨ws.z<=k),kc.c dA<|djs dz,((ho.e au).c cg<|atp hx).c dA<|djs hB⟩
      exact a_k<|λ_ q=>⟨bc,be,he,som<|ifF eR d5,Sr,q.k<|s2 z z,cr ([g1]++Sr) ws,hj,hl,(ce.c hd<|j_ ak V.lt<|lt_ (lt_ (lt_ h3.s I.s) sg.s) sk.s).c sn<|j_ ak (Blk.lt hB1) bb,hi,io sr,hn,dw.c sn<|atp hx⟩
     rintro kj kk ⟨bf,bg,cf,rfl,bh,_,kl,km,kn,ko,kp,kq,kr,ks⟩;revert kj;have dB:=lt_ sg.s sk.s;exact λ_ q=>⟨bf,bg,0,cf,([]:List Val),som<|b_s hT,cb,cc,cd,bh,none,0,0,[],q.k<|s2 z z,(cM (cM (cM (cM (cM (f_ (cr ([g1]++[G.z]) H) sg:Chg (· ∈ ([g1]++[G.z])) H jy) sk (io<|D_ sr):Chg (· ∈ ([g1]++[G.z])) H jA) sm (io<|D_ sr):Chg (· ∈ ([g1]++[G.z])) H jG) hd (io<|F_ sr):Chg (· ∈ ([g1]++[G.z])) H aQ) sn (io<|D_ sr):Chg (· ∈ ([g1]++[G.z])) H ws) kl (aa_ (io<|D_ sr) (or0 ak (B_ dB):∀k∈Sr,k∈([g1]++[G.z])∨H.z<=k)):Chg (· ∈ ([g1]++[G.z])) H kk),km,kn,ii z,ko,kp,a_s kq (m_ ak dB)<|lt_ (lt_ (lt_ dB sm.s) hd.s) sn.s,onL,G_,an_,an_,kr,ks⟩
    refine Ws<|Rq z z z<|Rw z ?_
    obtain ⟨kt,eS,d6⟩:=bdS<|ifF eO d4;refine Wt (λa w=>∃(bj:Int)(bk:Int)(bm:Int)(ch:List Val),Sum.inl (bj,bk,bm,ch)=kt/\∃ci cj ck bn,Sat 178 [(8,pt wb.z),(10,pt G.z)] a/\Chg (· ∈ ([g1]++[G.z])) H w/\inI bj/\inI bk/\inI bm/\a_ w bn (sl ci cj ck) ch/\bn.Nodup/\(∀k∈bn,H.z<=k)/\Blk w g1 [sl A0 N0 C0,vI bj,vI bk]/\Blk w G.z [vI bm,sN,sl ci cj ck]) ?_ ?_
    .refine Wc z (λd7=>?_)<|λd7=>?_
     .refine Wm z<|Rm z ?_
      have dC:=lt_ O.s L.s;have dD:=lt_ (lt_ dC h5.s) h4.s;have hE:=lt_ (lt_ (lt_ dD h6.s) h3.s) I.s;obtain ⟨_,ku,hX⟩:=bdS<|ifT eS d7;refine E z (fc call40 z<|g_V ku (zt' J hE) eK<|ii z) ?_;rintro _ kw ⟨so,rfl,_⟩;refine R z (add_ z z) ?_;have hF:∀k∈[wc.z],¬B k:=or0 (c_ lr)<|k_<|zt' J dC;have cl:∀k∈[G.z],¬B k:=or0 (c_ lr)<|k_<|zt' J dD;have hG:=(((((a7.e h5).c h4<|b_ hF).e h6).c h3<|b_ cl).e I).e so;have cm:=mm1 (Blk.lt hB1) dC;have bo:=mm1 (Blk.lt hB1) dD;have hH:=lt_ hE so.s;obtain ⟨_,_,_,kx,hY⟩:=w_ hX;refine E z (fc call37 z<|b_B (B:=B) kx ((((((((hB1.e O).e L).e h5).c h4<|djs cm).e h6).c h3<|djs bo).e I).e so) (zt' J hH) hBg (W.g hG) a4 a5<|iA _ _) ?_;rintro _ we ⟨su,rfl,ky,kz,kA,kB⟩;refine Rw z ?_
      obtain ⟨_,hZ,eT⟩:=bdS hY;refine c_f (σ:=Int×Int×Int×(List Val)) (ρ:=Val×Int×Int) (λs a w=>un4 (λav al am aS=>∃a9 aa ab Sl,Sat 178 [(0,pt g1),(3,vI x4),(5,pt w0.z),(8,pt wb.z),(9,pt wc.z),(10,pt G.z),(11,vI av)] a/\Chg (· ∈ ([g1]++[G.z])) we w/\inI av/\inI al/\inI am/\a_ w Sl (sl a9 aa ab) aS/\Sl.Nodup/\(∀k∈Sl,we.z<=k)/\Blk w g1 [sl A0 N0 C0,vI al,vI am]/\Blk w G.z [vI 0,sN,sl a9 aa ab]) s) (λs a w=>un4 (λav al am aS=>∃a9 aa ab Sl,Sat 178 [(8,pt wb.z),(10,pt G.z)] a/\Chg (· ∈ ([g1]++[G.z])) we w/\inI av/\inI al/\inI am/\a_ w Sl (sl a9 aa ab) aS/\Sl.Nodup/\(∀k∈Sl,we.z<=k)/\Blk w g1 [sl A0 N0 C0,vI al,vI am]/\Blk w G.z [vI 0,sN,sl a9 aa ab]) s) (rQ prog fn<|Q10 w0 g1 B A0 N0 C0 x1) hZ ?_ ?_ ?_ ?_
      .exact λ_ q=>⟨none,0,0,[],q.k<|s7 z z z z z z z,cr ([g1]++[G.z]) we,ky,kz,kA,onL,G_,an_,kB,((hw.e I).e so).c su<|atp bo⟩
      .rintro ⟨av,al,am,aS⟩ _ dF _ ⟨a9,aa,ab,Sl,i0,sv,eU,cn,co,aT,cp,aw,cq,ct⟩ i1;have eB:=c_u i1;refine Wu ?_ i0;refine Wq<|Wm z<|R z (a_g z z)<|Wx z (λd8=>?_) (λd8=>?_)
       .refine Wk<|Wq<|Wb (Wd (X:=λk=>k∈[g1]∨dF.z<=k) 20480 (pl_ 15 [10,11,12,14]) mo (by kernel_rfl) λkC sh _=>dR z z (fd V_ z) ?_)
        have eV:=ct.e sh;have eW:=lt_ (lt_ (lt_ h3.s I.s) so.s) su.s;have eX:=lt_ eW sv.s;refine dR z z (l1 a_9 z (a_t (atp bo)<|Nat.lt_of_lt_of_le V.lt eX)<|eV.at z)<|dM z z z ?_
        have eY:=lt_ (lt_ L.s h5.s) h4.s;have eZ:=mm1 hf.lt eY;have dG:=mmr<|Blk.lt hB1
        refine dR z z (lN (vs:=[sl A6 N6 C6]) t_ r_ z z (a_t (atp dG)<|Nat.lt_of_lt_of_le hf.lt<|lt_ (lt_ (lt_ (lt_ (lt_ (lt_ eY h6.s) h3.s) I.s) so.s) su.s) sv.s)<|(((((((((aB.e h5).c h4<|djs<|mm1 hf.lt L.s).e h6).c h3<|djs eZ).e I).e so).c su<|atp dG).c sv<|atp<|nmA dG<|ds eZ).e sh).row 0 1 z)<|dR z z (fd J_ z)<|dR z z (l1 A_ z (a_t (atp cm)<|Nat.lt_of_lt_of_le b1.lt<|lt_ (lt_ (lt_ (lt_ (lt_ (lt_ h4.s h6.s) h3.s) I.s) so.s) su.s) sv.s)<|(((((ht.e I).e so).c su<|atp cm).c sv<|atp<|nmA cm<|ds aq).e sh).at z) ?_
        obtain ⟨_,kD,i2⟩:=bdS<|ifT eB d8;refine dRX z z (at_ (α:=Int) v_ z_3 z z z (aj.g<|((((((((h5.ag B).c h4<|b_ hF).e h6).c h3<|b_ cl).e I).e so).c su<|b_<|c_ hBg).c sv<|nmA (b_<|c_ hBg)<|b_ cl).e sh) kD) ?_;rintro _ ⟨_,_,_,rfl,kE,kF,f0⟩;obtain ⟨rfl,kG⟩:=O_ kF;have f1:=lt_ hH su.s;have f2:=lt_ f1 sv.s;refine dR z z (l1 g_3 z (a_t ((b_<|c_ hBg) _ f0)<|zap (zt' J f2) f0)<|kE.at0 z)<|dM z z z<|dR z z (e_X z z (by decide)) ?_
        have f3:=((hG.c su<|b_<|c_ hBg).c sv<|nmA (b_<|c_ hBg)<|b_ cl).e sh;obtain ⟨f4,kH,kI,kJ,i3⟩:=w_ i2;refine dE z z (fc call17 z<|aZ.run (B:=B) kJ (cq.e sh) (zt' J<|lt_ f2 sh.s) hBg (W.g f3) cn co (aA.g f3) kG<|f_r _ _) (.inr λ_ _ h=>h.1.mono λk _ hk=>(io sr) k hk) ?_;rintro _ f5 ⟨bp,kK,kL,kM,kN,kO,kP,kQ,kR,rfl,kS,kT,kU,kV,kW,kX,dH,aU⟩;refine dE z z (fS [(.tmp 95)] c_4 z z z (a_e z) (lb z)<|lb z) (.inr λ_ _ h=>p_<|h.2.below) ?_;rintro _ f6 ⟨rfl,f7⟩;have an:=f7.below;have f8:=j_ aw (Blk.lt hB1) f1;obtain ⟨kY,kZ,i4⟩:=bdS i3;refine dE z z (a_X (α:=Val) c_4 kZ z z (((aT.e sh).c bp f8).e an) cp (f7.blk:Blk f6 f5.z [vI f4.number,sl kK kL kM,sl kO kP kQ]) (d_C (x:=f4) (S1:=kN) (S2:=kR) kS (kT.e an)<|kU.e an) (aa_ (b_H (al_ aU) (a_.lt aT) sh.s)<|b_H (ar_ aU) (a_.lt aT) sh.s)<|na_ (nl_ dH) (nr_ dH)<|nj dH) (.inl z) ?_;rintro _ l2 ⟨dI,f9,fe,ff,rfl,dJ,l3,l4,fg⟩;refine dR z z (fd V_ z) ?_;have fh:=j_ aw V.lt eW;refine dE0 z (fs0 (cur':=[vI 0,sN,sl f9 fe ff]) d_K z z (((eV.c bp<|atp bo).e an).c dJ<|djs fh) z z z z) (.inl z) ?_;rintro _ l5 ⟨l6,l7⟩;have dK:=l7.one;refine pD<|Wo<|Wg<|Rm z<|R z (sb_ z z)<|Ra z<|Wl ?_
        have dL:=lt_ eX sh.s;have dN:=lt_ sv.s sh.s;exact λ_ q=>⟨(Q_ av 1,kH,kI,kY),(som i4).symm,⟨f9,fe,ff,dI,q.k<|s7 z z z z z z z,(cM (cM (f_ (cM (f_ (cM (cr ([g1]++[G.z]) we) sv (aa_ (io<|D_ sr)<|io<|F_ sr):Chg (· ∈ ([g1]++[G.z])) we dF) sh:Chg (· ∈ ([g1]++[G.z])) we kC) bp (io<|D_ sr):Chg (· ∈ ([g1]++[G.z])) we f5) an:Chg (· ∈ ([g1]++[G.z])) we f6) dJ (or0 aw (B_ lr):∀k∈Sl,k∈([g1]++[G.z])∨we.z<=k):Chg (· ∈ ([g1]++[G.z])) we l2) dK (io<|F_ sr):Chg (· ∈ ([g1]++[G.z])) we l5),iS _ _,kV,kW,l3.c dK (or2 fg fh (aa_ (j_ (al_ aU) V.lt dL)<|j_ (ar_ aU) V.lt dL) (U_ (c_ V.lt)<|lt_ (lt_ dL bp.s) an.s):∀k∈dI,k∉[G.z]),l4,(or2 fg aw (aa_ (m_ (al_ aU) dN)<|m_ (ar_ aU) dN) (b_o<|lt_ (lt_ dN bp.s) an.s):∀k∈dI,we.z<=k),((kX.e an).c dJ<|djs f8).c dK<|djs bo,l6⟩⟩
       exact We<|λ_ q=>b_N (som<|ifF eB d8).symm ⟨a9,aa,ab,Sl,q.k<|s2 z z,(cM (cr ([g1]++[G.z]) we) sv (aa_ (io<|D_ sr)<|io<|F_ sr):Chg (· ∈ ([g1]++[G.z])) we dF),eU,cn,co,aT,cp,aw,cq,ct⟩
      .rintro ⟨av,al,am,aS⟩ l8 l9 rfl ⟨a9,aa,ab,Sl,_,la,eU,cn,co,aT,cp,aw,cq,ct⟩;have i5:=elL eT;revert l8;exact λ_ q=>⟨al,am,0,aS,som<|c_u i5,a9,aa,ab,Sl,q.k<|s2 z z,(cM (cM (f_ (cr ([g1]++[G.z]) H) so:Chg (· ∈ ([g1]++[G.z])) H kw) su (io<|D_ sr):Chg (· ∈ ([g1]++[G.z])) H we) la (aa_ (io<|D_ sr)<|io<|F_ sr):Chg (· ∈ ([g1]++[G.z])) H l9),cn,co,ii z,aT,cp,m_ aw<|lt_ so.s su.s,cq,ct⟩
      rintro _ _ _ _ rfl ⟨rfl,i6⟩;have i7:=elR eT;obtain rfl:=som i7;have i8:=elR d6;obtain rfl:=som i8;have i9:=elR d3;obtain rfl:=som i9;have ia:=elR d0;obtain rfl:=som ia;have ib:=elR cY;obtain rfl:=som ib;exact ⟨i6,z⟩
     refine Ws<|Rq z z z<|Rw z ?_
     obtain ⟨lc,eC,eD⟩:=bdS<|ifF eS d7;refine Wt (λa w=>∃(bq:Int)(bt:Int)(bu:Int)(cu:List Val),Sum.inl (bq,bt,bu,cu)=lc/\∃cv cw cx bv,Sat 178 [(8,pt wb.z),(10,pt G.z)] a/\Chg (· ∈ ([g1]++[G.z])) H w/\inI bq/\inI bt/\inI bu/\a_ w bv (sl cv cw cx) cu/\bv.Nodup/\(∀k∈bv,H.z<=k)/\Blk w g1 [sl A0 N0 C0,vI bq,vI bt]/\Blk w G.z [vI bu,sN,sl cv cw cx]) ?_ ?_
     .refine Wc z (λd9=>?_)<|λd9=>?_
      .refine Ws<|Rw z ?_
       obtain ⟨_,ic,eE⟩:=bdS<|ifT eC d9;refine Wf (σ:=Int×Int×(List Val)) (ρ:=Val×Int×Int) (λ(fi:Nat) s a w=>un3 (λad ae ax=>∃az Y a0 Si,Sat 178 [(0,pt g1),(3,vI x4),(5,pt w0.z),(8,pt wb.z),(9,pt wc.z),(10,pt G.z),(12,vI ((fi:Nat):Int))] a/\Chg (· ∈ ([g1]++[G.z])) H w/\inI ad/\inI ae/\a_ w Si (sl az Y a0) ax/\Si.Nodup/\(∀k∈Si,H.z<=k)/\Blk w g1 [sl A0 N0 C0,vI ad,vI ae]/\Blk w G.z [vI 0,sN,sl az Y a0]) s) (λs a w=>un3 (λad ae ax=>∃az Y a0 Si,Sat 178 [(8,pt wb.z),(10,pt G.z)] a/\Chg (· ∈ ([g1]++[G.z])) H w/\inI ad/\inI ae/\a_ w Si (sl az Y a0) ax/\Si.Nodup/\(∀k∈Si,H.z<=k)/\Blk w g1 [sl A0 N0 C0,vI ad,vI ae]/\Blk w G.z [vI 0,sN,sl az Y a0]) s) (rQ prog fn<|Q10 w0 g1 B A0 N0 C0 x1) ic ?_ ?_ ?_ ?_ ?_
       .have fj:=lt_ O.s L.s;exact λ_ q=>⟨none,0,0,[],q.k<|s7 z z z z z z z,cr ([g1]++[G.z]) H,a4,a5,onL,G_,an_,((((((hB1.e O).e L).e h5).c h4<|djs<|mm1 (Blk.lt hB1) fj).e h6).c h3<|djs<|mm1 (Blk.lt hB1)<|lt_ (lt_ fj h5.s) h4.s).e I,hw.e I⟩
       .rintro fi ⟨ad,ae,ax⟩ _ fk _ eF ⟨az,Y,a0,Si,id,a1,bw,bx,ay,bz,ao,bA,bB⟩ ie;refine Wu ?_ id;refine Wq<|Wm z<|Rf z J_ z ?_
        have dO:=lt_ O.s L.s;have fl:=mm1 (Blk.lt hB1) dO;have fm:=(ht.e I).c a1<|atp<|nmA fl<|ds aq
        refine R z (l0 A_ z<|fm.at z) ?_;have fo:∀k∈[wc.z],¬B k:=or0 (c_ lr)<|k_<|zt' J dO;have dP:=lt_ (lt_ dO h5.s) h4.s;have cy:∀k∈[G.z],¬B k:=or0 (c_ lr)<|k_<|zt' J dP;have fp:=(((((h5.ag B).c h4<|b_ fo).e h6).c h3<|b_ cy).e I).c a1<|nmA (b_<|c_ hBg)<|b_ cy
        refine R z (lnR v_ z<|aj.g fp)<|Rl z z z<|Wx z (λ_=>?_) (λhc=>(a_6 eF hc).elim)
        refine Wk<|Wq<|Wb (Wd (X:=λk=>k∈[g1]∨fk.z<=k) 40960 (pl_ 16 [11,12,13,15]) mo (by kernel_rfl) λld sj _=>dR z z (fd V_ z) ?_)
        have fq:=bB.e sj;have dS:=mm1 (Blk.lt hB1) dP;have fr:=lt_ h3.s I.s;have fs:=lt_ fr a1.s;refine dR z z (l1 a_9 z (a_t (atp dS)<|Nat.lt_of_lt_of_le V.lt fs)<|fq.at z)<|dM z z z ?_
        have ft:=lt_ (lt_ L.s h5.s) h4.s;have fu:=mm1 hf.lt ft;have fv:=mmr<|Blk.lt hB1
        refine dR z z (lN (vs:=[sl A6 N6 C6]) t_ r_ z z (a_t (atp fv)<|Nat.lt_of_lt_of_le hf.lt<|lt_ (lt_ (lt_ (lt_ ft h6.s) h3.s) I.s) a1.s)<|(((((((aB.e h5).c h4<|djs<|mm1 hf.lt L.s).e h6).c h3<|djs fu).e I).c a1<|atp<|nmA fv<|ds fu).e sj).row 0 1 z)<|dR z z (fd J_ z)<|dR z z (l1 A_ z (a_t (atp fl)<|Nat.lt_of_lt_of_le b1.lt<|lt_ (lt_ (lt_ (lt_ h4.s h6.s) h3.s) I.s) a1.s)<|(fm.e sj).at z)<|dM z z z ?_
        obtain ⟨_,le,ig⟩:=bdS<|b_s ie;refine dRX z z (at_ (α:=Int) v_ z_3 z z z (aj.g<|fp.e sj) le) ?_;rintro _ ⟨_,_,_,rfl,lf,lg,fw⟩;obtain ⟨rfl,lh⟩:=O_ lg;have fx:=lt_ (lt_ (lt_ dP h6.s) h3.s) I.s;have fy:=lt_ fx a1.s;refine dR z z (l1 g_3 z (a_t ((b_<|c_ hBg) _ fw)<|zap (zt' J fy) fw)<|lf.at0 z)<|dM z z z<|dR z z (e_X z z (by decide)) ?_
        have fz:=((((((a7.e h5).c h4<|b_ fo).e h6).c h3<|b_ cy).e I).c a1<|nmA (b_<|c_ hBg)<|b_ cy).e sj;obtain ⟨fA,li,lj,lk,ih⟩:=w_ ig;refine dE z z (fc call17 z<|aZ.run (B:=B) lk (bA.e sj) (zt' J<|lt_ fy sj.s) hBg (W.g fz) bw bx (aA.g fz) lh<|f_r _ _) (.inr λ_ _ h=>h.1.mono λk _ hk=>(io sr) k hk) ?_;rintro _ fB ⟨bC,ll,lm,ln,lo,lp,lq,ls,lu,rfl,lv,lw,lx,ly,lz,lA,dT,aV⟩;refine dE z z (fS [(.tmp 119)] c_4 z z z (a_e z) (lb z)<|lb z) (.inr λ_ _ h=>p_<|h.2.below) ?_;rintro _ fC ⟨rfl,fD⟩;have ap:=fD.below;have fE:=j_ ao (Blk.lt hB1) fx;obtain ⟨lB,lC,ij⟩:=bdS ih;refine dE z z (a_X (α:=Val) c_4 lC z z (((ay.e sj).c bC fE).e ap) bz (fD.blk:Blk fC fB.z [vI fA.number,sl ll lm ln,sl lp lq ls]) (d_C (x:=fA) (S1:=lo) (S2:=lu) lv (lw.e ap)<|lx.e ap) (aa_ (b_H (al_ aV) (a_.lt ay) sj.s)<|b_H (ar_ aV) (a_.lt ay) sj.s)<|na_ (nl_ dT) (nr_ dT)<|nj dT) (.inl z) ?_;rintro _ lD ⟨dU,fF,fG,fH,rfl,dV,lE,lF,fI⟩;refine dR z z (fd V_ z) ?_;have fJ:=j_ ao V.lt fr;refine dE0 z (fs0 (cur':=[vI 0,sN,sl fF fG fH]) d_K z z (((fq.c bC<|atp dS).e ap).c dV<|djs fJ) z z z z) (.inl z) ?_;rintro _ lG ⟨lH,lI⟩;have dW:=lI.one;refine pD<|Wo<|Wg<|Rm z<|R z (inc_ eF (lt_ (repS.len aj) M_) z z)<|Ra z<|Wl ?_
        have dX:=lt_ fs sj.s;have dY:=lt_ a1.s sj.s;exact λ_ q=>⟨(li,lj,lB),(som ij).symm,⟨fF,fG,fH,dU,q.k<|s7 z z z z z z z,(cM (cM (f_ (cM (f_ (cM (cr ([g1]++[G.z]) H) a1 (aa_ (io<|D_ sr)<|io<|F_ sr):Chg (· ∈ ([g1]++[G.z])) H fk) sj:Chg (· ∈ ([g1]++[G.z])) H ld) bC (io<|D_ sr):Chg (· ∈ ([g1]++[G.z])) H fB) ap:Chg (· ∈ ([g1]++[G.z])) H fC) dV (or0 ao (B_ lr):∀k∈Si,k∈([g1]++[G.z])∨H.z<=k):Chg (· ∈ ([g1]++[G.z])) H lD) dW (io<|F_ sr):Chg (· ∈ ([g1]++[G.z])) H lG),ly,lz,lE.c dW (or2 fI fJ (aa_ (j_ (al_ aV) V.lt dX)<|j_ (ar_ aV) V.lt dX) (U_ (c_ V.lt)<|lt_ (lt_ dX bC.s) ap.s):∀k∈dU,k∉[G.z]),lF,(or2 fI ao (aa_ (m_ (al_ aV) dY)<|m_ (ar_ aV) dY) (b_o<|lt_ (lt_ dY bC.s) ap.s):∀k∈dU,H.z<=k),((lA.e ap).c dV<|djs fE).c dW<|djs dS,lH⟩⟩
       .rintro ⟨ad,ae,ax⟩ _ lJ ⟨az,Y,a0,Si,ik,dZ,bw,bx,ay,bz,ao,bA,bB⟩;refine Wu ?_ ik;refine Wq<|Wm z<|Rf z J_ z ?_
        have e0:=lt_ O.s L.s;refine R z (l0 A_ z<|((ht.e I).c dZ<|atp<|nmA (mm1 (Blk.lt hB1) e0)<|ds aq).at z) ?_;have fK:∀k∈[G.z],¬B k:=or0 (c_ lr)<|k_<|zt' J<|lt_ (lt_ e0 h5.s) h4.s;refine R z (lnR v_ z<|aj.g<|(((((h5.ag B).c h4<|b_ (or0 (c_ lr) (k_<|zt' J e0):∀k∈[wc.z],¬B k)).e h6).c h3<|b_ fK).e I).c dZ<|nmA (b_<|c_ hBg)<|b_ fK)<|Rl z z z<|Wx z (λhc=>(a_7 hc).elim) (λ_=>?_)
        exact We<|λ_ q=>⟨rfl,⟨az,Y,a0,Si,q.k<|s2 z z,(cM (cr ([g1]++[G.z]) H) dZ (aa_ (io<|D_ sr)<|io<|F_ sr):Chg (· ∈ ([g1]++[G.z])) H lJ),bw,bx,ay,bz,ao,bA,bB⟩⟩
       .rintro ⟨ad,ae,ax⟩ lK lL rfl ⟨az,Y,a0,Si,_,lM,bw,bx,ay,bz,ao,bA,bB⟩;have il:=elL eE;revert lK;exact λ_ q=>⟨ad,ae,0,ax,som<|b_s il,az,Y,a0,Si,q.k<|s2 z z,(cM (cr ([g1]++[G.z]) H) lM (aa_ (io<|D_ sr)<|io<|F_ sr):Chg (· ∈ ([g1]++[G.z])) H lL),bw,bx,ii z,ay,bz,ao,bA,bB⟩
       rintro _ _ _ _ rfl ⟨rfl,im⟩;have ip:=elR eE;obtain rfl:=som ip;have iq:=elR eD;obtain rfl:=som iq;have ir:=elR d6;obtain rfl:=som ir;have it:=elR d3;obtain rfl:=som it;have iu:=elR d0;obtain rfl:=som iu;have iv:=elR cY;obtain rfl:=som iv;exact ⟨im,z⟩
      refine Ws<|Rq z z z<|Rw z ?_
      obtain ⟨lO,eG,iw⟩:=bdS<|ifF eC d9;refine Wt (λa w=>∃(bD:Int)(bE:Int)(bF:Int)(cz:List Val),(bD,bE,bF,cz)=lO/\∃cA cB cC bG,Sat 178 [(8,pt wb.z),(10,pt G.z)] a/\Chg (· ∈ ([g1]++[G.z])) H w/\inI bD/\inI bE/\inI bF/\a_ w bG (sl cA cB cC) cz/\bG.Nodup/\(∀k∈bG,H.z<=k)/\Blk w g1 [sl A0 N0 C0,vI bD,vI bE]/\Blk w G.z [vI bF,sN,sl cA cB cC]) ?_ ?_
      .refine Wc z (λda=>?_)<|λda=>?_
       .refine Wm z<|Rf z b_1 z ?_
        have fL:=ht.e I;refine R z (l0 A_ z<|fL.at z) ?_;have e1:=lt_ O.s L.s;have fM:∀k∈[wc.z],¬B k:=or0 (c_ lr)<|k_<|zt' J e1;have e2:=lt_ (lt_ e1 h5.s) h4.s;have cD:∀k∈[G.z],¬B k:=or0 (c_ lr)<|k_<|zt' J e2;have fN:=((((h5.ag B).c h4<|b_ fM).e h6).c h3<|b_ cD).e I;have fO:=gM.g fN;refine R z (lnR v_ z fO) ?_;have fP:=((((a7.e h5).c h4<|b_ fM).e h6).c h3<|b_ cD).e I;have fQ:=mm1 (Blk.lt hB1) e1;have bH:=mm1 (Blk.lt hB1) e2;have fR:=lt_ (lt_ (lt_ e2 h6.s) h3.s) I.s;obtain ⟨_,_,_,lP,ix⟩:=w_<|ifT eG da;refine E z (fc call37 z<|b_B (B:=B) lP (((((((hB1.e O).e L).e h5).c h4<|djs fQ).e h6).c h3<|djs bH).e I) (zt' J fR) hBg (W.g fP) a4 a5<|b_0<|repS.len fO) ?_;rintro _ lQ ⟨af,rfl,_,lR,lS,lT⟩;refine Rw z<|Ws<|Rf z b_1 z ?_
        have fT:=fL.c af<|atp fQ
        refine R z (l0 A_ z<|fT.at z)<|Rm z ?_
        obtain ⟨e3,lU,iy⟩:=bdS ix;have fU:=fN.c af<|b_<|c_ hBg
        refine RX z (at_ (α:=Int) v_ z_3 z z z (gM.g fU) lU) ?_;rintro _ ⟨_,_,_,rfl,lV,lW,_⟩;obtain ⟨rfl,lX⟩:=O_ lW;refine R z (l0 g_3 z<|lV.at0 z)<|Rf z a_S z<|E0 (fs0 (cur':=[vI e3,sN,sN]) z_3 z z ((hw.e I).c af<|atp bH) z z z z) ?_
        rintro _ lY ⟨lZ,m0⟩;have ah:=m0.one;refine Wn<|Wd (X:=noX) 9216 (pl_ 14 [10,11,13]) mo (by kernel_rfl) λm1 a2 _=>dM z z z ?_;have fV:=mm1 hf.lt<|lt_ (lt_ L.s h5.s) h4.s
        refine dR z z (lN (vs:=[sl A6 N6 C6]) t_ r_ z z fid<|((((((((aB.e h5).c h4<|djs<|mm1 hf.lt L.s).e h6).c h3<|djs fV).e I).c af<|atp<|mmr<|Blk.lt hB1).c ah<|djs fV).e a2).row 0 1 z)<|dR z z (fd J_ z)<|dR z z (l0 A_ z<|((fT.c ah<|djs aq).e a2).at z)<|dM z z z<|dR z z (add_ z z) ?_
        obtain ⟨_,m2,iz⟩:=bdS iy;refine dRX z z (at_ (α:=Int) v_ z_3 z z z (aj.g<|(fU.c ah<|b_ cD).e a2) m2) ?_;rintro _ ⟨_,_,_,rfl,m3,m4,_⟩;obtain ⟨rfl,m5⟩:=O_ m4;refine dR z z (l0 g_3 z<|m3.at0 z)<|dM z z z<|dR z z (e_X z z (by decide)) ?_
        have fW:=((fP.c af<|b_<|c_ hBg).c ah<|b_ cD).e a2;obtain ⟨e4,m6,m7,m8,iB⟩:=w_ iz;refine dE z z (fc call17 z<|aZ.run (B:=B) m8 ((lT.c ah<|djs bH).e a2) (zt' J<|lt_ (lt_ (lt_ fR af.s) ah.s) a2.s) hBg (W.g fW) lR lS (aA.g fW) m5<|f_r _ _) (.inl z) ?_;rintro _ aW ⟨cE,m9,ma,mb,e5,mc,md,me,e6,rfl,mf,fX,fY,mg,mh,mi,e7,cF⟩;refine dE z z (fS [(.tmp 146)] c_4 z z z (a_e z) (lb z)<|lb z) (.inr λ_ _ h=>p_<|h.2.below) ?_;rintro _ fZ ⟨rfl,e8⟩;have e9:=e8.below;have p4:Blk fZ aW.z [vI e4.number,sl m9 ma mb,sl mc md me]:=e8.blk;refine dR z z (fd V_ z)<|dE0 z (fs0 (cur':=[vI e3,sN,sl (some ⟨aW.z,0,none⟩) 1 1]) d_K z z (((lZ.e a2).c cE<|atp bH).e e9) z z z z) (.inl z) ?_
        rintro _ mj ⟨mk,ml⟩;have ea:=ml.one;refine pD ?_;have eb:=lt_ (lt_ (lt_ (lt_ h3.s I.s) af.s) ah.s) a2.s;have ec:=lt_ (lt_ af.s ah.s) a2.s;exact λ_ q=>⟨m6,m7,e3,[e4],som iB,some ⟨aW.z,0,none⟩,1,1,(aW.z::(e5++e6)),q.k<|s2 z z,(cM (f_ (cM (f_ (cM (cM (cr ([g1]++[G.z]) H) af (io<|D_ sr):Chg (· ∈ ([g1]++[G.z])) H lQ) ah (io<|F_ sr):Chg (· ∈ ([g1]++[G.z])) H lY) a2:Chg (· ∈ ([g1]++[G.z])) H m1) cE (io<|D_ sr):Chg (· ∈ ([g1]++[G.z])) H aW) e9:Chg (· ∈ ([g1]++[G.z])) H fZ) ea (io<|F_ sr):Chg (· ∈ ([g1]++[G.z])) H mj),mg,mh,lX,(a_J e8<|d_C (x:=e4) (S1:=e5) (S2:=e6) mf fX fY).c ea (or1 e_j (aa_ (j_ (al_ cF) V.lt eb)<|j_ (ar_ cF) V.lt eb) (U_ (c_ V.lt)<|lt_ eb cE.s):∀k∈(aW.z::(e5++e6)),k∉[G.z]),i_M (na_ (nl_ e7) (nr_ e7)<|nj e7)<|aa_ (a_.lt fX)<|a_.lt fY,a_s e_j (aa_ (m_ (al_ cF) ec)<|m_ (ar_ cF) ec)<|lt_ ec cE.s,(mi.e e9).c ea<|djs bH,mk⟩
       refine Ws<|Rq z z z<|Rw z ?_
       obtain ⟨mm,eH,iC⟩:=bdS<|ifF eG da;refine Wt (λa w=>∃(bI:Int)(bJ:Int)(cG:List Val),(bI,bJ,cG)=mm/\∃cH cI cJ bK,Sat 178 [(8,pt wb.z),(10,pt G.z)] a/\Chg (· ∈ ([g1]++[G.z])) H w/\inI bI/\inI bJ/\a_ w bK (sl cH cI cJ) cG/\bK.Nodup/\(∀k∈bK,H.z<=k)/\Blk w g1 [sl A0 N0 C0,vI bI,vI bJ]/\Blk w G.z [vI 0,sN,sl cH cI cJ]) ?_ ?_
       .refine Wc z (λdb=>?_)<|λdb=>?_
        .refine Wm z ?_
         have ed:=lt_ O.s L.s;have g0:∀k∈[wc.z],¬B k:=or0 (c_ lr)<|k_<|zt' J ed;have ee:=lt_ (lt_ ed h5.s) h4.s;have g2:∀k∈[G.z],¬B k:=or0 (c_ lr)<|k_<|zt' J ee;have g3:=((((a7.e h5).c h4<|b_ g0).e h6).c h3<|b_ g2).e I;have g4:=mm1 (Blk.lt hB1) ed;have bL:=mm1 (Blk.lt hB1) ee;have g5:=lt_ (lt_ (lt_ ee h6.s) h3.s) I.s;obtain ⟨_,mn,mp,mq,iD⟩:=w_<|ifT eH db;refine E z (fc call43 z<|k_f (B:=B) mq (((((((hB1.e O).e L).e h5).c h4<|djs g4).e h6).c h3<|djs bL).e I) (zt' J g5) hBg (W.g g3) a4 a5<|ii z) ?_;rintro _ ai ⟨a3,rfl,g6,g7,g8⟩;refine Wn ?_;obtain ⟨mr,eI,iE⟩:=bdS iD;refine Wt (λa w=>∃(bM:Int)(bN:Int)(cK:List Val),(bM,bN,cK)=mr/\∃cL cN cO bO,Sat 178 [(8,pt wb.z),(10,pt G.z)] a/\Chg (· ∈ ([g1]++[G.z])) ai w/\inI bM/\inI bN/\a_ w bO (sl cL cN cO) cK/\bO.Nodup/\(∀k∈bO,ai.z<=k)/\Blk w g1 [sl A0 N0 C0,vI bM,vI bN]/\Blk w G.z [vI 0,sN,sl cL cN cO]) ?_ ?_
         .refine Wc z (λdc=>?_)<|λdc=>?_
          .refine Wd (X:=noX) 2304 (pl_ 12 [8,9,11]) mo (by kernel_rfl) λms sp _=>dM z z z ?_
           refine dR z z (lN (vs:=[sl A6 N6 C6]) t_ r_ z z fid<|(((((((aB.e h5).c h4<|djs<|mm1 hf.lt L.s).e h6).c h3<|djs<|mm1 hf.lt<|lt_ (lt_ L.s h5.s) h4.s).e I).c a3<|atp<|mmr<|Blk.lt hB1).e sp).row 0 1 z)<|dR z z (fd J_ z)<|dR z z (l0 A_ z<|(((ht.e I).c a3<|atp g4).e sp).at z) ?_
           obtain ⟨_,mt,iF⟩:=bdS<|ifT eI dc;refine dRX z z (at_ (α:=Int) v_ z_3 z z z (aj.g<|((((((h5.ag B).c h4<|b_ g0).e h6).c h3<|b_ g2).e I).c a3<|b_<|c_ hBg).e sp) mt) ?_;rintro _ ⟨_,_,_,rfl,mu,mw,_⟩;obtain ⟨rfl,mx⟩:=O_ mw;refine dR z z (l0 g_3 z<|mu.at0 z)<|dM z z z<|dR z z (e_X z z (by decide)) ?_
           have g9:=(g3.c a3<|b_<|c_ hBg).e sp;obtain ⟨ef,my,mz,mA,iG⟩:=w_ iF;refine dE z z (fc call17 z<|aZ.run (B:=B) mA (g8.e sp) (zt' J<|lt_ (lt_ g5 a3.s) sp.s) hBg (W.g g9) g6 g7 (aA.g g9) mx<|f_r _ _) (.inl z) ?_;rintro _ aX ⟨cP,mB,mC,mD,eg,mE,mF,mG,eh,rfl,mH,ga,gb,mI,mJ,mK,ei,cQ⟩;refine dE z z (fS [(.tmp 161)] c_4 z z z (a_e z) (lb z)<|lb z) (.inr λ_ _ h=>p_<|h.2.below) ?_;rintro _ gc ⟨rfl,ej⟩;have ek:=ej.below;have p5:Blk gc aX.z [vI ef.number,sl mB mC mD,sl mE mF mG]:=ej.blk;refine dR z z (fd V_ z)<|dE0 z (fs0 (cur':=[vI 0,sN,sl (some ⟨aX.z,0,none⟩) 1 1]) d_K z z (((((hw.e I).c a3<|atp bL).e sp).c cP<|atp bL).e ek) z z z z) (.inl z) ?_
           rintro _ mL ⟨mM,mN⟩;have em:=mN.one;refine pD ?_;have en:=lt_ (lt_ (lt_ h3.s I.s) a3.s) sp.s;exact λ_ q=>⟨my,mz,[ef],som iG,some ⟨aX.z,0,none⟩,1,1,(aX.z::(eg++eh)),q.k<|s2 z z,(cM (f_ (cM (f_ (cr ([g1]++[G.z]) ai) sp:Chg (· ∈ ([g1]++[G.z])) ai ms) cP (io<|D_ sr):Chg (· ∈ ([g1]++[G.z])) ai aX) ek:Chg (· ∈ ([g1]++[G.z])) ai gc) em (io<|F_ sr):Chg (· ∈ ([g1]++[G.z])) ai mL),mI,mJ,(a_J ej<|d_C (x:=ef) (S1:=eg) (S2:=eh) mH ga gb).c em (or1 e_j (aa_ (j_ (al_ cQ) V.lt en)<|j_ (ar_ cQ) V.lt en) (U_ (c_ V.lt)<|lt_ en cP.s):∀k∈(aX.z::(eg++eh)),k∉[G.z]),i_M (na_ (nl_ ei) (nr_ ei)<|nj ei)<|aa_ (a_.lt ga)<|a_.lt gb,a_s e_j (aa_ (m_ (al_ cQ) sp.s)<|m_ (ar_ cQ) sp.s)<|lt_ sp.s cP.s,(mK.e ek).c em<|djs bL,mM⟩
          exact a_k<|λ_ q=>⟨mn,mp,([]:List Val),som<|ifF eI dc,none,0,0,[],q.k<|s2 z z,cr ([g1]++[G.z]) ai,g6,g7,onL,G_,an_,g8,(hw.e I).c a3<|atp bL⟩
         rintro mO mP ⟨bM,bN,cK,rfl,cL,cN,cO,bO,_,mQ,mR,mS,mT,mU,mV,mW,mX⟩;revert mO;exact λ_ q=>⟨bM,bN,cK,som<|b_s iE,cL,cN,cO,bO,q.k<|s2 z z,(cM (cM (cr ([g1]++[G.z]) H) a3 (io<|D_ sr):Chg (· ∈ ([g1]++[G.z])) H ai) mQ (aa_ (io<|D_ sr)<|io<|F_ sr):Chg (· ∈ ([g1]++[G.z])) H mP),mR,mS,mT,mU,m_ mV a3.s,mW,mX⟩
        refine Ws<|Rq z z z<|Rw z ?_
        obtain ⟨mY,eJ,iH⟩:=bdS<|ifF eH db;refine Wt (λa w=>∃(bQ:Int)(bR:Int)(cR:List Val),(bQ,bR,cR)=mY/\∃cS cT cU bS,Sat 178 [(8,pt wb.z),(10,pt G.z)] a/\Chg (· ∈ ([g1]++[G.z])) H w/\inI bQ/\inI bR/\a_ w bS (sl cS cT cU) cR/\bS.Nodup/\(∀k∈bS,H.z<=k)/\Blk w g1 [sl A0 N0 C0,vI bQ,vI bR]/\Blk w G.z [vI 0,sN,sl cS cT cU]) ?_ ?_
        .refine Wc z (λdd=>?_)<|λdd=>?_
         .refine Wd (X:=noX) 2304 (pl_ 12 [8,9,11]) mo (by kernel_rfl) λmZ sq _=>dM z z z ?_
          refine dR z z (lN (vs:=[sl A6 N6 C6]) t_ r_ z z fid<|((((((aB.e h5).c h4<|djs<|mm1 hf.lt L.s).e h6).c h3<|djs<|mm1 hf.lt<|lt_ (lt_ L.s h5.s) h4.s).e I).e sq).row 0 1 z)<|dR z z (fd J_ z)<|dR z z (l0 A_ z<|((ht.e I).e sq).at z) ?_
          obtain ⟨_,n0,iI⟩:=bdS<|ifT eJ dd;have eo:=lt_ O.s L.s;have ge:∀k∈[wc.z],¬B k:=or0 (c_ lr)<|k_<|zt' J eo;have ep:=lt_ (lt_ eo h5.s) h4.s;have gf:∀k∈[G.z],¬B k:=or0 (c_ lr)<|k_<|zt' J ep;refine dRX z z (at_ (α:=Int) v_ z_3 z z z (aj.g<|(((((h5.ag B).c h4<|b_ ge).e h6).c h3<|b_ gf).e I).e sq) n0) ?_;rintro _ ⟨_,_,_,rfl,n1,n2,_⟩;obtain ⟨rfl,n3⟩:=O_ n2;refine dR z z (l0 g_3 z<|n1.at0 z)<|dM z z z<|dR z z (e_X z z (by decide)) ?_
          have gg:=(((((a7.e h5).c h4<|b_ ge).e h6).c h3<|b_ gf).e I).e sq;have eq:=mm1 (Blk.lt hB1) ep;obtain ⟨er,n4,n5,n6,iJ⟩:=w_ iI;refine dE z z (fc call17 z<|aZ.run (B:=B) n6 ((((((((hB1.e O).e L).e h5).c h4<|djs<|mm1 (Blk.lt hB1) eo).e h6).c h3<|djs eq).e I).e sq) (zt' J<|lt_ (lt_ (lt_ (lt_ ep h6.s) h3.s) I.s) sq.s) hBg (W.g gg) a4 a5 (aA.g gg) n3<|f_r _ _) (.inl z) ?_;rintro _ aY ⟨cV,n7,n8,n9,es,na,nb,nc,eu,rfl,nd,gh,gi,ne,nf,ng,ew,cW⟩;refine dE z z (fS [(.tmp 174)] c_4 z z z (a_e z) (lb z)<|lb z) (.inr λ_ _ h=>p_<|h.2.below) ?_;rintro _ gj ⟨rfl,ex⟩;have ey:=ex.below;have p6:Blk gj aY.z [vI er.number,sl n7 n8 n9,sl na nb nc]:=ex.blk;refine dR z z (fd V_ z)<|dE0 z (fs0 (cur':=[vI 0,sN,sl (some ⟨aY.z,0,none⟩) 1 1]) d_K z z ((((hw.e I).e sq).c cV<|atp eq).e ey) z z z z) (.inl z) ?_
          rintro _ nh ⟨ni,nk⟩;have ez:=nk.one;refine pD ?_;have eA:=lt_ (lt_ h3.s I.s) sq.s;exact λ_ q=>⟨n4,n5,[er],som iJ,some ⟨aY.z,0,none⟩,1,1,(aY.z::(es++eu)),q.k<|s2 z z,(cM (f_ (cM (f_ (cr ([g1]++[G.z]) H) sq:Chg (· ∈ ([g1]++[G.z])) H mZ) cV (io<|D_ sr):Chg (· ∈ ([g1]++[G.z])) H aY) ey:Chg (· ∈ ([g1]++[G.z])) H gj) ez (io<|F_ sr):Chg (· ∈ ([g1]++[G.z])) H nh),ne,nf,(a_J ex<|d_C (x:=er) (S1:=es) (S2:=eu) nd gh gi).c ez (or1 e_j (aa_ (j_ (al_ cW) V.lt eA)<|j_ (ar_ cW) V.lt eA) (U_ (c_ V.lt)<|lt_ eA cV.s):∀k∈(aY.z::(es++eu)),k∉[G.z]),i_M (na_ (nl_ ew) (nr_ ew)<|nj ew)<|aa_ (a_.lt gh)<|a_.lt gi,a_s e_j (aa_ (m_ (al_ cW) sq.s)<|m_ (ar_ cW) sq.s)<|lt_ sq.s cV.s,(ng.e ey).c ez<|djs eq,ni⟩
         refine a_k ?_;have gk:=lt_ O.s L.s;exact λ_ q=>⟨x1.i,x1.h,([]:List Val),som<|ifF eJ dd,none,0,0,[],q.k<|s2 z z,cr ([g1]++[G.z]) H,a4,a5,onL,G_,an_,((((((hB1.e O).e L).e h5).c h4<|djs<|mm1 (Blk.lt hB1) gk).e h6).c h3<|djs<|mm1 (Blk.lt hB1)<|lt_ (lt_ gk h5.s) h4.s).e I,hw.e I⟩
        rintro nl nm ⟨bQ,bR,cR,rfl,cS,cT,cU,bS,_,np,nq,nr,ns,nt,nu,nv,nw⟩;revert nl;exact λ_ q=>⟨bQ,bR,cR,som<|b_s iH,cS,cT,cU,bS,q.k<|s2 z z,(cM (cr ([g1]++[G.z]) H) np (aa_ (io<|D_ sr)<|io<|F_ sr):Chg (· ∈ ([g1]++[G.z])) H nm),nq,nr,ns,nt,nu,nv,nw⟩
       rintro nx ny ⟨bI,bJ,cG,rfl,cH,cI,cJ,bK,_,nA,nB,nC,nD,nE,nF,nG,nH⟩;revert nx;exact λ_ q=>⟨bI,bJ,0,cG,som<|b_s iC,cH,cI,cJ,bK,q.k<|s2 z z,(cM (cr ([g1]++[G.z]) H) nA (aa_ (io<|D_ sr)<|io<|F_ sr):Chg (· ∈ ([g1]++[G.z])) H ny),nB,nC,ii z,nD,nE,nF,nG,nH⟩
      rintro nI nJ ⟨bD,bE,bF,cz,rfl,cA,cB,cC,bG,_,nK,nL,nM,nN,nO,nP,nQ,nR,nS⟩;revert nI;exact λ_ q=>⟨bD,bE,bF,cz,som<|c_u iw,cA,cB,cC,bG,q.k<|s2 z z,(cM (cr ([g1]++[G.z]) H) nK (aa_ (io<|D_ sr)<|io<|F_ sr):Chg (· ∈ ([g1]++[G.z])) H nJ),nL,nM,nN,nO,nP,nQ,nR,nS⟩
     rintro nT nU ⟨bq,bt,bu,cu,rfl,cv,cw,cx,bv,_,nV,nW,nX,nY,nZ,o0,o1,o2,o3⟩;have iK:=elL eD;revert nT;exact λ_ q=>⟨bq,bt,bu,cu,som<|c_u iK,cv,cw,cx,bv,q.k<|s2 z z,(cM (cr ([g1]++[G.z]) H) nV (aa_ (io<|D_ sr)<|io<|F_ sr):Chg (· ∈ ([g1]++[G.z])) H nU),nW,nX,nY,nZ,o0,o1,o2,o3⟩
    rintro o4 o5 ⟨bj,bk,bm,ch,rfl,ci,cj,ck,bn,_,o6,o7,o8,o9,oa,ob,oc,od,oe⟩;have iL:=elL d6;revert o4;exact λ_ q=>⟨bj,bk,bm,([]:Bt),ch,som<|c_u iL,none,0,0,[],ci,cj,ck,bn,q.k<|s2 z z,(cM (cr ([g1]++[G.z]) H) o6 (aa_ (io<|D_ sr)<|io<|F_ sr):Chg (· ∈ ([g1]++[G.z])) H o5),o7,o8,o9,onL,G_,an_,oa,ob,oc,nmN _,od,oe⟩
   rintro og oh ⟨b7,b8,b9,c3,c4,rfl,c5,c6,c7,aO,c8,c9,ca,aP,_,oi,oj,ol,om,oo,oq,os,ot,ou,ov,ow,ox,oy⟩;have iM:=elL d3;revert og;exact λ_ q=>⟨b7,b8,b9,c3,c4,som<|c_E iM,c5,c6,c7,aO,c8,c9,ca,aP,q.k<|s2 z z,(cM (f_ (cr ([g1]++[G.z]) wa) I:Chg (· ∈ ([g1]++[G.z])) wa H) oi (aa_ (io<|D_ sr)<|io<|F_ sr):Chg (· ∈ ([g1]++[G.z])) wa oh),oj,ol,om,oo,oq,m_ os I.s,ot,ou,m_ ov I.s,ow,ox,oy⟩
  rintro oz oA ⟨b4,b5,b6,bV,bW,rfl,bX,bY,bZ,aM,c0,c1,c2,aN,_,oB,oC,oD,oE,oF,oG,oH,oI,oJ,oK,oL,oM,oN⟩;have iN:=elL d0;revert oz;exact λ_ q=>⟨b4,b5,b6,bV,bW,som<|c_E iN,bX,bY,bZ,aM,c0,c1,c2,aN,q.k<|s2 z z,(cM (cr ([g1]++[G.z]) wa) oB (aa_ (io<|D_ sr)<|io<|F_ sr):Chg (· ∈ ([g1]++[G.z])) wa oA),oC,oD,oE,oF,oG,oH,oI,oJ,oK,oL,oM,oN⟩
 rintro oO oP ⟨bT,bU,aD,de,df,rfl,aE,aF,aG,aH,aI,aJ,aK,aL,_,gl,oQ,oR,oS,oT,oU,gm,oV,oW,gn,oX,oY,oZ⟩;have iO:=elL cY;revert oO;refine Wo<|Ws<|R z (lN (vs:=[vI aD,sl aE aF aG,sl aI aJ aK]) q_ h_ z z fid<|oZ.row 0 3 z) ?_
 have gp:=lt_ h5.s h4.s;have gq:=mm1 b0.lt gp;have gr:=mm1 (Blk.lt hB1) O.s;refine E0 (fs0 (cur':=[vI aD,sl aE aF aG,sl aI aJ aK]) h_ z z (((((b0.e h5).c h4<|djs<|mmr b0.lt).e h6).c h3<|djs gq).c gl<|atp<|nmA gr<|ds gq) z z z z) ?_;rintro _ p0 ⟨p1,p2⟩;have cX:=p2.one;refine Wn ?_;obtain rfl:=som<|c_E iO;have gs:=lt_ (lt_ gp h6.s) h3.s;have gt:=lt_ O.s L.s;have gu:=lt_ (lt_ gt h5.s) h4.s;have gv:∀k∈[G.z],k∈[g1]∨w0.z<=k:=mor gu;have gw:=lt_ (lt_ gu h6.s) h3.s;exact Wr<|e_ hr (s_ q_ h_ z p1 z) ⟨(cM (cM (cM (f_ (cM (f_ (f_ (f_ (cr [g1] w0) O:Cg [g1] w0 wb) L:Cg [g1] w0 wc) h5:Cg [g1] w0 gN) h4 (mor gt:∀k∈[wc.z],k∈[g1]∨w0.z<=k):Cg [g1] w0 G) h6:Cg [g1] w0 gP) h3 gv:Cg [g1] w0 wa) gl (aa_ (io sr) gv):Cg [g1] w0 oP) cX (mor O.s:∀k∈[wb.z],k∈[g1]∨w0.z<=k):Cg [g1] w0 p0),aE,aF,aG,aH,aI,aJ,aK,aL,z,oS,oT.c cX<|j_ gm b0.lt gs,oV.c cX<|j_ gn b0.lt gs,oQ,oR,oY.c cX<|djs gr,na_ oU oW<|ds oX,aa_ (m_ gm gw)<|m_ gn gw⟩
theorem A_w0f:∀n,m_w n
  | 0=>⟨λhm=>by intros;exact nomatch (show none=some _ from hm)⟩
  | n+1=>T_w0f<|A_w0f n
theorem W_w0f:k_j (e_J n).spec_l9Make:=A_w0f n
theorem d_M {x1:g_}{x2:Int}{x3:Int}{res:Int}(hm:a_Z x1 x2 x3=some res)(aQ:B<=w0.z)(aJ:x1.name.b.length<=LEN)(aK:inI x1.kind)(aL:inI x1.size)(aM:repS w0 B (sl AB NB CB) x1.bytes)(aN:repS w0 B (sl AA NA CA) x1.names)(I:repS w0 B (sl AC NC CC) x1.tags)(J:repS w0 B (sl AD ND CD) x1.kids)(aO:inI x2)(aP:inI x3):l_ prog 31 [(.agg #[Str.v x1.name,vI x1.kind,vI x1.size,vB x1.little,sl AB NB CB,sl AA NA CA,sl AC NC CC,sl AD ND CD]),vI x2,vI x3] w0 (Q9 w0 B res):=by
 unfold a_Z at hm
 refine goG func31 z z z λfn hr=>Ws<|E z (fb z) ?_
 rintro _ G ⟨rfl,hi⟩;have H:=hi.below;have h2:Blk G w0.z (vR x1 AB NB CB AA NA CA AC NC CC AD ND CD):=hi.blk;refine Rw z<|Wq<|Ws<|Rf z a_u z<|R z (l0 g_3 z<|h2.at z)<|Wn<|Wb<|Ws<|Rq z z z<|Rw z<|Wc z (λO=>?_) (λO=>?_)
 .refine Ws<|Rf z J_ z<|R z (l0 A_ z<|h2.at z) ?_
  obtain ⟨_,eu,hmv⟩:=bdS<|ifT hm O;refine RX z (at_ (α:=Int) v_ z_3 z z z (J.e H) eu) ?_;rintro _ ⟨_,_,_,rfl,hw,hx,_⟩;obtain ⟨rfl,hy⟩:=O_ hx;refine R z (l0 g_3 z<|hw.at0 z)<|Rw z ?_
  obtain rfl:=som hmv;exact Wr<|rtO<|e_ hr z ⟨H,z,hy⟩
 refine Ws<|Rq z z z<|Rw z ?_
 obtain ⟨uz,huj,L⟩:=bdS<|ifF hm O;refine Wt (λa w=>Sum.inl ()=uz/\Sat 57 [] a/\Below G.z G w) ?_ ?_
 .refine Wc z (λV=>?_)<|λV=>?_
  .have hmk:=ifT huj V;refine Wm z<|Rf z J_ z<|R z (l0 A_ z<|h2.at z) ?_
   have hl:=J.e H;refine R z (lnR v_ z hl)<|Rl z z z<|Wx z (λW=>?_) (λW=>?_)
   .refine Ws<|Rf z J_ z<|R z (l0 A_ z<|h2.at z)<|Rm z ?_
    obtain ⟨_,aj,a0⟩:=bdS<|ifT hmk W;refine RX z (at_ (α:=Int) v_ z_3 z z z hl aj) ?_;rintro _ ⟨_,_,_,rfl,ak,al,_⟩;obtain ⟨rfl,am⟩:=O_ al;refine R z (l0 g_3 z<|ak.at0 z)<|Rw z ?_
    obtain rfl:=som a0;have a1:=elR L;obtain rfl:=som a1;exact Wr<|rtO<|e_ hr z ⟨H,z,am⟩
   exact a_k<|λ_ q=>⟨som<|ifF hmk W,q.k sn,br G⟩
  refine Ws<|Rq z z z<|Rw z ?_
  obtain ⟨an,hum,Y⟩:=bdS<|ifF huj V;refine Wt (λa w=>Sum.inl ()=an/\Sat 57 [] a/\Below G.z G w) ?_ ?_
  .refine Wc z (λhca=>?_)<|λhca=>?_
   .refine Ws<|Rw z ?_
    obtain ⟨_,a2,hmn⟩:=bdS<|ifT hum hca;refine Wf (σ:=Unit) (ρ:=Int) (λ(ko:Nat)(_:Unit) a w=>Sat 57 [(1,vI x2),(3,pt w0.z),(7,vI ((ko:Nat):Int))] a/\Below G.z G w) (λ(_:Unit) a w=>Sat 57 [] a/\Below G.z G w) (rQ prog fn<|Q9 w0 B) a2 ?_ ?_ ?_ ?_ ?_
    .exact λ_ q=>⟨q.k<|s3 z z z,br G⟩
    .rintro ko _ _ _ _ hkb ⟨a3,s4⟩ a4;refine Wu ?_ a3;refine Wq<|Wm z<|Rf z b_1 z ?_
     have hd:=h2.e s4;refine R z (l0 A_ z<|hd.at z) ?_;have hp:=(H.ag B).e s4;have hq:=I.g hp;refine R z (lnR v_ z hq)<|Rl z z z<|Wx z (λ_=>?_) (λhc=>(a_6 hkb hc).elim)
     refine Wk<|Wq<|Wb<|Ws<|Rf z b_1 z<|R z (l0 A_ z<|hd.at z)<|Rm z ?_
     obtain ⟨_,ao,hmr⟩:=bdS a4;refine RX z (at_ (α:=Int) v_ z_3 z z z hq ao) ?_;rintro _ ⟨_,_,_,rfl,ap,aq,_⟩;obtain ⟨rfl,_⟩:=O_ aq;refine R z (l0 g_3 z<|ap.at0 z)<|Rm z<|Rq z z z<|Wx z (λhcc=>?_) (λhcc=>?_)
     .refine Ws<|Rf z J_ z<|R z (l0 A_ z<|hd.at z)<|Rm z<|R z (inc_ hkb (lt_ (repS.len I) M_) z z) ?_
      obtain ⟨_,ar,a5⟩:=bdS<|ifT hmr hcc;refine RX z (at_ (α:=Int) v_ z_3 z z z (J.g hp) ar) ?_;rintro _ ⟨_,_,_,rfl,au,av,_⟩;obtain ⟨rfl,aw⟩:=O_ av;exact R z (l0 g_3 z<|au.at0 z)<|Rw z<|Wr<|rtO<|qL (som a5).symm<|e_ hr z ⟨bup H s4,z,aw⟩
     exact Wk<|Wg<|Rm z<|R z (inc_ hkb (lt_ (repS.len I) M_) z z)<|Ra z<|Wl (λ_ q=>⟨(),(som<|ifF hmr hcc).symm,⟨q.k<|s3 z z z,s4⟩⟩)
    .rintro _ _ _ ⟨a6,se⟩;refine Wu ?_ a6;refine Wq<|Wm z<|Rf z b_1 z<|R z (l0 A_ z<|(h2.e se).at z)<|R z (lnR v_ z<|I.g<|(H.ag B).e se)<|Rl z z z<|Wx z (λhc=>(a_7 hc).elim) (λ_=>?_)
     exact We<|λ_ q=>⟨rfl,⟨q.k sn,se⟩⟩
    .rintro _ ax _ rfl ⟨_,ay⟩;have a7:=elL hmn;revert ax;exact λ_ q=>⟨som a7,q.k sn,ay⟩
    rintro _ _ _ _ rfl ⟨rfl,a8⟩;have a9:=elR hmn;obtain rfl:=som a9;have aa:=elR Y;obtain rfl:=som aa;have ab:=elR L;obtain rfl:=som ab;exact ⟨a8,z⟩
   refine Wq<|Ws<|Rq z z z<|Rw z ?_
   obtain ⟨az,hus,hmt⟩:=bdS<|ifF hum hca;refine Wt (λa w=>∃(xf:Bool),xf=az/\Sat 57 [(3,pt w0.z),(50,vB xf)] a/\Below G.z G w) ?_ ?_
   .refine Wc z (λhcg=>?_)<|λhcg=>?_
    .exact a_k<|λ_ q=>⟨x1.kind==8,som<|ifT hus hcg,q.k<|s2 z z,br G⟩
    exact Wg<|Rq z z z<|Ra z<|Wl (λ_ q=>⟨x1.kind==9,som<|ifF hus hcg,q.k<|s2 z z,br G⟩)
   rintro aA _ ⟨xf,rfl,_,s5⟩;revert aA;refine Wo<|Wc z (λhch=>?_) (λhch=>?_)
   .refine Ws<|Rf z J_ z<|R z (l0 A_ z<|(h2.e s5).at z) ?_
    obtain ⟨_,aB,ad⟩:=bdS<|ifT hmt hch;refine RX z (at_ (α:=Int) v_ z_3 z z z (J.g<|(H.ag B).e s5) aB) ?_;rintro _ ⟨_,_,_,rfl,aC,aD,_⟩;obtain ⟨rfl,aE⟩:=O_ aD;refine R z (l0 g_3 z<|aC.at0 z)<|Rw z ?_
    obtain rfl:=som ad;have ae:=elR Y;obtain rfl:=som ae;have af:=elR L;obtain rfl:=som af;exact Wr<|rtO<|e_ hr z ⟨bup H s5,z,aE⟩
   exact a_k<|λ_ q=>⟨som<|ifF hmt hch,q.k sn,s5⟩
  rintro aF _ ⟨rfl,_,aG⟩;have ah:=elL Y;revert aF;exact λ_ q=>⟨som ah,q.k sn,aG⟩
 rintro aH _ ⟨rfl,_,aI⟩;have ai:=elL L;revert aH;refine Wo<|Ws<|Rw z ?_
 obtain rfl:=som ai;exact Wr<|e_ hr z ⟨bup H aI,z,ii z⟩
theorem b_t {x1:Int}{x2:Int}{x3:Int}{res:Bool}(hm:a_Y x1 x2 x3=some res)(Y:B<=w0.z)(O:inI x1)(V:inI x2)(W:inI x3):l_ prog 50 [vI x1,vI x2,vI x3] w0 (Q0 w0 B res):=by
 unfold a_Y at hm
 refine goG func50 z z z λfn hr=>Ws<|Rw z<|Wq ?_
 obtain ⟨J,H,I⟩:=bdS hm;refine Wt (λa w=>∃(x4:Bool),x4=J/\Sat 15 [(6,vB x4)] a/\Below w0.z w0 w) ?_ ?_
 .refine Wg<|RM z z<|R z (b_R z z)<|Rm z ?_
  rcases bs (decide<|x2<=x1) with G | G
  .exact Rh z G (mv z)<|Rh z G (mv z)<|Rh z G (c_5 z z)<|R z (pT z G z)<|Ra z<|Wl (λ_ q=>⟨decide<|x1<=x3,som<|ifT H G,q.k<|s1 z,br w0⟩)
  iterate 3 refine Nh z G ?_
  exact R z (pF z G z)<|Ra z<|Wl (λ_ q=>⟨false,som<|ifF H G,q.k<|s1 z,br w0⟩)
 rintro L _ ⟨x4,rfl,_,s6⟩;revert L;refine Wo ?_;obtain rfl:=som I;exact Wr<|e_ hr z ⟨s6,z⟩
def Q11 (w0:World)(B:Zone)(r:Bt)(v:Value)(w':World):Prop:=Bw w0 w'/\(λJ=>∃G H I S1,(sl G H I)=v/\a_ w' S1 (sl G H I) J/\S1.Nodup/\(∀k∈S1,w0.z<=k)) r
theorem W_w1e {x1:Int}{x2:Int}{res:Bt}(hm:g_o n x1 x2=some res)(W:B<=w0.z)(a0:inI x1)(Y:inI x2):l_ prog 75 [vI x1,vI x2] w0 (Q11 w0 B res):=by
 unfold g_o at hm
 refine goG func75 z z z λfn hr=>Ws<|Rw z<|Ws<|E z (f0 (α:=UInt8) a_2) ?_
 rintro _ wm ⟨ad,ne,cf,rfl,s7,hp⟩;refine Rw z<|Wq<|Wq ?_
 obtain ⟨af,a1,hmq⟩:=bdS hm;refine Wt (λa w=>∃(xg:Bool),xg=af/\Sat 35 [(0,vI x1),(1,vI x2),(5,sl ad ne cf),(18,vB xg)] a/\Below wm.z wm w) ?_ ?_
 .refine Wg<|Rm z ?_
  obtain ⟨ah,ai,hmr⟩:=bdS a1;refine E z (fc call50 z<|b_t ai (zt' W s7.s) Y (ii z)<|ii z) ?_;rintro _ _ ⟨sh,rfl⟩;refine R z (not_ z)<|Rm z ?_
  rcases bs (!ah) with I | I
  .iterate 6 refine Nh z I ?_
   exact R z (pT z I z)<|Wl (λ_ q=>⟨true,som<|ifT hmr I,q.k<|s4 z z z z,sh⟩)
  refine Rh z I (mv z)<|Rh z I (mv z) ?_
  have ht:=lt_ s7.s sh.s;obtain ⟨_,aj,a2⟩:=bdS<|ifF hmr I;refine Eg z z I z (fc call41 z<|i_T aj (zt' W ht) Y) ?_;rintro _ _ ⟨ss,rfl,_⟩;refine Rh z I (sb_ z z) ?_;obtain ⟨ak,al,a4⟩:=bdS a2;refine Eg z z I z (fc call50 z<|b_t al (zt' W<|lt_ ht ss.s) a0 (ii z)<|iS _ _) ?_;rintro _ _ ⟨am,rfl⟩;exact Rh z I (not_ z)<|R z (pF z I z)<|Wl (λ_ q=>⟨!ak,som a4,q.k<|s4 z z z z,bup (bup sh ss) am⟩)
 rintro an G ⟨xg,rfl,_,s8⟩;revert an;refine Wo<|Wc z (λhci=>?_) (λhci=>?_)
 .refine Wm z<|Rw z ?_
  obtain rfl:=som<|ifT hmq hci;exact Wr<|e_ hr z ⟨bup s7 s8,ad,ne,cf,[w0.z],z,hp.e s8,a_y,c_ lr⟩
 refine Wk<|Wq<|Wm z<|R z (sb_ z z)<|Rw z ?_
 obtain ⟨_,a5,hmu⟩:=bdS<|ifF hmq hci;refine c_f (σ:=Bt×Int) (ρ:=Bt) (λs a w=>un2 (λV x6=>∃J L O H,Sat 35 [(0,vI x1),(5,sl J L O),(6,vI x6)] a/\Cg [w0.z] G w/\a_ w H (sl J L O) V/\H.Nodup/\(∀k∈H,k∈[w0.z]∨G.z<=k)/\inI x6) s) (λs a w=>un2 (λV x6=>∃J L O H,Sat 35 [(5,sl J L O)] a/\Cg [w0.z] G w/\a_ w H (sl J L O) V/\H.Nodup/\(∀k∈H,k∈[w0.z]∨G.z<=k)/\inI x6) s) (rQ prog fn<|Q11 w0 B) a5 ?_ ?_ ?_ ?_
 .exact λ_ q=>⟨ad,ne,cf,[w0.z],q.k<|s3 z z z,cr [w0.z] G,hp.e s8,a_y,io sr,iS _ _⟩
 .rintro ⟨V,x6⟩ _ wj _ ⟨J,L,O,H,a6,sk,ha,hb,hc,hv⟩ a7;have hmw:=a_O a7;refine Wu ?_ a6;refine Wq<|Wm z<|R z (b_R z z)<|Wx z (λhcl=>?_) (λhcl=>?_)
  .refine Wk<|Wq<|Wb<|Wg<|RM z z<|Rm z<|R z (c_K z z) ?_
   obtain ⟨_,ao,a8⟩:=bdS<|ifT hmw hcl;refine R z (j_c z z<|nnS ao)<|R z (e_N d_3 d_5 z)<|E z (fS [(.tmp 31)] a_2 z z z (a_e z) (lb z)<|lb z) ?_
   rintro _ wx ⟨rfl,hn⟩;have ho:=hn.below;have aD:=a_J hn b_n;obtain ⟨ap,aq,a9⟩:=bdS a8;refine E z (a_X (α:=UInt8) a_2 aq z z (ha.e ho) hb (hn.blk:Blk wx wj.z [(vU<|byteI<|mkB<|c_g .i64 x1<|a_f 8 x6)]) b_n an_ G_) ?_;rintro _ ar ⟨Sy,au,av,aw,rfl,ax,ay,az,aA⟩;refine Rw z<|Wg<|Rm z<|R z (sb_ z z)<|Ra z<|Wl ?_
   have hz:∀k∈H,k∈[w0.z]∨G.z<=k:=or1 hc (io sr)<|B_ lr;exact λ_ q=>⟨(ap,Q_ x6 1),(som a9).symm,⟨au,av,aw,Sy,q.k<|s3 z z z,(cM (f_ (cM (cr [w0.z] G) sk (io sr):Cg [w0.z] G wj) ho:Cg [w0.z] G wx) ax hz:Cg [w0.z] G ar),ay,az,(or2 aA hz an_ (B_<|lt_ sk.s ho.s):∀k∈Sy,k∈[w0.z]∨G.z<=k),iS _ _⟩⟩
  exact We<|λ_ q=>b_N (som<|ifF hmw hcl).symm ⟨J,L,O,H,q.k<|s1 z,(cM (cr [w0.z] G) sk (io sr):Cg [w0.z] G wj),ha,hb,(or1 hc (io sr) (B_ lr):∀k∈H,k∈[w0.z]∨G.z<=k),hv⟩
 .rintro ⟨V,x6⟩ aB _ rfl ⟨J,L,O,H,_,aC,ha,hb,hc,hv⟩;have aa:=elL hmu;revert aB;refine Wo<|Wm z<|Rw z ?_
  obtain rfl:=som<|a_O aa;exact Wr<|e_ hr z ⟨bM (bup s7 s8) aC<|c_ lr,J,L,O,H,z,ha,hb,(or1 hc (c_ lr) (b_o<|lt_ s7.s s8.s):∀k∈H,w0.z<=k)⟩
 rintro _ _ _ _ rfl ⟨rfl,ab⟩;have ae:=elR hmu;obtain rfl:=som ae;exact ⟨ab,z⟩
theorem W_w2e {x1:Int}{x2:Int}{res:Bt}(hm:g_B n x1 x2=some res)(aa:B<=w0.z)(Y:inI x1)(a0:inI x2):l_ prog 74 [vI x1,vI x2] w0 (Q11 w0 B res):=by
 unfold g_B at hm
 refine goG func74 z z z λfn hr=>Ws<|Rw z<|Wm z<|Rm z ?_
 obtain ⟨_,er,hms⟩:=bdS hm;refine E z (fc call75 z<|W_w1e (B:=B) er aa Y a0) ?_;rintro _ G ⟨sd,au,nt,cv,_,rfl,W,_,_⟩;refine Rw z<|Ws<|E z (f0 (α:=UInt8) a_2) ?_
 rintro _ H ⟨aw,nx,cy,rfl,se,hz⟩;refine Rw z<|Wq<|Wm z ?_
 have hj:=W.e se;refine R z (lnR n_ z<|or_ hj<|a_.lt W)<|R z (sb_ z z)<|Rw z ?_
 obtain ⟨_,a1,hmk⟩:=bdS hms;refine c_f (σ:=Bt×Int) (ρ:=Bt) (λs a w=>un2 (λV x6=>∃J L O I,Sat 27 [(5,sl au nt cv),(6,sl J L O),(7,vI x6)] a/\Cg [G.z] H w/\a_ w I (sl J L O) V/\I.Nodup/\(∀k∈I,k∈[G.z]∨H.z<=k)/\inI x6) s) (λs a w=>un2 (λV x6=>∃J L O I,Sat 27 [(6,sl J L O)] a/\Cg [G.z] H w/\a_ w I (sl J L O) V/\I.Nodup/\(∀k∈I,k∈[G.z]∨H.z<=k)/\inI x6) s) (rQ prog fn<|Q11 w0 B) a1 ?_ ?_ ?_ ?_
 .exact λ_ q=>⟨aw,nx,cy,[G.z],q.k<|s3 z z z,cr [G.z] H,hz,a_y,io sr,iS _ _⟩
 .rintro ⟨V,x6⟩ _ wf _ ⟨J,L,O,I,a2,s9,ha,hb,hc,hl⟩ a4;have hmm:=a_O a4;refine Wu ?_ a2;refine Wq<|Wm z<|R z (b_R z z)<|Wx z (λhcg=>?_) (λhcg=>?_)
  .refine Wk<|Wq<|Wb<|Wg<|RM z z<|Rm z ?_
   obtain ⟨ab,ad,a5⟩:=bdS<|ifT hmm hcg;refine RX z (at_ (α:=UInt8) n_ z_5 z z z (or_ (hj.c s9<|ds<|mnr<|a_.lt W)<|a_.lt W) ad) ?_;rintro _ ⟨_,_,_,rfl,ae,af,_⟩;obtain rfl:=u8 af;refine R z (l0 g_5 z<|ae.at0 z)<|E z (fS [(.tmp 23)] a_2 z z z (a_e z) (lb z)<|lb z) ?_
   rintro _ wn ⟨rfl,hh⟩;have hi:=hh.below;have ax:=a_J hh b_n;obtain ⟨ah,ai,a6⟩:=bdS a5;refine E z (a_X (α:=UInt8) a_2 ai z z (ha.e hi) hb (hh.blk:Blk wn wf.z [vU (byteI ab)]) b_n an_ G_) ?_;rintro _ aj ⟨So,ak,al,am,rfl,an,ao,ap,aq⟩;refine Rw z<|Wg<|Rm z<|R z (sb_ z z)<|Ra z<|Wl ?_
   have hp:∀k∈I,k∈[G.z]∨H.z<=k:=or1 hc (io sr)<|B_ lr;exact λ_ q=>⟨(ah,Q_ x6 1),(som a6).symm,⟨ak,al,am,So,q.k<|s3 z z z,(cM (f_ (cM (cr [G.z] H) s9 (io sr):Cg [G.z] H wf) hi:Cg [G.z] H wn) an hp:Cg [G.z] H aj),ao,ap,(or2 aq hp an_ (B_<|lt_ s9.s hi.s):∀k∈So,k∈[G.z]∨H.z<=k),iS _ _⟩⟩
  exact We<|λ_ q=>b_N (som<|ifF hmm hcg).symm ⟨J,L,O,I,q.k<|s1 z,(cM (cr [G.z] H) s9 (io sr):Cg [G.z] H wf),ha,hb,(or1 hc (io sr) (B_ lr):∀k∈I,k∈[G.z]∨H.z<=k),hl⟩
 .rintro ⟨V,x6⟩ ar _ rfl ⟨J,L,O,I,_,av,ha,hb,hc,hl⟩;have a7:=elL hmk;revert ar;refine Wo<|Wm z<|Rw z ?_
  obtain rfl:=som<|a_O a7;have hq:=m1 sd.s;exact Wr<|e_ hr z ⟨bM (bup sd se) av hq,J,L,O,I,z,ha,hb,a_s hc hq<|lt_ sd.s se.s⟩
 rintro _ _ _ _ rfl ⟨rfl,a8⟩;have a9:=elR hmk;obtain rfl:=som a9;exact ⟨a8,z⟩
theorem i_U {x1:g_}{x2:Int}{res:Bt}(hm:e_b n x1 x2=some res)(L:B<=w0.z)(a0:x1.name.b.length<=LEN)(a1:inI x1.kind)(I:inI x1.size)(a2:repS w0 B (sl AB NB CB) x1.bytes)(a3:repS w0 B (sl AA NA CA) x1.names)(a4:repS w0 B (sl AC NC CC) x1.tags)(a5:repS w0 B (sl AD ND CD) x1.kids)(J:inI x2):l_ prog 38 [(.agg #[Str.v x1.name,vI x1.kind,vI x1.size,vB x1.little,sl AB NB CB,sl AA NA CA,sl AC NC CC,sl AD ND CD]),vI x2] w0 (Q11 w0 B res):=by
 unfold e_b at hm
 refine goG func38 z z z λfn hr=>Ws<|E z (fb z) ?_
 rintro _ V ⟨rfl,h3⟩;have G:=h3.below;have h1:Blk V w0.z (vR x1 AB NB CB AA NA CA AC NC CC AD ND CD):=h3.blk;refine Rw z<|Wq<|Ws<|Rf z c_V z<|R z (l0 g_4 z<|h1.at z)<|Wx z (λH=>?_) (λH=>?_)
 .refine Wm z<|Rf z a_F z<|R z (l0 g_3 z<|h1.at z) ?_
  obtain ⟨_,W,O⟩:=bdS<|ifT hm H;refine E z (fc call74 z<|W_w2e W (zt' L G.s) J I) ?_;rintro _ _ ⟨s7,Y,n9,ca,Sb,rfl,hc,hd,he⟩;refine Rw z ?_
  obtain rfl:=som O;exact Wr<|e_ hr z ⟨bup G s7,Y,n9,ca,Sb,z,hc,hd,m_ he G.s⟩
 refine Wk<|Wm z<|Rf z a_F z<|R z (l0 g_3 z<|h1.at z) ?_
 obtain ⟨_,ef,hmg⟩:=bdS<|ifF hm H;refine E z (fc call75 z<|W_w1e ef (zt' L G.s) J I) ?_;rintro _ _ ⟨sh,ai,nj,ck,Sl,rfl,hn,ho,hp⟩;refine Rw z ?_
 obtain rfl:=som hmg;exact Wr<|e_ hr z ⟨bup G sh,ai,nj,ck,Sl,z,hn,ho,m_ hp G.s⟩
theorem W_w1f {x1:Bt}{res:Int}(hm:g_8 x1=some res)(O:B<=w0.z)(G:repS w0 B (sl A0 N0 C0) x1):l_ prog 39 [sl A0 N0 C0] w0 (Q9 w0 B res):=by
 unfold g_8 at hm
 refine goG func39 z z z λfn hr=>Ws<|Rw z<|Ws<|Rw z<|Wq<|Ws<|Rw z ?_
 obtain ⟨_,J,H⟩:=bdS hm;refine Wf (σ:=Int) (ρ:=Int) (λ(k3:Nat)(x0:Int) a w=>Sat 20 [(0,sl A0 N0 C0),(3,vI x0),(4,vI ((k3:Nat):Int))] a/\Below w0.z w0 w/\inI x0) (λ(x0:Int) a w=>Sat 20 [(3,vI x0)] a/\Below w0.z w0 w/\inI x0) (rQ prog fn<|Q9 w0 B) J ?_ ?_ ?_ ?_ ?_
 .exact λ_ q=>⟨q.k<|s3 z z z,br w0,ii z⟩
 .rintro k3 x0 _ _ _ I ⟨L,s5,h1⟩ hma;refine Wu ?_ L;refine Wq<|Wm z<|Rm z ?_
  have h6:=G.e s5;refine R z (lnR n_ z h6)<|Rl z z z<|Wx z (λ_=>?_) (λhc=>(a_6 I hc).elim)
  refine Wk<|Wq<|Wb<|Wg<|RM z z<|Rm z ?_
  obtain ⟨xb,ec,hmd⟩:=bdS hma;refine RX z (at_ (α:=UInt8) n_ z_5 z z z h6 ec) ?_;rintro _ ⟨_,_,_,rfl,he,hf,_⟩;obtain rfl:=u8 hf;exact R z (l0 g_5 z<|he.at0 z)<|R z (b_W d_5 d_3 z)<|R z (add_ z z)<|R z (f_E z z (by decide))<|Rw z<|Wg<|Rm z<|R z (inc_ I (lt_ (repS.len G) M_) z z)<|Ra z<|Wl (λ_ q=>⟨b_2 (i_ x0<|byteI xb) 256,(som hmd).symm,⟨q.k<|s3 z z z,s5,g_H<|iA _ _⟩⟩)
 .rintro x0 _ _ ⟨hSg,s7,h1⟩;refine Wu ?_ hSg;refine Wq<|Wm z<|Rm z<|R z (lnR n_ z<|G.e s7)<|Rl z z z<|Wx z (λhc=>(a_7 hc).elim) (λ_=>?_)
  exact We<|λ_ q=>⟨rfl,⟨q.k<|s1 z,s7,h1⟩⟩
 .rintro x0 ah _ rfl ⟨_,si,h1⟩;have hmj:=elL H;revert ah;refine Wo<|Wm z<|Rw z ?_
  obtain rfl:=som hmj;exact Wr<|e_ hr z ⟨si,z,h1⟩
 rintro _ _ _ _ rfl ⟨rfl,hqk⟩;have hml:=elR H;obtain rfl:=som hml;exact ⟨hqk,z⟩
structure k_k (f:d_->Int->Val->Option Bt):Prop where
  run:∀{A0 A7 A8:Option Addr}{N0 C0 N7 C7 N8 C8:Nat}{B:Zone}{x1:d_}{x2:Int}{x3:Val}{res:Bt}{w0:World}(hm:f x1 x2 x3=some res)(hBw:B<=w0.z)(p1_0:repS w0 B (sl A0 N0 C0) x1.rules)(p2_0:inI x2)(p3_0:inI x3.number)(p3_1:repS w0 B (sl A7 N7 C7) x3.bytes)(p3_2:repS w0 B (sl A8 N8 C8) x3.items),l_ prog 16 [(.agg #[sl A0 N0 C0]),vI x2,(.agg #[vI x3.number,sl A7 N7 C7,sl A8 N8 C8])] w0<|Q11 w0 B res
abbrev m_x (n:Nat):Prop:=k_k (e_c n).spec_l11Print
theorem T_w0d (gW:m_x n):k_k (g_C n<|e_c n):=by
 constructor
 intro A0 A7 A8 N0 C0 N7 C7 N8 C8 B x1 x2 x3 res w0 hm H a4 j0 aA O V;unfold g_C at hm
 refine goG func16 z z z λfn hr=>Ws<|E z (fb z) ?_
 rintro _ wm ⟨rfl,bS⟩;have J:=bS.below;have ho:Blk wm w0.z [sl A0 N0 C0]:=bS.blk;refine E z (fb z) ?_;rintro _ wa ⟨rfl,bT⟩;have h4:=bT.below;have h5:Blk wa wm.z [vI x3.number,sl A7 N7 C7,sl A8 N8 C8]:=bT.blk;refine Rw z<|Ws<|Rf z a_3 z ?_
 have a5:=ho.e h4;refine R z (l0 a_8 z<|a5.at z)<|Rm z ?_
 obtain ⟨aa,gX,dK⟩:=bdS hm;have hn:=(J.ag B).e h4;refine RX z (at_ (α:=g_) a_a o_ z z z (a4.g hn) gX) ?_;rintro _ ⟨_,_,_,rfl,gY,gZ,_⟩;obtain ⟨ab,ad,ae,af,ai,ak,al,am,an,ao,ap,aq,rfl,bU,bV,bW,a6,bX,bY,a7⟩:=a_D gZ;refine R z (lN (vs:=vR aa ab ad ae af ai ak al am an ao ap aq) L_ o_ z z fid gY)<|E z (fa b_P) ?_
 rintro _ h2 ⟨rfl,bZ⟩;have h1:=bZ.below;have a8:Blk h2 wa.z [(Str.v (⟨[]⟩:Str)),vI 0,vI 0,vB false,sN,sN,sN,sN]:=bZ.blk;refine E0 (fs0 (cur':=vR aa ab ad ae af ai ak al am an ao ap aq) o_ z z a8 z z z z) ?_;rintro _ I ⟨c0,h3⟩;have G:=h3.one;refine Wn<|Ws<|E z (f0 (α:=UInt8) a_2) ?_
 rintro _ wc ⟨h6,h7,h9,rfl,s3,ha⟩;refine Rw z<|Wq<|Ws<|Rw z ?_
 obtain ⟨_,dL,bD⟩:=bdS dK;refine Wf (σ:=Bt) (ρ:=Bt) (λ(c1:Nat)(W:Bt) a w=>∃ah ng ci S2,Sat 169 [(3,pt w0.z),(5,pt wm.z),(7,pt wa.z),(8,sl ah ng ci),(9,vI ((c1:Nat):Int))] a/\Cg [I.z] wc w/\a_ w S2 (sl ah ng ci) W/\S2.Nodup/\(∀k∈S2,k∈[I.z]∨wc.z<=k)) (λ(W:Bt) a w=>∃ah ng ci S2,Sat 169 [(3,pt w0.z),(5,pt wm.z),(7,pt wa.z),(8,sl ah ng ci)] a/\Cg [I.z] wc w/\a_ w S2 (sl ah ng ci) W/\S2.Nodup/\(∀k∈S2,k∈[I.z]∨wc.z<=k)) (rQ prog fn<|Q11 w0 B) dL ?_ ?_ ?_ ?_ ?_
 .exact λ_ q=>⟨h6,h7,h9,[I.z],q.k<|s5 z z z z z,cr [I.z] wc,ha,a_y,io sr⟩
 .rintro c1 W _ hb _ aB ⟨ah,ng,ci,S2,dN,ss,hd,hw,he⟩ dO;refine Wu ?_ dN;refine Wq<|Wm z<|Rf z V_ z ?_
  have c2:=(((h5.e h1).c G<|djs<|mmr h5.lt).e s3).c ss<|djs<|mm1 h5.lt<|lt_ h1.s G.s
  refine R z (l0 a_9 z<|c2.at z) ?_;have c3:=lt_ J.s h4.s;have c4:∀k∈[wa.z],¬B k:=or0 (c_ lr)<|k_<|zt' H c3;have c5:=lt_ (lt_ c3 h1.s) G.s;have c6:∀k∈[I.z],¬B k:=or0 (c_ lr)<|k_<|zt' H c5;have c7:=(((hn.e h1).c G<|b_ c4).e s3).c ss<|b_ c6
  refine R z (lnR a_i z<|V.g c7)<|Rl z z z<|Wx z (λ_=>?_) (λhc=>(a_6 aB hc).elim)
  refine Wk<|Wq<|Wb (Wd (X:=noX) 8192 (.rd 0<|.rd 1<|.rd 2<|.rd 3<|.rd 4<|.rd 5<|.rd 7<|.rd 8<|.rd 9<|.rd 10<|.rd 11<|.ef 6<|.ef 12<|.ef 13<|.rd 14 .done) mo (by kernel_rfl) λhf sp _=>dM z z z ?_)
  refine dR z z (lN (vs:=[sl A0 N0 C0]) t_ r_ z z fid<|(((((a5.e h1).c G<|djs<|mm1 ho.lt h4.s).e s3).c ss<|djs<|mm1 ho.lt<|lt_ (lt_ h4.s h1.s) G.s).e sp).row 0 1 z)<|dR z z (lN (vs:=vR aa ab ad ae af ai ak al am an ao ap aq) L_ o_ z z fid<|(((c0.e s3).c ss<|djs<|mm1 a8.lt G.s).e sp).row 0 8 z)<|dR z z (fd a_S z) ?_
  have c8:=c2.e sp;refine dR z z (l0 g_3 z<|c8.at z)<|dM z z z<|dR z z (fd V_ z)<|dR z z (l0 a_9 z<|c8.at z)<|dM z z z ?_
  obtain ⟨hg,hh,dP⟩:=bdS dO;have c9:=c7.e sp;refine dRX z z (at_ (α:=Val) a_i h_ z z z (V.g c9) hh) ?_;rintro _ ⟨_,_,_,rfl,hi,hj,_⟩;obtain ⟨hk,hl,hp,hq,hu,hv,rfl,hx,hy,hA⟩:=e_7 hj;refine dR z z (lN (vs:=[vI hg.number,sl hk hl hp,sl hq hu hv]) q_ h_ z z fid hi) ?_;have ar:=((((h1.ag B).c G<|b_ c4).e s3).c ss<|b_ c6).e sp;have ca:=lt_ (lt_ (lt_ c5 s3.s) ss.s) sp.s;obtain ⟨_,hB,dS⟩:=bdS dP;refine dE z z (fc call31 z<|d_M hB (zt' H ca) bU bV bW (a6.g ar) (bX.g ar) (bY.g ar) (a7.g ar) aA<|ic (Nat.le_of_lt aB)<|lt_ (repS.len V) M_) (.inr λ_ _ h=>p_<|h.1) ?_;rintro _ hC ⟨sx,rfl,hD⟩;obtain ⟨_,hE,dT⟩:=bdS dS;refine dE z z (fc call16 z<|gW.run hE (zt' H<|lt_ ca sx.s) (a4.g<|c9.e sx) hD hx (hy.e sx)<|hA.e sx) (.inr λ_ _ h=>p_<|h.1) ?_;rintro _ hF ⟨aM,_,_,_,_,rfl,hG,_,_⟩;obtain ⟨hH,hI,dU⟩:=bdS dT;refine dE z z (fN (α:=UInt8) a_2 hI z z (((hd.e sp).e sx).e aM) hw<|a_.rep hG) (.inl z) ?_;rintro _ hJ ⟨cb,hK,hL,hM,rfl,hN,hO,hP,hQ⟩;refine dQ z z z<|pD<|Wo<|Wg<|Rm z<|R z (inc_ aB (lt_ (repS.len V) M_) z z)<|Ra z<|Wl ?_
  have cc:∀k∈S2,k∈[I.z]∨wc.z<=k:=or1 he (io sr)<|B_ lr;exact λ_ q=>⟨hH,(som dU).symm,⟨hK,hL,hM,cb,q.k<|s5 z z z z z,(cM (f_ (f_ (f_ (cM (cr [I.z] wc) ss (io sr):Cg [I.z] wc hb) sp:Cg [I.z] wc hf) sx:Cg [I.z] wc hC) aM:Cg [I.z] wc hF) hN cc:Cg [I.z] wc hJ),hO,hP,(or1 hQ cc (B_<|lt_ (lt_ (lt_ ss.s sp.s) sx.s) aM.s):∀k∈cb,k∈[I.z]∨wc.z<=k)⟩⟩
 .rintro W _ hR ⟨ah,ng,ci,S2,dV,aN,hd,hw,he⟩;refine Wu ?_ dV;refine Wq<|Wm z<|Rf z V_ z<|R z (l0 a_9 z<|((((h5.e h1).c G<|djs<|mmr h5.lt).e s3).c aN<|djs<|mm1 h5.lt<|lt_ h1.s G.s).at z) ?_
  have cd:=lt_ J.s h4.s;refine R z (lnR a_i z<|V.g<|(((hn.e h1).c G<|b_ (or0 (c_ lr) (k_<|zt' H cd):∀k∈[wa.z],¬B k)).e s3).c aN<|b_ (or0 (c_ lr) (k_<|zt' H<|lt_ (lt_ cd h1.s) G.s):∀k∈[I.z],¬B k))<|Rl z z z<|Wx z (λhc=>(a_7 hc).elim) (λ_=>?_)
  exact We<|λ_ q=>⟨rfl,⟨ah,ng,ci,S2,q.k<|s4 z z z z,(cM (cr [I.z] wc) aN (io sr):Cg [I.z] wc hR),hd,hw,(or1 he (io sr) (B_ lr):∀k∈S2,k∈[I.z]∨wc.z<=k)⟩⟩
 .rintro W hS wb rfl ⟨ah,ng,ci,S2,_,s6,hd,hw,he⟩;have bE:=elL bD;revert hS;refine Wo<|Wq<|Ws<|Rf z a_u z ?_
  have aO:=mm1 a8.lt G.s;have ht:=(c0.e s3).c s6<|djs aO
  refine R z (l0 g_3 z<|ht.at z)<|Wn<|Wb<|Ws<|Rq z z z<|Rw z<|Wc z (λaC=>?_) (λaC=>?_)
  .refine Ws<|R z (lN (vs:=vR aa ab ad ae af ai ak al am an ao ap aq) L_ o_ z z fid<|ht.row 0 8 z)<|Rf z a_S z<|R z (l0 g_3 z<|((((h5.e h1).c G<|djs<|mmr h5.lt).e s3).c s6<|djs<|mm1 h5.lt<|lt_ h1.s G.s).at z) ?_
   have aP:=lt_ J.s h4.s;have aQ:=lt_ (lt_ aP h1.s) G.s;have au:=(((h1.ag B).c G<|b_ (or0 (c_ lr) (k_<|zt' H aP):∀k∈[wa.z],¬B k)).e s3).c s6<|b_ (or0 (c_ lr) (k_<|zt' H aQ):∀k∈[I.z],¬B k)
   have ce:=lt_ (lt_ aQ s3.s) s6.s;obtain ⟨_,hT,dW⟩:=bdS<|ifT bE aC;refine E z (fc call38 z<|i_U hT (zt' H ce) bU bV bW (a6.g au) (bX.g au) (bY.g au) (a7.g au) aA) ?_;rintro _ _ ⟨hU,hV,hW,hX,hY,rfl,hZ,i0,i1⟩;refine Rw z ?_
   obtain rfl:=som dW;exact Wr<|rtO<|e_ hr z ⟨bup (bM (bup (bM (bup (bup J h4) h1) G<|m1 aP) s3) s6<|m1 aQ) hU,hV,hW,hX,hY,z,hZ,i0,m_ i1 ce⟩
  have bF:=ifF bE aC;refine Ws<|Rq z z z<|Rw z<|Wc z (λaD=>?_) (λaD=>?_)
  .refine Ws<|E z (f0 (α:=UInt8) a_2) ?_
   rintro _ _ ⟨_,_,_,rfl,av,i2⟩;refine Rf z b_6 z<|R z (l0 R_ z<|(ht.e av).at z) ?_
   obtain ⟨_,i3,dX⟩:=bdS<|ifT bF aD;have aR:=lt_ J.s h4.s;have aS:=lt_ (lt_ aR h1.s) G.s;refine E z (fN (α:=UInt8) a_2 i3 z z i2 a_y<|a6.g<|((((h1.ag B).c G<|b_ (or0 (c_ lr) (k_<|zt' H aR):∀k∈[wa.z],¬B k)).e s3).c s6<|b_ (or0 (c_ lr) (k_<|zt' H aS):∀k∈[I.z],¬B k)).e av) ?_;rintro _ _ ⟨i4,i5,i6,i7,rfl,i8,i9,ia,ib⟩;refine Rw z ?_
   obtain rfl:=som dX;have cf:=lt_ (lt_ aS s3.s) s6.s;have cg:=m1 cf;exact Wr<|rtO<|e_ hr z ⟨bM (bup (bM (bup (bM (bup (bup J h4) h1) G<|m1 aR) s3) s6<|m1 aS) av) i8 cg,i5,i6,i7,i4,z,i9,ia,a_s ib cg<|lt_ cf av.s⟩
  have bG:=ifF bF aD;refine Ws<|Rq z z z<|Rw z<|Wc z (λaE=>?_) (λaE=>?_)
  .refine Wq<|Wd (X:=noX) 16384 (.rd 0<|.rd 1<|.rd 2<|.rd 3<|.rd 4<|.rd 5<|.rd 6<|.rd 7<|.rd 8<|.rd 9<|.rd 10<|.rd 12<|.rd 13<|.ef 11<|.ef 14<|.rd 15 .done) mo (by kernel_rfl) λj1 sy _=>dR z z (fd a_3 z) ?_;refine dR z z (l0 a_8 z<|(((((a5.e h1).c G<|djs<|mm1 ho.lt h4.s).e s3).c s6<|djs<|mm1 ho.lt<|lt_ (lt_ h4.s h1.s) G.s).e sy).at z)<|dR z z (fd J_ z)<|dR z z (l0 A_ z<|(ht.e sy).at z) ?_
   obtain ⟨_,id,dY⟩:=bdS<|ifT bG aE;have aT:=lt_ J.s h4.s;have ch:∀k∈[wa.z],¬B k:=or0 (c_ lr)<|k_<|zt' H aT;have aU:=lt_ (lt_ aT h1.s) G.s;have cj:∀k∈[I.z],¬B k:=or0 (c_ lr)<|k_<|zt' H aU;refine dRX z z (at_ (α:=Int) v_ z_3 z z z (a7.g<|((((h1.ag B).c G<|b_ ch).e s3).c s6<|b_ cj).e sy) id) ?_;rintro _ ⟨_,_,_,rfl,ie,ig,_⟩;obtain ⟨rfl,_⟩:=O_ ig;refine dR z z (l0 g_3 z<|ie.at0 z) ?_;obtain ⟨ih,ij,dZ⟩:=bdS dY;have aV:=((((hn.e h1).c G<|b_ ch).e s3).c s6<|b_ cj).e sy;refine dRX z z (at_ (α:=g_) a_a o_ z z z (a4.g aV) ij) ?_;rintro _ ⟨_,_,_,rfl,ik,il,_⟩;obtain ⟨im,ip,iq,ir,it,iu,iv,iw,ix,iy,iz,iA,rfl,iB,iC,iD,iE,iF,iG,iH⟩:=a_D il;refine dR z z (lN (vs:=vR ih im ip iq ir it iu iv iw ix iy iz iA) L_ o_ z z fid ik)<|dR z z (fd a_T z) ?_
   have ck:=((((h5.e h1).c G<|djs<|mmr h5.lt).e s3).c s6<|djs<|mm1 h5.lt<|lt_ h1.s G.s).e sy;refine dR z z (l0 R_ z<|ck.at z) ?_;have cm:=O.g aV;refine dR z z (lnR n_ z cm)<|dR z z (fd a_T z)<|dR z z (l0 R_ z<|ck.at z) ?_
   have aW:=lt_ (lt_ (lt_ aU s3.s) s6.s) sy.s;obtain ⟨_,iI,e0⟩:=bdS dZ;refine dE z z (fc call38 z<|i_U iI (zt' H aW) iB iC iD iE iF iG iH<|b_0<|repS.len cm) (.inr λ_ _ h=>p_<|h.1) ?_;rintro _ _ ⟨aX,_,_,_,_,rfl,iJ,iK,iL⟩;obtain ⟨_,iM,e1⟩:=bdS e0;refine dE z z (fN (α:=UInt8) a_2 iM z z iJ iK<|O.g<|aV.e aX) (.inl z) ?_;rintro _ _ ⟨iN,iO,iP,iQ,rfl,iR,iS,iT,iU⟩;refine dQ z z z<|pD<|Wo ?_
   obtain rfl:=som e1;have cn:=m_ iL aW;exact Wr<|rtO<|e_ hr z ⟨bM (bup (bup (bM (bup (bM (bup (bup J h4) h1) G<|m1 aT) s3) s6<|m1 aU) sy) aX) iR cn,iO,iP,iQ,iN,z,iS,iT,a_s iU cn<|lt_ aW aX.s⟩
  have bH:=ifF bG aE;refine Ws<|Rq z z z<|Rw z<|Wc z (λaF=>?_) (λaF=>?_)
  .refine Wq<|Wd (X:=noX) 8192 (.rd 0<|.rd 1<|.rd 2<|.rd 3<|.rd 4<|.rd 5<|.rd 6<|.rd 7<|.rd 8<|.rd 9<|.rd 10<|.rd 12<|.ef 11<|.ef 13<|.rd 14 .done) mo (by kernel_rfl) λj2 su _=>dR z z (fd a_3 z) ?_;refine dR z z (l0 a_8 z<|(((((a5.e h1).c G<|djs<|mm1 ho.lt h4.s).e s3).c s6<|djs<|mm1 ho.lt<|lt_ (lt_ h4.s h1.s) G.s).e su).at z)<|dR z z (fd J_ z)<|dR z z (l0 A_ z<|(ht.e su).at z) ?_
   obtain ⟨_,iV,e2⟩:=bdS<|ifT bH aF;have aY:=lt_ J.s h4.s;have co:∀k∈[wa.z],¬B k:=or0 (c_ lr)<|k_<|zt' H aY;have aZ:=lt_ (lt_ aY h1.s) G.s;have cp:∀k∈[I.z],¬B k:=or0 (c_ lr)<|k_<|zt' H aZ;refine dRX z z (at_ (α:=Int) v_ z_3 z z z (a7.g<|((((h1.ag B).c G<|b_ co).e s3).c s6<|b_ cp).e su) iV) ?_;rintro _ ⟨_,_,_,rfl,iW,iX,_⟩;obtain ⟨rfl,_⟩:=O_ iX;refine dR z z (l0 g_3 z<|iW.at0 z) ?_;obtain ⟨iY,iZ,e3⟩:=bdS e2;have cq:=((((hn.e h1).c G<|b_ co).e s3).c s6<|b_ cp).e su;refine dRX z z (at_ (α:=g_) a_a o_ z z z (a4.g cq) iZ) ?_;rintro _ ⟨_,_,_,rfl,e4,e5,_⟩;obtain ⟨e6,e7,e8,e9,ea,eb,ec,ed,ee,eg,eh,ei,rfl,ej,ek,em,en,eo,ep,eq⟩:=a_D e5;refine dR z z (lN (vs:=vR iY e6 e7 e8 e9 ea eb ec ed ee eg eh ei) L_ o_ z z fid e4)<|dR z z (fd V_ z)<|dR z z (l0 a_9 z<|(((((h5.e h1).c G<|djs<|mmr h5.lt).e s3).c s6<|djs<|mm1 h5.lt<|lt_ h1.s G.s).e su).at z) ?_
   have ct:=V.g cq;refine dR z z (lnR a_i z ct)<|dM z z z ?_
   have b0:=lt_ (lt_ (lt_ aZ s3.s) s6.s) su.s;obtain ⟨_,er,df⟩:=bdS e3;refine dE z z (fc call38 z<|i_U er (zt' H b0) ej ek em en eo ep eq<|b_0<|repS.len ct) (.inr λ_ _ h=>p_<|h.1) ?_;rintro _ _ ⟨b1,_,_,_,_,rfl,es,eu,ew⟩;obtain ⟨_,ex,dg⟩:=bdS df;refine dE z z (fN (α:=UInt8) a_2 ex z z es eu<|or_ ((hd.e su).e b1)<|a_.lt hd) (.inl z) ?_;rintro _ _ ⟨ey,ez,eA,eB,rfl,eC,eD,eE,eF⟩;refine dQ z z z<|pD<|Wo ?_
   obtain rfl:=som dg;have cu:=m_ ew b0;exact Wr<|rtO<|e_ hr z ⟨bM (bup (bup (bM (bup (bM (bup (bup J h4) h1) G<|m1 aY) s3) s6<|m1 aZ) su) b1) eC cu,ez,eA,eB,ey,z,eD,eE,a_s eF cu<|lt_ b0 b1.s⟩
  have bI:=ifF bH aF;refine Ws<|Rq z z z<|Rw z<|Wc z (λaG=>?_) (λaG=>?_)
  .refine Wq<|Wd (X:=noX) 4096 (.rd 0<|.rd 1<|.rd 2<|.rd 3<|.rd 4<|.rd 5<|.rd 6<|.rd 7<|.rd 8<|.rd 9<|.rd 11<|.ef 10<|.ef 12<|.rd 13 .done) mo (by kernel_rfl) λj3 sv _=>dR z z (fd a_3 z) ?_;refine dR z z (l0 a_8 z<|(((((a5.e h1).c G<|djs<|mm1 ho.lt h4.s).e s3).c s6<|djs<|mm1 ho.lt<|lt_ (lt_ h4.s h1.s) G.s).e sv).at z)<|dR z z (fd J_ z)<|dR z z (l0 A_ z<|(ht.e sv).at z) ?_
   obtain ⟨_,eG,dh⟩:=bdS<|ifT bI aG;have b2:=lt_ J.s h4.s;have cv:∀k∈[wa.z],¬B k:=or0 (c_ lr)<|k_<|zt' H b2;have b3:=lt_ (lt_ b2 h1.s) G.s;have cw:∀k∈[I.z],¬B k:=or0 (c_ lr)<|k_<|zt' H b3;refine dRX z z (at_ (α:=Int) v_ z_3 z z z (a7.g<|((((h1.ag B).c G<|b_ cv).e s3).c s6<|b_ cw).e sv) eG) ?_;rintro _ ⟨_,_,_,rfl,eH,eI,_⟩;obtain ⟨rfl,_⟩:=O_ eI;refine dR z z (l0 g_3 z<|eH.at0 z) ?_;obtain ⟨eJ,eK,di⟩:=bdS dh;refine dRX z z (at_ (α:=g_) a_a o_ z z z (a4.g<|((((hn.e h1).c G<|b_ cv).e s3).c s6<|b_ cw).e sv) eK) ?_;rintro _ ⟨_,_,_,rfl,eL,eM,_⟩;obtain ⟨eN,eO,eP,eQ,eR,eS,eT,eU,eV,eW,eX,eY,rfl,eZ,f1,f2,f3,f4,f5,f6⟩:=a_D eM;refine dR z z (lN (vs:=vR eJ eN eO eP eQ eR eS eT eU eV eW eX eY) L_ o_ z z fid eL)<|dR z z (fd a_S z)<|dR z z (l0 g_3 z<|(((((h5.e h1).c G<|djs<|mmr h5.lt).e s3).c s6<|djs<|mm1 h5.lt<|lt_ h1.s G.s).e sv).at z)<|dM z z z ?_
   have b4:=lt_ (lt_ (lt_ b3 s3.s) s6.s) sv.s;obtain ⟨_,f7,dj⟩:=bdS di;refine dE z z (fc call38 z<|i_U f7 (zt' H b4) eZ f1 f2 f3 f4 f5 f6 aA) (.inr λ_ _ h=>p_<|h.1) ?_;rintro _ _ ⟨b5,_,_,_,_,rfl,f8,f9,fe⟩;obtain ⟨_,ff,dk⟩:=bdS dj;refine dE z z (fN (α:=UInt8) a_2 ff z z f8 f9<|or_ ((hd.e sv).e b5)<|a_.lt hd) (.inl z) ?_;rintro _ _ ⟨fg,fh,fi,fj,rfl,fk,fl,fm,fo⟩;refine dQ z z z<|pD<|Wo ?_
   obtain rfl:=som dk;have cx:=m_ fe b4;exact Wr<|rtO<|e_ hr z ⟨bM (bup (bup (bM (bup (bM (bup (bup J h4) h1) G<|m1 b2) s3) s6<|m1 b3) sv) b5) fk cx,fh,fi,fj,fg,z,fl,fm,a_s fo cx<|lt_ b4 b5.s⟩
  have bJ:=ifF bI aG;refine Ws<|Rq z z z<|Rw z<|Wc z (λaH=>?_) (λaH=>?_)
  .refine Ws<|Rf z V_ z<|R z (l0 a_9 z<|((((h5.e h1).c G<|djs<|mmr h5.lt).e s3).c s6<|djs<|mm1 h5.lt<|lt_ h1.s G.s).at z) ?_
   have b6:=lt_ J.s h4.s;have b7:=lt_ (lt_ b6 h1.s) G.s;refine R z (lnR a_i z<|V.g<|(((hn.e h1).c G<|b_ (or0 (c_ lr) (k_<|zt' H b6):∀k∈[wa.z],¬B k)).e s3).c s6<|b_ (or0 (c_ lr) (k_<|zt' H b7):∀k∈[I.z],¬B k))<|R z (e_N d_3 d_5 z)<|E z (fS [(.tmp 105)] a_2 z z z (a_e z) (lb z)<|lb z) ?_
   rintro _ fp ⟨rfl,b8⟩;have b9:=b8.below;have j4:Blk fp wb.z [(vU<|byteI<|mkB (x3.items.length:Int))]:=b8.blk;refine Rm z ?_;obtain ⟨_,fq,dl⟩:=bdS<|ifT bJ aH;refine E z (fN (α:=UInt8) a_2 fq z z (a_J b8 b_n) a_y<|or_ (hd.e b9)<|a_.lt hd) ?_;rintro _ _ ⟨fr,fs,ft,fu,rfl,fv,fw,fx,fy⟩;refine Rw z ?_
   obtain rfl:=som dl;have cy:=lt_ (lt_ b7 s3.s) s6.s;have cz:=m1 cy;exact Wr<|rtO<|e_ hr z ⟨bM (bup (bM (bup (bM (bup (bup J h4) h1) G<|m1 b6) s3) s6<|m1 b7) b9) fv cz,fs,ft,fu,fr,z,fw,fx,a_s fy cz<|lt_ cy b9.s⟩
  have bK:=ifF bJ aH;refine Ws<|Rq z z z<|Rw z<|Wc z (λaI=>?_) (λaI=>?_)
  .refine Wm z<|Rm z ?_
   obtain ⟨fz,fA,dm⟩:=bdS<|ifT bK aI;refine E z (fc call39 z<|W_w1f (B:=wb.z) fA zr<|a_.rep hd) ?_;rintro _ fB ⟨ba,rfl,_⟩;refine R z (e_N d_3 d_5 z)<|E z (fS [(.tmp 114)] a_2 z z z (a_e z) (lb z)<|lb z) ?_
   rintro _ fC ⟨rfl,bb⟩;have bc:=bb.below;have j5:=a_J bb b_n;obtain ⟨_,fD,dn⟩:=bdS dm;refine E z (a_X (α:=UInt8) a_2 fD z z ((hd.e ba).e bc) hw (bb.blk:Blk fC fB.z [(vU<|byteI<|mkB fz)]) b_n an_ G_) ?_;rintro _ _ ⟨cA,fE,fF,fG,rfl,fH,fI,fJ,fK⟩;refine Rw z ?_
   obtain rfl:=som dn;have cB:=lt_ J.s h4.s;have cC:=lt_ (lt_ cB h1.s) G.s;have cD:=m1 cC;have cE:=lt_ cC s3.s;have cF:=a_s he cD cE;exact Wr<|rtO<|e_ hr z ⟨bM (bup (bup (bM (bup (bM (bup (bup J h4) h1) G<|m1 cB) s3) s6 cD) ba) bc) fH cF,fE,fF,fG,cA,z,fI,fJ,(or2 fK cF an_ (b_o<|lt_ (lt_ (lt_ cE s6.s) ba.s) bc.s):∀k∈cA,w0.z<=k)⟩
  have bL:=ifF bK aI;refine Ws<|Rq z z z<|Rw z<|Wc z (λaJ=>?_) (λaJ=>?_)
  .refine Wq<|Ws<|Rw z ?_
   obtain ⟨_,dp,bN⟩:=bdS<|ifT bL aJ;refine Wf (σ:=Bt) (ρ:=Bt) (λ(aw:Nat)(xr:Bt) a w=>∃aj nk cl L,Sat 169 [(5,pt wm.z),(7,pt wa.z),(8,sl aj nk cl),(10,vI ((aw:Nat):Int))] a/\Cg S2 wb w/\a_ w L (sl aj nk cl) xr/\L.Nodup/\(∀k∈L,k∈S2∨wb.z<=k)) (λ(xr:Bt) a w=>∃aj nk cl L,Sat 169 [(7,pt wa.z),(8,sl aj nk cl)] a/\Cg S2 wb w/\a_ w L (sl aj nk cl) xr/\L.Nodup/\(∀k∈L,k∈S2∨wb.z<=k)) (rQ prog fn<|Q11 w0 B) dp ?_ ?_ ?_ ?_ ?_
   .exact λ_ q=>⟨ah,ng,ci,S2,q.k<|s4 z z z z,cr S2 wb,hd,hw,io sr⟩
   .rintro aw xr _ be _ bO ⟨aj,nk,cl,L,dq,Y,a0,a1,hz⟩ dr;refine Wu ?_ dq;refine Wq<|Wm z<|Rf z a_T z ?_
    have cG:=lt_ h1.s G.s;have cH:=mm1 h5.lt cG;have cI:=lt_ cG s3.s;have cJ:∀k∈S2,k∉[wm.z]:=or1 he cH<|U_ (c_ h5.lt) cI;have bf:=((((h5.e h1).c G<|djs<|mmr h5.lt).e s3).c s6<|djs cH).c Y<|djs cJ
    refine R z (l0 R_ z<|bf.at z) ?_;have cK:=lt_ J.s h4.s;have cL:∀k∈[wa.z],¬B k:=or0 (c_ lr)<|k_<|zt' H cK;have cN:=lt_ (lt_ cK h1.s) G.s;have bg:∀k∈[I.z],¬B k:=or0 (c_ lr)<|k_<|zt' H cN;have cO:=lt_ cN s3.s;have bh:∀k∈S2,¬B k:=or1 he bg<|k_<|zt' H cO;have bi:=((((hn.e h1).c G<|b_ cL).e s3).c s6<|b_ bg).c Y<|b_ bh
    refine R z (lnR n_ z<|O.g bi)<|Rl z z z<|Wx z (λ_=>?_) (λhc=>(a_6 bO hc).elim)
    refine Wk<|Wq<|Wb<|Wq<|Wq ?_
    obtain ⟨fL,ds,dt⟩:=bdS dr;refine Wt (λa w=>∃(bj:Bool),bj=fL/\Sat 169 [(5,pt wm.z),(7,pt wa.z),(8,sl aj nk cl),(10,vI ((aw:Nat):Int)),(143,vB bj)] a/\Below be.z be w) ?_ ?_
    .refine Wd (X:=noX) 0 (pl_ 18 []) mo (by kernel_rfl) λj6 a2 _=>dR z z (fd a_T z) ?_
     have cP:=bf.e a2;refine dR z z (l0 R_ z<|cP.at z)<|dM z z z ?_
     obtain ⟨fM,fO,du⟩:=bdS ds;have cQ:=O.g<|bi.e a2
     refine dRX z z (at_ (α:=UInt8) n_ z_5 z z z cQ fO) ?_;rintro _ ⟨_,_,_,rfl,fP,fQ,_⟩;obtain rfl:=u8 fQ;refine dR z z (l0 g_5 z<|fP.at0 z)<|dR z z (fd b_6 z) ?_
     refine dR z z (l0 R_ z<|((ht.c Y<|djs (or1 he aO (U_ (c_ a8.lt)<|lt_ G.s s3.s):∀k∈S2,k∉[wa.z])).e a2).at z) ?_;obtain ⟨fR,fT,bP⟩:=bdS du;refine dRX z z (at_ (α:=UInt8) n_ z_5 z z z (a6.g<|(((((h1.ag B).c G<|b_ cL).e s3).c s6<|b_ bg).c Y<|b_ bh).e a2) fT) ?_;rintro _ ⟨_,_,_,rfl,fU,fV,_⟩;obtain rfl:=u8 fV;refine dR z z (l0 g_5 z<|fU.at0 z)<|dR z z (eql z z)<|dM z z z ?_
     rcases bs ((byteI fM)==(byteI fR)) with hcf | hcf
     .iterate 6 refine dRn z z z hcf z ?_
      exact dR z z (pT z hcf z)<|pD (λ_ q=>⟨true,som<|ifT bP hcf,q.k<|s5 z z z z z,a2⟩)
     refine dRg z z z hcf z (fd a_T z)<|dRg z z z hcf z (l0 R_ z<|cP.at z)<|dRg z z z hcf z (mv z) ?_
     obtain ⟨fW,fX,dv⟩:=bdS<|ifF bP hcf;refine b_L z z z hcf z (at_ (α:=UInt8) n_ z_5 z z z cQ fX) ?_;rintro _ ⟨_,_,_,rfl,fY,fZ,_⟩;obtain rfl:=u8 fZ;exact dRg z z z hcf z (l0 g_5 z<|fY.at0 z)<|dRg z z z hcf z (eql z z)<|dR z z (pF z hcf z)<|pD (λ_ q=>⟨(byteI fW)==(byteI (92:UInt8)),som dv,q.k<|s5 z z z z z,a2⟩)
    rintro g0 wq ⟨bj,rfl,_,a3⟩;revert g0;refine Wo ?_;obtain ⟨g1,bQ,dw⟩:=bdS dt;refine Wt (λa w=>∃(bk:Bt),bk=g1/\∃bm bn bo a9,Sat 169 [(5,pt wm.z),(7,pt wa.z),(8,sl bm bn bo),(10,vI ((aw:Nat):Int))] a/\Cg L wq w/\a_ w a9 (sl bm bn bo) bk/\a9.Nodup/\(∀k∈a9,k∈L∨wq.z<=k)) ?_ ?_
    .refine Wc z (λaK=>?_)<|λaK=>?_
     .refine Wg<|Rm z<|E z (fS [(.const<|.int .u8 92)] a_2 z z z (a_e z) (lb z)<|lb z) ?_
      rintro _ cR ⟨rfl,bp⟩;have bq:=bp.below;have j7:=a_J bp<|m_a (x:=(92:UInt8)) z
      obtain ⟨g2,g3,dx⟩:=bdS<|ifT bQ aK;refine E z (a_X (α:=UInt8) a_2 g3 z z ((a0.e a3).e bq) a1 (bp.blk:Blk cR wq.z [(vU<|byteI (92:UInt8))]) (m_a (x:=(92:UInt8)) z) an_ G_) ?_;rintro _ g4 ⟨cS,g5,g6,g7,rfl,g8,g9,ga,gb⟩;refine Ra z<|Wl ?_
      exact λ_ q=>⟨g2,som dx,g5,g6,g7,cS,q.k<|s4 z z z z,(cM (f_ (cr L wq) bq:Cg L wq cR) g8 (io sr):Cg L wq g4),g9,ga,(or2 gb (io sr) an_ (B_ bq.s):∀k∈cS,k∈L∨wq.z<=k)⟩
     exact a_k<|λ_ q=>⟨xr,som<|ifF bQ aK,aj,nk,cl,L,q.k<|s4 z z z z,cr L wq,a0.e a3,a1,io sr⟩
    rintro gc cT ⟨bk,rfl,bm,bn,bo,a9,_,ax,ge,gf,gg⟩;revert gc;refine Wo<|Wg<|Rm z<|Rf z a_T z ?_
    refine R z (l0 R_ z<|((bf.e a3).c ax<|djs (or1 hz cJ (U_ (c_ h5.lt)<|lt_ cI s6.s):∀k∈L,k∉[wm.z])).at z)<|Rm z ?_
    obtain ⟨gh,gi,dy⟩:=bdS dw;refine RX z (at_ (α:=UInt8) n_ z_5 z z z (O.g<|(bi.e a3).c ax<|b_ (or1 hz bh (k_<|zt' H<|lt_ cO s6.s):∀k∈L,¬B k)) gi) ?_;rintro _ ⟨_,_,_,rfl,gj,gk,_⟩;obtain rfl:=u8 gk;refine R z (l0 g_5 z<|gj.at0 z)<|E z (fS [(.tmp 152)] a_2 z z z (a_e z) (lb z)<|lb z) ?_
    rintro _ cU ⟨rfl,br⟩;have bt:=br.below;have j8:=a_J br b_n;obtain ⟨gl,gm,dz⟩:=bdS dy;refine E z (a_X (α:=UInt8) a_2 gm z z (ge.e bt) gf (br.blk:Blk cU cT.z [vU (byteI gh)]) b_n an_ G_) ?_;rintro _ gn ⟨cV,gp,gq,gr,rfl,gs,gt,gu,gv⟩;refine Rw z<|Wg<|Rm z<|R z (inc_ bO (lt_ (repS.len O) M_) z z)<|Ra z<|Wl ?_
    have cW:=lt_ Y.s a3.s;have cX:∀k∈L,k∈S2∨wb.z<=k:=or1 hz (io sr)<|B_ lr;have cY:∀k∈a9,k∈S2∨wb.z<=k:=or1 gg cX<|B_ cW;exact λ_ q=>⟨gl,(som dz).symm,⟨gp,gq,gr,cV,q.k<|s4 z z z z,(cM (f_ (cM (f_ (cM (cr S2 wb) Y (io sr):Cg S2 wb be) a3:Cg S2 wb wq) ax cX:Cg S2 wb cT) bt:Cg S2 wb cU) gs cY:Cg S2 wb gn),gt,gu,(or2 gv cY an_ (B_<|lt_ (lt_ cW ax.s) bt.s):∀k∈cV,k∈S2∨wb.z<=k)⟩⟩
   .rintro xr _ gw ⟨aj,nk,cl,L,dA,bu,a0,a1,hz⟩;refine Wu ?_ dA;refine Wq<|Wm z<|Rf z a_T z ?_
    have cZ:=lt_ h1.s G.s;have d0:=mm1 h5.lt cZ;refine R z (l0 R_ z<|(((((h5.e h1).c G<|djs<|mmr h5.lt).e s3).c s6<|djs d0).c bu<|djs (or1 he d0 (U_ (c_ h5.lt)<|lt_ cZ s3.s):∀k∈S2,k∉[wm.z])).at z) ?_;have d1:=lt_ J.s h4.s;have d2:=lt_ (lt_ d1 h1.s) G.s;have d3:∀k∈[I.z],¬B k:=or0 (c_ lr)<|k_<|zt' H d2;refine R z (lnR n_ z<|O.g<|((((hn.e h1).c G<|b_ (or0 (c_ lr) (k_<|zt' H d1):∀k∈[wa.z],¬B k)).e s3).c s6<|b_ d3).c bu<|b_ (or1 he d3 (k_<|zt' H<|lt_ d2 s3.s):∀k∈S2,¬B k))<|Rl z z z<|Wx z (λhc=>(a_7 hc).elim) (λ_=>?_)
    exact We<|λ_ q=>⟨rfl,⟨aj,nk,cl,L,q.k<|s2 z z,(cM (cr S2 wb) bu (io sr):Cg S2 wb gw),a0,a1,(or1 hz (io sr) (B_ lr):∀k∈L,k∈S2∨wb.z<=k)⟩⟩
   .rintro xr gx gy rfl ⟨aj,nk,cl,L,_,ay,a0,a1,hz⟩;have dB:=elL bN;revert gx;refine Wo<|Wm z<|Rf z b_6 z ?_
    refine R z (l0 R_ z<|(ht.c ay<|djs (or1 he aO (U_ (c_ a8.lt)<|lt_ G.s s3.s):∀k∈S2,k∉[wa.z])).at z) ?_;obtain ⟨gz,gA,dC⟩:=bdS dB;have bv:=lt_ J.s h4.s;have bw:=lt_ (lt_ bv h1.s) G.s;have d4:∀k∈[I.z],¬B k:=or0 (c_ lr)<|k_<|zt' H bw;have bx:=lt_ bw s3.s;refine RX z (at_ (α:=UInt8) n_ z_5 z z z (a6.g<|((((h1.ag B).c G<|b_ (or0 (c_ lr) (k_<|zt' H bv):∀k∈[wa.z],¬B k)).e s3).c s6<|b_ d4).c ay<|b_ (or1 he d4 (k_<|zt' H bx):∀k∈S2,¬B k)) gA) ?_;rintro _ ⟨_,_,_,rfl,gB,gC,_⟩;obtain rfl:=u8 gC;refine R z (l0 g_5 z<|gB.at0 z)<|E z (fS [(.tmp 159)] a_2 z z z (a_e z) (lb z)<|lb z) ?_
    rintro _ gD ⟨rfl,bz⟩;have bA:=bz.below;have j9:=a_J bz b_n;obtain ⟨_,gE,dD⟩:=bdS dC;refine E z (a_X (α:=UInt8) a_2 gE z z (a0.e bA) a1 (bz.blk:Blk gD gy.z [vU (byteI gz)]) b_n an_ G_) ?_;rintro _ _ ⟨d5,gF,gG,gH,rfl,gI,gJ,gK,gL⟩;refine Rw z ?_
    obtain rfl:=som dD;have d6:=m1 bw;have d7:=a_s he d6 bx;have d8:=lt_ bx s6.s;have d9:=a_s hz d7 d8;exact Wr<|rtO<|e_ hr z ⟨bM (bup (bM (bM (bup (bM (bup (bup J h4) h1) G<|m1 bv) s3) s6 d6) ay d7) bA) gI d9,gF,gG,gH,d5,z,gJ,gK,(or2 gL d9 an_ (b_o<|lt_ (lt_ d8 ay.s) bA.s):∀k∈d5,w0.z<=k)⟩
   rintro _ _ _ _ rfl ⟨rfl,dF⟩;have dG:=elR bN;obtain rfl:=som dG;exact ⟨dF,z⟩
  have bR:=ifF bL aJ;refine Ws<|Rq z z z<|Rw z<|Wc z (λaL=>?_) (λaL=>?_)
  .refine Ws<|E z (f0 (α:=UInt8) a_2) ?_
   rintro _ _ ⟨_,_,_,rfl,az,gM⟩;refine Rf z a_T z<|R z (l0 R_ z<|(((((h5.e h1).c G<|djs<|mmr h5.lt).e s3).c s6<|djs<|mm1 h5.lt<|lt_ h1.s G.s).e az).at z) ?_
   obtain ⟨_,gN,dH⟩:=bdS<|ifT bR aL;have bB:=lt_ J.s h4.s;have bC:=lt_ (lt_ bB h1.s) G.s;refine E z (fN (α:=UInt8) a_2 gN z z gM a_y<|O.g<|((((hn.e h1).c G<|b_ (or0 (c_ lr) (k_<|zt' H bB):∀k∈[wa.z],¬B k)).e s3).c s6<|b_ (or0 (c_ lr) (k_<|zt' H bC):∀k∈[I.z],¬B k)).e az) ?_;rintro _ _ ⟨gO,gP,gQ,gR,rfl,gS,gT,gU,gV⟩;refine Rw z ?_
   obtain rfl:=som dH;have da:=lt_ (lt_ bC s3.s) s6.s;have db:=m1 da;exact Wr<|rtO<|e_ hr z ⟨bM (bup (bM (bup (bM (bup (bup J h4) h1) G<|m1 bB) s3) s6<|m1 bC) az) gS db,gP,gQ,gR,gO,z,gT,gU,a_s gV db<|lt_ da az.s⟩
  refine Wk<|Wm z<|Rw z ?_
  obtain rfl:=som<|ifF bR aL;have dc:=lt_ J.s h4.s;have dd:=lt_ (lt_ dc h1.s) G.s;have de:=m1 dd;exact Wr<|e_ hr z ⟨bM (bup (bM (bup (bup J h4) h1) G<|m1 dc) s3) s6 de,ah,ng,ci,S2,z,hd,hw,a_s he de<|lt_ dd s3.s⟩
 rintro _ _ _ _ rfl ⟨rfl,dI⟩;have dJ:=elR bD;obtain rfl:=som dJ;exact ⟨dI,z⟩
theorem A_w0d:∀n,m_x n
  | 0=>⟨λhm=>by intros;exact nomatch (show none=some _ from hm)⟩
  | n+1=>T_w0d<|A_w0d n
theorem W_w0d:k_k (e_c n).spec_l11Print:=A_w0d n
theorem f_A {x1:d_}{res:Int}(hm:d_z x1=some res)(J:B<=w0.z)(H:repS w0 B (sl A0 N0 C0) x1.rules):l_ prog 21 [(.agg #[sl A0 N0 C0])] w0 (Q9 w0 B res):=by
 unfold d_z at hm
 refine goG func21 z z z λfn hr=>Ws<|E z (fb z) ?_
 rintro _ I ⟨rfl,G⟩;have h1:=G.below;refine Rw z<|Ws<|Rf z a_3 z<|R z (l0 a_8 z<|(G.blk:Blk I w0.z [sl A0 N0 C0]).at z)<|R z (lnR a_a z<|H.e h1)<|R z (sb_ z z)<|Rw z ?_
 obtain rfl:=som hm;exact Wr<|e_ hr z ⟨h1,z,iS _ _⟩
theorem k_l {x1:Str}{res:Bool}(hm:f_8 x1=some res)(a9:B<=w0.z)(Y:x1.b.length<=LEN):l_ prog 100 [Str.v x1] w0 (Q0 w0 B res):=by
 unfold f_8 at hm
 refine goG func100 z z z λfn hr=>Ws<|Rw z<|Wq<|Ws<|Rw z ?_
 obtain ⟨_,hus,hmc⟩:=bdS hm;refine Wf (σ:=Unit) (ρ:=Bool) (λ(k4:Nat)(_:Unit) a w=>Sat 45 [(0,Str.v x1),(3,vI ((k4:Nat):Int))] a/\Below w0.z w0 w) (λ(_:Unit) a w=>Sat 45 [(0,Str.v x1)] a/\Below w0.z w0 w) (rQ prog fn<|Q0 w0 B) hus ?_ ?_ ?_ ?_ ?_
 .exact λ_ q=>⟨q.k<|s2 z z,br w0⟩
 .rintro k4 _ _ O _ hkd ⟨hSt,se⟩ hmu;refine Wu ?_ hSt;refine Wq<|Wm z<|Rm z<|R z (lnT d_9 z)<|Rl z z z<|Wx z (λ_=>?_) (λhc=>(a_6 hkd hc).elim)
  refine Wk<|Wq<|Wb<|Wq ?_
  obtain ⟨uv,huw,hmx⟩:=bdS hmu;refine Wt (λa w=>∃(x5:Bool),x5=uv/\Sat 45 [(0,Str.v x1),(3,vI ((k4:Nat):Int)),(4,vB x5)] a/\Below O.z O w) ?_ ?_
  .refine Wg<|RM z z ?_
   obtain ⟨xy,ef,hmg⟩:=bdS huw;refine R z (c_i d_9 z z (a_E ef).1 (a_E ef).2.1)<|R z (b_R z z)<|Rm z ?_
   rcases bs (decide<|(byteI (97:UInt8))<=(byteI xy)) with H | H
   .refine Rh z H (mv z)<|Rh z H (mv z) ?_
    obtain ⟨xz,eh,a0⟩:=bdS<|ifT hmg H;exact Rh z H (c_i d_9 z z (a_E eh).1 (a_E eh).2.1)<|Rh z H (c_5 z z)<|R z (pT z H z)<|Ra z<|Wl (λ_ q=>⟨decide<|(byteI xz)<=(byteI (122:UInt8)),som a0,q.k<|s3 z z z,br O⟩)
   iterate 4 refine Nh z H ?_
   exact R z (pF z H z)<|Ra z<|Wl (λ_ q=>⟨false,som<|ifF hmg H,q.k<|s3 z z z,br O⟩)
  rintro aa V ⟨x5,rfl,_,si⟩;revert aa;refine Wo<|Wq ?_
  obtain ⟨ab,a1,a2⟩:=bdS hmx;refine Wt (λa w=>∃(W:Bool),W=ab/\Sat 45 [(0,Str.v x1),(3,vI ((k4:Nat):Int)),(4,vB x5),(5,vB W)] a/\Below V.z V w) ?_ ?_
  .refine Wg<|RM z z ?_
   obtain ⟨ad,ej,hmk⟩:=bdS a1;refine R z (c_i d_9 z z (a_E ej).1 (a_E ej).2.1)<|R z (b_R z z)<|Rm z ?_
   rcases bs (decide<|(byteI (48:UInt8))<=(byteI ad)) with I | I
   .refine Rh z I (mv z)<|Rh z I (mv z) ?_
    obtain ⟨ae,el,a3⟩:=bdS<|ifT hmk I;exact Rh z I (c_i d_9 z z (a_E el).1 (a_E el).2.1)<|Rh z I (c_5 z z)<|R z (pT z I z)<|Ra z<|Wl (λ_ q=>⟨decide<|(byteI ae)<=(byteI (57:UInt8)),som a3,q.k<|s4 z z z z,br V⟩)
   iterate 4 refine Nh z I ?_
   exact R z (pF z I z)<|Ra z<|Wl (λ_ q=>⟨false,som<|ifF hmk I,q.k<|s4 z z z z,br V⟩)
  rintro af L ⟨W,rfl,_,sm⟩;revert af;refine Wo<|Wq ?_
  obtain ⟨ah,hun,hmo⟩:=bdS a2;refine Wt (λa w=>∃(xa:Bool),xa=ah/\Sat 45 [(0,Str.v x1),(3,vI ((k4:Nat):Int)),(41,vB xa)] a/\Below L.z L w) ?_ ?_
  .refine Wg<|Rm z<|R z (not_ z)<|Rm z ?_
   rcases bs (!x5) with G | G
   .have hmp:=ifT hun G;refine Rh z G (mv z)<|Rh z G (not_ z)<|Rh z G (mv z) ?_
    rcases bs (!W) with J | J
    .exact Nh z J<|Nh z J<|Rh z G (pT z J z)<|R z (pT z G z)<|Wl (λ_ q=>⟨true,som<|ifT hmp J,q.k<|s3 z z z,br L⟩)
    exact Rh z J (mv z)<|Rh z J (eql z z)<|Rh z G (pF z J z)<|R z (pT z G z)<|Wl (λ_ q=>⟨((k4:Nat):Int)==0,som<|ifF hmp J,q.k<|s3 z z z,br L⟩)
   iterate 3 refine Nh z G ?_
   exact Nv z<|Nv z<|Nh z G<|R z (pF z G z)<|Wl (λ_ q=>⟨false,som<|ifF hun G,q.k<|s3 z z z,br L⟩)
  rintro ai _ ⟨xa,rfl,_,sq⟩;revert ai;refine Wo<|Wc z (λhcb=>?_) (λhcb=>?_)
  .exact Ws<|Rw z<|Wr<|rtO<|qL (som<|ifT hmo hcb).symm<|e_ hr z ⟨bup (bup (bup se si) sm) sq,z⟩
  exact Wk<|Wg<|Rm z<|R z (inc_ hkd (lt_ Y M_) z z)<|Ra z<|Wl (λ_ q=>⟨(),(som<|ifF hmo hcb).symm,⟨q.k<|s2 z z,bup (bup (bup se si) sm) sq⟩⟩)
 .rintro _ _ _ ⟨a4,aj⟩;refine Wu ?_ a4;refine Wq<|Wm z<|Rm z<|R z (lnT d_9 z)<|Rl z z z<|Wx z (λhc=>(a_7 hc).elim) (λ_=>?_)
  exact We<|λ_ q=>⟨rfl,⟨q.k<|s1 z,aj⟩⟩
 .rintro _ ak _ rfl ⟨_,sr⟩;have a5:=elL hmc;revert ak;refine Wo<|Wm z<|R z (lnT d_9 z) ?_
  obtain ⟨_,al,a6⟩:=bdS a5;refine E z (fc call50 z<|b_t al (zt' a9 sr.s) (b_0 Y) (ii z)<|ii z) ?_;rintro _ _ ⟨am,rfl⟩;refine Rw z ?_
  obtain rfl:=som a6;exact Wr<|e_ hr z ⟨bup sr am,z⟩
 rintro _ _ _ _ rfl ⟨rfl,a7⟩;have a8:=elR hmc;obtain rfl:=som a8;exact ⟨a7,z⟩
theorem d_N {x1:g_}{x2:Bool}{x3:Bool}{x4:Bool}{x5:Bool}{x6:Int}{res:Bool}(hm:c_B x1 x2 x3 x4 x5 x6=some res)(af:B<=w0.z)(aa:x1.name.b.length<=LEN)(ab:inI x1.kind)(ad:inI x1.size)(a1:repS w0 B (sl AB NB CB) x1.bytes)(a2:repS w0 B (sl AA NA CA) x1.names)(a3:repS w0 B (sl AC NC CC) x1.tags)(a4:repS w0 B (sl AD ND CD) x1.kids)(ae:inI x6):l_ prog 156 [(.agg #[Str.v x1.name,vI x1.kind,vI x1.size,vB x1.little,sl AB NB CB,sl AA NA CA,sl AC NC CC,sl AD ND CD]),vB x2,vB x3,vB x4,vB x5,vI x6] w0 (Q0 w0 B res):=by
 unfold c_B at hm
 refine goG func156 z z z λfn hr=>Ws<|E z (fb z) ?_
 rintro _ wc ⟨rfl,hf⟩;have hd:=hf.below;have hb:Blk wc w0.z (vR x1 AB NB CB AA NA CA AC NC CC AD ND CD):=hf.blk;refine Rw z<|Wq ?_
 obtain ⟨uw,hux,hmy⟩:=bdS hm;refine Wt (λa w=>∃(xe:Bool),xe=uw/\Sat 67 [(12,vB xe)] a/\Below wc.z wc w) ?_ ?_
 .refine Wg<|RM z z ?_
  obtain ⟨ug,huh,hmz⟩:=bdS hux;refine d_g 18 ug 4 ?_ ?_
  .rcases bs x2 with a0 | a0
   .iterate 3 refine Nh z a0 ?_
    exact R z (pT z a0 z)<|WLq 4 (ifT huh a0) z z z
   exact Rh z a0 (fd a_F z)<|Rh z a0 (l0 g_3 z<|hb.at z)<|Rh z a0 (eql z z)<|R z (pF z a0 z)<|WLq 4 (ifF huh a0) z z z
  refine Rm z ?_;obtain ⟨ui,huj,a5⟩:=bdS hmz;refine d_g 27 ui 8 ?_ ?_
  .rcases bs ug with H | H
   .have hmk:=ifT huj H;refine Rh z H (mv z)<|Rh z H (mv z) ?_
    rcases bs x3 with V | V
    .iterate 4 refine Nh z V ?_
     exact Rh z H (pT z V z)<|R z (pT z H z)<|WLq 8 (ifT hmk V) z z z
    exact Rh z V (fd b_6 z)<|Rh z V (l0 R_ z<|hb.at z)<|Rh z V (lnR n_ z<|a1.e hd)<|Rh z V (eql z z)<|Rh z H (pF z V z)<|R z (pT z H z)<|WLq 8 (ifF hmk V) z z z
   exact Nh z H<|Nh z H<|Nv z<|Nv z<|Nv z<|Nv z<|Nh z H<|R z (pF z H z)<|WLq 8 (ifF huj H) z z z
  refine Rm z ?_;obtain ⟨ul,hum,a6⟩:=bdS a5;refine d_g 36 ul 8 ?_ ?_
  .rcases bs ui with I | I
   .have hmn:=ifT hum I;refine Rh z I (mv z)<|Rh z I (mv z) ?_
    rcases bs x4 with W | W
    .iterate 4 refine Nh z W ?_
     exact Rh z I (pT z W z)<|R z (pT z I z)<|WLq 8 (ifT hmn W) z z z
    exact Rh z W (fd c_e z)<|Rh z W (l0 b_i z<|hb.at z)<|Rh z W (lnR a_n z<|a2.e hd)<|Rh z W (eql z z)<|Rh z I (pF z W z)<|R z (pT z I z)<|WLq 8 (ifF hmn W) z z z
   exact Nh z I<|Nh z I<|Nv z<|Nv z<|Nv z<|Nv z<|Nh z I<|R z (pF z I z)<|WLq 8 (ifF hum I) z z z
  refine Rm z ?_;obtain ⟨uo,hup,a7⟩:=bdS a6;refine d_g 45 uo 8 ?_ ?_
  .rcases bs ul with J | J
   .have hmq:=ifT hup J;refine Rh z J (mv z)<|Rh z J (mv z) ?_
    rcases bs x5 with Y | Y
    .iterate 4 refine Nh z Y ?_
     exact Rh z J (pT z Y z)<|R z (pT z J z)<|WLq 8 (ifT hmq Y) z z z
    exact Rh z Y (fd b_1 z)<|Rh z Y (l0 A_ z<|hb.at z)<|Rh z Y (lnR v_ z<|a3.e hd)<|Rh z Y (eql z z)<|Rh z J (pF z Y z)<|R z (pT z J z)<|WLq 8 (ifF hmq Y) z z z
   exact Nh z J<|Nh z J<|Nv z<|Nv z<|Nv z<|Nv z<|Nh z J<|R z (pF z J z)<|WLq 8 (ifF hup J) z z z
  refine Rm z ?_;obtain ⟨ur,hus,hmt⟩:=bdS a7;refine d_g 56 ur 10 ?_ ?_
  .rcases bs uo with L | L
   .have hmu:=ifT hus L;refine Rh z L (mv z)<|Rh z L (lss z z)<|Rh z L (mv z) ?_
    rcases bs (decide<|x6<0) with O | O
    .iterate 5 refine Nh z O ?_
     exact Rh z L (pT z O z)<|R z (pT z L z)<|WLq 10 (ifT hmu O) z z z
    exact Rh z O (fd J_ z)<|Rh z O (l0 A_ z<|hb.at z)<|Rh z O (lnR v_ z<|a4.e hd)<|Rh z O (mv z)<|Rh z O (eql z z)<|Rh z L (pF z O z)<|R z (pT z L z)<|WLq 10 (ifF hmu O) z z z
   iterate 3 refine Nh z L ?_
   exact Nv z<|Nv z<|Nv z<|Nv z<|Nv z<|Nh z L<|R z (pF z L z)<|WLq 10 (ifF hus L) z z z
  refine Rm z ?_
  rcases bs ur with G | G
  .have hmv:=ifT hmt G;refine Rh z G (fd c_V z)<|Rh z G (l0 g_4 z<|hb.at z)<|Rh z G (not_ z)<|Rh z G (mv z) ?_
   rcases bs (!x1.little) with hca | hca
   .iterate 3 refine Nh z hca ?_
    exact Rh z G (pT z hca z)<|R z (pT z G z)<|Ra z<|Wl (λ_ q=>⟨true,som<|ifT hmv hca,q.k<|s1 z,br wc⟩)
   exact Rh z hca (fd a_u z)<|Rh z hca (l0 g_3 z<|hb.at z)<|Rh z hca (eql z z)<|Rh z G (pF z hca z)<|R z (pT z G z)<|Ra z<|Wl (λ_ q=>⟨x1.kind==1,som<|ifF hmv hca,q.k<|s1 z,br wc⟩)
  iterate 4 refine Nh z G ?_
  exact Nv z<|Nv z<|Nv z<|Nh z G<|R z (pF z G z)<|Ra z<|Wl (λ_ q=>⟨false,som<|ifF hmt G,q.k<|s1 z,br wc⟩)
 rintro a8 _ ⟨xe,rfl,_,a9⟩;revert a8;refine Wo ?_;obtain rfl:=som hmy;exact Wr<|e_ hr z ⟨bup hd a9,z⟩
theorem g_W {x1:d_}{x2:Int}{res:Int}(hm:e_3 x1 x2=some res)(J:B<=w0.z)(I:repS w0 B (sl A0 N0 C0) x1.rules)(Y:inI x2):l_ prog 141 [(.agg #[sl A0 N0 C0]),vI x2] w0 (Q9 w0 B res):=by
 unfold e_3 at hm
 refine goG func141 z z z λfn hr=>Ws<|E z (fb z) ?_
 rintro _ O ⟨rfl,W⟩;have h2:=W.below;have h6:Blk O w0.z [sl A0 N0 C0]:=W.blk;refine Rw z<|Wq<|Wq ?_
 obtain ⟨uf,hug,hma⟩:=bdS hm;refine Wt (λa w=>∃(V:Bool),V=uf/\Sat 39 [(1,vI x2),(2,pt w0.z),(30,vB V)] a/\Below O.z O w) ?_ ?_
 .refine Wg<|Rm z<|Rf z a_3 z<|R z (l0 a_8 z<|h6.at z)<|R z (lnR a_a z<|I.e h2)<|R z (sb_ z z) ?_
  obtain ⟨rh,ei,hmb⟩:=bdS hug;refine E z (fc call50 z<|b_t ei (zt' J h2.s) Y (ii z)<|iS _ _) ?_;rintro _ _ ⟨s4,rfl⟩;refine R z (not_ z)<|Rm z ?_
  rcases bs (!rh) with H | H
  .iterate 7 refine Nh z H ?_
   exact R z (pT z H z)<|Rm z<|Nh z z<|Nh z z<|Nh z z<|Nh z z<|Nh z z<|Nh z z<|Nh z z<|Nh z z<|R z (pT z z z)<|Wl (λ_ q=>⟨true,som<|ifT hmb H,q.k<|s3 z z z,s4⟩)
  refine Rh z H (fd a_3 z) ?_;have hc:=h6.e s4;refine Rh z H (l0 a_8 z<|hc.at z)<|Rh z H (mv z) ?_
  obtain ⟨xj,ek,hmd⟩:=bdS<|ifF hmb H;have he:=I.g<|(h2.ag B).e s4
  refine RXg z z H z (at_ (α:=g_) a_a o_ z z z he ek) ?_;rintro _ ⟨_,_,_,rfl,hl,hn,_⟩;obtain ⟨_,_,_,_,_,_,_,_,_,_,_,_,rfl,_,_,_,_,_,_,_⟩:=a_D hn;refine Rh z H (fd a_u z)<|Rh z H (l0 g_3 z<|hl.at (j:=1) z)<|Rh z H (nq z z)<|R z (pF z H z)<|Rm z ?_
  rcases bs (xj.kind != 1) with G | G
  .iterate 8 refine Nh z G ?_
   exact R z (pT z G z)<|Wl (λ_ q=>⟨true,som<|ifT hmd G,q.k<|s3 z z z,s4⟩)
  refine Rh z G (fd a_3 z)<|Rh z G (l0 a_8 z<|hc.at z)<|Rh z G (mv z) ?_
  obtain ⟨_,em,hmo⟩:=bdS<|ifF hmd G;refine RXg z z G z (at_ (α:=g_) a_a o_ z z z he em) ?_;rintro _ ⟨_,_,_,rfl,hp,hq,_⟩;obtain ⟨_,_,_,_,_,_,_,_,_,_,_,_,rfl,_,_,ht,_,_,_,_⟩:=a_D hq;refine Rh z G (fd a_F z)<|Rh z G (l0 g_3 z<|hp.at (j:=2) z) ?_
  obtain ⟨rr,es,hmu⟩:=bdS hmo;refine Eg z z G z (fc call50 z<|b_t es (zt' J<|lt_ h2.s s4.s) ht (ii z)<|ii z) ?_;rintro _ _ ⟨sv,rfl⟩;exact Rh z G (not_ z)<|R z (pF z G z)<|Wl (λ_ q=>⟨!rr,som hmu,q.k<|s3 z z z,bup s4 sv⟩)
 rintro aw _ ⟨V,rfl,_,s5⟩;revert aw;refine Wo<|Wc z (λL=>?_) (λL=>?_)
 .refine Ws<|Rw z ?_
  obtain rfl:=som<|ifT hma L;exact Wr<|e_ hr z ⟨bup h2 s5,z,ii z⟩
 refine Wk<|Ws<|Rf z a_3 z<|R z (l0 a_8 z<|(h6.e s5).at z)<|Rm z ?_
 obtain ⟨_,ex,hmy⟩:=bdS<|ifF hma L;refine RX z (at_ (α:=g_) a_a o_ z z z (I.g<|(h2.ag B).e s5) ex) ?_;rintro _ ⟨_,_,_,rfl,hz,a1,_⟩;obtain ⟨_,_,_,_,_,_,_,_,_,_,_,_,rfl,_,_,a2,_,_,_,_⟩:=a_D a1;refine Rf z a_F z<|R z (l0 g_3 z<|hz.at (j:=2) z) ?_
 obtain ⟨_,a3,a0⟩:=bdS hmy;refine E z (fc call41 z<|i_T a3 (zt' J<|lt_ h2.s s5.s) a2) ?_;rintro _ _ ⟨a4,rfl,_⟩;refine R z (sb_ z z)<|Rw z ?_
 obtain rfl:=som a0;exact Wr<|e_ hr z ⟨bup (bup h2 s5) a4,z,iS _ _⟩
theorem W_w2f {x1:List Str}{x2:Str}{res:Bool}(hm:h_t x1 x2=some res)(a0:B<=w0.z)(G:repS w0 B (sl A0 N0 C0) x1)(Y:x2.b.length<=LEN):l_ prog 164 [sl A0 N0 C0,Str.v x2] w0 (Q0 w0 B res):=by
 unfold h_t at hm
 refine goG func164 z z z λfn hr=>Ws<|Rw z<|Wq<|Ws<|Rw z ?_
 obtain ⟨_,V,J⟩:=bdS hm;refine Wf (σ:=Unit) (ρ:=Bool) (λ(k3:Nat)(_:Unit) a w=>Sat 18 [(0,sl A0 N0 C0),(1,Str.v x2),(5,vI ((k3:Nat):Int))] a/\Below w0.z w0 w) (λ(_:Unit) a w=>Sat 18 [] a/\Below w0.z w0 w) (rQ prog fn<|Q0 w0 B) V ?_ ?_ ?_ ?_ ?_
 .exact λ_ q=>⟨q.k<|s3 z z z,br w0⟩
 .rintro k3 _ _ _ _ L ⟨W,I⟩ hma;refine Wu ?_ W;refine Wq<|Wm z<|Rm z ?_
  have h5:=G.e I;refine R z (lnR a_n z h5)<|Rl z z z<|Wx z (λ_=>?_) (λhc=>(a_6 L hc).elim)
  refine Wk<|Wq<|Wb<|Wm z<|Rm z ?_
  obtain ⟨_,eb,O⟩:=bdS hma;refine RX z (at_ (α:=Str) a_n z_9 z z z h5 eb) ?_;rintro _ ⟨_,_,_,rfl,hd,he,_⟩;obtain ⟨rfl,_⟩:=b_K he;refine R z (l0 g_9 z<|hd.at0 z)<|Rm z<|R z (b_C z z)<|Wx z (λH=>?_) (λH=>?_)
  .exact Ws<|Rw z<|Wr<|rtO<|qL (som<|ifT O H).symm<|e_ hr z ⟨I,z⟩
  exact Wk<|Wg<|Rm z<|R z (inc_ L (lt_ (repS.len G) M_) z z)<|Ra z<|Wl (λ_ q=>⟨(),(som<|ifF O H).symm,⟨q.k<|s3 z z z,I⟩⟩)
 .rintro _ _ _ ⟨hSc,s7⟩;refine Wu ?_ hSc;refine Wq<|Wm z<|Rm z<|R z (lnR a_n z<|G.e s7)<|Rl z z z<|Wx z (λhc=>(a_7 hc).elim) (λ_=>?_)
  exact We<|λ_ q=>⟨rfl,⟨q.k sn,s7⟩⟩
 .rintro _ af _ rfl ⟨_,sg⟩;have hmh:=elL J;revert af;refine Wo<|Ws<|Rw z ?_
  obtain rfl:=som hmh;exact Wr<|e_ hr z ⟨sg,z⟩
 rintro _ _ _ _ rfl ⟨rfl,hqi⟩;have hmj:=elR J;obtain rfl:=som hmj;exact ⟨hqi,z⟩
theorem W_w2g {x1:List Str}{res:Bool}(hm:h_u x1=some res)(I:B<=w0.z)(H:repS w0 B (sl A0 N0 C0) x1):l_ prog 157 [sl A0 N0 C0] w0 (Q0 w0 B res):=by
 unfold h_u at hm
 refine goG func157 z z z λfn hr=>Ws<|Rw z<|Wq<|Ws<|Rw z ?_
 obtain ⟨_,huj,L⟩:=bdS hm;refine Wf (σ:=Unit) (ρ:=Bool) (λ(k1:Nat)(_:Unit) a w=>Sat 29 [(0,sl A0 N0 C0),(3,vI ((k1:Nat):Int))] a/\Below w0.z w0 w) (λ(_:Unit) a w=>Sat 29 [(0,sl A0 N0 C0)] a/\Below w0.z w0 w) (rQ prog fn<|Q0 w0 B) huj ?_ ?_ ?_ ?_ ?_
 .exact λ_ q=>⟨q.k<|s2 z z,br w0⟩
 .rintro k1 _ _ O _ hka ⟨hSk,s4⟩ hml;refine Wu ?_ hSk;refine Wq<|Wm z<|Rm z<|R z (lnR a_n z<|H.e s4)<|Rl z z z<|Wx z (λ_=>?_) (λhc=>(a_6 hka hc).elim)
  refine Wk<|Wq<|Wb<|Wq ?_
  obtain ⟨um,hun,hmb⟩:=bdS hml;refine Wt (λa w=>∃(x2:Bool),x2=um/\Sat 29 [(0,sl A0 N0 C0),(3,vI ((k1:Nat):Int)),(25,vB x2)] a/\Below O.z O w) ?_ ?_
  .refine Wd (X:=noX) 0 (pl_ 16 [4,14]) mo (by kernel_rfl) λae s5 _=>dM z z z<|dM z z z ?_
   obtain ⟨_,eo,hmp⟩:=bdS hun;have hd:=(s4.ag B).e s5;refine dRX z z (at_ (α:=Str) a_n z_9 z z z (H.g hd) eo) ?_;rintro _ ⟨_,_,_,rfl,hq,ht,_⟩;obtain ⟨rfl,hu⟩:=b_K ht;refine dR z z (l0 g_9 z<|hq.at0 z) ?_;have he:=lt_ s4.s s5.s;obtain ⟨rr,es,hmc⟩:=bdS hmp;refine dE z z (fc call100 z<|k_l es (zt' I he) hu) (.inr λ_ _ h=>p_<|h.1) ?_;rintro _ _ ⟨s6,rfl⟩;refine dR z z (not_ z)<|dM z z z ?_
   rcases bs (!rr) with G | G
   .iterate 7 refine dRn z z z G z ?_
    exact dEn z z z G z<|dR z z (pT z G z)<|pD (λ_ q=>⟨true,som<|ifT hmc G,q.k<|s3 z z z,bup s5 s6⟩)
   refine dRg z z z G z (mv z)<|dRg z z z G z (mv z) ?_
   obtain ⟨_,ev,hmw⟩:=bdS<|ifF hmc G;have hf:=H.g<|hd.e s6
   refine b_L z z z G z (rX a_n z_9 z z hf z z ev) ?_;rintro _ ⟨_,_,_,rfl,hx⟩;refine dRg z z z G z (mv z)<|dRg z z z G z (mv z) ?_
   obtain ⟨_,ey,hmz⟩:=bdS hmw;refine b_L z z z G z (at_ (α:=Str) a_n z_9 z z z hf ey) ?_;rintro _ ⟨_,_,_,rfl,a3,a4,_⟩;obtain ⟨rfl,a5⟩:=b_K a4;refine dRg z z z G z (l0 g_9 z<|a3.at0 z) ?_;obtain ⟨a6,a7,V⟩:=bdS hmz;refine dEg z z z G z (fc call164 z<|W_w2f a7 (zt' I<|lt_ he s6.s) hx a5) (.inr λ_ _ h=>p_<|h.1) ?_;rintro _ _ ⟨a8,rfl⟩;exact dR z z (pF z G z)<|pD (λ_ q=>⟨a6,som V,q.k<|s3 z z z,bup (bup s5 s6) a8⟩)
  rintro a9 _ ⟨x2,rfl,_,sg⟩;revert a9;refine Wo<|Wc z (λJ=>?_) (λJ=>?_)
  .exact Ws<|Rw z<|Wr<|rtO<|qL (som<|ifT hmb J).symm<|e_ hr z ⟨bup s4 sg,z⟩
  exact Wk<|Wg<|Rm z<|R z (inc_ hka (lt_ (repS.len H) M_) z z)<|Ra z<|Wl (λ_ q=>⟨(),(som<|ifF hmb J).symm,⟨q.k<|s2 z z,bup s4 sg⟩⟩)
 .rintro _ _ _ ⟨W,sh⟩;refine Wu ?_ W;refine Wq<|Wm z<|Rm z<|R z (lnR a_n z<|H.e sh)<|Rl z z z<|Wx z (λhc=>(a_7 hc).elim) (λ_=>?_)
  exact We<|λ_ q=>⟨rfl,⟨q.k<|s1 z,sh⟩⟩
 .rintro _ aa _ rfl ⟨_,s7⟩;have Y:=elL L;revert aa;refine Wo<|Wm z ?_
  have hi:=H.e s7;refine R z (lnR a_n z hi) ?_;obtain ⟨_,ab,a0⟩:=bdS Y;refine E z (fc call50 z<|b_t ab (zt' I s7.s) (b_0<|repS.len hi) (ii z)<|ii z) ?_;rintro _ _ ⟨ad,rfl⟩;refine Rw z ?_
  obtain rfl:=som a0;exact Wr<|e_ hr z ⟨bup s7 ad,z⟩
 rintro _ _ _ _ rfl ⟨rfl,a1⟩;have a2:=elR L;obtain rfl:=som a2;exact ⟨a1,z⟩
theorem W_w2h {x1:d_}{x2:g_}{res:Bool}(hm:h_v x1 x2=some res)(O:B<=w0.z)(a2:repS w0 B (sl A0 N0 C0) x1.rules)(aO:x2.name.b.length<=LEN)(aP:inI x2.kind)(aQ:inI x2.size)(aR:repS w0 B (sl A2 N2 C2) x2.bytes)(aS:repS w0 B (sl A3 N3 C3) x2.names)(J:repS w0 B (sl A1 N1 C1) x2.tags)(V:repS w0 B (sl A5 N5 C5) x2.kids):l_ prog 158 [(.agg #[sl A0 N0 C0]),(.agg #[Str.v x2.name,vI x2.kind,vI x2.size,vB x2.little,sl A2 N2 C2,sl A3 N3 C3,sl A1 N1 C1,sl A5 N5 C5])] w0 (Q0 w0 B res):=by
 unfold h_v at hm
 refine goG func158 z z z λfn hr=>Ws<|E z (fb z) ?_
 rintro _ L ⟨rfl,hn⟩;have h4:=hn.below;refine E z (fb z) ?_;rintro _ wd ⟨rfl,ho⟩;have h3:=ho.below;have ha:Blk wd L.z (vR x2 A2 N2 C2 A3 N3 C3 A1 N1 C1 A5 N5 C5):=ho.blk;refine Rw z<|Wq<|Wq ?_
 obtain ⟨aj,hup,hmq⟩:=bdS hm;refine Wt (λa w=>∃(xg:Bool),xg=aj/\Sat 59 [(2,pt w0.z),(3,pt L.z),(20,vB xg)] a/\Below wd.z wd w) ?_ ?_
 .refine Wg<|Rf z J_ z<|R z (l0 A_ z<|ha.at z) ?_
  have ht:=(h4.ag B).e h3;refine R z (lnR v_ z<|V.g ht)<|Rf z b_1 z<|R z (l0 A_ z<|ha.at z) ?_
  have hh:=J.g ht;refine R z (lnR v_ z hh)<|R z (add_ z z)<|R z (nq z z)<|Rm z ?_
  rcases bs ((x2.kids.length:Int) != (i_ (x2.tags.length:Int) 1)) with I | I
  .iterate 5 refine Nh z I ?_
   exact R z (pT z I z)<|Wl (λ_ q=>⟨true,som<|ifT hup I,q.k<|s3 z z z,br wd⟩)
  refine Rh z I (fd b_1 z)<|Rh z I (l0 A_ z<|ha.at z)<|Rh z I (lnR v_ z hh) ?_
  obtain ⟨ak,al,a3⟩:=bdS<|ifF hup I;refine Eg z z I z (fc call50 z<|b_t al (zt' O<|lt_ h4.s h3.s) (b_0<|repS.len hh) (ii z)<|ii z) ?_;rintro _ _ ⟨am,rfl⟩;exact Rh z I (not_ z)<|R z (pF z I z)<|Wl (λ_ q=>⟨!ak,som a3,q.k<|s3 z z z,am⟩)
 rintro an wb ⟨xg,rfl,_,s5⟩;revert an;refine Wo<|Wc z (λhci=>?_) (λhci=>?_)
 .refine Ws<|Rw z ?_
  obtain rfl:=som<|ifT hmq hci;exact Wr<|e_ hr z ⟨bup (bup h4 h3) s5,z⟩
 refine Wk<|Wq<|Ws<|Rw z ?_
 obtain ⟨_,a4,hmr⟩:=bdS<|ifF hmq hci;refine Wf (σ:=Unit) (ρ:=Bool) (λ(ke:Nat)(_:Unit) a w=>Sat 59 [(2,pt w0.z),(3,pt L.z),(5,vI ((ke:Nat):Int))] a/\Below wb.z wb w) (λ(_:Unit) a w=>Sat 59 [] a/\Below wb.z wb w) (rQ prog fn<|Q0 w0 B) a4 ?_ ?_ ?_ ?_ ?_
 .exact λ_ q=>⟨q.k<|s3 z z z,br wb⟩
 .rintro ke _ _ ws _ hku ⟨a5,s7⟩ a6;refine Wu ?_ a5;refine Wq<|Wm z<|Rf z b_1 z ?_
  have hv:=(ha.e s5).e s7;refine R z (l0 A_ z<|hv.at z) ?_;have hw:=(((h4.ag B).e h3).e s5).e s7;refine R z (lnR v_ z<|J.g hw)<|Rl z z z<|Wx z (λ_=>?_) (λhc=>(a_6 hku hc).elim)
  refine Wk<|Wq<|Wb<|Wq ?_
  obtain ⟨ao,a7,hmx⟩:=bdS a6;refine Wt (λa w=>∃(xj:Bool),xj=ao/\Sat 59 [(2,pt w0.z),(3,pt L.z),(5,vI ((ke:Nat):Int)),(58,vB xj)] a/\Below ws.z ws w) ?_ ?_
  .refine Wd (X:=noX) 0 (pl_ 31 [10,11]) mo (by kernel_rfl) λaT s6 _=>dR z z (fd b_1 z) ?_
   have hk:=hv.e s6;refine dR z z (l0 A_ z<|hk.at z)<|dM z z z ?_
   obtain ⟨_,ap,a8⟩:=bdS a7;have hf:=hw.e s6;refine dRX z z (at_ (α:=Int) v_ z_3 z z z (J.g hf) ap) ?_;rintro _ ⟨_,_,_,rfl,aq,ar,_⟩;obtain ⟨rfl,au⟩:=O_ ar;refine dR z z (l0 g_3 z<|aq.at0 z)<|dR z z (lN (vs:=[sl A0 N0 C0]) t_ r_ z z fid<|(((((hn.blk:Blk L w0.z [sl A0 N0 C0]).e h3).e s5).e s7).e s6).row 0 1 z)<|dR z z (fd J_ z)<|dR z z (l0 A_ z<|hk.at z) ?_
   obtain ⟨_,av,a9⟩:=bdS a8;refine dRX z z (at_ (α:=Int) v_ z_3 z z z (V.g hf) av) ?_;rintro _ ⟨_,_,_,rfl,aw,ax,_⟩;obtain ⟨rfl,ay⟩:=O_ ax;refine dR z z (l0 g_3 z<|aw.at0 z) ?_;have hy:=lt_ (lt_ (lt_ (lt_ h4.s h3.s) s5.s) s7.s) s6.s;obtain ⟨_,az,aa⟩:=bdS a9;refine dE z z (fc call141 z<|g_W az (zt' O hy) (a2.g hf) ay) (.inr λ_ _ h=>p_<|h.1) ?_;rintro _ _ ⟨s8,rfl,aA⟩;obtain ⟨aB,aC,hmz⟩:=bdS aa;refine dE z z (fc call50 z<|b_t aC (zt' O<|lt_ hy s8.s) au (ii z) aA) (.inr λ_ _ h=>p_<|h.1) ?_;rintro _ _ ⟨sc,rfl⟩;refine dR z z (not_ z)<|dM z z z ?_
   rcases bs (!aB) with H | H
   .iterate 3 refine dRn z z z H z ?_
    iterate 12 refine dRu z z z z ?_
    exact dRn z z z H z<|dR z z (pT z H z)<|pD (λ_ q=>⟨true,som<|ifT hmz H,q.k<|s4 z z z z,bup (bup s6 s8) sc⟩)
   have W:=ifF hmz H;refine dRg z z z H z (mv z)<|dRg z z z H z (a_g z z)<|dRg z z z H z (mv z) ?_
   rcases bs (decide<|0<((ke:Nat):Int)) with G | G
   .refine dRg z z z G z (fd b_1 z) ?_;have Y:=(hk.e s8).e sc;refine dRg z z z G z (l0 A_ z<|Y.at z)<|dRg z z z G z (mv z)<|dRg z z z G z (sb_ z z) ?_
    obtain ⟨aD,aE,ab⟩:=bdS<|ifT W G;have a0:=J.g<|(hf.e s8).e sc
    refine b_L z z z G z (at_ (α:=Int) v_ z_3 z z z a0 aE) ?_;rintro _ ⟨_,_,_,rfl,aF,aG,_⟩;obtain ⟨rfl,_⟩:=O_ aG;refine dRg z z z G z (l0 g_3 z<|aF.at0 z)<|dRg z z z G z (fd b_1 z)<|dRg z z z G z (l0 A_ z<|Y.at z)<|dRg z z z G z (mv z) ?_
    obtain ⟨aH,aI,ad⟩:=bdS ab;refine b_L z z z G z (at_ (α:=Int) v_ z_3 z z z a0 aI) ?_;rintro _ ⟨_,_,_,rfl,aJ,aK,_⟩;obtain ⟨rfl,_⟩:=O_ aK;exact dRg z z z G z (l0 g_3 z<|aJ.at0 z)<|dRg z z z G z (b_R z z)<|dRg z z z H z (pT z G z)<|dR z z (pF z H z)<|pD (λ_ q=>⟨decide<|aH<=aD,som ad,q.k<|s4 z z z z,bup (bup s6 s8) sc⟩)
   iterate 12 refine dRn z z z G z ?_
   exact dRg z z z H z (pF z G z)<|dR z z (pF z H z)<|pD (λ_ q=>⟨false,som<|ifF W G,q.k<|s4 z z z z,bup (bup s6 s8) sc⟩)
  rintro aL _ ⟨xj,rfl,_,a1⟩;revert aL;refine Wo<|Wc z (λhcl=>?_) (λhcl=>?_)
  .exact Ws<|Rw z<|Wr<|rtO<|qL (som<|ifT hmx hcl).symm<|e_ hr z ⟨bup (bup (bup (bup h4 h3) s5) s7) a1,z⟩
  exact Wk<|Wg<|Rm z<|R z (inc_ hku (lt_ (repS.len J) M_) z z)<|Ra z<|Wl (λ_ q=>⟨(),(som<|ifF hmx hcl).symm,⟨q.k<|s3 z z z,bup s7 a1⟩⟩)
 .rintro _ _ _ ⟨ae,sm⟩;refine Wu ?_ ae;refine Wq<|Wm z<|Rf z b_1 z<|R z (l0 A_ z<|((ha.e s5).e sm).at z)<|R z (lnR v_ z<|J.g<|(((h4.ag B).e h3).e s5).e sm)<|Rl z z z<|Wx z (λhc=>(a_7 hc).elim) (λ_=>?_)
  exact We<|λ_ q=>⟨rfl,⟨q.k sn,sm⟩⟩
 .rintro _ aM _ rfl ⟨_,aN⟩;have af:=elL hmr;revert aM;refine Wo<|Ws<|Rw z ?_
  obtain rfl:=som af;exact Wr<|e_ hr z ⟨bup (bup (bup h4 h3) s5) aN,z⟩
 rintro _ _ _ _ rfl ⟨rfl,ah⟩;have ai:=elR hmr;obtain rfl:=som ai;exact ⟨ah,z⟩
theorem W_w2i {x1:d_}{x2:g_}{res:Bool}(hm:h_w x1 x2=some res)(I:B<=w0.z)(a8:repS w0 B (sl A0 N0 C0) x1.rules)(a2:x2.name.b.length<=LEN)(a3:inI x2.kind)(V:inI x2.size)(W:repS w0 B (sl A2 N2 C2) x2.bytes)(a0:repS w0 B (sl A3 N3 C3) x2.names)(a4:repS w0 B (sl A1 N1 C1) x2.tags)(Y:repS w0 B (sl A5 N5 C5) x2.kids):l_ prog 145 [(.agg #[sl A0 N0 C0]),(.agg #[Str.v x2.name,vI x2.kind,vI x2.size,vB x2.little,sl A2 N2 C2,sl A3 N3 C3,sl A1 N1 C1,sl A5 N5 C5])] w0 (Q0 w0 B res):=by
 unfold h_w at hm
 refine goG func145 z z z λfn hr=>Ws<|E z (fb z) ?_
 rintro _ al ⟨rfl,aT⟩;have h1:=aT.below;have am:Blk al w0.z [sl A0 N0 C0]:=aT.blk;refine E z (fb z) ?_;rintro _ H ⟨rfl,aU⟩;have G:=aU.below;have h3:Blk H al.z (vR x2 A2 N2 C2 A3 N3 C3 A1 N1 C1 A5 N5 C5):=aU.blk;refine Rw z<|Wq<|Ws<|Rf z a_u z<|R z (l0 g_3 z<|h3.at z)<|Wn<|Wb<|Ws<|Rq z z z<|Rw z<|Wc z (λa9=>?_) (λa9=>?_)
 .refine Wq ?_;obtain ⟨bI,be,bf⟩:=bdS<|ifT hm a9;refine Wt (λa w=>∃(an:Bool),an=bI/\Sat 114 [(4,vB an)] a/\Below H.z H w) ?_ ?_
  .refine Wg<|R z (lN (vs:=vR x2 A2 N2 C2 A3 N3 C3 A1 N1 C1 A5 N5 C5) L_ o_ z z fid<|h3.row 0 8 z) ?_
   have hw:=(h1.ag B).e G;have aV:=lt_ h1.s G.s;obtain ⟨bJ,bK,az⟩:=bdS be;refine E z (fc call156 z<|d_N bK (zt' I aV) a2 a3 V (W.g hw) (a0.g hw) (a4.g hw) (Y.g hw)<|ii z) ?_;rintro _ _ ⟨sg,rfl⟩;refine Rm z ?_
   rcases bs bJ with hca | hca
   .refine Rh z hca (fd a_F z) ?_;have aW:=h3.e sg;refine Rh z hca (l0 g_3 z<|aW.at z) ?_;obtain ⟨bL,bM,aA⟩:=bdS<|ifT az hca;refine Eg z z hca z (fc call50 z<|b_t bM (zt' I<|lt_ aV sg.s) V (ii z)<|ii z) ?_;rintro _ _ ⟨sx,rfl⟩;refine R z (pT z hca z)<|Rm z ?_
    rcases bs bL with O | O
    .have aB:=ifT aA O;refine Rh z O (fd c_V z) ?_;have aX:=aW.e sx;refine Rh z O (l0 g_4 z<|aX.at z)<|Rh z O (not_ z)<|Rh z O (mv z) ?_
     rcases bs (!x2.little) with hcb | hcb
     .iterate 3 refine Nh z hcb ?_
      exact Rh z O (pT z hcb z)<|R z (pT z O z)<|Ra z<|Wl (λ_ q=>⟨true,som<|ifT aB hcb,q.k<|s1 z,bup sg sx⟩)
     exact Rh z hcb (fd a_F z)<|Rh z hcb (l0 g_3 z<|aX.at z)<|Rh z hcb (a_g z z)<|Rh z O (pF z hcb z)<|R z (pT z O z)<|Ra z<|Wl (λ_ q=>⟨decide<|1<x2.size,som<|ifF aB hcb,q.k<|s1 z,bup sg sx⟩)
    iterate 4 refine Nh z O ?_
    exact Nv z<|Nv z<|Nv z<|Nh z O<|R z (pF z O z)<|Ra z<|Wl (λ_ q=>⟨false,som<|ifF aA O,q.k<|s1 z,bup sg sx⟩)
   iterate 3 refine Nh z hca ?_
   exact R z (pF z hca z)<|Rm z<|Nh z z<|Nh z z<|Nh z z<|Nh z z<|Nv z<|Nv z<|Nv z<|Nh z z<|R z (pF z z z)<|Ra z<|Wl (λ_ q=>⟨false,som<|ifF az hca,q.k<|s1 z,sg⟩)
  rintro bN _ ⟨an,rfl,_,bO⟩;revert bN;refine Wo ?_;obtain rfl:=som bf;exact Wr<|rtO<|e_ hr z ⟨bup (bup h1 G) bO,z⟩
 have aC:=ifF hm a9;refine Ws<|Rq z z z<|Rw z<|Wc z (λaa=>?_) (λaa=>?_)
 .refine Wq ?_;obtain ⟨bP,bg,bh⟩:=bdS<|ifT aC aa;refine Wt (λa w=>∃(ao:Bool),ao=bP/\Sat 114 [(4,vB ao)] a/\Below H.z H w) ?_ ?_
  .refine Wg<|R z (lN (vs:=vR x2 A2 N2 C2 A3 N3 C3 A1 N1 C1 A5 N5 C5) L_ o_ z z fid<|h3.row 0 8 z) ?_
   have hl:=(h1.ag B).e G;have aY:=lt_ h1.s G.s;obtain ⟨bQ,bR,aD⟩:=bdS bg;refine E z (fc call156 z<|d_N bR (zt' I aY) a2 a3 V (W.g hl) (a0.g hl) (a4.g hl) (Y.g hl)<|ii z) ?_;rintro _ _ ⟨sn,rfl⟩;refine Rm z ?_
   rcases bs bQ with a5 | a5
   .refine Rh z a5 (fd b_6 z)<|Rh z a5 (l0 R_ z<|(h3.e sn).at z) ?_
    have aZ:=W.g<|hl.e sn
    refine Rh z a5 (lnR n_ z aZ) ?_;obtain ⟨bS,bT,bi⟩:=bdS<|ifT aD a5;refine Eg z z a5 z (fc call50 z<|b_t bT (zt' I<|lt_ aY sn.s) (b_0<|repS.len aZ) (ii z)<|ii z) ?_;rintro _ _ ⟨bU,rfl⟩;exact R z (pT z a5 z)<|Ra z<|Wl (λ_ q=>⟨bS,som bi,q.k<|s1 z,bup sn bU⟩)
   iterate 4 refine Nh z a5 ?_
   exact R z (pF z a5 z)<|Ra z<|Wl (λ_ q=>⟨false,som<|ifF aD a5,q.k<|s1 z,sn⟩)
  rintro bV _ ⟨ao,rfl,_,bW⟩;revert bV;refine Wo ?_;obtain rfl:=som bh;exact Wr<|rtO<|e_ hr z ⟨bup (bup h1 G) bW,z⟩
 have aE:=ifF aC aa;refine Ws<|Rq z z z<|Rw z<|Wc z (λab=>?_) (λab=>?_)
 .refine Wq ?_;obtain ⟨bX,bj,bk⟩:=bdS<|ifT aE ab;refine Wt (λa w=>∃(ap:Bool),ap=bX/\Sat 114 [(4,vB ap)] a/\Below H.z H w) ?_ ?_
  .refine Wg<|R z (lN (vs:=vR x2 A2 N2 C2 A3 N3 C3 A1 N1 C1 A5 N5 C5) L_ o_ z z fid<|h3.row 0 8 z) ?_
   have hy:=(h1.ag B).e G;have b0:=lt_ h1.s G.s;obtain ⟨bY,bZ,aF⟩:=bdS bj;refine E z (fc call156 z<|d_N bZ (zt' I b0) a2 a3 V (W.g hy) (a0.g hy) (a4.g hy) (Y.g hy)<|ii z) ?_;rintro _ _ ⟨sz,rfl⟩;refine Rm z ?_
   rcases bs bY with hcc | hcc
   .refine Rh z hcc (fd a_F z)<|Rh z hcc (l0 g_3 z<|(h3.e sz).at z) ?_
    obtain ⟨c0,c1,bm⟩:=bdS<|ifT aF hcc;refine Eg z z hcc z (fc call50 z<|b_t c1 (zt' I<|lt_ b0 sz.s) V (ii z)<|ii z) ?_;rintro _ _ ⟨c2,rfl⟩;exact R z (pT z hcc z)<|Ra z<|Wl (λ_ q=>⟨c0,som bm,q.k<|s1 z,bup sz c2⟩)
   iterate 3 refine Nh z hcc ?_
   exact R z (pF z hcc z)<|Ra z<|Wl (λ_ q=>⟨false,som<|ifF aF hcc,q.k<|s1 z,sz⟩)
  rintro c3 _ ⟨ap,rfl,_,c4⟩;revert c3;refine Wo ?_;obtain rfl:=som bk;exact Wr<|rtO<|e_ hr z ⟨bup (bup h1 G) c4,z⟩
 have aG:=ifF aE ab;refine Ws<|Rq z z z<|Rw z<|Wc z (λad=>?_) (λad=>?_)
 .refine Wq ?_;obtain ⟨c5,bn,bo⟩:=bdS<|ifT aG ad;refine Wt (λa w=>∃(aq:Bool),aq=c5/\Sat 114 [(4,vB aq)] a/\Below H.z H w) ?_ ?_
  .refine Wd (X:=noX) 0 (pl_ 12 [1,8]) mo (by kernel_rfl) λcX sh _=>?_
   have b1:=h3.e sh;refine dR z z (lN (vs:=vR x2 A2 N2 C2 A3 N3 C3 A1 N1 C1 A5 N5 C5) L_ o_ z z fid<|b1.row 0 8 z) ?_;have ho:=((h1.ag B).e G).e sh;have b2:=lt_ (lt_ h1.s G.s) sh.s;obtain ⟨c6,c7,aH⟩:=bdS bn;refine dE z z (fc call156 z<|d_N c7 (zt' I b2) a2 a3 V (W.g ho) (a0.g ho) (a4.g ho) (Y.g ho)<|ii z) (.inr λ_ _ h=>p_<|h.1) ?_;rintro _ _ ⟨si,rfl⟩;refine dM z z z ?_
   rcases bs c6 with J | J
   .refine dRg z z z J z (lN (vs:=[sl A0 N0 C0]) t_ r_ z z fid<|(((am.e G).e sh).e si).row 0 1 z)<|dRg z z z J z (fd J_ z)<|dRg z z z J z (l0 A_ z<|(b1.e si).at z) ?_
    obtain ⟨_,c8,bp⟩:=bdS<|ifT aH J;have b3:=ho.e si;refine b_L z z z J z (at_ (α:=Int) v_ z_3 z z z (Y.g b3) c8) ?_;rintro _ ⟨_,_,_,rfl,c9,ca,_⟩;obtain ⟨rfl,cb⟩:=O_ ca;refine dRg z z z J z (l0 g_3 z<|c9.at0 z) ?_;obtain ⟨cc,cd,bq⟩:=bdS bp;refine dEg z z z J z (fc call141 z<|g_W cd (zt' I<|lt_ b2 si.s) (a8.g b3) cb) (.inr λ_ _ h=>p_<|h.1) ?_;rintro _ _ ⟨ce,rfl,_⟩;exact dRg z z z J z (a_g z z)<|dR z z (pT z J z)<|dQ z z z<|pD (λ_ q=>⟨decide<|0<cc,som bq,q.k<|s1 z,bup (bup sh si) ce⟩)
   iterate 5 refine dRn z z z J z ?_
   exact dEn z z z J z<|dRn z z z J z<|dR z z (pF z J z)<|dQ z z z<|pD (λ_ q=>⟨false,som<|ifF aH J,q.k<|s1 z,bup sh si⟩)
  rintro cf _ ⟨aq,rfl,_,cg⟩;revert cf;refine Wo ?_;obtain rfl:=som bo;exact Wr<|rtO<|e_ hr z ⟨bup (bup h1 G) cg,z⟩
 have aI:=ifF aG ad;refine Ws<|Rq z z z<|Rw z<|Wc z (λae=>?_) (λae=>?_)
 .refine Wq ?_;obtain ⟨ch,bt,bu⟩:=bdS<|ifT aI ae;refine Wt (λa w=>∃(ar:Bool),ar=ch/\Sat 114 [(4,vB ar)] a/\Below H.z H w) ?_ ?_
  .refine Wd (X:=noX) 0 (pl_ 12 [1,8]) mo (by kernel_rfl) λcY sj _=>?_
   have b4:=h3.e sj;refine dR z z (lN (vs:=vR x2 A2 N2 C2 A3 N3 C3 A1 N1 C1 A5 N5 C5) L_ o_ z z fid<|b4.row 0 8 z) ?_;have hp:=((h1.ag B).e G).e sj;have b5:=lt_ (lt_ h1.s G.s) sj.s;obtain ⟨ci,cj,aJ⟩:=bdS bt;refine dE z z (fc call156 z<|d_N cj (zt' I b5) a2 a3 V (W.g hp) (a0.g hp) (a4.g hp) (Y.g hp)<|ii z) (.inr λ_ _ h=>p_<|h.1) ?_;rintro _ _ ⟨sk,rfl⟩;refine dM z z z ?_
   rcases bs ci with L | L
   .refine dRg z z z L z (lN (vs:=[sl A0 N0 C0]) t_ r_ z z fid<|(((am.e G).e sj).e sk).row 0 1 z)<|dRg z z z L z (fd J_ z)<|dRg z z z L z (l0 A_ z<|(b4.e sk).at z) ?_
    obtain ⟨_,ck,bv⟩:=bdS<|ifT aJ L;have b6:=hp.e sk;refine b_L z z z L z (at_ (α:=Int) v_ z_3 z z z (Y.g b6) ck) ?_;rintro _ ⟨_,_,_,rfl,cl,cm,_⟩;obtain ⟨rfl,cn⟩:=O_ cm;refine dRg z z z L z (l0 g_3 z<|cl.at0 z) ?_;obtain ⟨co,cp,bw⟩:=bdS bv;refine dEg z z z L z (fc call141 z<|g_W cp (zt' I<|lt_ b5 sk.s) (a8.g b6) cn) (.inr λ_ _ h=>p_<|h.1) ?_;rintro _ _ ⟨cq,rfl,_⟩;exact dRg z z z L z (a_g z z)<|dR z z (pT z L z)<|dQ z z z<|pD (λ_ q=>⟨decide<|0<co,som bw,q.k<|s1 z,bup (bup sj sk) cq⟩)
   iterate 5 refine dRn z z z L z ?_
   exact dEn z z z L z<|dRn z z z L z<|dR z z (pF z L z)<|dQ z z z<|pD (λ_ q=>⟨false,som<|ifF aJ L,q.k<|s1 z,bup sj sk⟩)
  rintro cr _ ⟨ar,rfl,_,ct⟩;revert cr;refine Wo ?_;obtain rfl:=som bu;exact Wr<|rtO<|e_ hr z ⟨bup (bup h1 G) ct,z⟩
 have aK:=ifF aI ae;refine Ws<|Rq z z z<|Rw z<|Wc z (λaf=>?_) (λaf=>?_)
 .refine Wq ?_;obtain ⟨cu,bx,bz⟩:=bdS<|ifT aK af;refine Wt (λa w=>∃(au:Bool),au=cu/\Sat 114 [(4,vB au)] a/\Below H.z H w) ?_ ?_
  .refine Wg<|R z (lN (vs:=vR x2 A2 N2 C2 A3 N3 C3 A1 N1 C1 A5 N5 C5) L_ o_ z z fid<|h3.row 0 8 z)<|Rf z c_e z<|R z (l0 b_i z<|h3.at z) ?_
   have hq:=(h1.ag B).e G;have av:=a0.g hq;refine R z (lnR a_n z av) ?_;have b7:=lt_ h1.s G.s;obtain ⟨cv,cw,aL⟩:=bdS bx;refine E z (fc call156 z<|d_N cw (zt' I b7) a2 a3 V (W.g hq) av (a4.g hq) (Y.g hq)<|b_0<|repS.len av) ?_;rintro _ _ ⟨sr,rfl⟩;refine Rm z ?_
   rcases bs cv with hcd | hcd
   .refine Rh z hcd (fd c_e z)<|Rh z hcd (l0 b_i z<|(h3.e sr).at z) ?_
    obtain ⟨cx,cy,bA⟩:=bdS<|ifT aL hcd;refine Eg z z hcd z (fc call157 z<|W_w2g cy (zt' I<|lt_ b7 sr.s)<|a0.g<|hq.e sr) ?_;rintro _ _ ⟨cz,rfl⟩;exact R z (pT z hcd z)<|Ra z<|Wl (λ_ q=>⟨cx,som bA,q.k<|s1 z,bup sr cz⟩)
   iterate 3 refine Nh z hcd ?_
   exact R z (pF z hcd z)<|Ra z<|Wl (λ_ q=>⟨false,som<|ifF aL hcd,q.k<|s1 z,sr⟩)
  rintro cA _ ⟨au,rfl,_,cB⟩;revert cA;refine Wo ?_;obtain rfl:=som bz;exact Wr<|rtO<|e_ hr z ⟨bup (bup h1 G) cB,z⟩
 have aM:=ifF aK af;refine Ws<|Rq z z z<|Rw z<|Wc z (λah=>?_) (λah=>?_)
 .refine Wq ?_;obtain ⟨cC,bB,bC⟩:=bdS<|ifT aM ah;refine Wt (λa w=>∃(aw:Bool),aw=cC/\Sat 114 [(4,vB aw)] a/\Below H.z H w) ?_ ?_
  .refine Wg<|R z (lN (vs:=vR x2 A2 N2 C2 A3 N3 C3 A1 N1 C1 A5 N5 C5) L_ o_ z z fid<|h3.row 0 8 z) ?_
   have ht:=(h1.ag B).e G;have b8:=lt_ h1.s G.s;obtain ⟨cD,cE,aN⟩:=bdS bB;refine E z (fc call156 z<|d_N cE (zt' I b8) a2 a3 V (W.g ht) (a0.g ht) (a4.g ht) (Y.g ht)<|ii z) ?_;rintro _ _ ⟨sm,rfl⟩;refine Rm z ?_
   rcases bs cD with hce | hce
   .refine Rh z hce (lN (vs:=[sl A0 N0 C0]) t_ r_ z z fid<|((am.e G).e sm).row 0 1 z)<|Rh z hce (lN (vs:=vR x2 A2 N2 C2 A3 N3 C3 A1 N1 C1 A5 N5 C5) L_ o_ z z fid<|(h3.e sm).row 0 8 z) ?_
    have hu:=ht.e sm;obtain ⟨cF,cG,bD⟩:=bdS<|ifT aN hce;refine Eg z z hce z (fc call158 z<|W_w2h cG (zt' I<|lt_ b8 sm.s) (a8.g hu) a2 a3 V (W.g hu) (a0.g hu) (a4.g hu)<|Y.g hu) ?_;rintro _ _ ⟨cH,rfl⟩;exact R z (pT z hce z)<|Ra z<|Wl (λ_ q=>⟨cF,som bD,q.k<|s1 z,bup sm cH⟩)
   iterate 3 refine Nh z hce ?_
   exact R z (pF z hce z)<|Ra z<|Wl (λ_ q=>⟨false,som<|ifF aN hce,q.k<|s1 z,sm⟩)
  rintro cI _ ⟨aw,rfl,_,cJ⟩;revert cI;refine Wo ?_;obtain rfl:=som bC;exact Wr<|rtO<|e_ hr z ⟨bup (bup h1 G) cJ,z⟩
 refine Wq<|Ws<|Rq z z z<|Rw z ?_
 obtain ⟨cK,aO,aP⟩:=bdS<|ifF aM ah;refine Wt (λa w=>∃(ax:Bool),ax=cK/\Sat 114 [(3,pt al.z),(6,vI x2.kind),(92,vB ax)] a/\Below H.z H w) ?_ ?_
 .refine Wc z (λai=>?_)<|λai=>?_
  .exact a_k<|λ_ q=>⟨x2.kind==8,som<|ifT aO ai,q.k<|s3 z z z,br H⟩
  exact Wg<|Rq z z z<|Ra z<|Wl (λ_ q=>⟨x2.kind==9,som<|ifF aO ai,q.k<|s3 z z z,br H⟩)
 rintro cL b9 ⟨ax,rfl,_,sf⟩;revert cL;refine Wo<|Wc z (λaj=>?_) (λaj=>?_)
 .refine Ws<|R z (lN (vs:=vR x2 A2 N2 C2 A3 N3 C3 A1 N1 C1 A5 N5 C5) L_ o_ z z fid<|(h3.e sf).row 0 8 z) ?_
  have a7:=((h1.ag B).e G).e sf;obtain ⟨_,cM,bE⟩:=bdS<|ifT aP aj;refine E z (fc call156 z<|d_N cM (zt' I<|lt_ (lt_ h1.s G.s) sf.s) a2 a3 V (W.g a7) (a0.g a7) (a4.g a7) (Y.g a7)<|ii z) ?_;rintro _ _ ⟨cN,rfl⟩;refine Rw z ?_
  obtain rfl:=som bE;exact Wr<|rtO<|e_ hr z ⟨bup (bup (bup h1 G) sf) cN,z⟩
 have aQ:=ifF aP aj;refine Ws<|Rq z z z<|Rw z<|Wc z (λak=>?_) (λak=>?_)
 .refine Wq ?_;obtain ⟨cO,bF,bG⟩:=bdS<|ifT aQ ak;refine Wt (λa w=>∃(ay:Bool),ay=cO/\Sat 114 [(4,vB ay)] a/\Below b9.z b9 w) ?_ ?_
  .refine Wg ?_;have ba:=h3.e sf;refine R z (lN (vs:=vR x2 A2 N2 C2 A3 N3 C3 A1 N1 C1 A5 N5 C5) L_ o_ z z fid<|ba.row 0 8 z) ?_;have hv:=((h1.ag B).e G).e sf;obtain ⟨cP,cQ,aR⟩:=bdS bF;refine E z (fc call156 z<|d_N cQ (zt' I<|lt_ (lt_ h1.s G.s) sf.s) a2 a3 V (W.g hv) (a0.g hv) (a4.g hv) (Y.g hv)<|ii z) ?_;rintro _ _ ⟨ss,rfl⟩;refine Rm z ?_
   rcases bs cP with a6 | a6
   .have aS:=ifT aR a6;refine Rh z a6 (fd b_6 z) ?_;have bb:=ba.e ss;refine Rh z a6 (l0 R_ z<|bb.at z) ?_;have bc:=W.g<|hv.e ss
    refine Rh z a6 (lnR n_ z bc)<|Rh z a6 (eql z z)<|R z (pT z a6 z)<|Rm z ?_
    rcases bs ((x2.bytes.length:Int)==1) with a1 | a1
    .refine Rh z a1 (fd b_6 z)<|Rh z a1 (l0 R_ z<|bb.at z) ?_
     obtain ⟨cR,cS,bH⟩:=bdS<|ifT aS a1;refine RXg z z a1 z (at_ (α:=UInt8) n_ z_5 z z z bc cS) ?_;rintro _ ⟨_,_,_,rfl,cT,cU,_⟩;obtain rfl:=u8 cU;exact Rh z a1 (l0 g_5 z<|cT.at0 z)<|Rh z a1 (nq z z)<|R z (pT z a1 z)<|Ra z<|Wl (λ_ q=>⟨(byteI cR) != (byteI (92:UInt8)),som bH,q.k<|s1 z,ss⟩)
    iterate 5 refine Nh z a1 ?_
    exact R z (pF z a1 z)<|Ra z<|Wl (λ_ q=>⟨false,som<|ifF aS a1,q.k<|s1 z,ss⟩)
   iterate 4 refine Nh z a6 ?_
   exact R z (pF z a6 z)<|Rm z<|Nh z z<|Nh z z<|Nh z z<|Nh z z<|Nh z z<|R z (pF z z z)<|Ra z<|Wl (λ_ q=>⟨false,som<|ifF aR a6,q.k<|s1 z,ss⟩)
  rintro cV _ ⟨ay,rfl,_,cW⟩;revert cV;refine Wo ?_;obtain rfl:=som bG;exact Wr<|rtO<|e_ hr z ⟨bup (bup (bup h1 G) sf) cW,z⟩
 refine Wk<|Ws<|Rw z ?_
 obtain rfl:=som<|ifF aQ ak;exact Wr<|e_ hr z ⟨bup (bup h1 G) sf,z⟩
theorem W_w2j {x1:d_}{x2:Int}{res:Bool}(hm:h_x x1 x2=some res)(J:B<=w0.z)(O:repS w0 B (sl A0 N0 C0) x1.rules)(a0:inI x2):l_ prog 112 [(.agg #[sl A0 N0 C0]),vI x2] w0 (Q0 w0 B res):=by
 unfold h_x at hm
 refine goG func112 z z z λfn hr=>Ws<|E z (fb z) ?_
 rintro _ aO ⟨rfl,a9⟩;have h1:=a9.below;have he:Blk aO w0.z [sl A0 N0 C0]:=a9.blk;refine Rw z<|Wq<|Wm z<|Rf z a_3 z<|R z (l0 a_8 z<|he.at z)<|R z (lnR a_a z<|O.e h1)<|R z (sb_ z z) ?_
 obtain ⟨_,aP,a1⟩:=bdS hm;refine E z (fc call50 z<|b_t aP (zt' J h1.s) a0 (ii z)<|iS _ _) ?_;rintro _ I ⟨G,rfl⟩;refine R z (not_ z)<|Wx z (λhci=>?_) (λhci=>?_)
 .refine Ws<|Rw z ?_
  obtain rfl:=som<|ifT a1 hci;exact Wr<|e_ hr z ⟨bup h1 G,z⟩
 refine Wk<|Ws<|Rf z a_3 z ?_
 have hj:=he.e G;refine R z (l0 a_8 z<|hj.at z)<|Rm z ?_
 obtain ⟨xk,aQ,ar⟩:=bdS<|ifF a1 hci;have hl:=(h1.ag B).e G;refine RX z (at_ (α:=g_) a_a o_ z z z (O.g hl) aQ) ?_;rintro _ ⟨_,_,_,rfl,aR,aS,_⟩;obtain ⟨am,nn,co,ap,nq,cr,au,ns,ct,av,nw,cx,rfl,aa,aT,aU,aV,aW,aX,hf⟩:=a_D aS;refine R z (lN (vs:=vR xk am nn co ap nq cr au ns ct av nw cx) L_ o_ z z fid aR)<|E z (fa b_P) ?_
 rintro _ aY ⟨rfl,ab⟩;have h2:=ab.below;refine E0 (fs0 (cur':=vR xk am nn co ap nq cr au ns ct av nw cx) o_ z z (ab.blk:Blk aY I.z [(Str.v (⟨[]⟩:Str)),vI 0,vI 0,vB false,sN,sN,sN,sN]) z z z z) ?_;rintro _ L ⟨hg,aZ⟩;have h3:=aZ.one;refine Wn<|Wq<|Ws<|Rw z ?_
 obtain ⟨_,aw,a2⟩:=bdS ar;refine Wf (σ:=Unit) (ρ:=Bool) (λ(ad:Nat)(_:Unit) a w=>Sat 58 [(1,vI x2),(2,pt w0.z),(5,pt I.z),(6,vI ((ad:Nat):Int))] a/\Below L.z L w) (λ(_:Unit) a w=>Sat 58 [(1,vI x2),(2,pt w0.z),(5,pt I.z)] a/\Below L.z L w) (rQ prog fn<|Q0 w0 B) aw ?_ ?_ ?_ ?_ ?_
 .exact λ_ q=>⟨q.k<|s4 z z z z,br L⟩
 .rintro ad _ _ _ _ a3 ⟨ax,sa⟩ ay;refine Wu ?_ ax;refine Wq<|Wm z<|Rm z<|Rl z z z<|Wx z (λ_=>?_) (λhc=>(k_5 a3 hc).elim)
  refine Wk<|Wq<|Wb<|Wq (Wd (X:=noX) 0 (pl_ 9 []) mo (by kernel_rfl) λbk sb _=>dR z z (fd a_3 z)<|dR z z (l0 a_8 z<|((((hj.e h2).c h3<|djs<|mm1 he.lt G.s).e sa).e sb).at z)<|dM z z z ?_)
  obtain ⟨_,b0,a4⟩:=bdS ay;have ae:=lt_ h1.s G.s;refine dRX z z (at_ (α:=g_) a_a o_ z z z (O.g<|(((hl.e h2).c h3<|b_ (or0 (c_ lr) (k_<|zt' J ae):∀k∈[I.z],¬B k)).e sa).e sb) b0) ?_;rintro _ ⟨_,_,_,rfl,b1,b2,_⟩;obtain ⟨_,_,_,_,_,_,_,_,_,_,_,_,rfl,_,_,_,_,_,_,_⟩:=a_D b2;refine dR z z (fd f_z z)<|dR z z (l0 g_9 z<|b1.at (j:=0) z)<|dR z z (fd f_z z)<|dR z z (l0 g_9 z<|((hg.e sa).e sb).at z)<|dR z z (b_C z z)<|pD<|Wo<|Wc z (λhcy=>?_) (λhcy=>?_)
  .exact Ws<|Rw z<|Wr<|rtO<|qL (som<|ifT a4 hcy).symm<|e_ hr z ⟨bup (bup (bM (bup (bup h1 G) h2) h3<|m1 ae) sa) sb,z⟩
  exact Wk<|Wg<|Rm z<|R z (inc_ a3 (tl_ a0) z z)<|Ra z<|Wl (λ_ q=>⟨(),(som<|ifF a4 hcy).symm,⟨q.k<|s4 z z z z,bup sa sb⟩⟩)
 .rintro _ _ _ ⟨az,b3⟩;refine Wu ?_ az;refine Wq<|Wm z<|Rm z<|Rl z z z<|Wx z (λhc=>(k_6 hc).elim) (λ_=>?_)
  exact We<|λ_ q=>⟨rfl,⟨q.k<|s3 z z z,b3⟩⟩
 .rintro _ b4 wc rfl ⟨_,s5⟩;have aA:=elL a2;revert b4;refine Wo<|Wq<|Ws<|Rw z ?_
  obtain ⟨_,aB,a5⟩:=bdS aA;refine Wf (σ:=Unit) (ρ:=Bool) (λ(af:Nat)(_:Unit) a w=>Sat 58 [(1,vI x2),(2,pt w0.z),(5,pt I.z),(7,vI ((af:Nat):Int))] a/\Below wc.z wc w) (λ(_:Unit) a w=>Sat 58 [(2,pt w0.z),(5,pt I.z)] a/\Below wc.z wc w) (rQ prog fn<|Q0 w0 B) aB ?_ ?_ ?_ ?_ ?_
  .exact λ_ q=>⟨q.k<|s4 z z z z,br wc⟩
  .rintro af _ _ _ _ a6 ⟨aC,sd⟩ aD;refine Wu ?_ aC;refine Wq<|Wm z<|Rf z J_ z ?_
   have ah:=(hg.e s5).e sd;refine R z (l0 A_ z<|ah.at z) ?_;have hz:=lt_ h1.s G.s;have ai:=hf.g<|(((h2.ag B).c h3<|b_ (or0 (c_ lr) (k_<|zt' J hz):∀k∈[I.z],¬B k)).e s5).e sd
   refine R z (lnR v_ z ai)<|Rl z z z<|Wx z (λ_=>?_) (λhc=>(a_6 a6 hc).elim)
   refine Wk<|Wq<|Wb<|Ws<|Rf z J_ z<|R z (l0 A_ z<|ah.at z)<|Rm z ?_
   obtain ⟨_,b5,aE⟩:=bdS aD;refine RX z (at_ (α:=Int) v_ z_3 z z z ai b5) ?_;rintro _ ⟨_,_,_,rfl,b6,b7,_⟩;obtain ⟨rfl,b8⟩:=O_ b7;refine R z (l0 g_3 z<|b6.at0 z)<|Rm z<|R z (sb_ z z) ?_
   obtain ⟨_,b9,a7⟩:=bdS aE;refine E z (fc call50 z<|b_t b9 (zt' J<|lt_ (lt_ (lt_ (lt_ hz h2.s) h3.s) s5.s) sd.s) b8 (ii z)<|iS _ _) ?_;rintro _ _ ⟨aj,rfl⟩;refine R z (not_ z)<|Wx z (λV=>?_) (λV=>?_)
   .exact Ws<|Rw z<|Wr<|rtO<|qL (som<|ifT a7 V).symm<|e_ hr z ⟨bup (bup (bup (bM (bup (bup h1 G) h2) h3<|m1 hz) s5) sd) aj,z⟩
   exact Wk<|Wg<|Rm z<|R z (inc_ a6 (lt_ (repS.len hf) M_) z z)<|Ra z<|Wl (λ_ q=>⟨(),(som<|ifF a7 V).symm,⟨q.k<|s4 z z z z,bup sd aj⟩⟩)
  .rintro _ _ _ ⟨aF,W⟩;refine Wu ?_ aF;refine Wq<|Wm z<|Rf z J_ z<|R z (l0 A_ z<|((hg.e s5).e W).at z) ?_
   refine R z (lnR v_ z<|hf.g<|(((h2.ag B).c h3<|b_ (or0 (c_ lr) (k_<|zt' J<|lt_ h1.s G.s):∀k∈[I.z],¬B k)).e s5).e W)<|Rl z z z<|Wx z (λhc=>(a_7 hc).elim) (λ_=>?_)
   exact We<|λ_ q=>⟨rfl,⟨q.k<|s2 z z,W⟩⟩
  .rintro _ ba ak rfl ⟨_,s8⟩;have aG:=elL a5;revert ba;refine Wo<|Wq ?_
   obtain ⟨bb,aH,aI⟩:=bdS aG;refine Wt (λa w=>∃(Y:Bool),Y=bb/\Sat 58 [(4,vB Y)] a/\Below ak.z ak w) ?_ ?_
   .refine Wg<|Rf z f_z z ?_
    have al:=(hg.e s5).e s8;refine R z (l0 g_9 z<|al.at z) ?_;have an:=lt_ h1.s G.s;have ao:=lt_ (lt_ (lt_ (lt_ an h2.s) h3.s) s5.s) s8.s;obtain ⟨bc,be,a8⟩:=bdS aH;refine E z (fc call100 z<|k_l be (zt' J ao) aa) ?_;rintro _ _ ⟨s7,rfl⟩;refine Rm z ?_
    rcases bs bc with H | H
    .refine Rh z H (lN (vs:=[sl A0 N0 C0]) t_ r_ z z fid<|(((((hj.e h2).c h3<|djs<|mm1 he.lt G.s).e s5).e s8).e s7).row 0 1 z)<|Rh z H (lN (vs:=vR xk am nn co ap nq cr au ns ct av nw cx) L_ o_ z z fid<|(al.e s7).row 0 8 z) ?_
     have aq:∀k∈[I.z],¬B k:=or0 (c_ lr)<|k_<|zt' J an;have hh:=((((h2.ag B).c h3<|b_ aq).e s5).e s8).e s7;obtain ⟨bf,bg,aJ⟩:=bdS<|ifT a8 H;refine Eg z z H z (fc call145 z<|W_w2i bg (zt' J<|lt_ ao s7.s) (O.g<|((((hl.e h2).c h3<|b_ aq).e s5).e s8).e s7) aa aT aU (aV.g hh) (aW.g hh) (aX.g hh)<|hf.g hh) ?_;rintro _ _ ⟨bh,rfl⟩;exact R z (pT z H z)<|Ra z<|Wl (λ_ q=>⟨bf,som aJ,q.k<|s1 z,bup s7 bh⟩)
    iterate 3 refine Nh z H ?_
    exact R z (pF z H z)<|Ra z<|Wl (λ_ q=>⟨false,som<|ifF a8 H,q.k<|s1 z,s7⟩)
   rintro bi _ ⟨Y,rfl,_,bj⟩;revert bi;refine Wo ?_;obtain rfl:=som aI;exact Wr<|e_ hr z ⟨bup (bup (bup (bM (bup (bup h1 G) h2) h3<|m1<|lt_ h1.s G.s) s5) s8) bj,z⟩
  rintro _ _ _ _ rfl ⟨rfl,aK⟩;have aL:=elR a5;obtain rfl:=som aL;exact ⟨aK,z⟩
 rintro _ _ _ _ rfl ⟨rfl,aM⟩;have aN:=elR a2;obtain rfl:=som aN;exact ⟨aM,z⟩
theorem W_w2k {x1:d_}{res:Bool}(hm:g_2 x1=some res)(O:B<=w0.z)(I:repS w0 B (sl A0 N0 C0) x1.rules):l_ prog 79 [(.agg #[sl A0 N0 C0])] w0 (Q0 w0 B res):=by
 unfold g_2 at hm
 refine goG func79 z z z λfn hr=>Ws<|E z (fb z) ?_
 rintro _ H ⟨rfl,W⟩;have G:=W.below;have h2:Blk H w0.z [sl A0 N0 C0]:=W.blk;refine Rw z<|Wq<|Ws<|Rw z ?_
 obtain ⟨_,hug,V⟩:=bdS hm;refine Wf (σ:=Unit) (ρ:=Bool) (λ(ka:Nat)(_:Unit) a w=>Sat 19 [(1,pt w0.z),(3,vI ((ka:Nat):Int))] a/\Below H.z H w) (λ(_:Unit) a w=>Sat 19 [(1,pt w0.z)] a/\Below H.z H w) (rQ prog fn<|Q0 w0 B) hug ?_ ?_ ?_ ?_ ?_
 .exact λ_ q=>⟨q.k<|s2 z z,br H⟩
 .rintro ka _ _ _ _ J ⟨hSh,s3⟩ hmi;refine Wu ?_ hSh;refine Wq<|Wm z<|Rf z a_3 z ?_
  have hb:=h2.e s3;refine R z (l0 a_8 z<|hb.at z) ?_;have hd:=I.g<|(G.ag B).e s3
  refine R z (lnR a_a z hd)<|Rl z z z<|Wx z (λ_=>?_) (λhc=>(a_6 J hc).elim)
  refine Wk<|Wq<|Wb<|Ws<|R z (lN (vs:=[sl A0 N0 C0]) t_ r_ z z fid<|hb.row 0 1 z)<|Rm z ?_
  obtain ⟨_,ej,hmc⟩:=bdS hmi;refine E z (fc call112 z<|W_w2j ej (zt' O<|lt_ G.s s3.s) hd<|ic (Nat.le_of_lt J)<|lt_ (repS.len I) M_) ?_;rintro _ _ ⟨se,rfl⟩;refine R z (not_ z)<|Wx z (λL=>?_) (λL=>?_)
  .exact Ws<|Rw z<|Wr<|rtO<|qL (som<|ifT hmc L).symm<|e_ hr z ⟨bup (bup G s3) se,z⟩
  exact Wk<|Wg<|Rm z<|R z (inc_ J (lt_ (repS.len I) M_) z z)<|Ra z<|Wl (λ_ q=>⟨(),(som<|ifF hmc L).symm,⟨q.k<|s2 z z,bup s3 se⟩⟩)
 .rintro _ _ _ ⟨hSk,s7⟩;refine Wu ?_ hSk;refine Wq<|Wm z<|Rf z a_3 z<|R z (l0 a_8 z<|(h2.e s7).at z)<|R z (lnR a_a z<|I.g<|(G.ag B).e s7)<|Rl z z z<|Wx z (λhc=>(a_7 hc).elim) (λ_=>?_)
  exact We<|λ_ q=>⟨rfl,⟨q.k<|s1 z,s7⟩⟩
 .rintro _ al _ rfl ⟨_,s4⟩;have hmm:=elL V;revert al;refine Wo<|Ws<|Rf z a_3 z<|R z (l0 a_8 z<|(h2.e s4).at z) ?_
  have hf:=I.g<|(G.ag B).e s4
  refine R z (lnR a_a z hf) ?_;obtain ⟨_,en,hmo⟩:=bdS hmm;refine E z (fc call50 z<|b_t en (zt' O<|lt_ G.s s4.s) (b_0<|repS.len hf) (ii z)<|ii z) ?_;rintro _ _ ⟨sp,rfl⟩;refine Rw z ?_
  obtain rfl:=som hmo;exact Wr<|e_ hr z ⟨bup (bup G s4) sp,z⟩
 rintro _ _ _ _ rfl ⟨rfl,hqq⟩;have hmr:=elR V;obtain rfl:=som hmr;exact ⟨hqq,z⟩
theorem i_V {x1:d_}{x2:Int}{res:Bool}(hm:e_5 x1 x2=some res)(J:B<=w0.z)(I:repS w0 B (sl A0 N0 C0) x1.rules)(O:inI x2):l_ prog 49 [(.agg #[sl A0 N0 C0]),vI x2] w0 (Q0 w0 B res):=by
 unfold e_5 at hm
 refine goG func49 z z z λfn hr=>Ws<|E z (fb z) ?_
 rintro _ H ⟨rfl,h5⟩;have h1:=h5.below;have h6:Blk H w0.z [sl A0 N0 C0]:=h5.blk;refine Rw z<|Wq ?_
 obtain ⟨u8,V,hma⟩:=bdS hm;refine Wt (λa w=>∃(x4:Bool),x4=u8/\Sat 15 [(4,vB x4)] a/\Below H.z H w) ?_ ?_
 .refine Wg<|Rm z<|Rf z a_3 z<|R z (l0 a_8 z<|h6.at z)<|R z (lnR a_a z<|I.e h1)<|R z (sb_ z z) ?_
  obtain ⟨rb,ec,L⟩:=bdS V;refine E z (fc call50 z<|b_t ec (zt' J h1.s) O (ii z)<|iS _ _) ?_;rintro _ _ ⟨s2,rfl⟩;refine Rm z ?_
  rcases bs rb with G | G
  .refine Rh z G (lN (vs:=[sl A0 N0 C0]) t_ r_ z z fid<|(h6.e s2).row 0 1 z) ?_;obtain ⟨rd,ee,hmf⟩:=bdS<|ifT L G;refine Eg z z G z (fc call79 z<|W_w2k ee (zt' J<|lt_ h1.s s2.s)<|I.g<|(h1.ag B).e s2) ?_;rintro _ _ ⟨sg,rfl⟩;exact R z (pT z G z)<|Ra z<|Wl (λ_ q=>⟨rd,som hmf,q.k<|s1 z,bup s2 sg⟩)
  exact Nh z G<|Nh z G<|R z (pF z G z)<|Ra z<|Wl (λ_ q=>⟨false,som<|ifF L G,q.k<|s1 z,s2⟩)
 rintro ah _ ⟨x4,rfl,_,si⟩;revert ah;refine Wo ?_;obtain rfl:=som hma;exact Wr<|e_ hr z ⟨bup h1 si,z⟩
def Q12 (w0:World)(B:Zone)(r:Val)(v:Value)(w':World):Prop:=Bw w0 w'/\(λG=>∃H I J S1 a2 L O S2,(.agg #[vI G.number,sl H I J,sl a2 L O])=v/\inI G.number/\a_ w' S1 (sl H I J) G.bytes/\a_ w' S2 (sl a2 L O) G.items/\(S1++S2).Nodup/\(∀k∈(S1++S2),w0.z<=k)) r
structure k_m (f:d_->Int->Option Val):Prop where
  run:∀{A0:Option Addr}{N0 C0:Nat}{B:Zone}{x1:d_}{x2:Int}{res:Val}{w0:World}(hm:f x1 x2=some res)(hBw:B<=w0.z)(p1_0:repS w0 B (sl A0 N0 C0) x1.rules)(p2_0:inI x2),l_ prog 77 [(.agg #[sl A0 N0 C0]),vI x2] w0<|Q12 w0 B res
abbrev m_y (n:Nat):Prop:=k_m (f_5 n).spec_l9Default
end Go.Vw
