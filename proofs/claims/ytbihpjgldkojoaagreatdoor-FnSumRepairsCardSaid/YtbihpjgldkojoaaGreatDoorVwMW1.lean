
import Derived.Test.YtbihpjgldkojoaaGreatDoorVmB
import Derived.Lib.Join
import Derived.Test.YtbihpjgldkojoaaGreatDoorVwMFacts
import Derived.Test.YtbihpjgldkojoaaGreatDoorVwMExt
import Derived.Laws.CopyRow
import Derived.Laws.IdiomStrings
import Derived.Lib.AppendStr
import Derived.Recover
import Derived.Tactics
import Derived.Tactics2
import Derived.Laws.Pointers
import Derived.Lib.Hide
set_option linter.unusedVariables false
namespace Go.Vw
open Go.RowKit Dat Go.Proofs
open Go.Proofs.Tryz
open Go.Vw renaming b_c->Wq,b_t->Wg,WC.of_KC->Wo,b_5->Wl,c_N->Wc,d_F->Wr,g_h->Wu,h_U->pT,h_V->pF,g_t->fd,c_r->l1,i_t->lN,b_U->mv,d_s->asg,g_2->lnR,f_q->lss,g_w->eql,g_u->ext_,h_X->bP,g_v->add_,f_Y->inc_,e_u->not_,g_6->at_,e_W->fc,b_w->fs,e_V->fb,e_l->fa,h_O->sr,h_S->cr,h_T->cM,d_e->bM,h_H->iS,h_G->iA,h_J->br,b_R->oA,h_K->bs,ltge->lg,inor->io,g_x->nq,i_v->lnT,i_w->sb_,h_M->ar_,h_L->al_,h_N->ds,j_1->m1,h_Q->nr_,h_P->nl_,g_0->aa_,d_d->an_,d_G->Wb,f_Z->u8,h_y->pD,f_O->We,h_I->Wt,f_W->fS,e_R->or_,i_c->Wf,i_2->qL,h_x->Wd,h_Y->fN,g_1->na_,h_R->nj,f_1->f0,h_W->rX,h_Z->tl_,i_0->ic
variable {A0:Option Addr}{N0 C0:Nat}{B:Zone}{w0:World}{n:Nat}{A6:Option Addr}{N6 C6:Nat}{A9:Option Addr}{A8:Option Addr}{AA:Option Addr}{AB:Option Addr}{N9 C9:Nat}{N8 C8:Nat}{NA CA:Nat}{NB CB:Nat}{AD:Option Addr}{ND CD:Nat}{A3:Option Addr}{A4:Option Addr}{A2:Option Addr}{A5:Option Addr}{N3 C3:Nat}{N4 C4:Nat}{N2 C2:Nat}{N5 C5:Nat}{A1:Option Addr}{N1 C1:Nat}{A7:Option Addr}{N7 C7:Nat}
def Q0 (w0:World)(B:Zone)(r:Bool)(v:Value)(w':World):Prop:=Bw w0 w'/\(λG=>(vB G)=v) r
theorem W_w22 {x1:Bt}{res:Bool}(hm:h_B x1=some res)(H:B<=w0.z)(G:repS w0 B (sl A0 N0 C0) x1):q_ prog 4 [sl A0 N0 C0] w0 (Q0 w0 B res):=by
 unfold h_B at hm
 refine goG func4 z z z λfn hr=>Ws<|Rw z<|Wm z<|R z (lnR s_ z G)<|R z (a_b z z)<|Rw z ?_
 obtain rfl:=som hm;exact Wr<|i_ hr z ⟨br w0,z⟩
def Q1 (w0:World)(B:Zone)(r:u_)(v:Value)(w':World):Prop:=Bw w0 w'/\(λG=>∃g1 a2 H I,(pt g1)=v/\Blk w' g1 [.slice a2 H I,vI G.i,vI G.h]/\w0.z<=g1/\repS w' B (sl a2 H I) G.b/\inI G.i/\inI G.h) r
theorem W_w18 {x1:Bt}{res:u_}(hm:e_T n x1=some res)(L:B<=w0.z)(H:repS w0 B (sl A0 N0 C0) x1):q_ prog 12 [sl A0 N0 C0] w0 (Q1 w0 B res):=by
 unfold e_T at hm
 refine goG func12 z z z λfn hr=>Ws<|Rw z<|Wm z<|R z (lnR s_ z H)<|R z (add_ z z)<|Rw z<|Wq<|Ws<|Rw z ?_
 obtain ⟨_,huh,hma⟩:=bdS hm;refine c_0 (σ:=Int×Int) (ρ:=u_) (λs a w=>un2 (λx0 x2=>Sat 32 [(0,sl A0 N0 C0),(3,vI x0),(4,vI x2)] a/\Below w0.z w0 w/\inI x0/\inI x2) s) (λs a w=>un2 (λx0 x2=>Sat 32 [(0,sl A0 N0 C0),(3,vI x0)] a/\Below w0.z w0 w/\inI x0/\inI x2) s) (rQ prog fn<|Q1 w0 B) huh ?_ ?_ ?_ ?_
 .exact λ_ q=>⟨q.k<|s3 z z z,br w0,iA _ _,ii z⟩
 .rintro ⟨x0,x2⟩ _ I _ ⟨hSi,s5,h4,hb⟩ hmj;refine Wu ?_ hSi;refine Wq<|Wq ?_
  obtain ⟨ul,huc,hmd⟩:=bdS<|a_A hmj;refine Wt (λa w=>∃(x6:Bool),x6=ul/\Sat 32 [(0,sl A0 N0 C0),(3,vI x0),(4,vI x2),(15,vB x6)] a/\Below I.z I w) ?_ ?_
  .refine Wg<|RM z z<|R z (lnR s_ z<|H.e s5)<|Rl z z z<|Rm z ?_
   rcases bs (decide<|x2<(x1.length:Int)) with G | G
   .exact Rh z G (mv z)<|Rh z G (lss z z)<|R z (pT z G z)<|Wl (λ_ q=>⟨decide<|x2<4000,som<|ifT huc G,q.k<|s4 z z z z,br I⟩)
   exact Nh z G<|Nh z G<|R z (pF z G z)<|Wl (λ_ q=>⟨false,som<|ifF huc G,q.k<|s4 z z z z,br I⟩)
  rintro am _ ⟨x6,rfl,_,s7⟩;revert am;refine Wo<|Wc z (λJ=>?_) (λJ=>?_)
  .refine Wk<|Wq<|Wb<|Wg<|Rm z<|R z (c_E z z)<|RM z z ?_
   obtain ⟨xn,eo,hmp⟩:=bdS<|ifT hmd J;refine RX z (at_ (α:=UInt8) s_ z_5 z z z (H.g<|(s5.ag B).e s7) eo) ?_;rintro _ ⟨_,_,_,rfl,hq,ht,_⟩;obtain rfl:=u8 ht;exact R z (l0 g_5 z<|hq.at0 z)<|R z (c_7 d_5 d_3 z)<|R z (add_ z z)<|R z (add_ z z)<|R z (k_6 z z)<|Rw z<|Wg<|Rm z<|R z (add_ z z)<|Ra z<|Wl (λ_ q=>⟨(a_H .i64 (· &&& ·) (j_ (j_ (a_f x0 137)<|byteI xn) 11) 1073741823,j_ x2 1),(som hmp).symm,⟨q.k<|s3 z z z,bup s5 s7,g_7 _ _ _,iA _ _⟩⟩)
  exact We<|λ_ q=>b_n (som<|ifF hmd J).symm ⟨q.k<|s2 z z,bup s5 s7,h4,hb⟩
 .rintro ⟨x0,x2⟩ ar we rfl ⟨_,s9,h4,hb⟩;have hms:=elL hma;revert ar;refine Wo<|Wm z<|Rm z<|R z (bP (parts:=[(0,.tmp 28),(2,.tmp 29)]) (cs:=[sl A0 N0 C0,vI 0,vI x0]) o_I z z)<|E z (fb z) ?_
  rintro _ wv ⟨rfl,hf⟩;have hg:=hf.below;refine Rw z ?_
  obtain rfl:=som<|a_A hms;exact Wr<|i_ hr z ⟨bup s9 hg,we.z,A0,N0,C0,z,(hf.blk:Blk wv we.z [sl A0 N0 C0,vI 0,vI x0]),atp<|m1 s9.s,H.g<|(s9.ag B).e hg,ii z,h4⟩
 rintro _ _ _ _ rfl ⟨rfl,hqx⟩;have hmy:=elR hma;obtain rfl:=som hmy;exact ⟨hqx,z⟩
def Q2 (w0:World)(g1:Nat)(B:Zone)(A0:Option Addr)(N0 C0:Nat)(x1:u_)(r:Int×Int×Int)(v:Value)(w':World):Prop:=Cg [g1] w0 w'/\un3 (λG H I=>(vI G)=v/\inI G/\inI H/\inI I/\Blk w' g1 [sl A0 N0 C0,vI H,vI I]) r
theorem g_m {x1:u_}{g1:Nat}{res:Int×Int×Int}(hm:c_P x1=some res)(hB1:Blk w0 g1 [sl A0 N0 C0,vI x1.i,vI x1.h])(V:B<=w0.z)(hBg:¬B g1)(J:repS w0 B (sl A0 N0 C0) x1.b)(L:inI x1.i)(O:inI x1.h):q_ prog 28 [pt g1] w0 (Q2 w0 g1 B A0 N0 C0 x1 res):=by
 unfold c_P at hm
 refine goG func28 z z z λfn hr=>Ws<|Rw z<|Wm z<|Rm z<|R z (O_ z)<|Rf z i_f z<|R z (l0 g_3 z<|hB1.at z)<|R z (c_E z z)<|R z (add_ z z)<|R z (O_ z)<|Rf z i_f z<|E0 (fs0 (cur':=[sl A0 N0 C0,vI x1.i,(vI<|j_ (a_f x1.h 6364136223846793005) 1442695040888963407)]) z_3 z z hB1 z z z z) ?_
 rintro _ wd ⟨he,sf⟩;have ha:=sf.one;refine Wn<|Wq (Wd (X:=noX) 0 (pl_ 13 []) mo (by kernel_rfl) λwg s5 _=>dM z z z<|dR z z (O_ z)<|dR z z (fd i_f z) ?_)
 have h6:=he.e s5;refine dR z z (l0 g_3 z<|h6.at z)<|dR z z (k_7 z z (by decide))<|dM z z z<|dR z z (O_ z)<|dR z z (fd i_f z)<|dR z z (l0 g_3 z<|h6.at z)<|dR z z (k_7 z z (by decide))<|dR z z (rd_xor z z)<|dR z z (k_6 z z)<|dQ z z z<|pD<|Wo<|Wq<|Wq (Wd (X:=noX) 0 (pl_ 10 []) mo (by kernel_rfl) λG s7 _=>dM z z z<|dR z z (O_ z)<|dR z z (fd i_e z) ?_)
 have H:=h6.e s7;refine dR z z (l0 g_3 z<|H.at z)<|dM z z z<|dR z z (O_ z)<|dR z z (fd l_g z)<|dR z z (l0 U_ z<|H.at z) ?_
 have hb:=((ha.agc B<|c_<|a_ hBg).e s5).e s7;refine dR z z (lnR s_ z<|J.g hb)<|dR z z (lss z z)<|pD<|Wo ?_
 obtain ⟨uh,huc,hmi⟩:=bdS hm;refine Wt (λa w=>∃(x2:Int)(x3:Int),(x2,x3)=uh/\Sat 58 [(3,vI x2)] a/\Cg [g1] G w/\inI x2/\inI x3/\Blk w g1 [sl A0 N0 C0,vI x3,(vI<|j_ (a_f x1.h 6364136223846793005) 1442695040888963407)]) ?_ ?_
 .refine Wc z (λI=>?_)<|λI=>?_
  .refine Wq (Wd (X:=noX) 0 (pl_ 15 []) mo (by kernel_rfl) λwj s9 _=>dM z z z<|dM z z z<|dR z z (O_ z)<|dR z z (fd l_g z) ?_);have h4:=H.e s9;refine dR z z (l0 U_ z<|h4.at z)<|dM z z z<|dR z z (O_ z)<|dR z z (fd i_e z)<|dR z z (l0 g_3 z<|h4.at z) ?_
   obtain ⟨xk,el,hmm⟩:=bdS<|ifT huc I;refine dRX z z (at_ (α:=UInt8) s_ z_5 z z z (J.g<|hb.e s9) el) ?_;rintro _ ⟨_,_,_,rfl,hn,ho,_⟩;obtain rfl:=u8 ho;refine dR z z (l0 g_5 z<|hn.at0 z)<|dR z z (c_7 d_5 d_3 z)<|dR z z (add_ z z)<|dR z z (k_6 z z)<|dQ z z z<|pD<|Wo<|Wg<|RM z z<|R z (O_ z)<|Rf z i_e z<|R z (l0 g_3 z<|h4.at z)<|R z (add_ z z)<|R z (O_ z)<|Rf z i_e z<|E0 (fs0 (cur':=[sl A0 N0 C0,vI<|j_ x1.i 1,(vI<|j_ (a_f x1.h 6364136223846793005) 1442695040888963407)]) z_3 z z h4 z z z z) ?_
   rintro _ wp ⟨hq,ss⟩;refine Wl ?_;exact λ_ q=>⟨a_H .i64 (· &&& ·) (j_ (a_H .i64 (· &&& ·) (a_H .i64 (· ^^^ ·) (c_9 .i64 (j_ (a_f x1.h 6364136223846793005) 1442695040888963407) 33)<|c_9 .i64 (j_ (a_f x1.h 6364136223846793005) 1442695040888963407) 47) 255)<|byteI xk) 255,j_ x1.i 1,som hmm,q.k<|s1 z,(cM (e_ (cr [g1] G) s9:Cg [g1] G wj) ss.one (io sr):Cg [g1] G wp),g_7 _ _ _,iA _ _,hq⟩
  exact a_c<|λ_ q=>⟨a_H .i64 (· &&& ·) (a_H .i64 (· ^^^ ·) (c_9 .i64 (j_ (a_f x1.h 6364136223846793005) 1442695040888963407) 33)<|c_9 .i64 (j_ (a_f x1.h 6364136223846793005) 1442695040888963407) 47) 255,x1.i,som<|ifF huc I,q.k<|s1 z,cr [g1] G,g_7 _ _ _,L,H⟩
 rintro ar wv ⟨x2,x3,rfl,_,sw,hx,hy,hz⟩;revert ar;refine Wo<|Wm z<|Rw z ?_
 obtain rfl:=som<|a_A hmi;exact Wr<|i_ hr z ⟨(cM (e_ (e_ (cM (cr [g1] w0) ha (io sr):Cg [g1] w0 wd) s5:Cg [g1] w0 wg) s7:Cg [g1] w0 G) sw (io sr):Cg [g1] w0 wv),z,hx,hy,iA _ _,hz⟩
theorem a_B {x1:u_}{g1:Nat}{x2:Int}{res:Int×Int×Int}(hm:a_5 x1 x2=some res)(hB1:Blk w0 g1 [sl A0 N0 C0,vI x1.i,vI x1.h])(I:B<=w0.z)(hBg:¬B g1)(H:repS w0 B (sl A0 N0 C0) x1.b)(J:inI x1.i)(L:inI x1.h)(a1:inI x2):q_ prog 14 [pt g1,vI x2] w0 (Q2 w0 g1 B A0 N0 C0 x1 res):=by
 unfold a_5 at hm
 refine goG func14 z z z λfn hr=>Ws<|Rw z<|Wq<|Wm z<|R z (c_F z z)<|Wx z (λO=>?_) (λO=>?_)
 .refine Ws<|Rw z ?_
  obtain rfl:=som<|ifT hm O;exact Wr<|i_ hr z ⟨cr [g1] w0,z,ii z,J,L,hB1⟩
 have W:=ifF hm O;refine Wk<|Wq<|Wm z<|R z (c_F z z)<|Wx z (λV=>?_) (λV=>?_)
 .refine Wm z ?_
  obtain ⟨_,_,_,e5,a0⟩:=r_<|ifT W V;refine E z (fc call28 z<|g_m (B:=B) e5 hB1 I hBg H J L) ?_;rintro _ w7 ⟨s8,rfl,h9,ha,hb,hc⟩;refine Rm z ?_;obtain ⟨_,ed,hme⟩:=bdS a0;refine R z (c_5 z z<|nzS ed)<|Rw z ?_
  obtain rfl:=som hme;exact Wr<|i_ hr z ⟨(cM (cr [g1] w0) s8 (io sr):Cg [g1] w0 w7),z,c_k h9,ha,hb,hc⟩
 refine Wk<|Wm z ?_
 obtain ⟨_,_,_,eg,hmh⟩:=r_<|ifF W V;refine E z (fc call28 z<|g_m (B:=B) eg hB1 I hBg H J L) ?_;rintro _ wi ⟨G,rfl,_,hj,hk,hl⟩;refine Rw z<|Wm z ?_
 obtain ⟨_,_,_,em,hmn⟩:=r_ hmh;refine E z (fc call28 z<|g_m (B:=B) em hl (zt' I G.s) hBg (H.c G<|c_<|a_ hBg) hj hk) ?_;rintro _ wo ⟨s3,rfl,_,hp,hq,ht⟩;refine Rw z<|Wm z ?_
 obtain ⟨_,_,_,er,hms⟩:=r_ hmn;refine E z (fc call28 z<|g_m (B:=B) er ht (zt' I<|lt_ G.s s3.s) hBg (H.g<|(G.agc B<|c_<|a_ hBg).c s3<|c_<|a_ hBg) hp hq) ?_;rintro _ wu ⟨sv,rfl,_,hw,hx,hy⟩;refine Rw z<|Wm z<|R z (c_E z z)<|Rm z<|R z (c_E z z)<|R z (add_ z z)<|Rm z<|R z (add_ z z)<|Rm z ?_
 obtain ⟨_,ez,Y⟩:=bdS hms;refine R z (c_5 z z<|nzS ez)<|Rw z ?_
 obtain rfl:=som Y;exact Wr<|i_ hr z ⟨(cM (cM (cM (cr [g1] w0) G (io sr):Cg [g1] w0 wi) s3 (io sr):Cg [g1] w0 wo) sv (io sr):Cg [g1] w0 wu),z,c_k<|iA _ _,hw,hx,hy⟩
def Q3 (w0:World)(g1:Nat)(B:Zone)(A0:Option Addr)(N0 C0:Nat)(x1:u_)(r:Str×Int×Int)(v:Value)(w':World):Prop:=Cg [g1] w0 w'/\un3 (λG H I=>(Str.v G)=v/\G.b.length<=LEN/\inI H/\inI I/\Blk w' g1 [sl A0 N0 C0,vI H,vI I]) r
theorem f_e {x1:u_}{g1:Nat}{x2:List Str}{res:Str×Int×Int}(hm:c_Q x1 x2=some res)(hB1:Blk w0 g1 [sl A0 N0 C0,vI x1.i,vI x1.h])(O:B<=w0.z)(hBg:¬B g1)(I:repS w0 B (sl A0 N0 C0) x1.b)(J:inI x1.i)(L:inI x1.h)(G:repS w0 B (sl A6 N6 C6) x2):q_ prog 29 [pt g1,sl A6 N6 C6] w0 (Q3 w0 g1 B A0 N0 C0 x1 res):=by
 unfold c_Q at hm
 refine goG func29 z z z λfn hr=>Ws<|Rw z<|Wm z<|RM z z<|R z (lnR a_X z G) ?_
 obtain ⟨_,_,_,Y,V⟩:=r_ hm;refine E z (fc call14 z<|a_B (B:=B) Y hB1 O hBg I J L<|b_2<|repS.len G) ?_;rintro _ w3 ⟨H,rfl,_,h4,h5,h6⟩;obtain ⟨_,e7,W⟩:=bdS V;refine RX z (at_ (α:=Str) a_X z_9 z z z (G.c H<|c_<|a_ hBg) e7) ?_;rintro _ ⟨_,_,_,rfl,h9,ha,_⟩;obtain ⟨rfl,hb⟩:=c_y ha;refine R z (l0 g_9 z<|h9.at0 z)<|Rw z ?_
 obtain rfl:=som W;exact Wr<|i_ hr z ⟨(cM (cr [g1] w0) H (io sr):Cg [g1] w0 w3),z,hb,h4,h5,h6⟩
def Q4 (w0:World)(B:Zone)(r:Str)(v:Value)(w':World):Prop:=Bw w0 w'/\(λG=>(Str.v G)=v/\G.b.length<=LEN) r
theorem W_w19 {x1:Int}{res:Str}(hm:e_9 n x1=some res)(V:B<=w0.z)(O:inI x1):q_ prog 30 [vI x1] w0 (Q4 w0 B res):=by
 unfold e_9 at hm
 refine goG func30 z z z λfn hr=>Ws<|Rw z<|Wq<|Wm z<|Rq z z z<|Wx z (λH=>?_) (λH=>?_)
 .refine Ws<|Rw z ?_
  obtain rfl:=som<|ifT hm H;exact Wr<|i_ hr z ⟨br w0,z,lb z⟩
 refine Wk<|Ws<|Rw z<|Wq<|Wm z<|Rw z ?_
 obtain ⟨_,huj,hmb⟩:=bdS<|ifF hm H;refine c_0 (σ:=Str×Int) (ρ:=Str) (λs a w=>un2 (λx2 x0=>Sat 31 [(0,vI x1),(3,Str.v x2),(4,vI x0)] a/\Below w0.z w0 w/\x2.b.length<=LEN/\inI x0) s) (λs a w=>un2 (λx2 x0=>Sat 31 [(0,vI x1),(3,Str.v x2)] a/\Below w0.z w0 w/\x2.b.length<=LEN/\inI x0) s) (rQ prog fn<|Q4 w0 B) huj ?_ ?_ ?_ ?_
 .exact λ_ q=>⟨q.k<|s3 z z z,br w0,lb z,O⟩
 .rintro ⟨x2,x0⟩ _ G _ ⟨hSk,sc,h5,h6⟩ hml;have hmd:=a_A hml;refine Wu ?_ hSk;refine Wq<|Wm z<|R z (nq z z)<|Wx z (λI=>?_) (λI=>?_)
  .refine Wk<|Wq<|Wb<|Wm z<|R z (c_5 z z (by decide))<|Rw z<|Wq<|Wm z<|Rl z z z<|Wn ?_
   obtain ⟨um,hue,hmn⟩:=bdS<|ifT hmd I;refine Wt (λa w=>∃(x3:Int),x3=um/\Sat 31 [(0,vI x1),(3,Str.v x2),(4,vI x0),(5,vI x3)] a/\Below G.z G w/\inI x3) ?_ ?_
   .refine Wc z (λJ=>?_)<|λJ=>?_
    .exact Wg<|Rm z<|R z (rd_neg z)<|Ra z<|Wl (λ_ q=>⟨f_o<|a_8 x0 10,som<|ifT hue J,q.k<|s4 z z z z,br G,n_w _⟩)
    exact a_c<|λ_ q=>⟨a_8 x0 10,som<|ifF hue J,q.k<|s4 z z z z,br G,c_k h6⟩
   rintro ao wp ⟨x3,rfl,_,sq,_⟩;revert ao;refine Wo<|Wg<|Rm z<|R z (add_ z z)<|R z (b_G d_3 d_5 z)<|E z (fS [(.tmp 21)] H_ z z z (S_ z) (lb z)<|lb z) ?_
   rintro _ wr ⟨rfl,L⟩;have W:Blk wr wp.z [(vU<|byteI<|mkB<|j_ 48 x3)]:=L.blk;refine R z (n_P s_ d_9 d_5 z_5 z<|b_.rep<|a_d L a_t)<|Rm z ?_
   obtain ⟨xs,ef,hmt⟩:=bdS hmn;exact R z (f_4 z z ef)<|Rw z<|Wg<|Rm z<|R z (f_p z z (by decide))<|Ra z<|Wl (λ_ q=>⟨(xs,c_4 x0 10),(som hmt).symm,⟨q.k<|s3 z z z,bup (bup sc sq) L.below,f_0 ef,e_X _ _⟩⟩)
  exact We<|λ_ q=>b_n (som<|ifF hmd I).symm ⟨q.k<|s2 z z,sc,h5,h6⟩
 .rintro ⟨x2,x0⟩ au _ rfl ⟨_,sg,h5,h6⟩;have hmv:=elL hmb;have hmh:=a_A hmv;revert au;refine Wo<|Wq<|Wm z<|Rl z z z<|Wx z (λhca=>?_) (λhca=>?_)
  .refine Wm z ?_
   obtain ⟨_,ei,hmw⟩:=bdS<|ifT hmh hca;refine R z (f_4 z z ei)<|Rw z ?_
   obtain rfl:=som hmw;exact Wr<|i_ hr z ⟨sg,z,f_0 ei⟩
  refine Wk<|Wm z<|Rw z ?_
  obtain rfl:=som<|ifF hmh hca;exact Wr<|i_ hr z ⟨sg,z,h5⟩
 rintro _ _ _ _ rfl ⟨rfl,hqx⟩;have hmy:=elR hmb;obtain rfl:=som hmy;exact ⟨hqx,z⟩
def Q5 (w0:World)(g1:Nat)(B:Zone)(A0:Option Addr)(N0 C0:Nat)(x1:u_)(r:Bool×Int×Int)(v:Value)(w':World):Prop:=Cg [g1] w0 w'/\un3 (λI G H=>(vB I)=v/\inI G/\inI H/\Blk w' g1 [sl A0 N0 C0,vI G,vI H]) r
theorem g_n {x1:u_}{g1:Nat}{x2:Int}{res:Bool×Int×Int}(hm:d_a x1 x2=some res)(hB1:Blk w0 g1 [sl A0 N0 C0,vI x1.i,vI x1.h])(L:B<=w0.z)(hBg:¬B g1)(G:repS w0 B (sl A0 N0 C0) x1.b)(H:inI x1.i)(I:inI x1.h)(J:inI x2):q_ prog 31 [pt g1,vI x2] w0 (Q5 w0 g1 B A0 N0 C0 x1 res):=by
 unfold d_a at hm
 refine goG func31 z z z λfn hr=>Ws<|Rw z<|Wm z<|Rm z ?_
 obtain ⟨_,_,_,V,O⟩:=r_ hm;refine E z (fc call14 z<|a_B (B:=B) V hB1 L hBg G H I J) ?_;rintro _ W ⟨s3,rfl,_,h4,h5,h6⟩;refine Rq z z z<|Rw z ?_
 obtain rfl:=som O;exact Wr<|i_ hr z ⟨(cM (cr [g1] w0) s3 (io sr):Cg [g1] w0 W),z,h4,h5,h6⟩
def Q6 (w0:World)(g1:Nat)(B:Zone)(A0:Option Addr)(N0 C0:Nat)(x1:u_)(r:Bt×Int×Int)(v:Value)(w':World):Prop:=Cg [g1] w0 w'/\un3 (λL G H=>∃a1 I J S1,(sl a1 I J)=v/\b_ w' S1 (sl a1 I J) L/\inI G/\inI H/\Blk w' g1 [sl A0 N0 C0,vI G,vI H]/\S1.Nodup/\(∀k∈S1,w0.z<=k)) r
theorem i_i {x1:u_}{g1:Nat}{x2:Int}{res:Bt×Int×Int}(hm:d_b x1 x2=some res)(hB1:Blk w0 g1 [sl A0 N0 C0,vI x1.i,vI x1.h])(V:B<=w0.z)(hBg:¬B g1)(W:repS w0 B (sl A0 N0 C0) x1.b)(Y:inI x1.i)(a0:inI x1.h)(a1:inI x2):q_ prog 32 [pt g1,vI x2] w0 (Q6 w0 g1 B A0 N0 C0 x1 res):=by
 unfold d_b at hm
 refine goG func32 z z z λfn hr=>Ws<|Rw z<|Ws<|E z (f0 (α:=UInt8) H_) ?_
 rintro _ G ⟨ar,ns,ct,rfl,s8,hu⟩;refine Rw z<|Wq<|Ws<|Rw z ?_
 obtain ⟨_,huv,hmj⟩:=bdS hm;refine Wf (σ:=Bt×Int×Int) (ρ:=Bt×Int×Int) (λ(kk:Nat) s a w=>un3 (λO x5 x6=>∃a2 I J H,Sat 20 [(0,pt g1),(1,vI x2),(5,sl a2 I J),(6,vI ((kk:Nat):Int))] a/\Chg (· ∈ ([g1]++[w0.z])) G w/\b_ w H (sl a2 I J) O/\H.Nodup/\(∀k∈H,k∈[w0.z]∨G.z<=k)/\inI x5/\inI x6/\Blk w g1 [sl A0 N0 C0,vI x5,vI x6]) s) (λs a w=>un3 (λO x5 x6=>∃a2 I J H,Sat 20 [(5,sl a2 I J)] a/\Chg (· ∈ ([g1]++[w0.z])) G w/\b_ w H (sl a2 I J) O/\H.Nodup/\(∀k∈H,k∈[w0.z]∨G.z<=k)/\inI x5/\inI x6/\Blk w g1 [sl A0 N0 C0,vI x5,vI x6]) s) (rQ prog fn<|Q6 w0 g1 B A0 N0 C0 x1) huv ?_ ?_ ?_ ?_ ?_
 .exact λ_ q=>⟨ar,ns,ct,[w0.z],q.k<|s4 z z z z,cr ([g1]++[w0.z]) G,hu,a_p,io sr,Y,a0,hB1.e s8⟩
 .rintro kk ⟨O,x5,x6⟩ _ ww _ hkl ⟨a2,I,J,H,hSx,sc,ha,hb,L,hd,he,hf⟩ hmy;refine Wu ?_ hSx;refine Wq<|Wm z<|Rm z<|Rl z z z<|Wx z (λ_=>?_) (λhc=>(f_2 hkl hc).elim)
  refine Wk<|Wq<|Wb<|Wg<|RM z z ?_
  obtain ⟨a9,aa,ab,ad,a3⟩:=r_<|a_u hmy;refine E z (fc call28 z<|g_m (B:=B) ad hf (zt' V<|lt_ s8.s sc.s) hBg (W.g<|(s8.ag B).c sc<|nmA (c_<|a_ hBg)<|c_ (or0 (a_ lr) (m_ V):∀k∈[w0.z],¬B k)) hd he) ?_;rintro _ wm ⟨sh,rfl,_,ae,af,ah⟩;refine R z (b_G d_3 d_5 z)<|E z (fS [(.tmp 16)] H_ z z z (S_ z) (lb z)<|lb z) ?_
  rintro _ wn ⟨rfl,hi⟩;have hg:=hi.below;have az:=a_d hi a_t;have ho:∀k∈H,k∉[g1]:=or1 L (mmr<|Blk.lt hB1)<|k_ (a_<|Blk.lt hB1) s8.s;obtain ⟨ai,aj,a4⟩:=bdS a3;refine E z (a_i (α:=UInt8) H_ aj z z ((ha.c sh ho).e hg) hb (hi.blk:Blk wn wm.z [(vU<|byteI<|mkB a9)]) a_t an_ z_) ?_;rintro _ ak ⟨Sp,al,am,an,rfl,sq,ao,ap,aq⟩;refine Rw z<|Wg<|Rm z<|R z (inc_ hkl (tl_ a1) z z)<|Ra z<|Wl ?_
  exact λ_ q=>⟨(ai,aa,ab),(som a4).symm,⟨al,am,an,Sp,q.k<|s4 z z z z,(cM (e_ (cM (cM (cr ([g1]++[w0.z]) G) sc (aa_ (io<|h_ sr)<|io<|f_ sr):Chg (· ∈ ([g1]++[w0.z])) G ww) sh (io<|h_ sr):Chg (· ∈ ([g1]++[w0.z])) G wm) hg:Chg (· ∈ ([g1]++[w0.z])) G wn) sq (or1 L (io<|f_ sr) (o_ lr):∀k∈H,k∈([g1]++[w0.z])∨G.z<=k):Chg (· ∈ ([g1]++[w0.z])) G ak),ao,ap,(or2 aq (or1 L (io sr) (o_ lr):∀k∈H,k∈[w0.z]∨G.z<=k) an_ (o_<|lt_ (lt_ sc.s sh.s) hg.s):∀k∈Sp,k∈[w0.z]∨G.z<=k),ae,af,(ah.e hg).c sq<|djs ho⟩⟩
 .rintro ⟨O,x5,x6⟩ _ au ⟨a2,I,J,H,a5,av,ha,hb,L,hd,he,hf⟩;refine Wu ?_ a5;refine Wq<|Wm z<|Rm z<|Rl z z z<|Wx z (λhc=>(f_3 hc).elim) (λ_=>?_)
  exact We<|λ_ q=>⟨rfl,⟨a2,I,J,H,q.k<|s1 z,(cM (cr ([g1]++[w0.z]) G) av (aa_ (io<|h_ sr)<|io<|f_ sr):Chg (· ∈ ([g1]++[w0.z])) G au),ha,hb,(or1 L (io sr) (o_ lr):∀k∈H,k∈[w0.z]∨G.z<=k),hd,he,hf⟩⟩
 .rintro ⟨O,x5,x6⟩ aw ax rfl ⟨a2,I,J,H,_,ay,ha,hb,L,hd,he,hf⟩;have a6:=elL hmj;revert aw;refine Wo<|Wm z<|Rw z ?_
  obtain rfl:=som<|a_u a6;exact Wr<|i_ hr z ⟨(cM (e_ (cr [g1] w0) s8:Cg [g1] w0 G) ay (aa_ (io sr) (mor lr:∀k∈[w0.z],k∈[g1]∨w0.z<=k)):Cg [g1] w0 ax),a2,I,J,H,z,ha,hd,he,hf,hb,(or1 L (a_ lr) (b_6 s8.s):∀k∈H,w0.z<=k)⟩
 rintro _ _ _ _ rfl ⟨rfl,a7⟩;have a8:=elR hmj;obtain rfl:=som a8;exact ⟨a7,z⟩
theorem c_D {x1:u_}{g1:Nat}{x2:List Int}{res:Int×Int×Int}(hm:c_w x1 x2=some res)(hB1:Blk w0 g1 [sl A0 N0 C0,vI x1.i,vI x1.h])(O:B<=w0.z)(hBg:¬B g1)(I:repS w0 B (sl A0 N0 C0) x1.b)(J:inI x1.i)(L:inI x1.h)(G:repS w0 B (sl A6 N6 C6) x2):q_ prog 34 [pt g1,sl A6 N6 C6] w0 (Q2 w0 g1 B A0 N0 C0 x1 res):=by
 unfold c_w at hm
 refine goG func34 z z z λfn hr=>Ws<|Rw z<|Wm z<|RM z z<|R z (lnR A_ z G) ?_
 obtain ⟨_,_,_,Y,V⟩:=r_ hm;refine E z (fc call14 z<|a_B (B:=B) Y hB1 O hBg I J L<|b_2<|repS.len G) ?_;rintro _ w3 ⟨H,rfl,_,h4,h5,h6⟩;obtain ⟨_,e7,W⟩:=bdS V;refine RX z (at_ (α:=Int) A_ z_3 z z z (G.c H<|c_<|a_ hBg) e7) ?_;rintro _ ⟨_,_,_,rfl,h9,ha,_⟩;obtain ⟨rfl,hb⟩:=W_ ha;refine R z (l0 g_3 z<|h9.at0 z)<|Rw z ?_
 obtain rfl:=som W;exact Wr<|i_ hr z ⟨(cM (cr [g1] w0) H (io sr):Cg [g1] w0 w3),z,hb,h4,h5,h6⟩
theorem j_s {x1:u_}{g1:Nat}{x2:g_}{res:Int×Int×Int}(hm:e_h x1 x2=some res)(hB1:Blk w0 g1 [sl A0 N0 C0,vI x1.i,vI x1.h])(a0:B<=w0.z)(hBg:¬B g1)(a1:repS w0 B (sl A0 N0 C0) x1.b)(a2:inI x1.i)(a3:inI x1.h)(Y:repS w0 B (sl A6 N6 C6) x2.rules):q_ prog 33 [pt g1,(.agg #[sl A6 N6 C6])] w0 (Q2 w0 g1 B A0 N0 C0 x1 res):=by
 unfold e_h at hm
 refine goG func33 z z z λfn hr=>Ws<|E z (fb z) ?_
 rintro _ G ⟨rfl,ht⟩;have h3:=ht.below;have hf:Blk G w0.z [sl A6 N6 C6]:=ht.blk;refine Rw z<|Ws<|E z (f0 (α:=Int) a_v) ?_
 rintro _ I ⟨ai,ak,al,rfl,s7,am⟩;refine Rw z<|Wq<|Ws<|Rw z ?_
 obtain ⟨_,a5,hms⟩:=bdS hm;refine Wf (σ:=List Int) (ρ:=Int×Int×Int) (λ(kc:Nat)(W:List Int) a w=>∃J L O H,Sat 29 [(0,pt g1),(3,pt w0.z),(5,sl J L O),(6,vI ((kc:Nat):Int))] a/\Cg [G.z] I w/\b_ w H (sl J L O) W/\H.Nodup/\(∀k∈H,k∈[G.z]∨I.z<=k)) (λ(W:List Int) a w=>∃J L O H,Sat 29 [(0,pt g1),(5,sl J L O)] a/\Cg [G.z] I w/\b_ w H (sl J L O) W/\H.Nodup/\(∀k∈H,k∈[G.z]∨I.z<=k)) (rQ prog fn<|Q2 w0 g1 B A0 N0 C0 x1) a5 ?_ ?_ ?_ ?_ ?_
 .exact λ_ q=>⟨ai,ak,al,[G.z],q.k<|s4 z z z z,cr [G.z] I,am,a_p,io sr⟩
 .rintro kc W _ V _ hkg ⟨J,L,O,H,a6,sh,ha,hd,he⟩ a7;refine Wu ?_ a6;refine Wq<|Wm z<|Rf z T_ z ?_
  have hu:=(hf.e s7).c sh<|djs<|mmr hf.lt
  refine R z (l0 V_ z<|hu.at z) ?_;have hv:=Y.g<|((h3.ag B).e s7).c sh<|c_ (or0 (a_ lr) (m_<|zt' a0 h3.s):∀k∈[G.z],¬B k)
  refine R z (lnR N_ z hv)<|Rl z z z<|Wx z (λ_=>?_) (λhc=>(a_n hkg hc).elim)
  refine Wk<|Wq<|Wb<|Ws<|Rf z T_ z<|R z (l0 V_ z<|hu.at z)<|Rm z ?_
  obtain ⟨_,an,a8⟩:=bdS a7;refine RX z (at_ (α:=d_) N_ t_ z z z hv an) ?_;rintro _ ⟨_,_,_,rfl,ao,ap,_⟩;obtain ⟨_,_,_,_,_,_,_,_,_,_,_,_,rfl,_,_,_,_,_,_,_⟩:=a_T ap;refine Rf z a_V z<|R z (l0 g_3 z<|ao.at (j:=1) z)<|Rq z z z<|Wn ?_
  obtain ⟨aq,huw,a9⟩:=bdS a8;refine Wt (λa w=>∃(xi:List Int),xi=aq/\∃aj nk cl Sb,Sat 29 [(0,pt g1),(3,pt w0.z),(5,sl aj nk cl),(6,vI ((kc:Nat):Int))] a/\Cg H V w/\b_ w Sb (sl aj nk cl) xi/\Sb.Nodup/\(∀k∈Sb,k∈H∨V.z<=k)) ?_ ?_
  .refine Wc z (λhcn=>?_)<|λhcn=>?_
   .refine Wg<|RM z z<|E z (fS [(.tmp 23)] a_v z z z (S_ z) (lb z)<|lb z) ?_
    rintro _ wx ⟨rfl,ho⟩;have hp:=ho.below;have aS:=a_d ho<|a_K<|ic (Nat.le_of_lt hkg)<|lt_ (repS.len Y) X_
    obtain ⟨ar,au,aa⟩:=bdS<|ifT huw hcn;refine E z (a_i (α:=Int) a_v au z z (ha.e hp) hd (ho.blk:Blk wx V.z [(vI ((kc:Nat):Int))]) (a_K<|ic (Nat.le_of_lt hkg)<|lt_ (repS.len Y) X_) an_ z_) ?_;rintro _ av ⟨Sy,aw,ax,ay,rfl,az,aA,aB,aC⟩;refine Ra z<|Wl ?_
    exact λ_ q=>⟨ar,som aa,aw,ax,ay,Sy,q.k<|s4 z z z z,(cM (e_ (cr H V) hp:Cg H V wx) az (io sr):Cg H V av),aA,aB,(or2 aC (io sr) an_ (o_ hp.s):∀k∈Sy,k∈H∨V.z<=k)⟩
   exact a_c<|λ_ q=>⟨W,som<|ifF huw hcn,J,L,O,H,q.k<|s4 z z z z,cr H V,ha,hd,io sr⟩
  rintro aD aE ⟨xi,rfl,aj,nk,cl,Sb,_,aF,aG,aH,aI⟩;revert aD;refine Wo<|Wg<|Rm z<|R z (inc_ hkg (lt_ (repS.len Y) X_) z z)<|Ra z<|Wl ?_
  have hz:∀k∈H,k∈[G.z]∨I.z<=k:=or1 he (io sr)<|o_ lr;exact λ_ q=>⟨xi,(som a9).symm,⟨aj,nk,cl,Sb,q.k<|s4 z z z z,(cM (cM (cr [G.z] I) sh (io sr):Cg [G.z] I V) aF hz:Cg [G.z] I aE),aG,aH,(or1 aI hz (o_ sh.s):∀k∈Sb,k∈[G.z]∨I.z<=k)⟩⟩
 .rintro W _ aJ ⟨J,L,O,H,ab,sq,ha,hd,he⟩;refine Wu ?_ ab;refine Wq<|Wm z<|Rf z T_ z<|R z (l0 V_ z<|((hf.e s7).c sq<|djs<|mmr hf.lt).at z) ?_
  refine R z (lnR N_ z<|Y.g<|((h3.ag B).e s7).c sq<|c_ (or0 (a_ lr) (m_<|zt' a0 h3.s):∀k∈[G.z],¬B k))<|Rl z z z<|Wx z (λhc=>(a_o hc).elim) (λ_=>?_)
  exact We<|λ_ q=>⟨rfl,⟨J,L,O,H,q.k<|s2 z z,(cM (cr [G.z] I) sq (io sr):Cg [G.z] I aJ),ha,hd,(or1 he (io sr) (o_ lr):∀k∈H,k∈[G.z]∨I.z<=k)⟩⟩
 .rintro W aK wr rfl ⟨J,L,O,H,_,sm,ha,hd,he⟩;have ad:=elL hms;revert aK;refine Wo<|Wm z<|Rm z ?_
  obtain ⟨_,_,_,aL,ae⟩:=r_ ad;refine E z (fc call34 z<|c_D (B:=zn B G.z wr.z) aL (((hB1.e h3).e s7).c sm<|djs<|mm1 (Blk.lt hB1) h3.s) (a_P (zt' a0<|lt_ (lt_ h3.s s7.s) sm.s) lr) (atp ((b_7 (a_ hBg) (a_<|Blk.lt hB1) h3.s):∀k∈[g1],¬(zn B G.z wr.z) k)) (repS.mono (a1.g<|((h3.ag B).e s7).c sm<|c_ (or0 (a_ lr) (m_<|zt' a0 h3.s):∀k∈[G.z],¬B k)) a_r) a2 a3<|or_ ha<|zin (B:=B) (or1 he (a_ lr) (b_6 s7.s):∀k∈H,G.z<=k)<|b_.lt ha) ?_;rintro _ aM ⟨aN,rfl,aO,aP,aQ,aR⟩;refine Rw z ?_
  obtain rfl:=som ae;exact Wr<|i_ hr z ⟨(cM (cM (e_ (e_ (cr [g1] w0) h3:Cg [g1] w0 G) s7:Cg [g1] w0 I) sm (mor h3.s:∀k∈[G.z],k∈[g1]∨w0.z<=k):Cg [g1] w0 wr) aN (io sr):Cg [g1] w0 aM),z,aO,aP,aQ,aR⟩
 rintro _ _ _ _ rfl ⟨rfl,af⟩;have ah:=elR hms;obtain rfl:=som ah;exact ⟨af,z⟩
def Q7 (w0:World)(g1:Nat)(B:Zone)(A0:Option Addr)(N0 C0:Nat)(x1:u_)(r:d_×Int×Int)(v:Value)(w':World):Prop:=Cg [g1] w0 w'/\un3 (λG H I=>∃a1 J L S1 a2 O V S2 W Y c3 S3 a4 n4 c4 S4,(.agg #[Str.v G.name,vI G.kind,vI G.size,vB G.little,sl a1 J L,sl a2 O V,sl W Y c3,sl a4 n4 c4])=v/\G.name.b.length<=LEN/\inI G.kind/\inI G.size/\b_ w' S1 (sl a1 J L) G.bytes/\b_ w' S2 (sl a2 O V) G.names/\b_ w' S3 (sl W Y c3) G.tags/\b_ w' S4 (sl a4 n4 c4) G.kids/\inI H/\inI I/\Blk w' g1 [sl A0 N0 C0,vI H,vI I]/\(S1++(S2++(S3++S4))).Nodup/\(∀k∈(S1++(S2++(S3++S4))),w0.z<=k)) r
theorem j_t {x1:u_}{g1:Nat}{x2:g_}{x3:Int}{res:d_×Int×Int}(hm:d_c n x1 x2 x3=some res)(hB1:Blk w0 g1 [sl A0 N0 C0,vI x1.i,vI x1.h])(J:B<=w0.z)(hBg:¬B g1)(Y:repS w0 B (sl A0 N0 C0) x1.b)(jN:inI x1.i)(jO:inI x1.h)(cn:repS w0 B (sl A6 N6 C6) x2.rules)(jP:inI x3):q_ prog 15 [pt g1,.agg #[sl A6 N6 C6],vI x3] w0 (Q7 w0 g1 B A0 N0 C0 x1 res):=by
 unfold d_c at hm
 refine goG func15 z z z λfn hr=>Ws<|E z (fb z) ?_
 rintro _ wb ⟨rfl,gG⟩;have bg:=gG.below;have co:Blk wb w0.z [sl A6 N6 C6]:=gG.blk;refine E z (fa b_M) ?_;rintro _ aW ⟨rfl,gH⟩;have aj:=gH.below;have bh:Blk aW wb.z [(Str.v (⟨[]⟩:Str)),vI 0,vI 0,vB false,sN,sN,sN,sN]:=gH.blk;refine Wn<|Ws<|Rf z T_ z ?_
 have cp:=co.e aj;refine R z (l0 V_ z<|cp.at z) ?_;have gI:=(bg.ag B).e aj;have bi:=cn.g gI;refine R z (lnR N_ z bi)<|Rw z<|Wm z<|E z (fS [(.const<|Str.v ⟨[97]⟩),.const<|Str.v ⟨[105,116,101,109]⟩,.const<|Str.v ⟨[98]⟩,.const<|Str.v ⟨[104,101,97,100]⟩,(.const<|Str.v ⟨[120]⟩)] b_9 z z z (S_ z) (lb z)<|lb z) ?_
 rintro _ bO ⟨rfl,gJ⟩;have hi:=gJ.below;have gK:b_ bO [aW.z] (sl (some ⟨aW.z,0,none⟩) 5 5) ([(⟨[97]⟩:Str),(⟨[105,116,101,109]⟩:Str),(⟨[98]⟩:Str),(⟨[104,101,97,100]⟩:Str),(⟨[120]⟩:Str)]:List Str):=g_a (l:=[(⟨[97]⟩:Str),(⟨[105,116,101,109]⟩:Str),(⟨[98]⟩:Str),(⟨[104,101,97,100]⟩:Str),(⟨[120]⟩:Str)]) (gJ.blk:Blk bO aW.z [(Str.v (⟨[97]⟩:Str)),Str.v (⟨[105,116,101,109]⟩:Str),Str.v (⟨[98]⟩:Str),Str.v (⟨[104,101,97,100]⟩:Str),(Str.v (⟨[120]⟩:Str))]) (ac0 (lb z)<|ac0 (lb z)<|ac0 (lb z)<|ac0 (lb z)<|ac0 (lb z) an0) z;have hn:=gI.e hi;have gL:=lt_ bg.s aj.s;have gM:=lt_ gL hi.s;obtain ⟨_,jQ,jR,jS,iM⟩:=r_ hm;refine E z (fc call29 z<|f_e (B:=zn B aW.z bO.z) jS (((hB1.e bg).e aj).e hi) (a_P (zt' J gM) lr) (atp ((b_7 (a_ hBg) (a_<|Blk.lt hB1) gL):∀k∈[g1],¬(zn B aW.z bO.z) k)) (repS.mono (Y.g hn) a_r) jN jO<|or_ gK<|zin (B:=B) (a_ lr)<|b_.lt gK) ?_;rintro _ jT ⟨sc,rfl,_,ho,hp,hq⟩;refine Rm z ?_;have hj:=lt_ gM sc.s;obtain ⟨_,jU,iN⟩:=bdS iM;refine E z (fc call30 z<|W_w19 jU (zt' J hj)<|b_2<|repS.len bi) ?_;rintro _ G ⟨s3,rfl,_⟩;obtain ⟨x5,gN,iO⟩:=bdS iN;refine R z (f_4 z z gN)<|Rm z<|R z (bP (parts:=[(0,.tmp 19),(1,.tmp 20)]) (cs:=[Str.v x5,vI x3,vI 0,vB false,sN,sN,sN,sN]) o_G z z)<|E z (fa b_M) ?_
 rintro _ gO ⟨rfl,gP⟩;have h4:=gP.below;have ha:Blk gO G.z [(Str.v (⟨[]⟩:Str)),vI 0,vI 0,vB false,sN,sN,sN,sN]:=gP.blk;refine E0 (fs0 (cur':=[Str.v x5,vI x3,vI 0,vB false,sN,sN,sN,sN]) t_ z z ha z z z z) ?_;rintro _ H ⟨ht,jV⟩;have I:=jV.one;refine Wn<|Wq<|Wm z<|Wn<|Wb<|Ws<|Rq z z z<|Rw z ?_
 obtain ⟨jW,gq,f3⟩:=bdS iO;refine Wt (λa w=>∃(cq:Int)(ct:Int)(bj:Int)(bQ:Bool)(fR:Bt)(fT:List Str)(fU:List Int)(fV:List Int),Sum.inl (cq,ct,bj,bQ,fR,fT,fU,fV)=jW/\∃bk bm bn al bo bp bq am bt bu bv an bw bx bz ao,Sat 147 [(6,pt wb.z),(8,pt G.z)] a/\Chg (· ∈ ([g1]++[G.z])) H w/\inI cq/\inI ct/\inI bj/\b_ w al (sl bk bm bn) fR/\al.Nodup/\(∀k∈al,H.z<=k)/\b_ w am (sl bo bp bq) fT/\am.Nodup/\(∀k∈am,H.z<=k)/\(∀k∈am,k∉al)/\b_ w an (sl bt bu bv) fU/\an.Nodup/\(∀k∈an,H.z<=k)/\(∀k∈an,k∉al)/\(∀k∈an,k∉am)/\b_ w ao (sl bw bx bz) fV/\ao.Nodup/\(∀k∈ao,H.z<=k)/\(∀k∈ao,k∉al)/\(∀k∈ao,k∉am)/\(∀k∈ao,k∉an)/\Blk w g1 [sl A0 N0 C0,vI cq,vI ct]/\Blk w G.z [Str.v x5,vI x3,vI bj,vB bQ,sl bk bm bn,sl bo bp bq,sl bt bu bv,sl bw bx bz]) ?_ ?_
 .refine Wc z (λf4=>?_)<|λf4=>?_
  .refine Wm z ?_
   have fW:=lt_ hj s3.s;have gQ:∀k∈[G.z],¬B k:=or0 (a_ lr)<|m_<|zt' J fW;have gR:=(((hn.c sc<|c_<|a_ hBg).e s3).e h4).c I<|c_ gQ
   have aX:=mm1 (Blk.lt hB1) fW;have gS:=lt_ (lt_ fW h4.s) I.s;obtain ⟨bA,jX,jY,jZ,iP⟩:=r_<|ifT gq f4;refine E z (fc call14 z<|a_B (B:=B) jZ (((hq.e s3).e h4).c I<|djs aX) (zt' J gS) hBg (Y.g gR) ho hp<|ii z) ?_;rintro _ k0 ⟨cv,rfl,_,gT,gU,gV⟩;refine R z (add_ z z)<|Rf z a_W z<|E0 (fs0 (cur':=[Str.v x5,vI x3,vI<|j_ 1 bA,vB false,sN,sN,sN,sN]) z_3 z z (ht.c cv<|atp aX) z z z z) ?_
   rintro _ aY ⟨fX,ka⟩;have bR:=ka.one;refine Wn ?_;obtain ⟨kb,gr,iQ⟩:=bdS iP;refine Wt (λa w=>∃(bS:Int)(bT:Int)(cw:Bool),(bS,bT,cw)=kb/\Sat 147 [(6,pt wb.z),(8,pt G.z)] a/\Chg (· ∈ ([g1]++[G.z])) aY w/\inI bS/\inI bT/\Blk w g1 [sl A0 N0 C0,vI bS,vI bT]/\Blk w G.z [Str.v x5,vI x3,vI<|j_ 1 bA,vB cw,sN,sN,sN,sN]) ?_ ?_
   .refine Wg<|Rf z a_W z<|R z (l0 g_3 z<|fX.at z)<|R z (a_b z z)<|Rm z ?_
    rcases bs (decide<|1<(j_ 1 bA)) with a4 | a4
    .refine Rh z a4 (mv z) ?_;obtain ⟨gW,kc,kd,ke,iR⟩:=r_<|ifT gr a4;refine Eg z z a4 z (fc call31 z<|g_n (B:=B) ke (gV.c bR<|djs aX) (zt' J<|lt_ (lt_ gS cv.s) bR.s) hBg (Y.g<|(gR.c cv<|c_<|a_ hBg).c bR<|c_ gQ) gT gU<|ii z) ?_;rintro _ kf ⟨gX,rfl,kg,kh,ki⟩;refine R z (pT z a4 z)<|Rf z c_2 z<|E0 (fs0 (cur':=[Str.v x5,vI x3,vI<|j_ 1 bA,vB gW,sN,sN,sN,sN]) z_4 z z (fX.c gX<|atp aX) z z z z) ?_
     rintro _ kj ⟨kk,kl⟩;have gY:=kl.one;refine Wl ?_;exact λ_ q=>⟨kc,kd,gW,som iR,q.k<|s2 z z,(cM (cM (cr ([g1]++[G.z]) aY) gX (io<|h_ sr):Chg (· ∈ ([g1]++[G.z])) aY kf) gY (io<|f_ sr):Chg (· ∈ ([g1]++[G.z])) aY kj),kg,kh,ki.c gY<|djs aX,kk⟩
    refine Nh z a4<|Nh z a4<|R z (pF z a4 z)<|Rf z c_2 z<|E0 (fs0 (cur':=[Str.v x5,vI x3,vI<|j_ 1 bA,vB false,sN,sN,sN,sN]) z_4 z z fX z z z z) ?_
    rintro _ km ⟨kn,ko⟩;have gZ:=ko.one;refine Wl ?_;exact λ_ q=>⟨jX,jY,false,som<|ifF gr a4,q.k<|s2 z z,(cM (cr ([g1]++[G.z]) aY) gZ (io<|f_ sr):Chg (· ∈ ([g1]++[G.z])) aY km),gT,gU,(gV.c bR<|djs aX).c gZ<|djs aX,kn⟩
   rintro kp kq ⟨bS,bT,cw,rfl,_,kr,ks,kt,ku,kw⟩;revert kp;exact λ_ q=>⟨bS,bT,j_ 1 bA,cw,([]:Bt),([]:List Str),([]:List Int),([]:List Int),som<|a_u iQ,none,0,0,[],none,0,0,[],none,0,0,[],none,0,0,[],q.k<|s2 z z,(cM (cM (cM (cr ([g1]++[G.z]) H) cv (io<|h_ sr):Chg (· ∈ ([g1]++[G.z])) H k0) bR (io<|f_ sr):Chg (· ∈ ([g1]++[G.z])) H aY) kr (aa_ (io<|h_ sr)<|io<|f_ sr):Chg (· ∈ ([g1]++[G.z])) H kq),ks,kt,iA _ _,onL,z_,an_,onL,z_,an_,an_,onL,z_,an_,an_,an_,onL,z_,an_,an_,an_,an_,ku,kw⟩
  refine Ws<|Rq z z z<|Rw z ?_
  obtain ⟨kx,gs,f5⟩:=bdS<|ifF gq f4;refine Wt (λa w=>∃(bU:Int)(bV:Int)(bW:Int)(cx:Bt)(cy:List Str)(cz:List Int)(cA:List Int),Sum.inl (bU,bV,bW,cx,cy,cz,cA)=kx/\∃cB cC cD ap cE cF cG aq cH cI cJ au cK cL cN av,Sat 147 [(6,pt wb.z),(8,pt G.z)] a/\Chg (· ∈ ([g1]++[G.z])) H w/\inI bU/\inI bV/\inI bW/\b_ w ap (sl cB cC cD) cx/\ap.Nodup/\(∀k∈ap,H.z<=k)/\b_ w aq (sl cE cF cG) cy/\aq.Nodup/\(∀k∈aq,H.z<=k)/\(∀k∈aq,k∉ap)/\b_ w au (sl cH cI cJ) cz/\au.Nodup/\(∀k∈au,H.z<=k)/\(∀k∈au,k∉ap)/\(∀k∈au,k∉aq)/\b_ w av (sl cK cL cN) cA/\av.Nodup/\(∀k∈av,H.z<=k)/\(∀k∈av,k∉ap)/\(∀k∈av,k∉aq)/\(∀k∈av,k∉au)/\Blk w g1 [sl A0 N0 C0,vI bU,vI bV]/\Blk w G.z [Str.v x5,vI x3,vI bW,vB false,sl cB cC cD,sl cE cF cG,sl cH cI cJ,sl cK cL cN]) ?_ ?_
  .refine Wc z (λf6=>?_)<|λf6=>?_
   .refine Wg<|RM z z ?_
    have fY:=lt_ hj s3.s;have h1:=(((hn.c sc<|c_<|a_ hBg).e s3).e h4).c I<|c_ (or0 (a_ lr) (m_<|zt' J fY):∀k∈[G.z],¬B k)
    have cO:=mm1 (Blk.lt hB1) fY;have h2:=lt_ (lt_ fY h4.s) I.s;obtain ⟨_,_,_,ky,iT⟩:=r_<|ifT gs f6;refine E z (fc call14 z<|a_B (B:=B) ky (((hq.e s3).e h4).c I<|djs cO) (zt' J h2) hBg (Y.g h1) ho hp<|ii z) ?_;rintro _ kz ⟨bB,rfl,_,kA,kB,kC⟩;refine R z (add_ z z) ?_;obtain ⟨kD,kE,kF,kG,iU⟩:=r_ iT;refine E z (fc call32 z<|i_i (B:=B) kG kC (zt' J<|lt_ h2 bB.s) hBg (Y.g<|h1.c bB<|c_<|a_ hBg) kA kB<|iA _ _) ?_;rintro _ kH ⟨h3,h5,h6,h7,kI,rfl,kJ,kK,kL,kM,kN,h8⟩;refine Rf z a_N z<|E0 (fs0 (cur':=[Str.v x5,vI x3,vI 0,vB false,sl h5 h6 h7,sN,sN,sN]) d_R z z ((ht.c bB<|atp cO).c h3<|atp cO) z z z z) ?_
    rintro _ kO ⟨kP,kQ⟩;have fZ:=kQ.one;refine Wl ?_;exact λ_ q=>⟨kE,kF,0,kD,([]:List Str),([]:List Int),([]:List Int),som iU,h5,h6,h7,kI,none,0,0,[],none,0,0,[],none,0,0,[],q.k<|s2 z z,(cM (cM (cM (cr ([g1]++[G.z]) H) bB (io<|h_ sr):Chg (· ∈ ([g1]++[G.z])) H kz) h3 (io<|h_ sr):Chg (· ∈ ([g1]++[G.z])) H kH) fZ (io<|f_ sr):Chg (· ∈ ([g1]++[G.z])) H kO),kK,kL,ii z,kJ.c fZ<|l_ h8 ha.lt<|lt_ I.s bB.s,kN,p_ h8 bB.s,onL,z_,an_,an_,onL,z_,an_,an_,an_,onL,z_,an_,an_,an_,an_,kM.c fZ<|djs cO,kP⟩
   refine Ws<|Rq z z z<|Rw z ?_
   obtain ⟨kR,gt,f7⟩:=bdS<|ifF gs f6;refine Wt (λa w=>∃(bX:Int)(bY:Int)(bZ:Int)(cP:Bt)(cQ:List Str)(cR:List Int)(cS:List Int),Sum.inl (bX,bY,bZ,cP,cQ,cR,cS)=kR/\∃cT cU cV aw cW cX cY ax cZ d0 d1 ay d2 d3 d4 az,Sat 147 [(6,pt wb.z),(8,pt G.z)] a/\Chg (· ∈ ([g1]++[G.z])) H w/\inI bX/\inI bY/\inI bZ/\b_ w aw (sl cT cU cV) cP/\aw.Nodup/\(∀k∈aw,H.z<=k)/\b_ w ax (sl cW cX cY) cQ/\ax.Nodup/\(∀k∈ax,H.z<=k)/\(∀k∈ax,k∉aw)/\b_ w ay (sl cZ d0 d1) cR/\ay.Nodup/\(∀k∈ay,H.z<=k)/\(∀k∈ay,k∉aw)/\(∀k∈ay,k∉ax)/\b_ w az (sl d2 d3 d4) cS/\az.Nodup/\(∀k∈az,H.z<=k)/\(∀k∈az,k∉aw)/\(∀k∈az,k∉ax)/\(∀k∈az,k∉ay)/\Blk w g1 [sl A0 N0 C0,vI bX,vI bY]/\Blk w G.z [Str.v x5,vI x3,vI bZ,vB false,sl cT cU cV,sl cW cX cY,sl cZ d0 d1,sl d2 d3 d4]) ?_ ?_
   .refine Wc z (λf8=>?_)<|λf8=>?_
    .refine Wg<|Rm z ?_
     have g0:=lt_ hj s3.s;have g2:=mm1 (Blk.lt hB1) g0;obtain ⟨h9,kS,kT,kU,iV⟩:=r_<|ifT gt f8;refine E z (fc call14 z<|a_B (B:=B) kU (((hq.e s3).e h4).c I<|djs g2) (zt' J<|lt_ (lt_ g0 h4.s) I.s) hBg (Y.g<|(((hn.c sc<|c_<|a_ hBg).e s3).e h4).c I<|c_ (or0 (a_ lr) (m_<|zt' J g0):∀k∈[G.z],¬B k)) ho hp<|ii z) ?_;rintro _ kV ⟨hb,rfl,_,kW,kX,kY⟩;refine R z (add_ z z)<|Rf z a_W z<|E0 (fs0 (cur':=[Str.v x5,vI x3,vI<|j_ 1 h9,vB false,sN,sN,sN,sN]) z_3 z z (ht.c hb<|atp g2) z z z z) ?_
     rintro _ kZ ⟨l2,l3⟩;have hc:=l3.one;refine Wl ?_;exact λ_ q=>⟨kS,kT,j_ 1 h9,([]:Bt),([]:List Str),([]:List Int),([]:List Int),som iV,none,0,0,[],none,0,0,[],none,0,0,[],none,0,0,[],q.k<|s2 z z,(cM (cM (cr ([g1]++[G.z]) H) hb (io<|h_ sr):Chg (· ∈ ([g1]++[G.z])) H kV) hc (io<|f_ sr):Chg (· ∈ ([g1]++[G.z])) H kZ),kW,kX,iA _ _,onL,z_,an_,onL,z_,an_,an_,onL,z_,an_,an_,an_,onL,z_,an_,an_,an_,an_,kY.c hc<|djs g2,l2⟩
    refine Ws<|Rq z z z<|Rw z ?_
    obtain ⟨l4,gu,f9⟩:=bdS<|ifF gt f8;refine Wt (λa w=>∃(c0:Int)(c1:Int)(d5:Bt)(d6:List Str)(d7:List Int)(d8:List Int),Sum.inl (c0,c1,d5,d6,d7,d8)=l4/\∃d9 da db aA dc dd de aB df dg dh aC di dj dk aD,Sat 147 [(6,pt wb.z),(8,pt G.z)] a/\Chg (· ∈ ([g1]++[G.z])) H w/\inI c0/\inI c1/\b_ w aA (sl d9 da db) d5/\aA.Nodup/\(∀k∈aA,H.z<=k)/\b_ w aB (sl dc dd de) d6/\aB.Nodup/\(∀k∈aB,H.z<=k)/\(∀k∈aB,k∉aA)/\b_ w aC (sl df dg dh) d7/\aC.Nodup/\(∀k∈aC,H.z<=k)/\(∀k∈aC,k∉aA)/\(∀k∈aC,k∉aB)/\b_ w aD (sl di dj dk) d8/\aD.Nodup/\(∀k∈aD,H.z<=k)/\(∀k∈aD,k∉aA)/\(∀k∈aD,k∉aB)/\(∀k∈aD,k∉aC)/\Blk w g1 [sl A0 N0 C0,vI c0,vI c1]/\Blk w G.z [Str.v x5,vI x3,vI 0,vB false,sl d9 da db,sl dc dd de,sl df dg dh,sl di dj dk]) ?_ ?_
    .refine Wc z (λfe=>?_)<|λfe=>?_
     .refine Wg<|Rm z ?_
      refine R z (lN (vs:=[sl A6 N6 C6]) B_ w_ z z fid<|(((((cp.e hi).c sc<|atp<|mmr<|Blk.lt hB1).e s3).e h4).c I<|djs<|mm1 co.lt<|lt_ (lt_ (lt_ aj.s hi.s) sc.s) s3.s).row 0 1 z) ?_;have g3:=lt_ hj s3.s;have hd:=(((hn.c sc<|c_<|a_ hBg).e s3).e h4).c I<|c_ (or0 (a_ lr) (m_<|zt' J g3):∀k∈[G.z],¬B k)
      have g4:=mm1 (Blk.lt hB1) g3;obtain ⟨he,l5,l6,l7,iW⟩:=r_<|ifT gu fe;refine E z (fc call33 z<|j_s (B:=B) l7 (((hq.e s3).e h4).c I<|djs g4) (zt' J<|lt_ (lt_ g3 h4.s) I.s) hBg (Y.g hd) ho hp<|cn.g hd) ?_;rintro _ c2 ⟨dl,rfl,l8,l9,la,lc⟩;refine E z (fS [(.tmp 55)] a_v z z z (S_ z) (lb z)<|lb z) ?_;rintro _ hf ⟨rfl,g5⟩;have g6:=g5.below;have qG:Blk hf c2.z [vI he]:=g5.blk;refine Rf z M_ z<|E0 (fs0 (cur':=[Str.v x5,vI x3,vI 0,vB false,sN,sN,sN,sl (some ⟨c2.z,0,none⟩) 1 1]) c_3 z z ((ht.c dl<|atp g4).e g6) z z z z) ?_
      rintro _ ld ⟨le,lf⟩;have g7:=lf.one;refine Wl ?_;exact λ_ q=>⟨l5,l6,([]:Bt),([]:List Str),([]:List Int),[he],som iW,none,0,0,[],none,0,0,[],none,0,0,[],some ⟨c2.z,0,none⟩,1,1,[c2.z],q.k<|s2 z z,(cM (e_ (cM (cr ([g1]++[G.z]) H) dl (io<|h_ sr):Chg (· ∈ ([g1]++[G.z])) H c2) g6:Chg (· ∈ ([g1]++[G.z])) H hf) g7 (io<|f_ sr):Chg (· ∈ ([g1]++[G.z])) H ld),l9,la,onL,z_,an_,onL,z_,an_,an_,onL,z_,an_,an_,an_,(a_d g5<|a_K l8).c g7<|mm1 ha.lt<|lt_ I.s dl.s,a_p,m1 dl.s,nmN _,nmN _,nmN _,(lc.e g6).c g7<|djs g4,le⟩
     refine Ws<|Rq z z z<|Rw z ?_
     obtain ⟨lg,gv,ff⟩:=bdS<|ifF gu fe;refine Wt (λa w=>∃(c3:Int)(c4:Int)(dm:Bt)(dn:List Str)(dp:List Int)(dq:List Int),Sum.inl (c3,c4,dm,dn,dp,dq)=lg/\∃dr dt du aE dv dw dx aF dy dz dA aG dB dC dD aH,Sat 147 [(6,pt wb.z),(8,pt G.z)] a/\Chg (· ∈ ([g1]++[G.z])) H w/\inI c3/\inI c4/\b_ w aE (sl dr dt du) dm/\aE.Nodup/\(∀k∈aE,H.z<=k)/\b_ w aF (sl dv dw dx) dn/\aF.Nodup/\(∀k∈aF,H.z<=k)/\(∀k∈aF,k∉aE)/\b_ w aG (sl dy dz dA) dp/\aG.Nodup/\(∀k∈aG,H.z<=k)/\(∀k∈aG,k∉aE)/\(∀k∈aG,k∉aF)/\b_ w aH (sl dB dC dD) dq/\aH.Nodup/\(∀k∈aH,H.z<=k)/\(∀k∈aH,k∉aE)/\(∀k∈aH,k∉aF)/\(∀k∈aH,k∉aG)/\Blk w g1 [sl A0 N0 C0,vI c3,vI c4]/\Blk w G.z [Str.v x5,vI x3,vI 0,vB false,sl dr dt du,sl dv dw dx,sl dy dz dA,sl dB dC dD]) ?_ ?_
     .refine Wc z (λfg=>?_)<|λfg=>?_
      .refine Wg<|Rm z ?_
       refine R z (lN (vs:=[sl A6 N6 C6]) B_ w_ z z fid<|(((((cp.e hi).c sc<|atp<|mmr<|Blk.lt hB1).e s3).e h4).c I<|djs<|mm1 co.lt<|lt_ (lt_ (lt_ aj.s hi.s) sc.s) s3.s).row 0 1 z) ?_;have g8:=lt_ hj s3.s;have g9:=(((hn.c sc<|c_<|a_ hBg).e s3).e h4).c I<|c_ (or0 (a_ lr) (m_<|zt' J g8):∀k∈[G.z],¬B k)
       have dF:=mm1 (Blk.lt hB1) g8;have hg:=lt_ (lt_ g8 h4.s) I.s;obtain ⟨dG,_,_,lh,iX⟩:=r_<|ifT gv fg;refine E z (fc call33 z<|j_s (B:=B) lh (((hq.e s3).e h4).c I<|djs dF) (zt' J hg) hBg (Y.g g9) ho hp<|cn.g g9) ?_;rintro _ li ⟨bC,rfl,lj,lk,ll,lm⟩;refine RM z z ?_
       obtain ⟨dH,ln,lo,lp,iY⟩:=r_ iX;refine E z (fc call14 z<|a_B (B:=B) lp lm (zt' J<|lt_ hg bC.s) hBg (Y.g<|g9.c bC<|c_<|a_ hBg) lk ll<|b_2<|repS.len bi) ?_;rintro _ aZ ⟨dI,rfl,lq,ls,lu,lv⟩;refine E z (fS [(.tmp 62),(.tmp 65)] a_v z z z (S_ z) (lb z)<|lb z) ?_;rintro _ ga ⟨rfl,hh⟩;have gb:=hh.below;refine Rf z M_ z<|E0 (fs0 (cur':=[Str.v x5,vI x3,vI 0,vB false,sN,sN,sN,sl (some ⟨aZ.z,0,none⟩) 2 2]) c_3 z z (((ht.c bC<|atp dF).c dI<|atp dF).e gb) z z z z) ?_
       rintro _ lw ⟨lx,ly⟩;have gc:=ly.one;refine Wl ?_;exact λ_ q=>⟨ln,lo,([]:Bt),([]:List Str),([]:List Int),[dG,dH],som iY,none,0,0,[],none,0,0,[],none,0,0,[],some ⟨aZ.z,0,none⟩,2,2,[aZ.z],q.k<|s2 z z,(cM (e_ (cM (cM (cr ([g1]++[G.z]) H) bC (io<|h_ sr):Chg (· ∈ ([g1]++[G.z])) H li) dI (io<|h_ sr):Chg (· ∈ ([g1]++[G.z])) H aZ) gb:Chg (· ∈ ([g1]++[G.z])) H ga) gc (io<|f_ sr):Chg (· ∈ ([g1]++[G.z])) H lw),ls,lu,onL,z_,an_,onL,z_,an_,an_,onL,z_,an_,an_,an_,(d_h (l:=[dG,dH]) (hh.blk:Blk ga aZ.z [vI dG,vI dH]) (ac0 lj<|ac0 lq an0) z:b_ ga [aZ.z] (sl (some ⟨aZ.z,0,none⟩) 2 2) ([dG,dH]:List Int)).c gc<|mm1 ha.lt<|lt_ (lt_ I.s bC.s) dI.s,a_p,m1<|lt_ bC.s dI.s,nmN _,nmN _,nmN _,(lv.e gb).c gc<|djs dF,lx⟩
      refine Ws<|Rq z z z<|Rw z ?_
      obtain ⟨lz,gw,fh⟩:=bdS<|ifF gv fg;refine Wt (λa w=>∃(c5:Int)(c6:Int)(dJ:Bt)(dK:List Str)(dL:List Int)(dN:List Int),Sum.inl (c5,c6,dJ,dK,dL,dN)=lz/\∃dO dP dS aI dT dU dV aJ dW dX dY aK dZ e0 e1 aL,Sat 147 [(6,pt wb.z),(8,pt G.z)] a/\Chg (· ∈ ([g1]++[G.z])) H w/\inI c5/\inI c6/\b_ w aI (sl dO dP dS) dJ/\aI.Nodup/\(∀k∈aI,H.z<=k)/\b_ w aJ (sl dT dU dV) dK/\aJ.Nodup/\(∀k∈aJ,H.z<=k)/\(∀k∈aJ,k∉aI)/\b_ w aK (sl dW dX dY) dL/\aK.Nodup/\(∀k∈aK,H.z<=k)/\(∀k∈aK,k∉aI)/\(∀k∈aK,k∉aJ)/\b_ w aL (sl dZ e0 e1) dN/\aL.Nodup/\(∀k∈aL,H.z<=k)/\(∀k∈aL,k∉aI)/\(∀k∈aL,k∉aJ)/\(∀k∈aL,k∉aK)/\Blk w g1 [sl A0 N0 C0,vI c5,vI c6]/\Blk w G.z [Str.v x5,vI x3,vI 0,vB false,sl dO dP dS,sl dT dU dV,sl dW dX dY,sl dZ e0 e1]) ?_ ?_
      .refine Wc z (λfi=>?_)<|λfi=>?_
       .refine Wm z ?_
        have ge:=lt_ hj s3.s;have gf:∀k∈[G.z],¬B k:=or0 (a_ lr)<|m_<|zt' J ge;have hu:=(((hn.c sc<|c_<|a_ hBg).e s3).e h4).c I<|c_ gf
        have aM:=mm1 (Blk.lt hB1) ge;have hw:=lt_ (lt_ ge h4.s) I.s;obtain ⟨_,_,_,lA,iZ⟩:=r_<|ifT gw fi;refine E z (fc call14 z<|a_B (B:=B) lA (((hq.e s3).e h4).c I<|djs aM) (zt' J hw) hBg (Y.g hu) ho hp<|ii z) ?_;rintro _ O ⟨b0,rfl,_,lB,lC,lD⟩;refine R z (add_ z z)<|Rw z ?_
        obtain ⟨_,j0,gx⟩:=bdS iZ;refine c_0 (σ:=Int×Int×Int×(List Str)×(List Int)) (ρ:=d_×Int×Int) (λs a w=>un5 (λb1 aN aO bD bE=>∃a5 a6 a7 Se ak nm cu Sf,Sat 147 [(0,pt g1),(6,pt wb.z),(7,vI (x2.rules.length:Int)),(8,pt G.z),(9,vI b1)] a/\Chg (· ∈ ([g1]++[G.z])) O w/\inI b1/\inI aN/\inI aO/\b_ w Se (sl a5 a6 a7) bD/\Se.Nodup/\(∀k∈Se,O.z<=k)/\b_ w Sf (sl ak nm cu) bE/\Sf.Nodup/\(∀k∈Sf,O.z<=k)/\(∀k∈Sf,k∉Se)/\Blk w g1 [sl A0 N0 C0,vI aN,vI aO]/\Blk w G.z [Str.v x5,vI x3,vI 0,vB false,sN,sl a5 a6 a7,sN,sl ak nm cu]) s) (λs a w=>un5 (λb1 aN aO bD bE=>∃a5 a6 a7 Se ak nm cu Sf,Sat 147 [(6,pt wb.z),(8,pt G.z)] a/\Chg (· ∈ ([g1]++[G.z])) O w/\inI b1/\inI aN/\inI aO/\b_ w Se (sl a5 a6 a7) bD/\Se.Nodup/\(∀k∈Se,O.z<=k)/\b_ w Sf (sl ak nm cu) bE/\Sf.Nodup/\(∀k∈Sf,O.z<=k)/\(∀k∈Sf,k∉Se)/\Blk w g1 [sl A0 N0 C0,vI aN,vI aO]/\Blk w G.z [Str.v x5,vI x3,vI 0,vB false,sN,sl a5 a6 a7,sN,sl ak nm cu]) s) (rQ prog fn<|Q7 w0 g1 B A0 N0 C0 x1) j0 ?_ ?_ ?_ ?_
        .exact λ_ q=>⟨none,0,0,[],none,0,0,[],q.k<|s5 z z z z z,cr ([g1]++[G.z]) O,iA _ _,lB,lC,onL,z_,an_,onL,z_,an_,an_,lD,ht.c b0<|atp aM⟩
        .rintro ⟨b1,aN,aO,bD,bE⟩ _ gg _ ⟨a5,a6,a7,Se,ak,nm,cu,Sf,j1,bF,gh,e2,e3,e4,e5,aP,c7,e6,b2,c8,e7,e8⟩ j2;have gy:=c_z j2;refine Wu ?_ j1;refine Wq<|Wm z<|R z (a_b z z)<|Wx z (λfj=>?_) (λfj=>?_)
         .refine Wk<|Wq<|Wb<|Wq (Wd (X:=λk=>k∈[g1]∨gg.z<=k) 2560 (.rd 0<|.rd 1<|.rd 2<|.rd 5<|.ef 3<|.ef 4<|.ef 6<|.rd 7<|.ef 8<|.ef 9<|.rd 10<|.ef 11 .done) mo (by kernel_rfl) λbG ss _=>dR z z (fd b_x z) ?_)
          have hy:=e8.e ss;have gi:=lt_ I.s b0.s;have hz:=lt_ gi bF.s;refine dR z z (l1 b_8 z (a_3 (atp aM)<|Nat.lt_of_lt_of_le ha.lt hz)<|hy.at z)<|dM z z z<|dM z z z<|dE z z (fS [(.const<|Str.v ⟨[112]⟩),.const<|Str.v ⟨[113]⟩,(.const<|Str.v ⟨[114]⟩)] b_9 z z z (S_ z) (lb z)<|lb z) (.inr λ_ _ h=>x_<|h.2.below) ?_
          rintro _ c9 ⟨rfl,hA⟩;have hv:=hA.below;have hB:b_ c9 [bG.z] (sl (some ⟨bG.z,0,none⟩) 3 3) ([(⟨[112]⟩:Str),(⟨[113]⟩:Str),(⟨[114]⟩:Str)]:List Str):=g_a (l:=[(⟨[112]⟩:Str),(⟨[113]⟩:Str),(⟨[114]⟩:Str)]) (hA.blk:Blk c9 bG.z [(Str.v (⟨[112]⟩:Str)),Str.v (⟨[113]⟩:Str),(Str.v (⟨[114]⟩:Str))]) (ac0 (lb z)<|ac0 (lb z)<|ac0 (lb z) an0) z;have hC:=(((hu.c b0<|c_<|a_ hBg).c bF<|nmA (c_<|a_ hBg)<|c_ gf).e ss).e hv;have e9:=lt_ hw b0.s;have hD:=lt_ (lt_ e9 bF.s) ss.s;have hE:=lt_ hD hv.s;obtain ⟨_,_,_,lE,j3⟩:=r_<|ifT gy fj;refine dE z z (fc call29 z<|f_e (B:=zn B bG.z c9.z) lE ((e7.e ss).e hv) (a_P (zt' J hE) lr) (atp ((b_7 (a_ hBg) (a_<|Blk.lt hB1) hD):∀k∈[g1],¬(zn B bG.z c9.z) k)) (repS.mono (Y.g hC) a_r) e2 e3<|or_ hB<|zin (B:=B) (a_ lr)<|b_.lt hB) (.inr λ_ _ h=>h.1.mono λk _ hk=>(io sr) k hk) ?_;rintro _ lF ⟨a8,rfl,_,lG,lH,lI⟩;have hF:=lt_ hE a8.s;obtain ⟨_,lJ,j4⟩:=bdS j3;refine dE z z (fc call30 z<|W_w19 lJ (zt' J hF) gh) (.inr λ_ _ h=>x_<|h.1) ?_;rintro _ hG ⟨sw,rfl,_⟩;obtain ⟨lK,gj,j5⟩:=bdS j4;refine dR z z (f_4 z z gj)<|dE z z (fS [(.tmp 84)] b_9 z z z (S_ z) (lb z)<|lb z) (.inr λ_ _ h=>x_<|h.2.below) ?_
          rintro _ hH ⟨rfl,gk⟩;have hx:=gk.below;have qH:=a_d gk<|b_K<|f_0 gj
          have gl:=l_ aP (Blk.lt hB1) e9;obtain ⟨lL,lM,j6⟩:=bdS j5;refine dE z z (a_i (α:=Str) b_9 lM z z (((((e4.e ss).e hv).c a8 gl).e sw).e hx) e5 (gk.blk:Blk hH hG.z [Str.v lK]) (b_K<|f_0 gj) an_ z_) (.inl z) ?_;rintro _ lO ⟨bH,gm,gn,gp,rfl,aQ,hI,lP,ea⟩;refine dR z z (fd b_x z) ?_;have hJ:=l_ aP ha.lt gi;refine dE0 z (fs0 (cur':=[Str.v x5,vI x3,vI 0,vB false,sN,sl gm gn gp,sN,sl ak nm cu]) c_C z z (((((hy.e hv).c a8<|atp aM).e sw).e hx).c aQ<|djs hJ) z z z z) (.inl z) ?_;rintro _ hK ⟨lQ,lR⟩;have a9:=lR.one;refine pD<|Wo (Wd (X:=λk=>k∈[g1]∨hK.z<=k) 320 (pl_ 9 [4,5,6,8]) mo (by kernel_rfl) λlS sy _=>dR z z (fd M_ z) ?_)
          have hL:=lQ.e sy;have hM:=lt_ (lt_ (lt_ (lt_ (lt_ hz ss.s) hv.s) a8.s) sw.s) hx.s;have hN:=lt_ (lt_ hM aQ.s) a9.s;refine dR z z (l1 C_ z (a_3 (atp aM)<|Nat.lt_of_lt_of_le ha.lt hN)<|hL.at z)<|dM z z z<|dM z z z ?_
          have hO:=lt_ (lt_ hF sw.s) hx.s;obtain ⟨lT,lU,lV,lW,j7⟩:=r_ j6;refine dE z z (fc call14 z<|a_B (B:=B) lW (((((lI.e sw).e hx).c aQ<|djs gl).c a9<|djs aM).e sy) (zt' J<|lt_ (lt_ (lt_ hO aQ.s) a9.s) sy.s) hBg (Y.g<|(((((hC.c a8<|c_<|a_ hBg).e sw).e hx).c aQ<|c_ (or0 aP (m_<|zt' J e9):∀k∈Se,¬B k)).c a9<|c_ gf).e sy) lG lH<|b_2<|repS.len bi) (.inr λ_ _ h=>h.1.mono λk _ hk=>(io sr) k hk) ?_;rintro _ hP ⟨b3,rfl,hQ,lX,lY,lZ⟩;refine dE z z (fS [(.tmp 92)] a_v z z z (S_ z) (lb z)<|lb z) (.inr λ_ _ h=>x_<|h.2.below) ?_;rintro _ hR ⟨rfl,fk⟩;have aR:=fk.below;have qI:=a_d fk<|a_K hQ
          have fl:=l_ b2 (Blk.lt hB1) e9;have fm:=l_ b2 ha.lt gi;obtain ⟨m0,m2,j8⟩:=bdS j7;refine dE z z (a_i (α:=Int) a_v m2 z z ((((((((((c7.e ss).e hv).c a8 fl).e sw).e hx).c aQ c8).c a9 fm).e sy).c b3 fl).e aR) e6 (fk.blk:Blk hR hP.z [vI lT]) (a_K hQ) an_ z_) (.inl z) ?_;rintro _ m3 ⟨eb,hS,hT,hU,rfl,ec,m4,m5,fo⟩;refine dR z z (fd M_ z)<|dE0 z (fs0 (cur':=[Str.v x5,vI x3,vI 0,vB false,sN,sl gm gn gp,sN,sl hS hT hU]) c_3 z z (((hL.c b3<|atp aM).e aR).c ec<|djs fm) z z z z) (.inl z) ?_
          rintro _ m6 ⟨m7,m8⟩;have ed:=m8.one;refine pD<|Wo<|Wg<|Rm z<|R z (sb_ z z)<|Ra z<|Wl ?_
          have hV:∀k∈bH,k∉[G.z]:=or2 ea hJ an_<|k_ (a_ ha.lt) hM;have hW:∀k∈bH,k∉Sf:=or2 ea (ds c8) an_<|k_ (b_.lt c7)<|lt_ (lt_ (lt_ (lt_ ss.s hv.s) a8.s) sw.s) hx.s;have hX:=lt_ (lt_ (lt_ (lt_ (lt_ bF.s ss.s) hv.s) a8.s) sw.s) hx.s;exact λ_ q=>⟨(J_ b1 1,lU,lV,lL,m0),(som j8).symm,⟨gm,gn,gp,bH,hS,hT,hU,eb,q.k<|s5 z z z z z,(cM (cM (e_ (cM (e_ (cM (cM (e_ (e_ (cM (e_ (e_ (cM (cr ([g1]++[G.z]) O) bF (aa_ (io<|h_ sr)<|io<|f_ sr):Chg (· ∈ ([g1]++[G.z])) O gg) ss:Chg (· ∈ ([g1]++[G.z])) O bG) hv:Chg (· ∈ ([g1]++[G.z])) O c9) a8 (io<|h_ sr):Chg (· ∈ ([g1]++[G.z])) O lF) sw:Chg (· ∈ ([g1]++[G.z])) O hG) hx:Chg (· ∈ ([g1]++[G.z])) O hH) aQ (or0 aP (o_ lr):∀k∈Se,k∈([g1]++[G.z])∨O.z<=k):Chg (· ∈ ([g1]++[G.z])) O lO) a9 (io<|f_ sr):Chg (· ∈ ([g1]++[G.z])) O hK) sy:Chg (· ∈ ([g1]++[G.z])) O lS) b3 (io<|h_ sr):Chg (· ∈ ([g1]++[G.z])) O hP) aR:Chg (· ∈ ([g1]++[G.z])) O hR) ec (or0 b2 (o_ lr):∀k∈Sf,k∈([g1]++[G.z])∨O.z<=k):Chg (· ∈ ([g1]++[G.z])) O m3) ed (io<|f_ sr):Chg (· ∈ ([g1]++[G.z])) O m6),iS _ _,lX,lY,(((((hI.c a9 hV).e sy).c b3 (or2 ea gl an_ (k_ (a_<|Blk.lt hB1) hO):∀k∈bH,k∉[g1])).e aR).c ec hW).c ed hV,lP,(or2 ea aP an_ (b_6 hX):∀k∈bH,O.z<=k),m4.c ed (or2 fo fm an_ (k_ (a_ ha.lt)<|lt_ (lt_ (lt_ hN sy.s) b3.s) aR.s):∀k∈eb,k∉[G.z]),m5,(or2 fo b2 an_ (b_6<|lt_ (lt_ (lt_ (lt_ (lt_ hX aQ.s) a9.s) sy.s) b3.s) aR.s):∀k∈eb,O.z<=k),(or2 fo (ds hW) an_ (k_ (b_.lt hI)<|lt_ (lt_ (lt_ a9.s sy.s) b3.s) aR.s):∀k∈eb,k∉bH),((lZ.e aR).c ec<|djs fl).c ed<|djs aM,m7⟩⟩
         exact We<|λ_ q=>b_n (som<|ifF gy fj).symm ⟨a5,a6,a7,Se,ak,nm,cu,Sf,q.k<|s2 z z,(cM (cr ([g1]++[G.z]) O) bF (aa_ (io<|h_ sr)<|io<|f_ sr):Chg (· ∈ ([g1]++[G.z])) O gg),gh,e2,e3,e4,e5,aP,c7,e6,b2,c8,e7,e8⟩
        .rintro ⟨b1,aN,aO,bD,bE⟩ m9 ma rfl ⟨a5,a6,a7,Se,ak,nm,cu,Sf,_,mb,gh,e2,e3,e4,e5,aP,c7,e6,b2,c8,e7,e8⟩;have j9:=elL gx;revert m9;exact λ_ q=>⟨aN,aO,([]:Bt),bD,([]:List Int),bE,som<|c_z j9,none,0,0,[],a5,a6,a7,Se,none,0,0,[],ak,nm,cu,Sf,q.k<|s2 z z,(cM (cM (cr ([g1]++[G.z]) H) b0 (io<|h_ sr):Chg (· ∈ ([g1]++[G.z])) H O) mb (aa_ (io<|h_ sr)<|io<|f_ sr):Chg (· ∈ ([g1]++[G.z])) H ma),e2,e3,onL,z_,an_,e4,e5,p_ aP b0.s,nmN _,onL,z_,an_,an_,an_,c7,e6,p_ b2 b0.s,nmN _,c8,nmN _,e7,e8⟩
        rintro _ _ _ _ rfl ⟨rfl,ja⟩;have jb:=elR gx;obtain rfl:=som jb;have jc:=elR fh;obtain rfl:=som jc;have jd:=elR ff;obtain rfl:=som jd;have je:=elR f9;obtain rfl:=som je;have jf:=elR f7;obtain rfl:=som jf;have jg:=elR f5;obtain rfl:=som jg;have jh:=elR f3;obtain rfl:=som jh;exact ⟨ja,z⟩
       refine Ws<|Rq z z z<|Rw z ?_
       obtain ⟨mc,gz,gA⟩:=bdS<|ifF gw fi;refine Wt (λa w=>∃(ca:Int)(cb:Int)(ee:Bt)(eg:List Int)(eh:List Int),Sum.inl (ca,cb,ee,eg,eh)=mc/\∃ei ej ek b4 em en eo b5 ep er es b6,Sat 147 [(6,pt wb.z),(8,pt G.z)] a/\Chg (· ∈ ([g1]++[G.z])) H w/\inI ca/\inI cb/\b_ w b4 (sl ei ej ek) ee/\b4.Nodup/\(∀k∈b4,H.z<=k)/\b_ w b5 (sl em en eo) eg/\b5.Nodup/\(∀k∈b5,H.z<=k)/\(∀k∈b5,k∉b4)/\b_ w b6 (sl ep er es) eh/\b6.Nodup/\(∀k∈b6,H.z<=k)/\(∀k∈b6,k∉b4)/\(∀k∈b6,k∉b5)/\Blk w g1 [sl A0 N0 C0,vI ca,vI cb]/\Blk w G.z [Str.v x5,vI x3,vI 0,vB false,sl ei ej ek,sN,sl em en eo,sl ep er es]) ?_ ?_
       .refine Wc z (λeY=>?_)<|λeY=>?_
        .refine Wm z ?_
         refine R z (lN (vs:=[sl A6 N6 C6]) B_ w_ z z fid<|(((((cp.e hi).c sc<|atp<|mmr<|Blk.lt hB1).e s3).e h4).c I<|djs<|mm1 co.lt<|lt_ (lt_ (lt_ aj.s hi.s) sc.s) s3.s).row 0 1 z) ?_;have fp:=lt_ hj s3.s;have eu:∀k∈[G.z],¬B k:=or0 (a_ lr)<|m_<|zt' J fp;have fq:=(((hn.c sc<|c_<|a_ hBg).e s3).e h4).c I<|c_ eu
         have hl:=mm1 (Blk.lt hB1) fp;have hY:=lt_ (lt_ fp h4.s) I.s;obtain ⟨md,_,_,me,ji⟩:=r_<|ifT gz eY;refine E z (fc call33 z<|j_s (B:=B) me (((hq.e s3).e h4).c I<|djs hl) (zt' J hY) hBg (Y.g fq) ho hp<|cn.g fq) ?_;rintro _ L ⟨aa,rfl,mf,mg,mh,mi⟩;refine E z (fS [(.tmp 100)] a_v z z z (S_ z) (lb z)<|lb z) ?_;rintro _ hZ ⟨rfl,fr⟩;have b7:=fr.below;have qJ:Blk hZ L.z [vI md]:=fr.blk;refine Rf z M_ z<|E0 (fs0 (cur':=[Str.v x5,vI x3,vI 0,vB false,sN,sN,sN,sl (some ⟨L.z,0,none⟩) 1 1]) c_3 z z ((ht.c aa<|atp hl).e b7) z z z z) ?_
         rintro _ mj ⟨mk,ml⟩;have b8:=ml.one;refine Wn<|Wm z ?_
         have i0:=((fq.c aa<|c_<|a_ hBg).e b7).c b8<|c_ eu
         have ew:=lt_ hY aa.s;have i1:=lt_ (lt_ ew b7.s) b8.s;obtain ⟨_,_,_,mm,jj⟩:=r_ ji;refine E z (fc call14 z<|a_B (B:=B) mm ((mi.e b7).c b8<|djs hl) (zt' J i1) hBg (Y.g i0) mg mh<|ii z) ?_;rintro _ V ⟨b9,rfl,_,mn,mp,mq⟩;refine R z (add_ z z)<|Rw z ?_
         obtain ⟨_,jk,gB⟩:=bdS jj;refine c_0 (σ:=Int×Int×Int×(List Int)×(List Int)) (ρ:=d_×Int×Int) (λs a w=>un5 (λba aS aT bb bI=>∃ab ad ae Sg ar nz a0 Sd,Sat 147 [(0,pt g1),(6,pt wb.z),(7,vI (x2.rules.length:Int)),(8,pt G.z),(10,vI ba)] a/\Chg (· ∈ ([g1]++([G.z]++[L.z]))) V w/\inI ba/\inI aS/\inI aT/\b_ w Sg (sl ab ad ae) bb/\Sg.Nodup/\(∀k∈Sg,V.z<=k)/\b_ w Sd (sl ar nz a0) bI/\Sd.Nodup/\(∀k∈Sd,k∈[L.z]∨V.z<=k)/\(∀k∈Sd,k∉Sg)/\Blk w g1 [sl A0 N0 C0,vI aS,vI aT]/\Blk w G.z [Str.v x5,vI x3,vI 0,vB false,sN,sN,sl ab ad ae,sl ar nz a0]) s) (λs a w=>un5 (λba aS aT bb bI=>∃ab ad ae Sg ar nz a0 Sd,Sat 147 [(6,pt wb.z),(8,pt G.z)] a/\Chg (· ∈ ([g1]++([G.z]++[L.z]))) V w/\inI ba/\inI aS/\inI aT/\b_ w Sg (sl ab ad ae) bb/\Sg.Nodup/\(∀k∈Sg,V.z<=k)/\b_ w Sd (sl ar nz a0) bI/\Sd.Nodup/\(∀k∈Sd,k∈[L.z]∨V.z<=k)/\(∀k∈Sd,k∉Sg)/\Blk w g1 [sl A0 N0 C0,vI aS,vI aT]/\Blk w G.z [Str.v x5,vI x3,vI 0,vB false,sN,sN,sl ab ad ae,sl ar nz a0]) s) (rQ prog fn<|Q7 w0 g1 B A0 N0 C0 x1) jk ?_ ?_ ?_ ?_
         .exact λ_ q=>⟨none,0,0,[],some ⟨L.z,0,none⟩,1,1,[L.z],q.k<|s5 z z z z z,cr ([g1]++([G.z]++[L.z])) V,iA _ _,mn,mp,onL,z_,an_,((a_d fr<|a_K mf).c b8<|mm1 ha.lt<|lt_ I.s aa.s).c b9<|mm1 (Blk.lt hB1) ew,a_p,io sr,nmN _,mq,mk.c b9<|atp hl⟩
         .rintro ⟨ba,aS,aT,bb,bI⟩ _ fs _ ⟨ab,ad,ae,Sg,ar,nz,a0,Sd,jl,bJ,i2,ex,ey,cc,ez,af,cd,eA,bc,ce,eB,eC⟩ jm;have gC:=c_z jm;refine Wu ?_ jl;refine Wq<|Wm z<|R z (a_b z z)<|Wx z (λeZ=>?_) (λeZ=>?_)
          .refine Wk<|Wq<|Wb<|Wq (Wd (X:=λk=>k∈[g1]∨fs.z<=k) 5120 (pl_ 13 [7,9,10,12]) mo (by kernel_rfl) λmr a1 _=>dR z z (fd a_O z) ?_)
           have ft:=eC.e a1;have i3:=lt_ I.s aa.s;have fu:=lt_ (lt_ (lt_ i3 b7.s) b8.s) b9.s;have fv:=lt_ fu bJ.s;refine dR z z (l1 C_ z (a_3 (atp hl)<|Nat.lt_of_lt_of_le ha.lt fv)<|ft.at z)<|dR z z (fd a_O z)<|dR z z (l1 C_ z (a_3 (atp hl)<|Nat.lt_of_lt_of_le ha.lt fv)<|ft.at z) ?_
           have i4:=cc.e a1;refine dR z z (lnR A_ z<|or_ i4<|zin (B:=B) af<|b_.lt cc)<|dR z z (c_E z z)<|dM z z z ?_
           have i5:=((i0.c b9<|c_<|a_ hBg).c bJ<|nmA (c_<|a_ hBg)<|nmA (c_ eu)<|c_ (or0 (a_ lr) (m_<|zt' J ew):∀k∈[L.z],¬B k)).e a1;have eD:=lt_ i1 b9.s;have i6:=lt_ (lt_ eD bJ.s) a1.s;obtain ⟨ms,_,_,mt,jn⟩:=r_<|ifT gC eZ;refine dE z z (fc call14 z<|a_B (B:=B) mt (eB.e a1) (zt' J i6) hBg (Y.g i5) ex ey<|ii z) (.inr λ_ _ h=>h.1.mono λk _ hk=>(io sr) k hk) ?_;rintro _ i7 ⟨ah,rfl,_,mu,mw,mx⟩;refine dR z z (add_ z z)<|dE z z (fS [(.tmp 118)] a_v z z z (S_ z) (lb z)<|lb z) (.inr λ_ _ h=>x_<|h.2.below) ?_
           rintro _ i8 ⟨rfl,fw⟩;have a2:=fw.below;have qK:=a_d fw<|a_K<|iA _ _
           have fx:=l_ af (Blk.lt hB1) eD;obtain ⟨my,mz,jo⟩:=bdS jn;refine dE z z (a_i (α:=Int) a_v mz z z ((i4.c ah fx).e a2) ez (fw.blk:Blk i8 i7.z [(vI<|j_ (a_f 4 (bb.length:Int)) ms)]) (a_K<|iA _ _) an_ z_) (.inl z) ?_;rintro _ mA ⟨bK,fy,fz,fA,rfl,aU,i9,mB,eE⟩;refine dR z z (fd a_O z) ?_;have ia:=l_ af ha.lt fu;refine dE0 z (fs0 (cur':=[Str.v x5,vI x3,vI 0,vB false,sN,sN,sl fy fz fA,sl ar nz a0]) c_3 z z (((ft.c ah<|atp hl).e a2).c aU<|djs ia) z z z z) (.inl z) ?_;rintro _ ib ⟨mC,mD⟩;have ai:=mD.one;refine pD<|Wo (Wd (X:=λk=>k∈[g1]∨ib.z<=k) 320 (pl_ 9 [4,5,6,8]) mo (by kernel_rfl) λmE a3 _=>dR z z (fd M_ z) ?_)
           have ic:=mC.e a3;have id:=lt_ (lt_ (lt_ fv a1.s) ah.s) a2.s;have ie:=lt_ (lt_ id aU.s) ai.s;refine dR z z (l1 C_ z (a_3 (atp hl)<|Nat.lt_of_lt_of_le ha.lt ie)<|ic.at z)<|dM z z z<|dM z z z ?_
           have ig:=lt_ (lt_ i6 ah.s) a2.s;obtain ⟨mF,mG,mH,mI,jp⟩:=r_ jo;refine dE z z (fc call14 z<|a_B (B:=B) mI ((((mx.e a2).c aU<|djs fx).c ai<|djs hl).e a3) (zt' J<|lt_ (lt_ (lt_ ig aU.s) ai.s) a3.s) hBg (Y.g<|((((i5.c ah<|c_<|a_ hBg).e a2).c aU<|c_ (or0 af (m_<|zt' J eD):∀k∈Sg,¬B k)).c ai<|c_ eu).e a3) mu mw<|b_2<|repS.len bi) (.inr λ_ _ h=>h.1.mono λk _ hk=>(io sr) k hk) ?_;rintro _ ih ⟨be,rfl,ij,mJ,mK,mL⟩;refine dE z z (fS [(.tmp 126)] a_v z z z (S_ z) (lb z)<|lb z) (.inr λ_ _ h=>x_<|h.2.below) ?_;rintro _ ik ⟨rfl,fB⟩;have aV:=fB.below;have qL:=a_d fB<|a_K ij
           have fC:∀k∈Sd,k∉[g1]:=or1 bc (mm1 (Blk.lt hB1) ew)<|k_ (a_<|Blk.lt hB1) eD;have fD:∀k∈Sd,k∉[G.z]:=or1 bc (mm1 ha.lt i3)<|k_ (a_ ha.lt) fu;obtain ⟨mM,mN,jq⟩:=bdS jp;refine dE z z (a_i (α:=Int) a_v mN z z ((((((((cd.e a1).c ah fC).e a2).c aU ce).c ai fD).e a3).c be fC).e aV) eA (fB.blk:Blk ik ih.z [vI mF]) (a_K ij) an_ z_) (.inl z) ?_;rintro _ mO ⟨eF,il,im,ip,rfl,eG,mP,mQ,fE⟩;refine dR z z (fd M_ z)<|dE0 z (fs0 (cur':=[Str.v x5,vI x3,vI 0,vB false,sN,sN,sl fy fz fA,sl il im ip]) c_3 z z (((ic.c be<|atp hl).e aV).c eG<|djs fD) z z z z) (.inl z) ?_
           rintro _ mR ⟨mS,mT⟩;have eH:=mT.one;refine pD<|Wo<|Wg<|Rm z<|R z (sb_ z z)<|Ra z<|Wl ?_
           have iq:∀k∈bK,k∉[G.z]:=or2 eE ia an_<|k_ (a_ ha.lt) id;have ir:∀k∈bK,k∉Sd:=or2 eE (ds ce) an_<|k_ (b_.lt cd)<|lt_ (lt_ a1.s ah.s) a2.s;have it:=lt_ (lt_ (lt_ bJ.s a1.s) ah.s) a2.s;exact λ_ q=>⟨(J_ ba 1,mG,mH,my,mM),(som jq).symm,⟨fy,fz,fA,bK,il,im,ip,eF,q.k<|s5 z z z z z,(cM (cM (e_ (cM (e_ (cM (cM (e_ (cM (e_ (cM (cr ([g1]++([G.z]++[L.z])) V) bJ (aa_ (io<|h_ sr)<|aa_ (io<|f_<|h_ sr)<|io<|f_<|f_ sr):Chg (· ∈ ([g1]++([G.z]++[L.z]))) V fs) a1:Chg (· ∈ ([g1]++([G.z]++[L.z]))) V mr) ah (io<|h_ sr):Chg (· ∈ ([g1]++([G.z]++[L.z]))) V i7) a2:Chg (· ∈ ([g1]++([G.z]++[L.z]))) V i8) aU (or0 af (o_ lr):∀k∈Sg,k∈([g1]++([G.z]++[L.z]))∨V.z<=k):Chg (· ∈ ([g1]++([G.z]++[L.z]))) V mA) ai (io<|f_<|h_ sr):Chg (· ∈ ([g1]++([G.z]++[L.z]))) V ib) a3:Chg (· ∈ ([g1]++([G.z]++[L.z]))) V mE) be (io<|h_ sr):Chg (· ∈ ([g1]++([G.z]++[L.z]))) V ih) aV:Chg (· ∈ ([g1]++([G.z]++[L.z]))) V ik) eG (or1 bc (io<|f_<|f_ sr) (o_ lr):∀k∈Sd,k∈([g1]++([G.z]++[L.z]))∨V.z<=k):Chg (· ∈ ([g1]++([G.z]++[L.z]))) V mO) eH (io<|f_<|h_ sr):Chg (· ∈ ([g1]++([G.z]++[L.z]))) V mR),iS _ _,mJ,mK,(((((i9.c ai iq).e a3).c be (or2 eE fx an_ (k_ (a_<|Blk.lt hB1) ig):∀k∈bK,k∉[g1])).e aV).c eG ir).c eH iq,mB,(or2 eE af an_ (b_6 it):∀k∈bK,V.z<=k),mP.c eH (or2 fE fD an_ (k_ (a_ ha.lt)<|lt_ (lt_ (lt_ ie a3.s) be.s) aV.s):∀k∈eF,k∉[G.z]),mQ,(or2 fE (or1 bc (io sr) (o_ lr):∀k∈Sd,k∈[L.z]∨V.z<=k) an_ (o_<|lt_ (lt_ (lt_ (lt_ (lt_ it aU.s) ai.s) a3.s) be.s) aV.s):∀k∈eF,k∈[L.z]∨V.z<=k),(or2 fE (ds ir) an_ (k_ (b_.lt i9)<|lt_ (lt_ (lt_ ai.s a3.s) be.s) aV.s):∀k∈eF,k∉bK),((mL.e aV).c eG<|djs fC).c eH<|djs hl,mS⟩⟩
          exact We<|λ_ q=>b_n (som<|ifF gC eZ).symm ⟨ab,ad,ae,Sg,ar,nz,a0,Sd,q.k<|s2 z z,(cM (cr ([g1]++([G.z]++[L.z])) V) bJ (aa_ (io<|h_ sr)<|aa_ (io<|f_<|h_ sr)<|io<|f_<|f_ sr):Chg (· ∈ ([g1]++([G.z]++[L.z]))) V fs),i2,ex,ey,cc,ez,af,cd,eA,(or1 bc (io sr) (o_ lr):∀k∈Sd,k∈[L.z]∨V.z<=k),ce,eB,eC⟩
         .rintro ⟨ba,aS,aT,bb,bI⟩ mU mV rfl ⟨ab,ad,ae,Sg,ar,nz,a0,Sd,_,mW,i2,ex,ey,cc,ez,af,cd,eA,bc,ce,eB,eC⟩;have jr:=elL gB;revert mU;have iu:=lt_ (lt_ (lt_ aa.s b7.s) b8.s) b9.s;exact λ_ q=>⟨aS,aT,([]:Bt),bb,bI,som<|c_z jr,none,0,0,[],ab,ad,ae,Sg,ar,nz,a0,Sd,q.k<|s2 z z,(cM (cM (cM (e_ (cM (cr ([g1]++[G.z]) H) aa (io<|h_ sr):Chg (· ∈ ([g1]++[G.z])) H L) b7:Chg (· ∈ ([g1]++[G.z])) H hZ) b8 (io<|f_ sr):Chg (· ∈ ([g1]++[G.z])) H mj) b9 (io<|h_ sr):Chg (· ∈ ([g1]++[G.z])) H V) mW (aa_ (io<|h_ sr)<|aa_ (io<|f_ sr) (mor aa.s:∀k∈[L.z],k∈([g1]++[G.z])∨H.z<=k)):Chg (· ∈ ([g1]++[G.z])) H mV),ex,ey,onL,z_,an_,cc,ez,p_ af iu,nmN _,cd,eA,a_0 bc (m1 aa.s) iu,nmN _,ce,eB,eC⟩
         rintro _ _ _ _ rfl ⟨rfl,js⟩;have jt:=elR gB;obtain rfl:=som jt;have ju:=elR gA;obtain rfl:=som ju;have jv:=elR fh;obtain rfl:=som jv;have jw:=elR ff;obtain rfl:=som jw;have jx:=elR f9;obtain rfl:=som jx;have jy:=elR f7;obtain rfl:=som jy;have jz:=elR f5;obtain rfl:=som jz;have jA:=elR f3;obtain rfl:=som jA;exact ⟨js,z⟩
        refine Wq<|Ws<|Rq z z z<|Rw z ?_
        obtain ⟨mX,gD,jB⟩:=bdS<|ifF gz eY;refine Wt (λa w=>∃(fF:Bool),fF=mX/\Sat 147 [(0,pt g1),(6,pt wb.z),(7,vI (x2.rules.length:Int)),(8,pt G.z),(22,vI x3),(130,vB fF)] a/\Below H.z H w) ?_ ?_
        .refine Wc z (λf0=>?_)<|λf0=>?_
         .exact a_c<|λ_ q=>⟨x3==8,som<|ifT gD f0,q.k<|s6 z z z z z z,br H⟩
         exact Wg<|Rq z z z<|Ra z<|Wl (λ_ q=>⟨x3==9,som<|ifF gD f0,q.k<|s6 z z z z z z,br H⟩)
        rintro mY W ⟨fF,rfl,_,sh⟩;revert mY;refine Wo ?_;obtain ⟨mZ,gE,jC⟩:=bdS jB;refine Wt (λa w=>∃(cf:Int)(cg:Int)(eI:Bt)(eJ:List Int),(cf,cg,eI,eJ)=mZ/\∃eK eL eM bL eN eO eP bM,Sat 147 [(6,pt wb.z),(8,pt G.z)] a/\Chg (· ∈ ([g1]++[G.z])) W w/\inI cf/\inI cg/\b_ w bL (sl eK eL eM) eI/\bL.Nodup/\(∀k∈bL,W.z<=k)/\b_ w bM (sl eN eO eP) eJ/\bM.Nodup/\(∀k∈bM,W.z<=k)/\(∀k∈bM,k∉bL)/\Blk w g1 [sl A0 N0 C0,vI cf,vI cg]/\Blk w G.z [Str.v x5,vI x3,vI 0,vB false,sl eK eL eM,sN,sN,sl eN eO eP]) ?_ ?_
        .refine Wc z (λf1=>?_)<|λf1=>?_
         .refine Wg<|RM z z ?_
          have fG:=lt_ hj s3.s;have fH:=mm1 (Blk.lt hB1) fG;obtain ⟨iv,n0,n1,n2,jD⟩:=r_<|ifT gE f1;refine E z (fc call14 z<|a_B (B:=B) n2 ((((hq.e s3).e h4).c I<|djs fH).e sh) (zt' J<|lt_ (lt_ (lt_ fG h4.s) I.s) sh.s) hBg (Y.g<|((((hn.c sc<|c_<|a_ hBg).e s3).e h4).c I<|c_ (or0 (a_ lr) (m_<|zt' J fG):∀k∈[G.z],¬B k)).e sh) ho hp<|b_2<|repS.len bi) ?_;rintro _ ch ⟨eQ,rfl,n3,n4,n5,n6⟩;refine E z (fS [(.tmp 135)] a_v z z z (S_ z) (lb z)<|lb z) ?_;rintro _ iw ⟨rfl,fI⟩;have fJ:=fI.below;have qM:Blk iw ch.z [vI iv]:=fI.blk;refine Rf z M_ z<|E0 (fs0 (cur':=[Str.v x5,vI x3,vI 0,vB false,sN,sN,sN,sl (some ⟨ch.z,0,none⟩) 1 1]) c_3 z z (((ht.e sh).c eQ<|atp fH).e fJ) z z z z) ?_
          rintro _ n7 ⟨n8,n9⟩;have fK:=n9.one;refine Wl ?_;exact λ_ q=>⟨n0,n1,([]:Bt),[iv],som jD,none,0,0,[],some ⟨ch.z,0,none⟩,1,1,[ch.z],q.k<|s2 z z,(cM (e_ (cM (cr ([g1]++[G.z]) W) eQ (io<|h_ sr):Chg (· ∈ ([g1]++[G.z])) W ch) fJ:Chg (· ∈ ([g1]++[G.z])) W iw) fK (io<|f_ sr):Chg (· ∈ ([g1]++[G.z])) W n7),n4,n5,onL,z_,an_,(a_d fI<|a_K n3).c fK<|mm1 ha.lt<|lt_ (lt_ I.s sh.s) eQ.s,a_p,m1 eQ.s,nmN _,(n6.e fJ).c fK<|djs fH,n8⟩
         refine Ws<|Rq z z z<|Rw z ?_
         obtain ⟨na,gF,jE⟩:=bdS<|ifF gE f1;refine Wt (λa w=>∃(ci:Int)(cj:Int)(eR:Bt),(ci,cj,eR)=na/\∃eS eT eU ck,Sat 147 [(6,pt wb.z),(8,pt G.z)] a/\Chg (· ∈ ([g1]++[G.z])) W w/\inI ci/\inI cj/\b_ w ck (sl eS eT eU) eR/\ck.Nodup/\(∀k∈ck,W.z<=k)/\Blk w g1 [sl A0 N0 C0,vI ci,vI cj]/\Blk w G.z [Str.v x5,vI x3,vI 0,vB false,sl eS eT eU,sN,sN,sN]) ?_ ?_
         .refine Wc z (λf2=>?_)<|λf2=>?_
          .refine Wg<|Rm z<|E z (fS [(.const<|.int .i64 0),.const<|.int .i64 10,.const<|.int .i64 59,(.const<|.int .i64 255)] a_v z z z (S_ z) (lb z)<|lb z) ?_
           rintro _ cl ⟨rfl,ix⟩;have bf:=ix.below;have iy:b_ cl [W.z] (sl (some ⟨W.z,0,none⟩) 4 4) ([0,10,59,255]:List Int):=d_h (l:=[0,10,59,255]) (ix.blk:Blk cl W.z [vI 0,vI 10,vI 59,vI 255]) (ac0 (ii z)<|ac0 (ii z)<|ac0 (ii z)<|ac0 (ii z) an0) z;have fL:=lt_ hj s3.s;have fM:=mm1 (Blk.lt hB1) fL;have iz:=lt_ (lt_ (lt_ fL h4.s) I.s) sh.s;obtain ⟨iB,nb,nc,nd,jF⟩:=r_<|ifT gF f2;refine E z (fc call34 z<|c_D (B:=zn B W.z cl.z) nd (((((hq.e s3).e h4).c I<|djs fM).e sh).e bf) (a_P (zt' J<|lt_ iz bf.s) lr) (atp ((b_7 (a_ hBg) (a_<|Blk.lt hB1) iz):∀k∈[g1],¬(zn B W.z cl.z) k)) (repS.mono (Y.g<|(((((hn.c sc<|c_<|a_ hBg).e s3).e h4).c I<|c_ (or0 (a_ lr) (m_<|zt' J fL):∀k∈[G.z],¬B k)).e sh).e bf) a_r) ho hp<|or_ iy<|zin (B:=B) (a_ lr)<|b_.lt iy) ?_;rintro _ cm ⟨eV,rfl,_,ne,nf,ng⟩;refine R z (b_G d_3 d_5 z)<|E z (fS [(.tmp 143)] H_ z z z (S_ z) (lb z)<|lb z) ?_
           rintro _ iC ⟨rfl,fN⟩;have fO:=fN.below;have qN:Blk iC cm.z [(vU<|byteI<|mkB iB)]:=fN.blk;refine Rf z a_N z<|E0 (fs0 (cur':=[Str.v x5,vI x3,vI 0,vB false,sl (some ⟨cm.z,0,none⟩) 1 1,sN,sN,sN]) d_R z z ((((ht.e sh).e bf).c eV<|atp fM).e fO) z z z z) ?_
           rintro _ nh ⟨ni,nj⟩;have fP:=nj.one;refine Wl ?_;exact λ_ q=>⟨nb,nc,[mkB iB],som jF,some ⟨cm.z,0,none⟩,1,1,[cm.z],q.k<|s2 z z,(cM (e_ (cM (e_ (cr ([g1]++[G.z]) W) bf:Chg (· ∈ ([g1]++[G.z])) W cl) eV (io<|h_ sr):Chg (· ∈ ([g1]++[G.z])) W cm) fO:Chg (· ∈ ([g1]++[G.z])) W iC) fP (io<|f_ sr):Chg (· ∈ ([g1]++[G.z])) W nh),ne,nf,(a_d fN a_t).c fP<|mm1 ha.lt<|lt_ (lt_ (lt_ I.s sh.s) bf.s) eV.s,a_p,m1<|lt_ bf.s eV.s,(ng.e fO).c fP<|djs fM,ni⟩
          exact a_c<|λ_ q=>⟨jQ,jR,([]:Bt),som<|ifF gF f2,none,0,0,[],q.k<|s2 z z,cr ([g1]++[G.z]) W,ho,hp,onL,z_,an_,(((hq.e s3).e h4).c I<|djs<|mm1 (Blk.lt hB1)<|lt_ hj s3.s).e sh,ht.e sh⟩
         rintro nk nl ⟨ci,cj,eR,rfl,eS,eT,eU,ck,_,np,nq,nr,ns,nt,nu,nv,nw⟩;revert nk;exact λ_ q=>⟨ci,cj,eR,([]:List Int),som<|a_u jE,eS,eT,eU,ck,none,0,0,[],q.k<|s2 z z,(cM (cr ([g1]++[G.z]) W) np (aa_ (io<|h_ sr)<|io<|f_ sr):Chg (· ∈ ([g1]++[G.z])) W nl),nq,nr,ns,nt,nu,onL,z_,an_,an_,nv,nw⟩
        rintro nx ny ⟨cf,cg,eI,eJ,rfl,eK,eL,eM,bL,eN,eO,eP,bM,_,nA,nB,nC,nD,nE,nF,nG,nH,nI,nJ,nK,nL⟩;revert nx;exact λ_ q=>⟨cf,cg,eI,([]:List Int),eJ,som<|c_m jC,eK,eL,eM,bL,none,0,0,[],eN,eO,eP,bM,q.k<|s2 z z,(cM (e_ (cr ([g1]++[G.z]) H) sh:Chg (· ∈ ([g1]++[G.z])) H W) nA (aa_ (io<|h_ sr)<|io<|f_ sr):Chg (· ∈ ([g1]++[G.z])) H ny),nB,nC,nD,nE,p_ nF sh.s,onL,z_,an_,an_,nG,nH,p_ nI sh.s,nJ,nmN _,nK,nL⟩
       rintro nM nN ⟨ca,cb,ee,eg,eh,rfl,ei,ej,ek,b4,em,en,eo,b5,ep,er,es,b6,_,nO,nP,nQ,nR,nS,nT,nU,nV,nW,nX,nY,nZ,o0,o1,o2,o3,o4⟩;have jG:=elL gA;revert nM;exact λ_ q=>⟨ca,cb,ee,([]:List Str),eg,eh,som<|c_z jG,ei,ej,ek,b4,none,0,0,[],em,en,eo,b5,ep,er,es,b6,q.k<|s2 z z,(cM (cr ([g1]++[G.z]) H) nO (aa_ (io<|h_ sr)<|io<|f_ sr):Chg (· ∈ ([g1]++[G.z])) H nN),nP,nQ,nR,nS,nT,onL,z_,an_,an_,nU,nV,nW,nX,nmN _,nY,nZ,o0,o1,nmN _,o2,o3,o4⟩
      rintro o5 o6 ⟨c5,c6,dJ,dK,dL,dN,rfl,dO,dP,dS,aI,dT,dU,dV,aJ,dW,dX,dY,aK,dZ,e0,e1,aL,_,o7,o8,o9,oa,ob,oc,od,oe,og,oh,oi,oj,ol,om,oo,oq,os,ot,ou,ov,ow,ox,oy⟩;have jH:=elL fh;revert o5;exact λ_ q=>⟨c5,c6,dJ,dK,dL,dN,som<|un6S jH,dO,dP,dS,aI,dT,dU,dV,aJ,dW,dX,dY,aK,dZ,e0,e1,aL,q.k<|s2 z z,(cM (cr ([g1]++[G.z]) H) o7 (aa_ (io<|h_ sr)<|io<|f_ sr):Chg (· ∈ ([g1]++[G.z])) H o6),o8,o9,oa,ob,oc,od,oe,og,oh,oi,oj,ol,om,oo,oq,os,ot,ou,ov,ow,ox,oy⟩
     rintro oz oA ⟨c3,c4,dm,dn,dp,dq,rfl,dr,dt,du,aE,dv,dw,dx,aF,dy,dz,dA,aG,dB,dC,dD,aH,_,oB,oC,oD,oE,oF,oG,oH,oI,oJ,oK,oL,oM,oN,oO,oP,oQ,oR,oS,oT,oU,oV,oW,oX⟩;have jI:=elL ff;revert oz;exact λ_ q=>⟨c3,c4,dm,dn,dp,dq,som<|un6S jI,dr,dt,du,aE,dv,dw,dx,aF,dy,dz,dA,aG,dB,dC,dD,aH,q.k<|s2 z z,(cM (cr ([g1]++[G.z]) H) oB (aa_ (io<|h_ sr)<|io<|f_ sr):Chg (· ∈ ([g1]++[G.z])) H oA),oC,oD,oE,oF,oG,oH,oI,oJ,oK,oL,oM,oN,oO,oP,oQ,oR,oS,oT,oU,oV,oW,oX⟩
    rintro oY oZ ⟨c0,c1,d5,d6,d7,d8,rfl,d9,da,db,aA,dc,dd,de,aB,df,dg,dh,aC,di,dj,dk,aD,_,p0,p1,p2,p3,p4,p5,p6,p7,p8,p9,pa,pb,pc,pd,pe,pf,pg,ph,pi,pj,pk,pl,pm⟩;have jJ:=elL f9;revert oY;exact λ_ q=>⟨c0,c1,0,d5,d6,d7,d8,som<|un6S jJ,d9,da,db,aA,dc,dd,de,aB,df,dg,dh,aC,di,dj,dk,aD,q.k<|s2 z z,(cM (cr ([g1]++[G.z]) H) p0 (aa_ (io<|h_ sr)<|io<|f_ sr):Chg (· ∈ ([g1]++[G.z])) H oZ),p1,p2,ii z,p3,p4,p5,p6,p7,p8,p9,pa,pb,pc,pd,pe,pf,pg,ph,pi,pj,pk,pl,pm⟩
   rintro pn po ⟨bX,bY,bZ,cP,cQ,cR,cS,rfl,cT,cU,cV,aw,cW,cX,cY,ax,cZ,d0,d1,ay,d2,d3,d4,az,_,pp,pq,pr,ps,pu,pw,px,py,pz,pA,pB,pC,pE,pG,pH,pI,pJ,pK,pL,pM,pN,pO,pP,pQ⟩;have jK:=elL f7;revert pn;exact λ_ q=>⟨bX,bY,bZ,cP,cQ,cR,cS,som<|un7S jK,cT,cU,cV,aw,cW,cX,cY,ax,cZ,d0,d1,ay,d2,d3,d4,az,q.k<|s2 z z,(cM (cr ([g1]++[G.z]) H) pp (aa_ (io<|h_ sr)<|io<|f_ sr):Chg (· ∈ ([g1]++[G.z])) H po),pq,pr,ps,pu,pw,px,py,pz,pA,pB,pC,pE,pG,pH,pI,pJ,pK,pL,pM,pN,pO,pP,pQ⟩
  rintro pR pS ⟨bU,bV,bW,cx,cy,cz,cA,rfl,cB,cC,cD,ap,cE,cF,cG,aq,cH,cI,cJ,au,cK,cL,cN,av,_,pU,pV,pW,pX,pY,pZ,q0,q1,q2,q3,q4,q5,q6,q7,q8,q9,qa,qb,qc,qd,qe,qf,qg,qh⟩;have jL:=elL f5;revert pR;exact λ_ q=>⟨bU,bV,bW,false,cx,cy,cz,cA,som<|un7S jL,cB,cC,cD,ap,cE,cF,cG,aq,cH,cI,cJ,au,cK,cL,cN,av,q.k<|s2 z z,(cM (cr ([g1]++[G.z]) H) pU (aa_ (io<|h_ sr)<|io<|f_ sr):Chg (· ∈ ([g1]++[G.z])) H pS),pV,pW,pX,pY,pZ,q0,q1,q2,q3,q4,q5,q6,q7,q8,q9,qa,qb,qc,qd,qe,qf,qg,qh⟩
 rintro qi qj ⟨cq,ct,bj,bQ,fR,fT,fU,fV,rfl,bk,bm,bn,al,bo,bp,bq,am,bt,bu,bv,an,bw,bx,bz,ao,_,iD,qk,ql,qm,qn,qo,iE,qp,qq,iF,qr,qs,qt,iG,qu,qv,qw,qx,iH,qy,qz,qA,qB,qC⟩;have jM:=elL f3;revert qi;refine Wo<|Ws<|R z (lN (vs:=[Str.v x5,vI x3,vI bj,vB bQ,sl bk bm bn,sl bo bp bq,sl bt bu bv,sl bw bx bz]) R_ t_ z z fid<|qC.row 0 8 z) ?_
 have fQ:=mm1 (Blk.lt hB1) bg.s;have iI:=lt_ (lt_ hi.s sc.s) s3.s;have iJ:=mm1 bh.lt iI;refine E0 (fs0 (cur':=[Str.v x5,vI x3,vI bj,vB bQ,sl bk bm bn,sl bo bp bq,sl bt bu bv,sl bw bx bz]) t_ z z ((((((bh.e hi).c sc<|atp fQ).e s3).e h4).c I<|djs iJ).c iD<|atp<|nmA fQ<|ds iJ) z z z z) ?_;rintro _ qD ⟨qE,qF⟩;have bN:=qF.one;refine Wn ?_;obtain rfl:=som<|un8S jM;have eW:=lt_ (lt_ iI h4.s) I.s;have iK:=lt_ hj s3.s;have iL:∀k∈[G.z],k∈[g1]∨w0.z<=k:=mor iK;have eX:=lt_ (lt_ iK h4.s) I.s;exact Wr<|i_ hr (v_ R_ t_ z qE z) ⟨(cM (cM (cM (e_ (e_ (cM (e_ (e_ (e_ (cr [g1] w0) bg:Cg [g1] w0 wb) aj:Cg [g1] w0 aW) hi:Cg [g1] w0 bO) sc (io sr):Cg [g1] w0 jT) s3:Cg [g1] w0 G) h4:Cg [g1] w0 gO) I iL:Cg [g1] w0 H) iD (aa_ (io sr) iL):Cg [g1] w0 qj) bN (mor bg.s:∀k∈[wb.z],k∈[g1]∨w0.z<=k):Cg [g1] w0 qD),bk,bm,bn,al,bo,bp,bq,am,bt,bu,bv,an,bw,bx,bz,ao,z,f_0 gN,jP,qm,qn.c bN<|l_ iE bh.lt eW,qp.c bN<|l_ iF bh.lt eW,qs.c bN<|l_ iG bh.lt eW,qw.c bN<|l_ iH bh.lt eW,qk,ql,qB.c bN<|djs fQ,na_ qo (na_ qq (na_ qt qx<|ds qA)<|nmA (ds qv)<|ds qz)<|nmA (ds qr)<|nmA (ds qu)<|ds qy,aa_ (p_ iE eX)<|aa_ (p_ iF eX)<|aa_ (p_ iG eX)<|p_ iH eX⟩
def Q8 (w0:World)(g1:Nat)(B:Zone)(A0:Option Addr)(N0 C0:Nat)(x1:u_)(r:g_×Int×Int)(v:Value)(w':World):Prop:=Cg [g1] w0 w'/\un3 (λL G H=>∃a1 I J S1,(.agg #[.slice a1 I J])=v/\b_ w' S1 (sl a1 I J) L.rules/\inI G/\inI H/\Blk w' g1 [sl A0 N0 C0,vI G,vI H]/\S1.Nodup/\(∀k∈S1,w0.z<=k)) r
theorem j_u {x1:u_}{g1:Nat}{res:g_×Int×Int}(hm:e_i n x1=some res)(hB1:Blk w0 g1 [sl A0 N0 C0,vI x1.i,vI x1.h])(Y:B<=w0.z)(hBg:¬B g1)(aa:repS w0 B (sl A0 N0 C0) x1.b)(bh:inI x1.i)(bi:inI x1.h):q_ prog 13 [pt g1] w0 (Q8 w0 g1 B A0 N0 C0 x1 res):=by
 unfold e_i at hm
 refine goG func13 z z z λfn hr=>Ws<|E z (fa c_8) ?_
 rintro _ I ⟨rfl,aF⟩;have ht:=aF.below;have hq:Blk I w0.z [sN]:=aF.blk;refine Wn<|Ws<|R z (bP (parts:=[]) (cs:=[sN]) l_9 z z)<|E z (fa c_8) ?_
 rintro _ aG ⟨rfl,aH⟩;have hw:=aH.below;have h3:Blk aG I.z [sN]:=aH.blk;refine E0 (fs0 (cur':=[sN]) w_ z z h3 z z z z) ?_;rintro _ aI ⟨bw,bx⟩;have hd:=bx.one;refine Wn<|Wq (Wd (X:=λk=>k∈[g1]∨aI.z<=k) 320 (pl_ 9 [4,5,6,8]) mo (by kernel_rfl) λab si _=>dR z z (fd T_ z) ?_)
 have al:=bw.e si;have hc:=mm1 (Blk.lt hB1) ht.s;refine dR z z (l1 V_ z (a_3 (atp hc)<|Nat.lt_of_lt_of_le h3.lt hd.s)<|al.at z)<|dM z z z<|dR z z (lN (vs:=[sN]) B_ w_ z z (a_3 (atp hc)<|Nat.lt_of_lt_of_le h3.lt hd.s)<|al.row 0 1 z) ?_
 have am:∀k∈[I.z],¬B k:=or0 (a_ lr)<|m_<|zt' Y ht.s;have aJ:=(((ht.ag B).e hw).c hd<|c_ am).e si;have h4:=lt_ (lt_ (lt_ ht.s hw.s) hd.s) si.s;have a0:=zt' Y h4;obtain ⟨aK,_,_,bz,bj⟩:=r_ hm;refine dE z z (fc call15 z<|j_t (B:=B) (x2:=(⟨([]:List d_)⟩:g_)) bz ((((hB1.e ht).e hw).c hd<|djs hc).e si) a0 hBg (aa.g aJ) bh bi (or_ (B:=B) onL an_)<|ii z) (.inr λ_ _ h=>h.1.mono λk _ hk=>(io sr) k hk) ?_;rintro _ aL ⟨sj,bA,bB,bC,an,bD,bE,bF,ao,bG,bH,bI,ap,bJ,bK,bL,aq,rfl,bM,bN,bO,bQ,bR,bS,bT,bU,bV,bW,he,G⟩;refine dE z z (fS [(.tmp 10)] f_9 z z z (S_ z) (lb z)<|lb z) (.inr λ_ _ h=>x_<|h.2.below) ?_;rintro _ aM ⟨rfl,aN⟩;have O:=aN.below;obtain ⟨_,bX,bk⟩:=bdS bj;refine dE z z (a_i (α:=d_) f_9 bX z z onL z_ (aN.blk:Blk aM aL.z (vR aK bA bB bC bD bE bF bG bH bI bJ bK bL)) (b_g (x:=aK) (S1:=an) (S2:=ao) (S3:=ap) (S4:=aq) bM bN bO (bQ.e O) (bR.e O) (bS.e O)<|bT.e O) (nmN _)<|na_ (nl_ he) (na_ (nl_<|nr_ he) (na_ (nl_<|nr_<|nr_ he) (nr_<|nr_<|nr_ he)<|nj<|nr_<|nr_ he)<|nmA (nmL<|nj<|nr_ he)<|nmR<|nj<|nr_ he)<|nmA (nmL<|nj he)<|nmA (nmL<|nmR<|nj he)<|nmR<|nmR<|nj he) (.inl z) ?_;rintro _ bY ⟨H,aO,aP,aQ,rfl,sk,bZ,c0,hl⟩;refine dR z z (fd T_ z)<|dE0 z (fs0 (cur':=[sl aO aP aQ]) z_24 z z (((al.c sj<|atp hc).e O).c sk<|atp<|nmN _) z z z z) (.inl z) ?_
 rintro _ c1 ⟨c2,c3⟩;have hn:=c3.one;refine pD<|Wo<|Wq<|Wm z ?_
 have aR:=(((aJ.c sj<|c_<|a_ hBg).e O).c sk<|c_ an_).c hn<|c_ am
 have hx:=lt_ (lt_ h4 sj.s) O.s;have ar:=lt_ (lt_ hx sk.s) hn.s;obtain ⟨_,_,_,c4,bm⟩:=r_ bk;refine E z (fc call14 z<|a_B (B:=B) c4 (((bW.e O).c sk<|atp<|nmN _).c hn<|djs hc) (zt' Y ar) hBg (aa.g aR) bU bV<|ii z) ?_;rintro _ J ⟨sf,rfl,c5,c6,c7,c8⟩;refine Rw z ?_
 obtain ⟨_,bn,aD⟩:=bdS bm;refine c_0 (σ:=Int×Int×Int×(List d_)) (ρ:=g_×Int×Int) (λs a w=>un4 (λxr xu xv xy=>∃V W ca L,Sat 32 [(0,pt g1),(2,pt w0.z),(3,pt I.z),(4,vI xr)] a/\Chg (· ∈ ([g1]++(H++[I.z]))) J w/\inI xr/\inI xu/\inI xv/\b_ w L (sl V W ca) xy/\L.Nodup/\(∀k∈L,k∈H∨J.z<=k)/\Blk w g1 [sl A0 N0 C0,vI xu,vI xv]/\Blk w I.z [sl V W ca]) s) (λs a w=>un4 (λxr xu xv xy=>∃V W ca L,Sat 32 [(2,pt w0.z),(3,pt I.z)] a/\Chg (· ∈ ([g1]++(H++[I.z]))) J w/\inI xr/\inI xu/\inI xv/\b_ w L (sl V W ca) xy/\L.Nodup/\(∀k∈L,k∈H∨J.z<=k)/\Blk w g1 [sl A0 N0 C0,vI xu,vI xv]/\Blk w I.z [sl V W ca]) s) (rQ prog fn<|Q8 w0 g1 B A0 N0 C0 x1) bn ?_ ?_ ?_ ?_
 .have a1:=lt_ hd.s si.s;exact λ_ q=>⟨aO,aP,aQ,H,q.k<|s4 z z z z,cr ([g1]++(H++[I.z])) J,c5,c6,c7,(bZ.c hn (or2 hl an_ (aa_ (l_ (al_ G) h3.lt a1)<|aa_ (l_ (al_<|ar_ G) h3.lt a1)<|aa_ (l_ (al_<|ar_<|ar_ G) h3.lt a1)<|l_ (ar_<|ar_<|ar_ G) h3.lt a1) (k_ (a_ h3.lt)<|lt_ (lt_ a1 sj.s) O.s):∀k∈H,k∉[I.z])).c sf (or2 hl an_ (aa_ (l_ (al_ G) (Blk.lt hB1) h4)<|aa_ (l_ (al_<|ar_ G) (Blk.lt hB1) h4)<|aa_ (l_ (al_<|ar_<|ar_ G) (Blk.lt hB1) h4)<|l_ (ar_<|ar_<|ar_ G) (Blk.lt hB1) h4) (k_ (a_<|Blk.lt hB1) hx):∀k∈H,k∉[g1]),c0,io sr,c8,c2.c sf<|atp hc⟩
 .rintro ⟨xr,xu,xv,xy⟩ _ a2 _ ⟨V,W,ca,L,bo,sz,aS,ad,ae,ho,af,hp,ah,ai⟩ bp;have aE:=c_m bp;refine Wu ?_ bo;refine Wq<|Wm z<|R z (a_b z z)<|Wx z (λak=>?_) (λak=>?_)
  .refine Wk<|Wq<|Wb (Wd (X:=λk=>k∈[g1]∨a2.z<=k) 2560 (pl_ 12 [5,7,8,9,11]) mo (by kernel_rfl) λc9 sm _=>dR z z (fd T_ z) ?_)
   have au:=ai.e sm;have a3:=lt_ hd.s si.s;have aT:=lt_ (lt_ a3 sj.s) O.s;have aU:=lt_ (lt_ (lt_ aT sk.s) hn.s) sf.s;have av:=lt_ aU sz.s;refine dR z z (l1 V_ z (a_3 (atp hc)<|Nat.lt_of_lt_of_le h3.lt av)<|au.at z)<|dM z z z<|dR z z (lN (vs:=[sl V W ca]) B_ w_ z z (a_3 (atp hc)<|Nat.lt_of_lt_of_le h3.lt av)<|au.row 0 1 z)<|dM z z z ?_
   have aV:=((aR.c sf<|c_<|a_ hBg).c sz<|nmA (c_<|a_ hBg)<|nmA (c_ (or2 hl an_ (aa_ (or0 (al_ G) (m_ a0):∀k∈an,¬B k)<|aa_ (or0 (al_<|ar_ G) (m_ a0):∀k∈ao,¬B k)<|aa_ (or0 (al_<|ar_<|ar_ G) (m_ a0):∀k∈ap,¬B k) (or0 (ar_<|ar_<|ar_ G) (m_ a0):∀k∈aq,¬B k)) (m_<|zt' Y hx):∀k∈H,¬B k))<|c_ am).e sm;have aW:=lt_ ar sf.s;have aX:=lt_ (lt_ aW sz.s) sm.s;obtain ⟨_,_,_,cb,bq⟩:=r_<|ifT aE ak;refine dE z z (fc call14 z<|a_B (B:=B) cb (ah.e sm) (zt' Y aX) hBg (aa.g aV) ad ae<|ii z) (.inr λ_ _ h=>h.1.mono λk _ hk=>(io sr) k hk) ?_;rintro _ cc ⟨ss,rfl,_,cd,ce,cf⟩;refine dR z z (add_ z z) ?_;have aY:=lt_ sj.s O.s;have aw:∀k∈L,k∉[g1]:=or1 hp (or2 hl an_ (aa_ (l_ (al_ G) (Blk.lt hB1) h4)<|aa_ (l_ (al_<|ar_ G) (Blk.lt hB1) h4)<|aa_ (l_ (al_<|ar_<|ar_ G) (Blk.lt hB1) h4)<|l_ (ar_<|ar_<|ar_ G) (Blk.lt hB1) h4) (k_ (a_<|Blk.lt hB1) hx):∀k∈H,k∉[g1])<|k_ (a_<|Blk.lt hB1) aW;have aZ:=(ho.e sm).c ss aw;have a4:=lt_ sm.s ss.s;obtain ⟨b0,cg,ch,ci,br⟩:=r_ bq;refine dE z z (fc call15 z<|j_t (B:=zn B ab.z a2.z) (x2:=(⟨xy⟩:g_)) ci cf (a_P (zt' Y<|lt_ aX ss.s) a4) (atp ((b_7 (a_ hBg) (a_<|Blk.lt hB1) h4):∀k∈[g1],¬(zn B ab.z a2.z) k)) (repS.mono (aa.g<|aV.c ss<|c_<|a_ hBg) a_r) cd ce (or_ aZ<|zin (B:=B) (a_0 hp (or2 hl an_ (aa_ (al_ G)<|aa_ (al_<|ar_ G)<|aa_ (al_<|ar_<|ar_ G)<|ar_<|ar_<|ar_ G) (b_6 aY):∀k∈H,ab.z<=k)<|lt_ (lt_ (lt_ aY sk.s) hn.s) sf.s)<|b_.lt ho)<|iA _ _) (.inr λ_ _ h=>h.1.mono λk _ hk=>(io sr) k hk) ?_;rintro _ b1 ⟨a5,cj,ck,cl,b2,cm,cn,co,b3,cp,cq,ct,b4,cu,cv,cw,b5,rfl,cx,cy,cz,cA,cB,cC,cD,cE,cF,cG,hg,hb⟩;refine dE z z (fS [(.tmp 27)] f_9 z z z (S_ z) (lb z)<|lb z) (.inr λ_ _ h=>x_<|h.2.below) ?_;rintro _ b6 ⟨rfl,b7⟩;have hh:=b7.below;obtain ⟨cH,cI,bs⟩:=bdS br;refine dE z z (a_i (α:=d_) f_9 cI z z ((aZ.c a5 aw).e hh) af (b7.blk:Blk b6 b1.z (vR b0 cj ck cl cm cn co cp cq ct cu cv cw)) (b_g (x:=b0) (S1:=b2) (S2:=b3) (S3:=b4) (S4:=b5) cx cy cz (cA.e hh) (cB.e hh) (cC.e hh)<|cD.e hh) (aa_ (b_F (al_ hb) (b_.lt ho) a4)<|aa_ (b_F (al_<|ar_ hb) (b_.lt ho) a4)<|aa_ (b_F (al_<|ar_<|ar_ hb) (b_.lt ho) a4)<|b_F (ar_<|ar_<|ar_ hb) (b_.lt ho) a4)<|na_ (nl_ hg) (na_ (nl_<|nr_ hg) (na_ (nl_<|nr_<|nr_ hg) (nr_<|nr_<|nr_ hg)<|nj<|nr_<|nr_ hg)<|nmA (nmL<|nj<|nr_ hg)<|nmR<|nj<|nr_ hg)<|nmA (nmL<|nj hg)<|nmA (nmL<|nmR<|nj hg)<|nmR<|nmR<|nj hg) (.inl z) ?_;rintro _ cJ ⟨ax,b8,b9,ba,rfl,ay,cK,cL,bb⟩;refine dR z z (fd T_ z) ?_;have bc:∀k∈L,k∉[I.z]:=or1 hp (or2 hl an_ (aa_ (l_ (al_ G) h3.lt a3)<|aa_ (l_ (al_<|ar_ G) h3.lt a3)<|aa_ (l_ (al_<|ar_<|ar_ G) h3.lt a3)<|l_ (ar_<|ar_<|ar_ G) h3.lt a3) (k_ (a_ h3.lt) aT):∀k∈H,k∉[I.z])<|k_ (a_ h3.lt) aU;refine dE0 z (fs0 (cur':=[sl b8 b9 ba]) z_24 z z ((((au.c ss<|atp hc).c a5<|atp hc).e hh).c ay<|djs bc) z z z z) (.inl z) ?_;rintro _ cN ⟨cO,cP⟩;have az:=cP.one;refine pD<|Wo<|Wg<|Rm z<|R z (sb_ z z)<|Ra z<|Wl ?_
   have a6:=lt_ (lt_ av sm.s) ss.s;have a7:=lt_ (lt_ sz.s sm.s) ss.s;exact λ_ q=>⟨(J_ xr 1,cg,ch,cH),(som bs).symm,⟨b8,b9,ba,ax,q.k<|s4 z z z z,(cM (cM (e_ (cM (cM (e_ (cM (cr ([g1]++(H++[I.z])) J) sz (aa_ (io<|h_ sr)<|aa_ (io<|f_<|h_ sr)<|io<|f_<|f_ sr):Chg (· ∈ ([g1]++(H++[I.z]))) J a2) sm:Chg (· ∈ ([g1]++(H++[I.z]))) J c9) ss (io<|h_ sr):Chg (· ∈ ([g1]++(H++[I.z]))) J cc) a5 (io<|h_ sr):Chg (· ∈ ([g1]++(H++[I.z]))) J b1) hh:Chg (· ∈ ([g1]++(H++[I.z]))) J b6) ay (or1 hp (io<|f_<|h_ sr) (o_ lr):∀k∈L,k∈([g1]++(H++[I.z]))∨J.z<=k):Chg (· ∈ ([g1]++(H++[I.z]))) J cJ) az (io<|f_<|f_ sr):Chg (· ∈ ([g1]++(H++[I.z]))) J cN),iS _ _,cE,cF,cK.c az (or2 bb bc (aa_ (l_ (al_ hb) h3.lt a6)<|aa_ (l_ (al_<|ar_ hb) h3.lt a6)<|aa_ (l_ (al_<|ar_<|ar_ hb) h3.lt a6)<|l_ (ar_<|ar_<|ar_ hb) h3.lt a6) (k_ (a_ h3.lt)<|lt_ (lt_ a6 a5.s) hh.s):∀k∈ax,k∉[I.z]),cL,(or2 bb (or1 hp (io sr) (o_ lr):∀k∈L,k∈H∨J.z<=k) (aa_ (or0 (al_ hb) (o_ a7):∀k∈b2,k∈H∨J.z<=k)<|aa_ (or0 (al_<|ar_ hb) (o_ a7):∀k∈b3,k∈H∨J.z<=k)<|aa_ (or0 (al_<|ar_<|ar_ hb) (o_ a7):∀k∈b4,k∈H∨J.z<=k) (or0 (ar_<|ar_<|ar_ hb) (o_ a7):∀k∈b5,k∈H∨J.z<=k)) (o_<|lt_ (lt_ a7 a5.s) hh.s):∀k∈ax,k∈H∨J.z<=k),((cG.e hh).c ay<|djs aw).c az<|djs hc,cO⟩⟩
  exact We<|λ_ q=>b_n (som<|ifF aE ak).symm ⟨V,W,ca,L,q.k<|s2 z z,(cM (cr ([g1]++(H++[I.z])) J) sz (aa_ (io<|h_ sr)<|aa_ (io<|f_<|h_ sr)<|io<|f_<|f_ sr):Chg (· ∈ ([g1]++(H++[I.z]))) J a2),aS,ad,ae,ho,af,(or1 hp (io sr) (o_ lr):∀k∈L,k∈H∨J.z<=k),ah,ai⟩
 .rintro ⟨xr,xu,xv,xy⟩ cQ cR rfl ⟨V,W,ca,L,_,be,aS,ad,ae,ho,af,hp,ah,ai⟩;have bt:=elL aD;revert cQ;refine Wo<|Ws<|R z (lN (vs:=[sl V W ca]) B_ w_ z z fid<|ai.row 0 1 z) ?_
  have aA:=mmr hq.lt;have aj:=mmr<|Blk.lt hB1
  have a9:=lt_ (lt_ hw.s hd.s) si.s;have bf:=lt_ (lt_ a9 sj.s) O.s;have bg:∀k∈H,k∉[w0.z]:=or2 hl an_ (aa_ (l_ (al_ G) hq.lt a9)<|aa_ (l_ (al_<|ar_ G) hq.lt a9)<|aa_ (l_ (al_<|ar_<|ar_ G) hq.lt a9)<|l_ (ar_<|ar_<|ar_ G) hq.lt a9)<|k_ (a_ hq.lt) bf;refine E0 (fs0 (cur':=[sl V W ca]) w_ z z (((((((((hq.e hw).c hd<|djs aA).e si).c sj<|atp aj).e O).c sk<|atp<|nmN _).c hn<|djs aA).c sf<|atp aj).c be<|atp<|nmA aj<|nmA (ds bg)<|ds aA) z z z z) ?_;rintro _ cS ⟨cT,cU⟩;have aB:=cU.one;refine Wn ?_;obtain rfl:=som<|c_m bt;have aC:∀k∈[I.z],k∈[g1]∨w0.z<=k:=mor ht.s;exact Wr<|i_ hr (v_ B_ w_ z cT z) ⟨(cM (cM (cM (cM (cM (e_ (cM (e_ (cM (e_ (e_ (cr [g1] w0) ht:Cg [g1] w0 I) hw:Cg [g1] w0 aG) hd aC:Cg [g1] w0 aI) si:Cg [g1] w0 ab) sj (io sr):Cg [g1] w0 aL) O:Cg [g1] w0 aM) sk an_:Cg [g1] w0 bY) hn aC:Cg [g1] w0 c1) sf (io sr):Cg [g1] w0 J) be (aa_ (io sr)<|aa_ (or2 hl an_ (aa_ (or0 (al_ G) (o_ h4):∀k∈an,k∈[g1]∨w0.z<=k)<|aa_ (or0 (al_<|ar_ G) (o_ h4):∀k∈ao,k∈[g1]∨w0.z<=k)<|aa_ (or0 (al_<|ar_<|ar_ G) (o_ h4):∀k∈ap,k∈[g1]∨w0.z<=k) (or0 (ar_<|ar_<|ar_ G) (o_ h4):∀k∈aq,k∈[g1]∨w0.z<=k)) (o_ hx):∀k∈H,k∈[g1]∨w0.z<=k) aC):Cg [g1] w0 cR) aB (mor lr:∀k∈[w0.z],k∈[g1]∨w0.z<=k):Cg [g1] w0 cS),V,W,ca,L,z,ho.c aB (or1 hp bg (k_ (a_ hq.lt)<|lt_ (lt_ (lt_ bf sk.s) hn.s) sf.s):∀k∈L,k∉[w0.z]),ad,ae,ah.c aB<|djs aj,af,a_0 hp (or2 hl an_ (aa_ (p_ (al_ G) h4)<|aa_ (p_ (al_<|ar_ G) h4)<|aa_ (p_ (al_<|ar_<|ar_ G) h4)<|p_ (ar_<|ar_<|ar_ G) h4) (b_6 hx):∀k∈H,w0.z<=k)<|lt_ ar sf.s⟩
 rintro _ _ _ _ rfl ⟨rfl,bu⟩;have bv:=elR aD;obtain rfl:=som bv;exact ⟨bu,z⟩
def Q9 (w0:World)(B:Zone)(r:Int)(v:Value)(w':World):Prop:=Bw w0 w'/\(λG=>(vI G)=v/\inI G) r
theorem j_v {x1:Int}{res:Int}(hm:d_A x1=some res)(J:B<=w0.z)(I:inI x1):q_ prog 39 [vI x1] w0 (Q9 w0 B res):=by
 unfold d_A at hm
 refine goG func39 z z z λfn hr=>Ws<|Rw z<|Wm z<|R z (c_E z z) ?_
 obtain ⟨_,H,G⟩:=bdS hm;refine R z (i_x z z<|nnS H)<|Rw z ?_
 obtain rfl:=som G;exact Wr<|i_ hr z ⟨br w0,z,n_N<|ii z⟩
theorem j_w {x1:Int}{x2:Int}{res:Int}(hm:e_Q x1 x2=some res)(J:B<=w0.z)(H:inI x1)(I:inI x2):q_ prog 38 [vI x1,vI x2] w0 (Q9 w0 B res):=by
 unfold e_Q at hm
 refine goG func38 z z z λfn hr=>Ws<|Rw z<|Wq<|Wm z<|Rm z<|Rl z z z<|Wx z (λG=>?_) (λG=>?_)
 .refine Wm z<|Rw z ?_
  obtain rfl:=som<|ifT hm G;exact Wr<|i_ hr z ⟨br w0,z,I⟩
 refine Wk<|Wm z<|Rw z ?_
 obtain rfl:=som<|ifF hm G;exact Wr<|i_ hr z ⟨br w0,z,H⟩
def Q10 (w0:World)(g1:Nat)(B:Zone)(A0:Option Addr)(N0 C0:Nat)(x1:u_)(r:Val×Int×Int)(v:Value)(w':World):Prop:=Cg [g1] w0 w'/\un3 (λG H I=>∃a1 J L S1 a2 O V S2,(.agg #[vI G.number,sl a1 J L,sl a2 O V])=v/\inI G.number/\b_ w' S1 (sl a1 J L) G.bytes/\b_ w' S2 (sl a2 O V) G.items/\inI H/\inI I/\Blk w' g1 [sl A0 N0 C0,vI H,vI I]/\(S1++S2).Nodup/\(∀k∈(S1++S2),w0.z<=k)) r
structure j_x (f:u_->g_->Int->Int->Option (Val×Int×Int)):Prop where
  run:∀{A0 A6:Option Addr}{N0 C0 g1 N6 C6:Nat}{B:Zone}{x1:u_}{x2:g_}{x3:Int}{x4:Int}{res:Val×Int×Int}{w0:World}(hm:f x1 x2 x3 x4=some res)(hB1:Blk w0 g1 [sl A0 N0 C0,vI x1.i,vI x1.h])(hBw:B<=w0.z)(hBg:¬B g1)(p1_0:repS w0 B (sl A0 N0 C0) x1.b)(p1_1:inI x1.i)(p1_2:inI x1.h)(p2_0:repS w0 B (sl A6 N6 C6) x2.rules)(p3_0:inI x3)(p4_0:inI x4),q_ prog 17 [pt g1,.agg #[sl A6 N6 C6],vI x3,vI x4] w0<|Q10 w0 g1 B A0 N0 C0 x1 res
abbrev l_l (n:Nat):Prop:=j_x (e_j n).spec_l9Make
theorem T_w0b (aZ:l_l n):j_x (f_R n<|e_j n):=by
 constructor
 intro A0 A6 N0 C0 g1 N6 C6 B x1 x2 x3 x4 res w0 hm hB1 J hBg W a4 a5 aA p4 eL;unfold f_R at hm
 refine goG func17 z z z λfn hr=>Ws<|E z (fb z) ?_
 rintro _ wb ⟨rfl,gy⟩;have O:=gy.below;have hf:Blk wb w0.z [sl A6 N6 C6]:=gy.blk;refine E z (fa a_q) ?_;rintro _ wc ⟨rfl,gz⟩;have L:=gz.below;have b0:Blk wc wb.z [vI 0,sN,sN]:=gz.blk;refine Wn<|Ws<|Rf z T_ z ?_
 have aB:=hf.e L;refine R z (l0 V_ z<|aB.at z)<|Rm z ?_
 obtain ⟨aC,iQ,hJ⟩:=bdS hm;have a7:=(O.ag B).e L;refine RX z (at_ (α:=d_) N_ t_ z z z (aA.g a7) iQ) ?_;rintro _ ⟨_,_,_,rfl,iR,iT,_⟩;obtain ⟨gA,gB,gC,gD,gE,gF,gG,gH,gI,gJ,gK,gL,rfl,_,_,gM,iU,_,gN,aj⟩:=a_T iT;refine R z (lN (vs:=vR aC gA gB gC gD gE gF gG gH gI gJ gK gL) R_ t_ z z fid iR)<|E z (fa b_M) ?_
 rintro _ gO ⟨rfl,gP⟩;have h5:=gP.below;have b1:Blk gO wc.z [(Str.v (⟨[]⟩:Str)),vI 0,vI 0,vB false,sN,sN,sN,sN]:=gP.blk;refine E0 (fs0 (cur':=vR aC gA gB gC gD gE gF gG gH gI gJ gK gL) t_ z z b1 z z z z) ?_;rintro _ G ⟨iV,iW⟩;have h4:=iW.one;refine Wn<|Ws<|R z (bP (parts:=[]) (cs:=[vI 0,sN,sN]) a_7 z z)<|E z (fa a_q) ?_
 rintro _ gQ ⟨rfl,gR⟩;have h6:=gR.below;have V:Blk gQ G.z [vI 0,sN,sN]:=gR.blk;refine E0 (fs0 (cur':=[vI 0,sN,sN]) n_ z z V z z z z) ?_;rintro _ wa ⟨hw,iX⟩;have h3:=iX.one;refine Wn<|Wq<|Ws<|Rf z a_V z ?_
 have aq:=mm1 b1.lt h4.s;have ht:=(iV.e h6).c h3<|djs aq
 refine R z (l0 g_3 z<|ht.at z)<|Wn<|Wb<|Ws<|Rq z z z<|Rw z ?_
 obtain ⟨iY,eM,cY⟩:=bdS hJ;refine Wt (λa w=>∃(bT:Int)(bU:Int)(aD:Int)(de:Bt)(df:List Val),Sum.inl (bT,bU,aD,de,df)=iY/\∃aE aF aG aH aI aJ aK aL,Sat 178 [(8,pt wb.z),(10,pt G.z)] a/\Chg (· ∈ ([g1]++[G.z])) wa w/\inI bT/\inI bU/\inI aD/\b_ w aH (sl aE aF aG) de/\aH.Nodup/\(∀k∈aH,wa.z<=k)/\b_ w aL (sl aI aJ aK) df/\aL.Nodup/\(∀k∈aL,wa.z<=k)/\(∀k∈aL,k∉aH)/\Blk w g1 [sl A0 N0 C0,vI bT,vI bU]/\Blk w G.z [vI aD,sl aE aF aG,sl aI aJ aK]) ?_ ?_
 .refine Wc z (λcZ=>?_)<|λcZ=>?_
  .refine Wg<|Rm z<|Rf z a_W z<|R z (l0 g_3 z<|ht.at z) ?_
   have dg:=lt_ O.s L.s;have dh:=lt_ (lt_ dg h5.s) h4.s;have gS:=lt_ (lt_ dh h6.s) h3.s;obtain ⟨_,iZ,hK⟩:=bdS<|ifT eM cZ;refine E z (fc call39 z<|j_v iZ (zt' J gS) gM) ?_;rintro _ j0 ⟨b2,rfl,j1⟩;have gT:=lt_ gS b2.s;obtain ⟨_,j2,hL⟩:=bdS hK;refine E z (fc call38 z<|j_w j2 (zt' J gT) j1<|ii z) ?_;rintro _ j3 ⟨b3,rfl,j4⟩;have di:=mm1 (Blk.lt hB1) dh;obtain ⟨gU,j5,j6,j7,hM⟩:=r_ hL;refine E z (fc call14 z<|a_B (B:=B) j7 ((((((((hB1.e O).e L).e h5).c h4<|djs<|mm1 (Blk.lt hB1) dg).e h6).c h3<|djs di).e b2).e b3) (zt' J<|lt_ gT b3.s) hBg (W.g<|(((((a7.e h5).c h4<|c_ (or0 (a_ lr) (m_<|zt' J dg):∀k∈[wc.z],¬B k)).e h6).c h3<|c_ (or0 (a_ lr) (m_<|zt' J dh):∀k∈[G.z],¬B k)).e b2).e b3) a4 a5 j4) ?_;rintro _ j8 ⟨gV,rfl,j9,ja,jb,jc⟩;refine Rf z f_b z<|E0 (fs0 (cur':=[vI gU,sN,sN]) z_3 z z (((hw.e b2).e b3).c gV<|atp di) z z z z) ?_
   rintro _ jd ⟨je,jf⟩;have gW:=jf.one;refine Wl ?_;exact λ_ q=>⟨j5,j6,gU,([]:Bt),([]:List Val),som hM,none,0,0,[],none,0,0,[],q.k<|s2 z z,(cM (cM (e_ (e_ (cr ([g1]++[G.z]) wa) b2:Chg (· ∈ ([g1]++[G.z])) wa j0) b3:Chg (· ∈ ([g1]++[G.z])) wa j3) gV (io<|h_ sr):Chg (· ∈ ([g1]++[G.z])) wa j8) gW (io<|f_ sr):Chg (· ∈ ([g1]++[G.z])) wa jd),ja,jb,j9,onL,z_,an_,onL,z_,an_,an_,jc.c gW<|djs di,je⟩
  refine Ws<|Rq z z z<|Rw z ?_
  obtain ⟨jg,eN,d0⟩:=bdS<|ifF eM cZ;refine Wt (λa w=>∃(b4:Int)(b5:Int)(b6:Int)(bV:Bt)(bW:List Val),Sum.inl (b4,b5,b6,bV,bW)=jg/\∃bX bY bZ aM c0 c1 c2 aN,Sat 178 [(8,pt wb.z),(10,pt G.z)] a/\Chg (· ∈ ([g1]++[G.z])) wa w/\inI b4/\inI b5/\inI b6/\b_ w aM (sl bX bY bZ) bV/\aM.Nodup/\(∀k∈aM,wa.z<=k)/\b_ w aN (sl c0 c1 c2) bW/\aN.Nodup/\(∀k∈aN,wa.z<=k)/\(∀k∈aN,k∉aM)/\Blk w g1 [sl A0 N0 C0,vI b4,vI b5]/\Blk w G.z [vI b6,sl bX bY bZ,sl c0 c1 c2]) ?_ ?_
  .refine Wc z (λd1=>?_)<|λd1=>?_
   .refine Wg<|Rm z<|Rf z a_W z<|R z (l0 g_3 z<|ht.at z) ?_
    have dj:=lt_ O.s L.s;have dk:=lt_ (lt_ dj h5.s) h4.s;have dl:=mm1 (Blk.lt hB1) dk;obtain ⟨jh,ji,jj,jk,hN⟩:=r_<|ifT eN d1;refine E z (fc call32 z<|i_i (B:=B) jk ((((((hB1.e O).e L).e h5).c h4<|djs<|mm1 (Blk.lt hB1) dj).e h6).c h3<|djs dl) (zt' J<|lt_ (lt_ dk h6.s) h3.s) hBg (W.g<|(((a7.e h5).c h4<|c_ (or0 (a_ lr) (m_<|zt' J dj):∀k∈[wc.z],¬B k)).e h6).c h3<|c_ (or0 (a_ lr) (m_<|zt' J dk):∀k∈[G.z],¬B k)) a4 a5 gM) ?_;rintro _ jl ⟨gX,gY,gZ,h0,jm,rfl,jn,jo,jp,jq,jr,h1⟩;refine Rf z c_n z<|E0 (fs0 (cur':=[vI 0,sl gY gZ h0,sN]) d_R z z (hw.c gX<|atp dl) z z z z) ?_
    rintro _ js ⟨jt,ju⟩;have dm:=ju.one;refine Wl ?_;exact λ_ q=>⟨ji,jj,0,jh,([]:List Val),som hN,gY,gZ,h0,jm,none,0,0,[],q.k<|s2 z z,(cM (cM (cr ([g1]++[G.z]) wa) gX (io<|h_ sr):Chg (· ∈ ([g1]++[G.z])) wa jl) dm (io<|f_ sr):Chg (· ∈ ([g1]++[G.z])) wa js),jo,jp,ii z,jn.c dm<|l_ h1 V.lt h3.s,jr,h1,onL,z_,an_,an_,jq.c dm<|djs dl,jt⟩
   refine Wq<|Ws<|Rq z z z<|Rw z ?_
   obtain ⟨jv,eO,hO⟩:=bdS<|ifF eN d1;refine Wt (λa w=>∃(dn:Bool),dn=jv/\Sat 178 [(0,pt g1),(3,vI x4),(5,pt w0.z),(8,pt wb.z),(9,pt wc.z),(10,pt G.z),(21,vI aC.kind),(38,vB dn)] a/\Below wa.z wa w) ?_ ?_
   .refine Wc z (λd2=>?_)<|λd2=>?_
    .exact a_c<|λ_ q=>⟨aC.kind==4,som<|ifT eO d2,q.k<|s8 z z z z z z z z,br wa⟩
    exact Wg<|Rq z z z<|Ra z<|Wl (λ_ q=>⟨aC.kind==10,som<|ifF eO d2,q.k<|s8 z z z z z z z z,br wa⟩)
   rintro jw H ⟨dn,rfl,_,I⟩;revert jw;refine Wo ?_;obtain ⟨jx,eP,d3⟩:=bdS hO;refine Wt (λa w=>∃(b7:Int)(b8:Int)(b9:Int)(c3:Bt)(c4:List Val),Sum.inl (b7,b8,b9,c3,c4)=jx/\∃c5 c6 c7 aO c8 c9 ca aP,Sat 178 [(8,pt wb.z),(10,pt G.z)] a/\Chg (· ∈ ([g1]++[G.z])) H w/\inI b7/\inI b8/\inI b9/\b_ w aO (sl c5 c6 c7) c3/\aO.Nodup/\(∀k∈aO,H.z<=k)/\b_ w aP (sl c8 c9 ca) c4/\aP.Nodup/\(∀k∈aP,H.z<=k)/\(∀k∈aP,k∉aO)/\Blk w g1 [sl A0 N0 C0,vI b7,vI b8]/\Blk w G.z [vI b9,sl c5 c6 c7,sl c8 c9 ca]) ?_ ?_
   .refine Wc z (λd4=>?_)<|λd4=>?_
    .refine Wm z<|RM z z ?_
     have dp:=lt_ O.s L.s;have dq:=lt_ (lt_ dp h5.s) h4.s;have h2:=lt_ (lt_ (lt_ dq h6.s) h3.s) I.s;obtain ⟨_,jy,hP⟩:=bdS<|ifT eP d4;refine E z (fc call38 z<|j_w jy (zt' J h2) eL<|ii z) ?_;rintro _ jz ⟨sg,rfl,_⟩;refine R z (add_ z z) ?_;have ha:∀k∈[wc.z],¬B k:=or0 (a_ lr)<|m_<|zt' J dp;have ba:∀k∈[G.z],¬B k:=or0 (a_ lr)<|m_<|zt' J dq;have hb:=(((((a7.e h5).c h4<|c_ ha).e h6).c h3<|c_ ba).e I).e sg;have ar:=mm1 (Blk.lt hB1) dp;have hx:=mm1 (Blk.lt hB1) dq;have he:=lt_ h2 sg.s;obtain ⟨_,_,_,jA,hQ⟩:=r_ hP;refine E z (fc call14 z<|a_B (B:=B) jA ((((((((hB1.e O).e L).e h5).c h4<|djs ar).e h6).c h3<|djs hx).e I).e sg) (zt' J he) hBg (W.g hb) a4 a5<|iA _ _) ?_;rintro _ jB ⟨sk,rfl,jC,jD,jE,jF⟩;have dr:=hb.c sk<|c_<|a_ hBg
     have bb:=lt_ he sk.s;obtain ⟨hg,hh,hi,jG,hR⟩:=r_ hQ;refine E z (fc call32 z<|i_i (B:=B) jG jF (zt' J bb) hBg (W.g dr) jD jE jC) ?_;rintro _ jH ⟨sm,cb,cc,cd,Sr,rfl,ce,dt,du,dv,hj,ak⟩;refine Rf z c_n z<|E0 (fs0 (cur':=[vI 0,sl cb cc cd,sN]) d_R z z ((((hw.e I).e sg).c sk<|atp hx).c sm<|atp hx) z z z z) ?_
     rintro _ aQ ⟨dw,jI⟩;have hd:=jI.one;refine Wn<|Wq ?_
     obtain ⟨jJ,eQ,hS⟩:=bdS hR;refine Wt (λa w=>∃(dx:Bool)(bc:Int)(be:Int),(dx,bc,be)=jJ/\Sat 178 [(0,pt g1),(8,pt wb.z),(9,pt wc.z),(10,pt G.z),(61,vB dx)] a/\Cg [g1] aQ w/\inI bc/\inI be/\Blk w g1 [sl A0 N0 C0,vI bc,vI be]) ?_ ?_
     .refine Wg<|Rf z a_V z<|R z (l0 g_3 z<|(((((ht.e I).e sg).c sk<|atp ar).c sm<|atp ar).c hd<|djs aq).at z)<|Rq z z z<|Rm z ?_
      rcases bs (aC.kind==10) with hcy | hcy
      .have eR:=ifT eQ hcy;refine Rh z hcy (fd c_n z)<|Rh z hcy (l0 U_ z<|dw.at z)<|Rh z hcy (lnR s_ z<|or_ (ce.c hd<|l_ ak V.lt<|lt_ (lt_ (lt_ h3.s I.s) sg.s) sk.s)<|zin (B:=B) ak<|b_.lt ce)<|Rh z hcy (a_b z z)<|R z (pT z hcy z)<|Rm z ?_
       rcases bs (decide<|0<(hg.length:Int)) with a6 | a6
       .refine Rh z a6 (mv z) ?_;obtain ⟨jK,jL,jM,jN,hT⟩:=r_<|ifT eR a6;refine Eg z z a6 z (fc call31 z<|g_n (B:=B) jN (dv.c hd<|djs hx) (zt' J<|lt_ (lt_ bb sm.s) hd.s) hBg (W.g<|(dr.c sm<|c_<|a_ hBg).c hd<|c_ ba) dt du<|ii z) ?_;rintro _ jO ⟨jP,rfl,jQ,jR,jS⟩;refine R z (pT z a6 z)<|Wl ?_
        exact λ_ q=>⟨jK,jL,jM,som hT,q.k<|s5 z z z z z,(cM (cr [g1] aQ) jP (io sr):Cg [g1] aQ jO),jQ,jR,jS⟩
       exact Nh z a6<|Nh z a6<|R z (pF z a6 z)<|Wl (λ_ q=>⟨false,hh,hi,som<|ifF eR a6,q.k<|s5 z z z z z,cr [g1] aQ,dt,du,dv.c hd<|djs hx⟩)
      iterate 4 refine Nh z hcy ?_
      exact R z (pF z hcy z)<|Rm z<|Nh z z<|Nh z z<|R z (pF z z z)<|Wl (λ_ q=>⟨false,hh,hi,som<|ifF eQ hcy,q.k<|s5 z z z z z,cr [g1] aQ,dt,du,dv.c hd<|djs hx⟩)
     rintro jT ws ⟨dx,bc,be,rfl,_,sn,hl,hn,ho⟩;revert jT;refine Wo ?_;obtain ⟨jU,eS,hU⟩:=bdS<|a_u hS;refine Wt (λa w=>∃(bf:Int)(bg:Int)(cf:Bt),(bf,bg,cf)=jU/\∃(bh:List Nat),Sat 178 [(8,pt wb.z),(10,pt G.z)] a/\Chg (· ∈ ([g1]++Sr)) ws w/\inI bf/\inI bg/\b_ w bh (sl cb cc cd) cf/\bh.Nodup/\(∀k∈bh,k∈Sr∨ws.z<=k)/\Blk w g1 [sl A0 N0 C0,vI bf,vI bg]/\Blk w G.z [vI 0,sl cb cc cd,sN]) ?_ ?_
     .refine Wc z (λd5=>?_)<|λd5=>?_
      .refine Wd (X:=λk=>k∈[g1]∨ws.z<=k) 4096 (pl_ 13 [8,9,12]) mo (by kernel_rfl) λaR a8 _=>dR z z (fd c_n z) ?_
       have hp:=(dw.c sn<|atp hx).e a8;have hq:=lt_ (lt_ (lt_ h3.s I.s) sg.s) sk.s;refine dR z z (l1 U_ z (a_3 (atp hx)<|Nat.lt_of_lt_of_le V.lt<|lt_ (lt_ (lt_ hq sm.s) hd.s) sn.s)<|hp.at z)<|dM z z z<|dR z z (fd a_N z) ?_
       refine dR z z (l1 U_ z (a_3 (atp ar)<|Nat.lt_of_lt_of_le b1.lt<|lt_ (lt_ (lt_ (lt_ (lt_ (lt_ (lt_ (lt_ h4.s h6.s) h3.s) I.s) sg.s) sk.s) sm.s) hd.s) sn.s)<|(((((((ht.e I).e sg).c sk<|atp ar).c sm<|atp ar).c hd<|djs aq).c sn<|atp ar).e a8).at z) ?_;obtain ⟨dy,jV,hV⟩:=bdS<|ifT eS d5;refine dRX z z (at_ (α:=UInt8) s_ z_5 z z z (iU.g<|((((((((((h5.ag B).c h4<|c_ ha).e h6).c h3<|c_ ba).e I).e sg).c sk<|c_<|a_ hBg).c sm<|c_<|a_ hBg).c hd<|c_ ba).c sn<|c_<|a_ hBg).e a8) jV) ?_;rintro _ ⟨_,_,_,rfl,jW,jX,hu⟩;obtain rfl:=u8 jX;have hv:=lt_ (lt_ (lt_ bb sm.s) hd.s) sn.s;refine dR z z (l1 g_5 z (a_3 ((c_<|a_ hBg) _ hu)<|zap (zt' J hv) hu)<|jW.at0 z)<|dR z z (c_7 d_5 d_3 z)<|dE z z (fS [(.tmp 69),(.const<|.int .i64 92)] a_v z z z (S_ z) (lb z)<|lb z) (.inr λ_ _ h=>x_<|h.2.below) ?_
       rintro _ bi ⟨rfl,hy⟩;have au:=hy.below;have hz:b_ bi [aR.z] (sl (some ⟨aR.z,0,none⟩) 2 2) ([byteI dy,92]:List Int):=d_h (l:=[byteI dy,92]) (hy.blk:Blk bi aR.z [vI (byteI dy),vI 92]) (ac0 (k_Z _)<|ac0 (ii z) an0) z;have hA:=lt_ hv a8.s;obtain ⟨_,jY,jZ,k0,hW⟩:=r_ hV;refine dE z z (fc call34 z<|c_D (B:=zn B aR.z bi.z) k0 ((ho.e a8).e au) (a_P (zt' J<|lt_ hA au.s) lr) (atp ((b_7 (a_ hBg) (a_<|Blk.lt hB1) hA):∀k∈[g1],¬(zn B aR.z bi.z) k)) (repS.mono (W.g<|((((dr.c sm<|c_<|a_ hBg).c hd<|c_ ba).c sn<|c_<|a_ hBg).e a8).e au) a_r) hl hn<|or_ hz<|zin (B:=B) (a_ lr)<|b_.lt hz) (.inr λ_ _ h=>h.1.mono λk _ hk=>(io sr) k hk) ?_;rintro _ ka ⟨cg,rfl,_,kb,kc,kd⟩;refine dR z z (b_G d_3 d_5 z) ?_;obtain ⟨ke,hB,hX⟩:=bdS hW;have hC:=l_ ak V.lt hq;have dz:=l_ ak (Blk.lt hB1) bb;have hD:=((((ce.c hd hC).c sn dz).e a8).e au).c cg dz;refine dRX z z (e_o (α:=UInt8) s_ z_5 z z hD hB) ?_;rintro _ ⟨_,kf,rfl⟩;refine dE0 z (e_p (α:=UInt8) z_5 z kf z z z hB hD hj a_t an_ z_) (.inl z) ?_;rintro _ kg ⟨hE,dA,kh,ki,kj⟩;refine pD ?_;exact λ_ q=>⟨jY,jZ,ke,som hX,hE,q.k<|s2 z z,(cM (cM (e_ (e_ (cr ([g1]++Sr) ws) a8:Chg (· ∈ ([g1]++Sr)) ws aR) au:Chg (· ∈ ([g1]++Sr)) ws bi) cg (io<|h_ sr):Chg (· ∈ ([g1]++Sr)) ws ka) dA (io<|f_ sr):Chg (· ∈ ([g1]++Sr)) ws kg),kb,kc,kh,ki,(or2 kj (io sr) an_ (o_<|lt_ (lt_ a8.s au.s) cg.s):∀k∈hE,k∈Sr∨ws.z<=k),kd.c dA<|djs dz,((hp.e au).c cg<|atp hx).c dA<|djs hC⟩
      exact a_c<|λ_ q=>⟨bc,be,hg,som<|ifF eS d5,Sr,q.k<|s2 z z,cr ([g1]++Sr) ws,hl,hn,(ce.c hd<|l_ ak V.lt<|lt_ (lt_ (lt_ h3.s I.s) sg.s) sk.s).c sn<|l_ ak (Blk.lt hB1) bb,hj,io sr,ho,dw.c sn<|atp hx⟩
     rintro kk kl ⟨bf,bg,cf,rfl,bh,_,km,kn,ko,kp,kq,kr,ks,kt⟩;revert kk;have dB:=lt_ sg.s sk.s;exact λ_ q=>⟨bf,bg,0,cf,([]:List Val),som<|a_u hU,cb,cc,cd,bh,none,0,0,[],q.k<|s2 z z,(cM (cM (cM (cM (cM (e_ (cr ([g1]++[G.z]) H) sg:Chg (· ∈ ([g1]++[G.z])) H jz) sk (io<|h_ sr):Chg (· ∈ ([g1]++[G.z])) H jB) sm (io<|h_ sr):Chg (· ∈ ([g1]++[G.z])) H jH) hd (io<|f_ sr):Chg (· ∈ ([g1]++[G.z])) H aQ) sn (io<|h_ sr):Chg (· ∈ ([g1]++[G.z])) H ws) km (aa_ (io<|h_ sr) (or0 ak (o_ dB):∀k∈Sr,k∈([g1]++[G.z])∨H.z<=k)):Chg (· ∈ ([g1]++[G.z])) H kl),kn,ko,ii z,kp,kq,a_0 kr (p_ ak dB)<|lt_ (lt_ (lt_ dB sm.s) hd.s) sn.s,onL,z_,an_,an_,ks,kt⟩
    refine Ws<|Rq z z z<|Rw z ?_
    obtain ⟨ku,eT,d6⟩:=bdS<|ifF eP d4;refine Wt (λa w=>∃(bj:Int)(bk:Int)(bm:Int)(ch:List Val),Sum.inl (bj,bk,bm,ch)=ku/\∃ci cj ck bn,Sat 178 [(8,pt wb.z),(10,pt G.z)] a/\Chg (· ∈ ([g1]++[G.z])) H w/\inI bj/\inI bk/\inI bm/\b_ w bn (sl ci cj ck) ch/\bn.Nodup/\(∀k∈bn,H.z<=k)/\Blk w g1 [sl A0 N0 C0,vI bj,vI bk]/\Blk w G.z [vI bm,sN,sl ci cj ck]) ?_ ?_
    .refine Wc z (λd7=>?_)<|λd7=>?_
     .refine Wm z<|Rm z ?_
      have dC:=lt_ O.s L.s;have dD:=lt_ (lt_ dC h5.s) h4.s;have hF:=lt_ (lt_ (lt_ dD h6.s) h3.s) I.s;obtain ⟨_,kw,hY⟩:=bdS<|ifT eT d7;refine E z (fc call38 z<|j_w kw (zt' J hF) eL<|ii z) ?_;rintro _ kx ⟨so,rfl,_⟩;refine R z (add_ z z) ?_;have hG:∀k∈[wc.z],¬B k:=or0 (a_ lr)<|m_<|zt' J dC;have cl:∀k∈[G.z],¬B k:=or0 (a_ lr)<|m_<|zt' J dD;have hH:=(((((a7.e h5).c h4<|c_ hG).e h6).c h3<|c_ cl).e I).e so;have cm:=mm1 (Blk.lt hB1) dC;have bo:=mm1 (Blk.lt hB1) dD;have hI:=lt_ hF so.s;obtain ⟨_,_,_,ky,hZ⟩:=r_ hY;refine E z (fc call14 z<|a_B (B:=B) ky ((((((((hB1.e O).e L).e h5).c h4<|djs cm).e h6).c h3<|djs bo).e I).e so) (zt' J hI) hBg (W.g hH) a4 a5<|iA _ _) ?_;rintro _ we ⟨su,rfl,kz,kA,kB,kC⟩;refine Rw z ?_
      obtain ⟨_,i0,eU⟩:=bdS hZ;refine c_0 (σ:=Int×Int×Int×(List Val)) (ρ:=Val×Int×Int) (λs a w=>un4 (λav al am aS=>∃a9 aa ab Sl,Sat 178 [(0,pt g1),(3,vI x4),(5,pt w0.z),(8,pt wb.z),(9,pt wc.z),(10,pt G.z),(11,vI av)] a/\Chg (· ∈ ([g1]++[G.z])) we w/\inI av/\inI al/\inI am/\b_ w Sl (sl a9 aa ab) aS/\Sl.Nodup/\(∀k∈Sl,we.z<=k)/\Blk w g1 [sl A0 N0 C0,vI al,vI am]/\Blk w G.z [vI 0,sN,sl a9 aa ab]) s) (λs a w=>un4 (λav al am aS=>∃a9 aa ab Sl,Sat 178 [(8,pt wb.z),(10,pt G.z)] a/\Chg (· ∈ ([g1]++[G.z])) we w/\inI av/\inI al/\inI am/\b_ w Sl (sl a9 aa ab) aS/\Sl.Nodup/\(∀k∈Sl,we.z<=k)/\Blk w g1 [sl A0 N0 C0,vI al,vI am]/\Blk w G.z [vI 0,sN,sl a9 aa ab]) s) (rQ prog fn<|Q10 w0 g1 B A0 N0 C0 x1) i0 ?_ ?_ ?_ ?_
      .exact λ_ q=>⟨none,0,0,[],q.k<|s7 z z z z z z z,cr ([g1]++[G.z]) we,kz,kA,kB,onL,z_,an_,kC,((hw.e I).e so).c su<|atp bo⟩
      .rintro ⟨av,al,am,aS⟩ _ dF _ ⟨a9,aa,ab,Sl,i1,sv,eV,cn,co,aT,cp,aw,cq,ct⟩ i2;have eC:=c_m i2;refine Wu ?_ i1;refine Wq<|Wm z<|R z (a_b z z)<|Wx z (λd8=>?_) (λd8=>?_)
       .refine Wk<|Wq<|Wb (Wd (X:=λk=>k∈[g1]∨dF.z<=k) 20480 (pl_ 15 [10,11,12,14]) mo (by kernel_rfl) λkD sh _=>dR z z (fd b_L z) ?_)
        have eW:=ct.e sh;have eX:=lt_ (lt_ (lt_ h3.s I.s) so.s) su.s;have eY:=lt_ eX sv.s;refine dR z z (l1 d_i z (a_3 (atp bo)<|Nat.lt_of_lt_of_le V.lt eY)<|eW.at z)<|dM z z z ?_
        have eZ:=lt_ (lt_ L.s h5.s) h4.s;have f0:=mm1 hf.lt eZ;have dG:=mmr<|Blk.lt hB1
        refine dR z z (lN (vs:=[sl A6 N6 C6]) B_ w_ z z (a_3 (atp dG)<|Nat.lt_of_lt_of_le hf.lt<|lt_ (lt_ (lt_ (lt_ (lt_ (lt_ eZ h6.s) h3.s) I.s) so.s) su.s) sv.s)<|(((((((((aB.e h5).c h4<|djs<|mm1 hf.lt L.s).e h6).c h3<|djs f0).e I).e so).c su<|atp dG).c sv<|atp<|nmA dG<|ds f0).e sh).row 0 1 z)<|dR z z (fd M_ z)<|dR z z (l1 C_ z (a_3 (atp cm)<|Nat.lt_of_lt_of_le b1.lt<|lt_ (lt_ (lt_ (lt_ (lt_ (lt_ h4.s h6.s) h3.s) I.s) so.s) su.s) sv.s)<|(((((ht.e I).e so).c su<|atp cm).c sv<|atp<|nmA cm<|ds aq).e sh).at z) ?_
        obtain ⟨_,kE,i3⟩:=bdS<|ifT eC d8;refine dRX z z (at_ (α:=Int) A_ z_3 z z z (aj.g<|((((((((h5.ag B).c h4<|c_ hG).e h6).c h3<|c_ cl).e I).e so).c su<|c_<|a_ hBg).c sv<|nmA (c_<|a_ hBg)<|c_ cl).e sh) kE) ?_;rintro _ ⟨_,_,_,rfl,kF,kG,f1⟩;obtain ⟨rfl,kH⟩:=W_ kG;have f2:=lt_ hI su.s;have f3:=lt_ f2 sv.s;refine dR z z (l1 g_3 z (a_3 ((c_<|a_ hBg) _ f1)<|zap (zt' J f3) f1)<|kF.at0 z)<|dM z z z<|dR z z (f_p z z (by decide)) ?_
        have f4:=((hH.c su<|c_<|a_ hBg).c sv<|nmA (c_<|a_ hBg)<|c_ cl).e sh;obtain ⟨f5,kI,kJ,kK,i4⟩:=r_ i3;refine dE z z (fc call17 z<|aZ.run (B:=B) kK (cq.e sh) (zt' J<|lt_ f3 sh.s) hBg (W.g f4) cn co (aA.g f4) kH<|e_X _ _) (.inr λ_ _ h=>h.1.mono λk _ hk=>(io sr) k hk) ?_;rintro _ f6 ⟨bp,kL,kM,kN,kO,kP,kQ,kR,kS,rfl,kT,kU,kV,kW,kX,kY,dH,aU⟩;refine dE z z (fS [(.tmp 95)] c_A z z z (S_ z) (lb z)<|lb z) (.inr λ_ _ h=>x_<|h.2.below) ?_;rintro _ f7 ⟨rfl,f8⟩;have an:=f8.below;have f9:=l_ aw (Blk.lt hB1) f2;obtain ⟨kZ,l2,i5⟩:=bdS i4;refine dE z z (a_i (α:=Val) c_A l2 z z (((aT.e sh).c bp f9).e an) cp (f8.blk:Blk f7 f6.z [vI f5.number,sl kL kM kN,sl kP kQ kR]) (e_S (x:=f5) (S1:=kO) (S2:=kS) kT (kU.e an)<|kV.e an) (aa_ (b_F (al_ aU) (b_.lt aT) sh.s)<|b_F (ar_ aU) (b_.lt aT) sh.s)<|na_ (nl_ dH) (nr_ dH)<|nj dH) (.inl z) ?_;rintro _ l3 ⟨dI,fe,ff,fg,rfl,dJ,l4,l5,fh⟩;refine dR z z (fd b_L z) ?_;have fi:=l_ aw V.lt eX;refine dE0 z (fs0 (cur':=[vI 0,sN,sl fe ff fg]) e_r z z (((eW.c bp<|atp bo).e an).c dJ<|djs fi) z z z z) (.inl z) ?_;rintro _ l6 ⟨l7,l8⟩;have dK:=l8.one;refine pD<|Wo<|Wg<|Rm z<|R z (sb_ z z)<|Ra z<|Wl ?_
        have dL:=lt_ eY sh.s;have dN:=lt_ sv.s sh.s;exact λ_ q=>⟨(J_ av 1,kI,kJ,kZ),(som i5).symm,⟨fe,ff,fg,dI,q.k<|s7 z z z z z z z,(cM (cM (e_ (cM (e_ (cM (cr ([g1]++[G.z]) we) sv (aa_ (io<|h_ sr)<|io<|f_ sr):Chg (· ∈ ([g1]++[G.z])) we dF) sh:Chg (· ∈ ([g1]++[G.z])) we kD) bp (io<|h_ sr):Chg (· ∈ ([g1]++[G.z])) we f6) an:Chg (· ∈ ([g1]++[G.z])) we f7) dJ (or0 aw (o_ lr):∀k∈Sl,k∈([g1]++[G.z])∨we.z<=k):Chg (· ∈ ([g1]++[G.z])) we l3) dK (io<|f_ sr):Chg (· ∈ ([g1]++[G.z])) we l6),iS _ _,kW,kX,l4.c dK (or2 fh fi (aa_ (l_ (al_ aU) V.lt dL)<|l_ (ar_ aU) V.lt dL) (k_ (a_ V.lt)<|lt_ (lt_ dL bp.s) an.s):∀k∈dI,k∉[G.z]),l5,(or2 fh aw (aa_ (p_ (al_ aU) dN)<|p_ (ar_ aU) dN) (b_6<|lt_ (lt_ dN bp.s) an.s):∀k∈dI,we.z<=k),((kY.e an).c dJ<|djs f9).c dK<|djs bo,l7⟩⟩
       exact We<|λ_ q=>b_n (som<|ifF eC d8).symm ⟨a9,aa,ab,Sl,q.k<|s2 z z,(cM (cr ([g1]++[G.z]) we) sv (aa_ (io<|h_ sr)<|io<|f_ sr):Chg (· ∈ ([g1]++[G.z])) we dF),eV,cn,co,aT,cp,aw,cq,ct⟩
      .rintro ⟨av,al,am,aS⟩ l9 la rfl ⟨a9,aa,ab,Sl,_,lc,eV,cn,co,aT,cp,aw,cq,ct⟩;have i6:=elL eU;revert l9;exact λ_ q=>⟨al,am,0,aS,som<|c_m i6,a9,aa,ab,Sl,q.k<|s2 z z,(cM (cM (e_ (cr ([g1]++[G.z]) H) so:Chg (· ∈ ([g1]++[G.z])) H kx) su (io<|h_ sr):Chg (· ∈ ([g1]++[G.z])) H we) lc (aa_ (io<|h_ sr)<|io<|f_ sr):Chg (· ∈ ([g1]++[G.z])) H la),cn,co,ii z,aT,cp,p_ aw<|lt_ so.s su.s,cq,ct⟩
      rintro _ _ _ _ rfl ⟨rfl,i7⟩;have i8:=elR eU;obtain rfl:=som i8;have i9:=elR d6;obtain rfl:=som i9;have ia:=elR d3;obtain rfl:=som ia;have ib:=elR d0;obtain rfl:=som ib;have ic:=elR cY;obtain rfl:=som ic;exact ⟨i7,z⟩
     refine Ws<|Rq z z z<|Rw z ?_
     obtain ⟨ld,eD,eE⟩:=bdS<|ifF eT d7;refine Wt (λa w=>∃(bq:Int)(bt:Int)(bu:Int)(cu:List Val),Sum.inl (bq,bt,bu,cu)=ld/\∃cv cw cx bv,Sat 178 [(8,pt wb.z),(10,pt G.z)] a/\Chg (· ∈ ([g1]++[G.z])) H w/\inI bq/\inI bt/\inI bu/\b_ w bv (sl cv cw cx) cu/\bv.Nodup/\(∀k∈bv,H.z<=k)/\Blk w g1 [sl A0 N0 C0,vI bq,vI bt]/\Blk w G.z [vI bu,sN,sl cv cw cx]) ?_ ?_
     .refine Wc z (λd9=>?_)<|λd9=>?_
      .refine Ws<|Rw z ?_
       obtain ⟨_,id,eF⟩:=bdS<|ifT eD d9;refine Wf (σ:=Int×Int×(List Val)) (ρ:=Val×Int×Int) (λ(fj:Nat) s a w=>un3 (λad ae ax=>∃az Y a0 Si,Sat 178 [(0,pt g1),(3,vI x4),(5,pt w0.z),(8,pt wb.z),(9,pt wc.z),(10,pt G.z),(12,vI ((fj:Nat):Int))] a/\Chg (· ∈ ([g1]++[G.z])) H w/\inI ad/\inI ae/\b_ w Si (sl az Y a0) ax/\Si.Nodup/\(∀k∈Si,H.z<=k)/\Blk w g1 [sl A0 N0 C0,vI ad,vI ae]/\Blk w G.z [vI 0,sN,sl az Y a0]) s) (λs a w=>un3 (λad ae ax=>∃az Y a0 Si,Sat 178 [(8,pt wb.z),(10,pt G.z)] a/\Chg (· ∈ ([g1]++[G.z])) H w/\inI ad/\inI ae/\b_ w Si (sl az Y a0) ax/\Si.Nodup/\(∀k∈Si,H.z<=k)/\Blk w g1 [sl A0 N0 C0,vI ad,vI ae]/\Blk w G.z [vI 0,sN,sl az Y a0]) s) (rQ prog fn<|Q10 w0 g1 B A0 N0 C0 x1) id ?_ ?_ ?_ ?_ ?_
       .have fk:=lt_ O.s L.s;exact λ_ q=>⟨none,0,0,[],q.k<|s7 z z z z z z z,cr ([g1]++[G.z]) H,a4,a5,onL,z_,an_,((((((hB1.e O).e L).e h5).c h4<|djs<|mm1 (Blk.lt hB1) fk).e h6).c h3<|djs<|mm1 (Blk.lt hB1)<|lt_ (lt_ fk h5.s) h4.s).e I,hw.e I⟩
       .rintro fj ⟨ad,ae,ax⟩ _ fl _ eG ⟨az,Y,a0,Si,ie,a1,bw,bx,ay,bz,ao,bA,bB⟩ ig;refine Wu ?_ ie;refine Wq<|Wm z<|Rf z M_ z ?_
        have dO:=lt_ O.s L.s;have fm:=mm1 (Blk.lt hB1) dO;have fo:=(ht.e I).c a1<|atp<|nmA fm<|ds aq
        refine R z (l0 C_ z<|fo.at z) ?_;have fp:∀k∈[wc.z],¬B k:=or0 (a_ lr)<|m_<|zt' J dO;have dP:=lt_ (lt_ dO h5.s) h4.s;have cy:∀k∈[G.z],¬B k:=or0 (a_ lr)<|m_<|zt' J dP;have fq:=(((((h5.ag B).c h4<|c_ fp).e h6).c h3<|c_ cy).e I).c a1<|nmA (c_<|a_ hBg)<|c_ cy
        refine R z (lnR A_ z<|aj.g fq)<|Rl z z z<|Wx z (λ_=>?_) (λhc=>(a_n eG hc).elim)
        refine Wk<|Wq<|Wb (Wd (X:=λk=>k∈[g1]∨fl.z<=k) 40960 (pl_ 16 [11,12,13,15]) mo (by kernel_rfl) λle sj _=>dR z z (fd b_L z) ?_)
        have fr:=bB.e sj;have dS:=mm1 (Blk.lt hB1) dP;have fs:=lt_ h3.s I.s;have ft:=lt_ fs a1.s;refine dR z z (l1 d_i z (a_3 (atp dS)<|Nat.lt_of_lt_of_le V.lt ft)<|fr.at z)<|dM z z z ?_
        have fu:=lt_ (lt_ L.s h5.s) h4.s;have fv:=mm1 hf.lt fu;have fw:=mmr<|Blk.lt hB1
        refine dR z z (lN (vs:=[sl A6 N6 C6]) B_ w_ z z (a_3 (atp fw)<|Nat.lt_of_lt_of_le hf.lt<|lt_ (lt_ (lt_ (lt_ fu h6.s) h3.s) I.s) a1.s)<|(((((((aB.e h5).c h4<|djs<|mm1 hf.lt L.s).e h6).c h3<|djs fv).e I).c a1<|atp<|nmA fw<|ds fv).e sj).row 0 1 z)<|dR z z (fd M_ z)<|dR z z (l1 C_ z (a_3 (atp fm)<|Nat.lt_of_lt_of_le b1.lt<|lt_ (lt_ (lt_ (lt_ h4.s h6.s) h3.s) I.s) a1.s)<|(fo.e sj).at z)<|dM z z z ?_
        obtain ⟨_,lf,ih⟩:=bdS<|a_u ig;refine dRX z z (at_ (α:=Int) A_ z_3 z z z (aj.g<|fq.e sj) lf) ?_;rintro _ ⟨_,_,_,rfl,lg,lh,fx⟩;obtain ⟨rfl,li⟩:=W_ lh;have fy:=lt_ (lt_ (lt_ dP h6.s) h3.s) I.s;have fz:=lt_ fy a1.s;refine dR z z (l1 g_3 z (a_3 ((c_<|a_ hBg) _ fx)<|zap (zt' J fz) fx)<|lg.at0 z)<|dM z z z<|dR z z (f_p z z (by decide)) ?_
        have fA:=((((((a7.e h5).c h4<|c_ fp).e h6).c h3<|c_ cy).e I).c a1<|nmA (c_<|a_ hBg)<|c_ cy).e sj;obtain ⟨fB,lj,lk,ll,ij⟩:=r_ ih;refine dE z z (fc call17 z<|aZ.run (B:=B) ll (bA.e sj) (zt' J<|lt_ fz sj.s) hBg (W.g fA) bw bx (aA.g fA) li<|e_X _ _) (.inr λ_ _ h=>h.1.mono λk _ hk=>(io sr) k hk) ?_;rintro _ fC ⟨bC,lm,ln,lo,lp,lq,ls,lu,lv,rfl,lw,lx,ly,lz,lA,lB,dT,aV⟩;refine dE z z (fS [(.tmp 119)] c_A z z z (S_ z) (lb z)<|lb z) (.inr λ_ _ h=>x_<|h.2.below) ?_;rintro _ fD ⟨rfl,fE⟩;have ap:=fE.below;have fF:=l_ ao (Blk.lt hB1) fy;obtain ⟨lC,lD,ik⟩:=bdS ij;refine dE z z (a_i (α:=Val) c_A lD z z (((ay.e sj).c bC fF).e ap) bz (fE.blk:Blk fD fC.z [vI fB.number,sl lm ln lo,sl lq ls lu]) (e_S (x:=fB) (S1:=lp) (S2:=lv) lw (lx.e ap)<|ly.e ap) (aa_ (b_F (al_ aV) (b_.lt ay) sj.s)<|b_F (ar_ aV) (b_.lt ay) sj.s)<|na_ (nl_ dT) (nr_ dT)<|nj dT) (.inl z) ?_;rintro _ lE ⟨dU,fG,fH,fI,rfl,dV,lF,lG,fJ⟩;refine dR z z (fd b_L z) ?_;have fK:=l_ ao V.lt fs;refine dE0 z (fs0 (cur':=[vI 0,sN,sl fG fH fI]) e_r z z (((fr.c bC<|atp dS).e ap).c dV<|djs fK) z z z z) (.inl z) ?_;rintro _ lH ⟨lI,lJ⟩;have dW:=lJ.one;refine pD<|Wo<|Wg<|Rm z<|R z (inc_ eG (lt_ (repS.len aj) X_) z z)<|Ra z<|Wl ?_
        have dX:=lt_ ft sj.s;have dY:=lt_ a1.s sj.s;exact λ_ q=>⟨(lj,lk,lC),(som ik).symm,⟨fG,fH,fI,dU,q.k<|s7 z z z z z z z,(cM (cM (e_ (cM (e_ (cM (cr ([g1]++[G.z]) H) a1 (aa_ (io<|h_ sr)<|io<|f_ sr):Chg (· ∈ ([g1]++[G.z])) H fl) sj:Chg (· ∈ ([g1]++[G.z])) H le) bC (io<|h_ sr):Chg (· ∈ ([g1]++[G.z])) H fC) ap:Chg (· ∈ ([g1]++[G.z])) H fD) dV (or0 ao (o_ lr):∀k∈Si,k∈([g1]++[G.z])∨H.z<=k):Chg (· ∈ ([g1]++[G.z])) H lE) dW (io<|f_ sr):Chg (· ∈ ([g1]++[G.z])) H lH),lz,lA,lF.c dW (or2 fJ fK (aa_ (l_ (al_ aV) V.lt dX)<|l_ (ar_ aV) V.lt dX) (k_ (a_ V.lt)<|lt_ (lt_ dX bC.s) ap.s):∀k∈dU,k∉[G.z]),lG,(or2 fJ ao (aa_ (p_ (al_ aV) dY)<|p_ (ar_ aV) dY) (b_6<|lt_ (lt_ dY bC.s) ap.s):∀k∈dU,H.z<=k),((lB.e ap).c dV<|djs fF).c dW<|djs dS,lI⟩⟩
       .rintro ⟨ad,ae,ax⟩ _ lK ⟨az,Y,a0,Si,il,dZ,bw,bx,ay,bz,ao,bA,bB⟩;refine Wu ?_ il;refine Wq<|Wm z<|Rf z M_ z ?_
        have e0:=lt_ O.s L.s;refine R z (l0 C_ z<|((ht.e I).c dZ<|atp<|nmA (mm1 (Blk.lt hB1) e0)<|ds aq).at z) ?_;have fL:∀k∈[G.z],¬B k:=or0 (a_ lr)<|m_<|zt' J<|lt_ (lt_ e0 h5.s) h4.s;refine R z (lnR A_ z<|aj.g<|(((((h5.ag B).c h4<|c_ (or0 (a_ lr) (m_<|zt' J e0):∀k∈[wc.z],¬B k)).e h6).c h3<|c_ fL).e I).c dZ<|nmA (c_<|a_ hBg)<|c_ fL)<|Rl z z z<|Wx z (λhc=>(a_o hc).elim) (λ_=>?_)
        exact We<|λ_ q=>⟨rfl,⟨az,Y,a0,Si,q.k<|s2 z z,(cM (cr ([g1]++[G.z]) H) dZ (aa_ (io<|h_ sr)<|io<|f_ sr):Chg (· ∈ ([g1]++[G.z])) H lK),bw,bx,ay,bz,ao,bA,bB⟩⟩
       .rintro ⟨ad,ae,ax⟩ lL lM rfl ⟨az,Y,a0,Si,_,lO,bw,bx,ay,bz,ao,bA,bB⟩;have im:=elL eF;revert lL;exact λ_ q=>⟨ad,ae,0,ax,som<|a_u im,az,Y,a0,Si,q.k<|s2 z z,(cM (cr ([g1]++[G.z]) H) lO (aa_ (io<|h_ sr)<|io<|f_ sr):Chg (· ∈ ([g1]++[G.z])) H lM),bw,bx,ii z,ay,bz,ao,bA,bB⟩
       rintro _ _ _ _ rfl ⟨rfl,ip⟩;have iq:=elR eF;obtain rfl:=som iq;have ir:=elR eE;obtain rfl:=som ir;have it:=elR d6;obtain rfl:=som it;have iu:=elR d3;obtain rfl:=som iu;have iv:=elR d0;obtain rfl:=som iv;have iw:=elR cY;obtain rfl:=som iw;exact ⟨ip,z⟩
      refine Ws<|Rq z z z<|Rw z ?_
      obtain ⟨lP,eH,ix⟩:=bdS<|ifF eD d9;refine Wt (λa w=>∃(bD:Int)(bE:Int)(bF:Int)(cz:List Val),(bD,bE,bF,cz)=lP/\∃cA cB cC bG,Sat 178 [(8,pt wb.z),(10,pt G.z)] a/\Chg (· ∈ ([g1]++[G.z])) H w/\inI bD/\inI bE/\inI bF/\b_ w bG (sl cA cB cC) cz/\bG.Nodup/\(∀k∈bG,H.z<=k)/\Blk w g1 [sl A0 N0 C0,vI bD,vI bE]/\Blk w G.z [vI bF,sN,sl cA cB cC]) ?_ ?_
      .refine Wc z (λda=>?_)<|λda=>?_
       .refine Wm z<|Rf z a_O z ?_
        have fM:=ht.e I;refine R z (l0 C_ z<|fM.at z) ?_;have e1:=lt_ O.s L.s;have fN:∀k∈[wc.z],¬B k:=or0 (a_ lr)<|m_<|zt' J e1;have e2:=lt_ (lt_ e1 h5.s) h4.s;have cD:∀k∈[G.z],¬B k:=or0 (a_ lr)<|m_<|zt' J e2;have fO:=((((h5.ag B).c h4<|c_ fN).e h6).c h3<|c_ cD).e I;have fP:=gN.g fO;refine R z (lnR A_ z fP) ?_;have fQ:=((((a7.e h5).c h4<|c_ fN).e h6).c h3<|c_ cD).e I;have fR:=mm1 (Blk.lt hB1) e1;have bH:=mm1 (Blk.lt hB1) e2;have fT:=lt_ (lt_ (lt_ e2 h6.s) h3.s) I.s;obtain ⟨_,_,_,lQ,iy⟩:=r_<|ifT eH da;refine E z (fc call14 z<|a_B (B:=B) lQ (((((((hB1.e O).e L).e h5).c h4<|djs fR).e h6).c h3<|djs bH).e I) (zt' J fT) hBg (W.g fQ) a4 a5<|b_2<|repS.len fP) ?_;rintro _ lR ⟨af,rfl,_,lS,lT,lU⟩;refine Rw z<|Ws<|Rf z a_O z ?_
        have fU:=fM.c af<|atp fR
        refine R z (l0 C_ z<|fU.at z)<|Rm z ?_
        obtain ⟨e3,lV,iz⟩:=bdS iy;have fV:=fO.c af<|c_<|a_ hBg
        refine RX z (at_ (α:=Int) A_ z_3 z z z (gN.g fV) lV) ?_;rintro _ ⟨_,_,_,rfl,lW,lX,_⟩;obtain ⟨rfl,lY⟩:=W_ lX;refine R z (l0 g_3 z<|lW.at0 z)<|Rf z f_b z<|E0 (fs0 (cur':=[vI e3,sN,sN]) z_3 z z ((hw.e I).c af<|atp bH) z z z z) ?_
        rintro _ lZ ⟨m0,m1⟩;have ah:=m1.one;refine Wn<|Wd (X:=noX) 9216 (pl_ 14 [10,11,13]) mo (by kernel_rfl) λm2 a2 _=>dM z z z ?_;have fW:=mm1 hf.lt<|lt_ (lt_ L.s h5.s) h4.s
        refine dR z z (lN (vs:=[sl A6 N6 C6]) B_ w_ z z fid<|((((((((aB.e h5).c h4<|djs<|mm1 hf.lt L.s).e h6).c h3<|djs fW).e I).c af<|atp<|mmr<|Blk.lt hB1).c ah<|djs fW).e a2).row 0 1 z)<|dR z z (fd M_ z)<|dR z z (l0 C_ z<|((fU.c ah<|djs aq).e a2).at z)<|dM z z z<|dR z z (add_ z z) ?_
        obtain ⟨_,m3,iB⟩:=bdS iz;refine dRX z z (at_ (α:=Int) A_ z_3 z z z (aj.g<|(fV.c ah<|c_ cD).e a2) m3) ?_;rintro _ ⟨_,_,_,rfl,m4,m5,_⟩;obtain ⟨rfl,m6⟩:=W_ m5;refine dR z z (l0 g_3 z<|m4.at0 z)<|dM z z z<|dR z z (f_p z z (by decide)) ?_
        have fX:=((fQ.c af<|c_<|a_ hBg).c ah<|c_ cD).e a2;obtain ⟨e4,m7,m8,m9,iC⟩:=r_ iB;refine dE z z (fc call17 z<|aZ.run (B:=B) m9 ((lU.c ah<|djs bH).e a2) (zt' J<|lt_ (lt_ (lt_ fT af.s) ah.s) a2.s) hBg (W.g fX) lS lT (aA.g fX) m6<|e_X _ _) (.inl z) ?_;rintro _ aW ⟨cE,ma,mb,mc,e5,md,me,mf,e6,rfl,mg,fY,fZ,mh,mi,mj,e7,cF⟩;refine dE z z (fS [(.tmp 146)] c_A z z z (S_ z) (lb z)<|lb z) (.inr λ_ _ h=>x_<|h.2.below) ?_;rintro _ g0 ⟨rfl,e8⟩;have e9:=e8.below;have p5:Blk g0 aW.z [vI e4.number,sl ma mb mc,sl md me mf]:=e8.blk;refine dR z z (fd b_L z)<|dE0 z (fs0 (cur':=[vI e3,sN,sl (some ⟨aW.z,0,none⟩) 1 1]) e_r z z (((m0.e a2).c cE<|atp bH).e e9) z z z z) (.inl z) ?_
        rintro _ mk ⟨ml,mm⟩;have ea:=mm.one;refine pD ?_;have eb:=lt_ (lt_ (lt_ (lt_ h3.s I.s) af.s) ah.s) a2.s;have ec:=lt_ (lt_ af.s ah.s) a2.s;exact λ_ q=>⟨m7,m8,e3,[e4],som iC,some ⟨aW.z,0,none⟩,1,1,(aW.z::(e5++e6)),q.k<|s2 z z,(cM (e_ (cM (e_ (cM (cM (cr ([g1]++[G.z]) H) af (io<|h_ sr):Chg (· ∈ ([g1]++[G.z])) H lR) ah (io<|f_ sr):Chg (· ∈ ([g1]++[G.z])) H lZ) a2:Chg (· ∈ ([g1]++[G.z])) H m2) cE (io<|h_ sr):Chg (· ∈ ([g1]++[G.z])) H aW) e9:Chg (· ∈ ([g1]++[G.z])) H g0) ea (io<|f_ sr):Chg (· ∈ ([g1]++[G.z])) H mk),mh,mi,lY,(a_d e8<|e_S (x:=e4) (S1:=e5) (S2:=e6) mg fY fZ).c ea (or1 f_5 (aa_ (l_ (al_ cF) V.lt eb)<|l_ (ar_ cF) V.lt eb) (k_ (a_ V.lt)<|lt_ eb cE.s):∀k∈(aW.z::(e5++e6)),k∉[G.z]),j_i (na_ (nl_ e7) (nr_ e7)<|nj e7)<|aa_ (b_.lt fY)<|b_.lt fZ,a_0 f_5 (aa_ (p_ (al_ cF) ec)<|p_ (ar_ cF) ec)<|lt_ ec cE.s,(mj.e e9).c ea<|djs bH,ml⟩
       refine Ws<|Rq z z z<|Rw z ?_
       obtain ⟨mn,eI,iD⟩:=bdS<|ifF eH da;refine Wt (λa w=>∃(bI:Int)(bJ:Int)(cG:List Val),(bI,bJ,cG)=mn/\∃cH cI cJ bK,Sat 178 [(8,pt wb.z),(10,pt G.z)] a/\Chg (· ∈ ([g1]++[G.z])) H w/\inI bI/\inI bJ/\b_ w bK (sl cH cI cJ) cG/\bK.Nodup/\(∀k∈bK,H.z<=k)/\Blk w g1 [sl A0 N0 C0,vI bI,vI bJ]/\Blk w G.z [vI 0,sN,sl cH cI cJ]) ?_ ?_
       .refine Wc z (λdb=>?_)<|λdb=>?_
        .refine Wm z ?_
         have ed:=lt_ O.s L.s;have g2:∀k∈[wc.z],¬B k:=or0 (a_ lr)<|m_<|zt' J ed;have ee:=lt_ (lt_ ed h5.s) h4.s;have g3:∀k∈[G.z],¬B k:=or0 (a_ lr)<|m_<|zt' J ee;have g4:=((((a7.e h5).c h4<|c_ g2).e h6).c h3<|c_ g3).e I;have g5:=mm1 (Blk.lt hB1) ed;have bL:=mm1 (Blk.lt hB1) ee;have g6:=lt_ (lt_ (lt_ ee h6.s) h3.s) I.s;obtain ⟨_,mp,mq,mr,iE⟩:=r_<|ifT eI db;refine E z (fc call31 z<|g_n (B:=B) mr (((((((hB1.e O).e L).e h5).c h4<|djs g5).e h6).c h3<|djs bL).e I) (zt' J g6) hBg (W.g g4) a4 a5<|ii z) ?_;rintro _ ai ⟨a3,rfl,g7,g8,g9⟩;refine Wn ?_;obtain ⟨ms,eJ,iF⟩:=bdS iE;refine Wt (λa w=>∃(bM:Int)(bN:Int)(cK:List Val),(bM,bN,cK)=ms/\∃cL cN cO bO,Sat 178 [(8,pt wb.z),(10,pt G.z)] a/\Chg (· ∈ ([g1]++[G.z])) ai w/\inI bM/\inI bN/\b_ w bO (sl cL cN cO) cK/\bO.Nodup/\(∀k∈bO,ai.z<=k)/\Blk w g1 [sl A0 N0 C0,vI bM,vI bN]/\Blk w G.z [vI 0,sN,sl cL cN cO]) ?_ ?_
         .refine Wc z (λdc=>?_)<|λdc=>?_
          .refine Wd (X:=noX) 2304 (pl_ 12 [8,9,11]) mo (by kernel_rfl) λmt sp _=>dM z z z ?_
           refine dR z z (lN (vs:=[sl A6 N6 C6]) B_ w_ z z fid<|(((((((aB.e h5).c h4<|djs<|mm1 hf.lt L.s).e h6).c h3<|djs<|mm1 hf.lt<|lt_ (lt_ L.s h5.s) h4.s).e I).c a3<|atp<|mmr<|Blk.lt hB1).e sp).row 0 1 z)<|dR z z (fd M_ z)<|dR z z (l0 C_ z<|(((ht.e I).c a3<|atp g5).e sp).at z) ?_
           obtain ⟨_,mu,iG⟩:=bdS<|ifT eJ dc;refine dRX z z (at_ (α:=Int) A_ z_3 z z z (aj.g<|((((((h5.ag B).c h4<|c_ g2).e h6).c h3<|c_ g3).e I).c a3<|c_<|a_ hBg).e sp) mu) ?_;rintro _ ⟨_,_,_,rfl,mw,mx,_⟩;obtain ⟨rfl,my⟩:=W_ mx;refine dR z z (l0 g_3 z<|mw.at0 z)<|dM z z z<|dR z z (f_p z z (by decide)) ?_
           have ga:=(g4.c a3<|c_<|a_ hBg).e sp;obtain ⟨ef,mz,mA,mB,iH⟩:=r_ iG;refine dE z z (fc call17 z<|aZ.run (B:=B) mB (g9.e sp) (zt' J<|lt_ (lt_ g6 a3.s) sp.s) hBg (W.g ga) g7 g8 (aA.g ga) my<|e_X _ _) (.inl z) ?_;rintro _ aX ⟨cP,mC,mD,mE,eg,mF,mG,mH,eh,rfl,mI,gb,gc,mJ,mK,mL,ei,cQ⟩;refine dE z z (fS [(.tmp 161)] c_A z z z (S_ z) (lb z)<|lb z) (.inr λ_ _ h=>x_<|h.2.below) ?_;rintro _ ge ⟨rfl,ej⟩;have ek:=ej.below;have p6:Blk ge aX.z [vI ef.number,sl mC mD mE,sl mF mG mH]:=ej.blk;refine dR z z (fd b_L z)<|dE0 z (fs0 (cur':=[vI 0,sN,sl (some ⟨aX.z,0,none⟩) 1 1]) e_r z z (((((hw.e I).c a3<|atp bL).e sp).c cP<|atp bL).e ek) z z z z) (.inl z) ?_
           rintro _ mM ⟨mN,mO⟩;have em:=mO.one;refine pD ?_;have en:=lt_ (lt_ (lt_ h3.s I.s) a3.s) sp.s;exact λ_ q=>⟨mz,mA,[ef],som iH,some ⟨aX.z,0,none⟩,1,1,(aX.z::(eg++eh)),q.k<|s2 z z,(cM (e_ (cM (e_ (cr ([g1]++[G.z]) ai) sp:Chg (· ∈ ([g1]++[G.z])) ai mt) cP (io<|h_ sr):Chg (· ∈ ([g1]++[G.z])) ai aX) ek:Chg (· ∈ ([g1]++[G.z])) ai ge) em (io<|f_ sr):Chg (· ∈ ([g1]++[G.z])) ai mM),mJ,mK,(a_d ej<|e_S (x:=ef) (S1:=eg) (S2:=eh) mI gb gc).c em (or1 f_5 (aa_ (l_ (al_ cQ) V.lt en)<|l_ (ar_ cQ) V.lt en) (k_ (a_ V.lt)<|lt_ en cP.s):∀k∈(aX.z::(eg++eh)),k∉[G.z]),j_i (na_ (nl_ ei) (nr_ ei)<|nj ei)<|aa_ (b_.lt gb)<|b_.lt gc,a_0 f_5 (aa_ (p_ (al_ cQ) sp.s)<|p_ (ar_ cQ) sp.s)<|lt_ sp.s cP.s,(mL.e ek).c em<|djs bL,mN⟩
          exact a_c<|λ_ q=>⟨mp,mq,([]:List Val),som<|ifF eJ dc,none,0,0,[],q.k<|s2 z z,cr ([g1]++[G.z]) ai,g7,g8,onL,z_,an_,g9,(hw.e I).c a3<|atp bL⟩
         rintro mP mQ ⟨bM,bN,cK,rfl,cL,cN,cO,bO,_,mR,mS,mT,mU,mV,mW,mX,mY⟩;revert mP;exact λ_ q=>⟨bM,bN,cK,som<|a_u iF,cL,cN,cO,bO,q.k<|s2 z z,(cM (cM (cr ([g1]++[G.z]) H) a3 (io<|h_ sr):Chg (· ∈ ([g1]++[G.z])) H ai) mR (aa_ (io<|h_ sr)<|io<|f_ sr):Chg (· ∈ ([g1]++[G.z])) H mQ),mS,mT,mU,mV,p_ mW a3.s,mX,mY⟩
        refine Ws<|Rq z z z<|Rw z ?_
        obtain ⟨mZ,eK,iI⟩:=bdS<|ifF eI db;refine Wt (λa w=>∃(bQ:Int)(bR:Int)(cR:List Val),(bQ,bR,cR)=mZ/\∃cS cT cU bS,Sat 178 [(8,pt wb.z),(10,pt G.z)] a/\Chg (· ∈ ([g1]++[G.z])) H w/\inI bQ/\inI bR/\b_ w bS (sl cS cT cU) cR/\bS.Nodup/\(∀k∈bS,H.z<=k)/\Blk w g1 [sl A0 N0 C0,vI bQ,vI bR]/\Blk w G.z [vI 0,sN,sl cS cT cU]) ?_ ?_
        .refine Wc z (λdd=>?_)<|λdd=>?_
         .refine Wd (X:=noX) 2304 (pl_ 12 [8,9,11]) mo (by kernel_rfl) λn0 sq _=>dM z z z ?_
          refine dR z z (lN (vs:=[sl A6 N6 C6]) B_ w_ z z fid<|((((((aB.e h5).c h4<|djs<|mm1 hf.lt L.s).e h6).c h3<|djs<|mm1 hf.lt<|lt_ (lt_ L.s h5.s) h4.s).e I).e sq).row 0 1 z)<|dR z z (fd M_ z)<|dR z z (l0 C_ z<|((ht.e I).e sq).at z) ?_
          obtain ⟨_,n1,iJ⟩:=bdS<|ifT eK dd;have eo:=lt_ O.s L.s;have gf:∀k∈[wc.z],¬B k:=or0 (a_ lr)<|m_<|zt' J eo;have ep:=lt_ (lt_ eo h5.s) h4.s;have gg:∀k∈[G.z],¬B k:=or0 (a_ lr)<|m_<|zt' J ep;refine dRX z z (at_ (α:=Int) A_ z_3 z z z (aj.g<|(((((h5.ag B).c h4<|c_ gf).e h6).c h3<|c_ gg).e I).e sq) n1) ?_;rintro _ ⟨_,_,_,rfl,n2,n3,_⟩;obtain ⟨rfl,n4⟩:=W_ n3;refine dR z z (l0 g_3 z<|n2.at0 z)<|dM z z z<|dR z z (f_p z z (by decide)) ?_
          have gh:=(((((a7.e h5).c h4<|c_ gf).e h6).c h3<|c_ gg).e I).e sq;have er:=mm1 (Blk.lt hB1) ep;obtain ⟨es,n5,n6,n7,iK⟩:=r_ iJ;refine dE z z (fc call17 z<|aZ.run (B:=B) n7 ((((((((hB1.e O).e L).e h5).c h4<|djs<|mm1 (Blk.lt hB1) eo).e h6).c h3<|djs er).e I).e sq) (zt' J<|lt_ (lt_ (lt_ (lt_ ep h6.s) h3.s) I.s) sq.s) hBg (W.g gh) a4 a5 (aA.g gh) n4<|e_X _ _) (.inl z) ?_;rintro _ aY ⟨cV,n8,n9,na,eu,nb,nc,nd,ew,rfl,ne,gi,gj,nf,ng,nh,ex,cW⟩;refine dE z z (fS [(.tmp 174)] c_A z z z (S_ z) (lb z)<|lb z) (.inr λ_ _ h=>x_<|h.2.below) ?_;rintro _ gk ⟨rfl,ey⟩;have ez:=ey.below;have p7:Blk gk aY.z [vI es.number,sl n8 n9 na,sl nb nc nd]:=ey.blk;refine dR z z (fd b_L z)<|dE0 z (fs0 (cur':=[vI 0,sN,sl (some ⟨aY.z,0,none⟩) 1 1]) e_r z z ((((hw.e I).e sq).c cV<|atp er).e ez) z z z z) (.inl z) ?_
          rintro _ ni ⟨nk,nl⟩;have eA:=nl.one;refine pD ?_;have eB:=lt_ (lt_ h3.s I.s) sq.s;exact λ_ q=>⟨n5,n6,[es],som iK,some ⟨aY.z,0,none⟩,1,1,(aY.z::(eu++ew)),q.k<|s2 z z,(cM (e_ (cM (e_ (cr ([g1]++[G.z]) H) sq:Chg (· ∈ ([g1]++[G.z])) H n0) cV (io<|h_ sr):Chg (· ∈ ([g1]++[G.z])) H aY) ez:Chg (· ∈ ([g1]++[G.z])) H gk) eA (io<|f_ sr):Chg (· ∈ ([g1]++[G.z])) H ni),nf,ng,(a_d ey<|e_S (x:=es) (S1:=eu) (S2:=ew) ne gi gj).c eA (or1 f_5 (aa_ (l_ (al_ cW) V.lt eB)<|l_ (ar_ cW) V.lt eB) (k_ (a_ V.lt)<|lt_ eB cV.s):∀k∈(aY.z::(eu++ew)),k∉[G.z]),j_i (na_ (nl_ ex) (nr_ ex)<|nj ex)<|aa_ (b_.lt gi)<|b_.lt gj,a_0 f_5 (aa_ (p_ (al_ cW) sq.s)<|p_ (ar_ cW) sq.s)<|lt_ sq.s cV.s,(nh.e ez).c eA<|djs er,nk⟩
         refine a_c ?_;have gl:=lt_ O.s L.s;exact λ_ q=>⟨x1.i,x1.h,([]:List Val),som<|ifF eK dd,none,0,0,[],q.k<|s2 z z,cr ([g1]++[G.z]) H,a4,a5,onL,z_,an_,((((((hB1.e O).e L).e h5).c h4<|djs<|mm1 (Blk.lt hB1) gl).e h6).c h3<|djs<|mm1 (Blk.lt hB1)<|lt_ (lt_ gl h5.s) h4.s).e I,hw.e I⟩
        rintro nm np ⟨bQ,bR,cR,rfl,cS,cT,cU,bS,_,nq,nr,ns,nt,nu,nv,nw,nx⟩;revert nm;exact λ_ q=>⟨bQ,bR,cR,som<|a_u iI,cS,cT,cU,bS,q.k<|s2 z z,(cM (cr ([g1]++[G.z]) H) nq (aa_ (io<|h_ sr)<|io<|f_ sr):Chg (· ∈ ([g1]++[G.z])) H np),nr,ns,nt,nu,nv,nw,nx⟩
       rintro ny nA ⟨bI,bJ,cG,rfl,cH,cI,cJ,bK,_,nB,nC,nD,nE,nF,nG,nH,nI⟩;revert ny;exact λ_ q=>⟨bI,bJ,0,cG,som<|a_u iD,cH,cI,cJ,bK,q.k<|s2 z z,(cM (cr ([g1]++[G.z]) H) nB (aa_ (io<|h_ sr)<|io<|f_ sr):Chg (· ∈ ([g1]++[G.z])) H nA),nC,nD,ii z,nE,nF,nG,nH,nI⟩
      rintro nJ nK ⟨bD,bE,bF,cz,rfl,cA,cB,cC,bG,_,nL,nM,nN,nO,nP,nQ,nR,nS,nT⟩;revert nJ;exact λ_ q=>⟨bD,bE,bF,cz,som<|c_m ix,cA,cB,cC,bG,q.k<|s2 z z,(cM (cr ([g1]++[G.z]) H) nL (aa_ (io<|h_ sr)<|io<|f_ sr):Chg (· ∈ ([g1]++[G.z])) H nK),nM,nN,nO,nP,nQ,nR,nS,nT⟩
     rintro nU nV ⟨bq,bt,bu,cu,rfl,cv,cw,cx,bv,_,nW,nX,nY,nZ,o0,o1,o2,o3,o4⟩;have iL:=elL eE;revert nU;exact λ_ q=>⟨bq,bt,bu,cu,som<|c_m iL,cv,cw,cx,bv,q.k<|s2 z z,(cM (cr ([g1]++[G.z]) H) nW (aa_ (io<|h_ sr)<|io<|f_ sr):Chg (· ∈ ([g1]++[G.z])) H nV),nX,nY,nZ,o0,o1,o2,o3,o4⟩
    rintro o5 o6 ⟨bj,bk,bm,ch,rfl,ci,cj,ck,bn,_,o7,o8,o9,oa,ob,oc,od,oe,og⟩;have iM:=elL d6;revert o5;exact λ_ q=>⟨bj,bk,bm,([]:Bt),ch,som<|c_m iM,none,0,0,[],ci,cj,ck,bn,q.k<|s2 z z,(cM (cr ([g1]++[G.z]) H) o7 (aa_ (io<|h_ sr)<|io<|f_ sr):Chg (· ∈ ([g1]++[G.z])) H o6),o8,o9,oa,onL,z_,an_,ob,oc,od,nmN _,oe,og⟩
   rintro oh oi ⟨b7,b8,b9,c3,c4,rfl,c5,c6,c7,aO,c8,c9,ca,aP,_,oj,ol,om,oo,oq,os,ot,ou,ov,ow,ox,oy,oz⟩;have iN:=elL d3;revert oh;exact λ_ q=>⟨b7,b8,b9,c3,c4,som<|c_z iN,c5,c6,c7,aO,c8,c9,ca,aP,q.k<|s2 z z,(cM (e_ (cr ([g1]++[G.z]) wa) I:Chg (· ∈ ([g1]++[G.z])) wa H) oj (aa_ (io<|h_ sr)<|io<|f_ sr):Chg (· ∈ ([g1]++[G.z])) wa oi),ol,om,oo,oq,os,p_ ot I.s,ou,ov,p_ ow I.s,ox,oy,oz⟩
  rintro oA oB ⟨b4,b5,b6,bV,bW,rfl,bX,bY,bZ,aM,c0,c1,c2,aN,_,oC,oD,oE,oF,oG,oH,oI,oJ,oK,oL,oM,oN,oO⟩;have iO:=elL d0;revert oA;exact λ_ q=>⟨b4,b5,b6,bV,bW,som<|c_z iO,bX,bY,bZ,aM,c0,c1,c2,aN,q.k<|s2 z z,(cM (cr ([g1]++[G.z]) wa) oC (aa_ (io<|h_ sr)<|io<|f_ sr):Chg (· ∈ ([g1]++[G.z])) wa oB),oD,oE,oF,oG,oH,oI,oJ,oK,oL,oM,oN,oO⟩
 rintro oP oQ ⟨bT,bU,aD,de,df,rfl,aE,aF,aG,aH,aI,aJ,aK,aL,_,gm,oR,oS,oT,oU,oV,gn,oW,oX,gp,oY,oZ,p0⟩;have iP:=elL cY;revert oP;refine Wo<|Ws<|R z (lN (vs:=[vI aD,sl aE aF aG,sl aI aJ aK]) I_ n_ z z fid<|p0.row 0 3 z) ?_
 have gq:=lt_ h5.s h4.s;have gr:=mm1 b0.lt gq;have gs:=mm1 (Blk.lt hB1) O.s;refine E0 (fs0 (cur':=[vI aD,sl aE aF aG,sl aI aJ aK]) n_ z z (((((b0.e h5).c h4<|djs<|mmr b0.lt).e h6).c h3<|djs gr).c gm<|atp<|nmA gs<|ds gr) z z z z) ?_;rintro _ p1 ⟨p2,p3⟩;have cX:=p3.one;refine Wn ?_;obtain rfl:=som<|c_z iP;have gt:=lt_ (lt_ gq h6.s) h3.s;have gu:=lt_ O.s L.s;have gv:=lt_ (lt_ gu h5.s) h4.s;have gw:∀k∈[G.z],k∈[g1]∨w0.z<=k:=mor gv;have gx:=lt_ (lt_ gv h6.s) h3.s;exact Wr<|i_ hr (v_ I_ n_ z p2 z) ⟨(cM (cM (cM (e_ (cM (e_ (e_ (e_ (cr [g1] w0) O:Cg [g1] w0 wb) L:Cg [g1] w0 wc) h5:Cg [g1] w0 gO) h4 (mor gu:∀k∈[wc.z],k∈[g1]∨w0.z<=k):Cg [g1] w0 G) h6:Cg [g1] w0 gQ) h3 gw:Cg [g1] w0 wa) gm (aa_ (io sr) gw):Cg [g1] w0 oQ) cX (mor O.s:∀k∈[wb.z],k∈[g1]∨w0.z<=k):Cg [g1] w0 p1),aE,aF,aG,aH,aI,aJ,aK,aL,z,oT,oU.c cX<|l_ gn b0.lt gt,oW.c cX<|l_ gp b0.lt gt,oR,oS,oZ.c cX<|djs gs,na_ oV oX<|ds oY,aa_ (p_ gn gx)<|p_ gp gx⟩
theorem A_w0b:∀n,l_l n
  | 0=>⟨λhm=>by intros;exact nomatch (show none=some _ from hm)⟩
  | n+1=>T_w0b<|A_w0b n
theorem W_w0b:j_x (e_j n).spec_l9Make:=A_w0b n
theorem i_j {x1:d_}{x2:Int}{x3:Int}{res:Int}(hm:d_7 x1 x2 x3=some res)(aQ:B<=w0.z)(aJ:x1.name.b.length<=LEN)(aK:inI x1.kind)(aL:inI x1.size)(aM:repS w0 B (sl A9 N9 C9) x1.bytes)(aN:repS w0 B (sl A8 N8 C8) x1.names)(I:repS w0 B (sl AA NA CA) x1.tags)(J:repS w0 B (sl AB NB CB) x1.kids)(aO:inI x2)(aP:inI x3):q_ prog 35 [(.agg #[Str.v x1.name,vI x1.kind,vI x1.size,vB x1.little,sl A9 N9 C9,sl A8 N8 C8,sl AA NA CA,sl AB NB CB]),vI x2,vI x3] w0 (Q9 w0 B res):=by
 unfold d_7 at hm
 refine goG func35 z z z λfn hr=>Ws<|E z (fb z) ?_
 rintro _ G ⟨rfl,hi⟩;have H:=hi.below;have h2:Blk G w0.z (vR x1 A9 N9 C9 A8 N8 C8 AA NA CA AB NB CB):=hi.blk;refine Rw z<|Wq<|Ws<|Rf z a_V z<|R z (l0 g_3 z<|h2.at z)<|Wn<|Wb<|Ws<|Rq z z z<|Rw z<|Wc z (λO=>?_) (λO=>?_)
 .refine Ws<|Rf z M_ z<|R z (l0 C_ z<|h2.at z) ?_
  obtain ⟨_,eu,hmv⟩:=bdS<|ifT hm O;refine RX z (at_ (α:=Int) A_ z_3 z z z (J.e H) eu) ?_;rintro _ ⟨_,_,_,rfl,hw,hx,_⟩;obtain ⟨rfl,hy⟩:=W_ hx;refine R z (l0 g_3 z<|hw.at0 z)<|Rw z ?_
  obtain rfl:=som hmv;exact Wr<|rtO<|i_ hr z ⟨H,z,hy⟩
 refine Ws<|Rq z z z<|Rw z ?_
 obtain ⟨uz,huj,L⟩:=bdS<|ifF hm O;refine Wt (λa w=>Sum.inl ()=uz/\Sat 57 [] a/\Below G.z G w) ?_ ?_
 .refine Wc z (λV=>?_)<|λV=>?_
  .have hmk:=ifT huj V;refine Wm z<|Rf z M_ z<|R z (l0 C_ z<|h2.at z) ?_
   have hl:=J.e H;refine R z (lnR A_ z hl)<|Rl z z z<|Wx z (λW=>?_) (λW=>?_)
   .refine Ws<|Rf z M_ z<|R z (l0 C_ z<|h2.at z)<|Rm z ?_
    obtain ⟨_,aj,a0⟩:=bdS<|ifT hmk W;refine RX z (at_ (α:=Int) A_ z_3 z z z hl aj) ?_;rintro _ ⟨_,_,_,rfl,ak,al,_⟩;obtain ⟨rfl,am⟩:=W_ al;refine R z (l0 g_3 z<|ak.at0 z)<|Rw z ?_
    obtain rfl:=som a0;have a1:=elR L;obtain rfl:=som a1;exact Wr<|rtO<|i_ hr z ⟨H,z,am⟩
   exact a_c<|λ_ q=>⟨som<|ifF hmk W,q.k sn,br G⟩
  refine Ws<|Rq z z z<|Rw z ?_
  obtain ⟨an,hum,Y⟩:=bdS<|ifF huj V;refine Wt (λa w=>Sum.inl ()=an/\Sat 57 [] a/\Below G.z G w) ?_ ?_
  .refine Wc z (λhca=>?_)<|λhca=>?_
   .refine Ws<|Rw z ?_
    obtain ⟨_,a2,hmn⟩:=bdS<|ifT hum hca;refine Wf (σ:=Unit) (ρ:=Int) (λ(ko:Nat)(_:Unit) a w=>Sat 57 [(1,vI x2),(3,pt w0.z),(7,vI ((ko:Nat):Int))] a/\Below G.z G w) (λ(_:Unit) a w=>Sat 57 [] a/\Below G.z G w) (rQ prog fn<|Q9 w0 B) a2 ?_ ?_ ?_ ?_ ?_
    .exact λ_ q=>⟨q.k<|s3 z z z,br G⟩
    .rintro ko _ _ _ _ hkb ⟨a3,s4⟩ a4;refine Wu ?_ a3;refine Wq<|Wm z<|Rf z a_O z ?_
     have hd:=h2.e s4;refine R z (l0 C_ z<|hd.at z) ?_;have hp:=(H.ag B).e s4;have hq:=I.g hp;refine R z (lnR A_ z hq)<|Rl z z z<|Wx z (λ_=>?_) (λhc=>(a_n hkb hc).elim)
     refine Wk<|Wq<|Wb<|Ws<|Rf z a_O z<|R z (l0 C_ z<|hd.at z)<|Rm z ?_
     obtain ⟨_,ao,hmr⟩:=bdS a4;refine RX z (at_ (α:=Int) A_ z_3 z z z hq ao) ?_;rintro _ ⟨_,_,_,rfl,ap,aq,_⟩;obtain ⟨rfl,_⟩:=W_ aq;refine R z (l0 g_3 z<|ap.at0 z)<|Rm z<|Rq z z z<|Wx z (λhcc=>?_) (λhcc=>?_)
     .refine Ws<|Rf z M_ z<|R z (l0 C_ z<|hd.at z)<|Rm z<|R z (inc_ hkb (lt_ (repS.len I) X_) z z) ?_
      obtain ⟨_,ar,a5⟩:=bdS<|ifT hmr hcc;refine RX z (at_ (α:=Int) A_ z_3 z z z (J.g hp) ar) ?_;rintro _ ⟨_,_,_,rfl,au,av,_⟩;obtain ⟨rfl,aw⟩:=W_ av;exact R z (l0 g_3 z<|au.at0 z)<|Rw z<|Wr<|rtO<|qL (som a5).symm<|i_ hr z ⟨bup H s4,z,aw⟩
     exact Wk<|Wg<|Rm z<|R z (inc_ hkb (lt_ (repS.len I) X_) z z)<|Ra z<|Wl (λ_ q=>⟨(),(som<|ifF hmr hcc).symm,⟨q.k<|s3 z z z,s4⟩⟩)
    .rintro _ _ _ ⟨a6,se⟩;refine Wu ?_ a6;refine Wq<|Wm z<|Rf z a_O z<|R z (l0 C_ z<|(h2.e se).at z)<|R z (lnR A_ z<|I.g<|(H.ag B).e se)<|Rl z z z<|Wx z (λhc=>(a_o hc).elim) (λ_=>?_)
     exact We<|λ_ q=>⟨rfl,⟨q.k sn,se⟩⟩
    .rintro _ ax _ rfl ⟨_,ay⟩;have a7:=elL hmn;revert ax;exact λ_ q=>⟨som a7,q.k sn,ay⟩
    rintro _ _ _ _ rfl ⟨rfl,a8⟩;have a9:=elR hmn;obtain rfl:=som a9;have aa:=elR Y;obtain rfl:=som aa;have ab:=elR L;obtain rfl:=som ab;exact ⟨a8,z⟩
   refine Wq<|Ws<|Rq z z z<|Rw z ?_
   obtain ⟨az,hus,hmt⟩:=bdS<|ifF hum hca;refine Wt (λa w=>∃(xf:Bool),xf=az/\Sat 57 [(3,pt w0.z),(50,vB xf)] a/\Below G.z G w) ?_ ?_
   .refine Wc z (λhcg=>?_)<|λhcg=>?_
    .exact a_c<|λ_ q=>⟨x1.kind==8,som<|ifT hus hcg,q.k<|s2 z z,br G⟩
    exact Wg<|Rq z z z<|Ra z<|Wl (λ_ q=>⟨x1.kind==9,som<|ifF hus hcg,q.k<|s2 z z,br G⟩)
   rintro aA _ ⟨xf,rfl,_,s5⟩;revert aA;refine Wo<|Wc z (λhch=>?_) (λhch=>?_)
   .refine Ws<|Rf z M_ z<|R z (l0 C_ z<|(h2.e s5).at z) ?_
    obtain ⟨_,aB,ad⟩:=bdS<|ifT hmt hch;refine RX z (at_ (α:=Int) A_ z_3 z z z (J.g<|(H.ag B).e s5) aB) ?_;rintro _ ⟨_,_,_,rfl,aC,aD,_⟩;obtain ⟨rfl,aE⟩:=W_ aD;refine R z (l0 g_3 z<|aC.at0 z)<|Rw z ?_
    obtain rfl:=som ad;have ae:=elR Y;obtain rfl:=som ae;have af:=elR L;obtain rfl:=som af;exact Wr<|rtO<|i_ hr z ⟨bup H s5,z,aE⟩
   exact a_c<|λ_ q=>⟨som<|ifF hmt hch,q.k sn,s5⟩
  rintro aF _ ⟨rfl,_,aG⟩;have ah:=elL Y;revert aF;exact λ_ q=>⟨som ah,q.k sn,aG⟩
 rintro aH _ ⟨rfl,_,aI⟩;have ai:=elL L;revert aH;refine Wo<|Ws<|Rw z ?_
 obtain rfl:=som ai;exact Wr<|i_ hr z ⟨bup H aI,z,ii z⟩
theorem b_j {x1:Int}{x2:Int}{x3:Int}{res:Bool}(hm:b_1 x1 x2 x3=some res)(Y:B<=w0.z)(O:inI x1)(V:inI x2)(W:inI x3):q_ prog 54 [vI x1,vI x2,vI x3] w0 (Q0 w0 B res):=by
 unfold b_1 at hm
 refine goG func54 z z z λfn hr=>Ws<|Rw z<|Wq ?_
 obtain ⟨J,H,I⟩:=bdS hm;refine Wt (λa w=>∃(x4:Bool),x4=J/\Sat 15 [(6,vB x4)] a/\Below w0.z w0 w) ?_ ?_
 .refine Wg<|RM z z<|R z (b_z z z)<|Rm z ?_
  rcases bs (decide<|x2<=x1) with G | G
  .exact Rh z G (mv z)<|Rh z G (mv z)<|Rh z G (c_F z z)<|R z (pT z G z)<|Ra z<|Wl (λ_ q=>⟨decide<|x1<=x3,som<|ifT H G,q.k<|s1 z,br w0⟩)
  iterate 3 refine Nh z G ?_
  exact R z (pF z G z)<|Ra z<|Wl (λ_ q=>⟨false,som<|ifF H G,q.k<|s1 z,br w0⟩)
 rintro L _ ⟨x4,rfl,_,s6⟩;revert L;refine Wo ?_;obtain rfl:=som I;exact Wr<|i_ hr z ⟨s6,z⟩
def Q11 (w0:World)(B:Zone)(r:Bt)(v:Value)(w':World):Prop:=Bw w0 w'/\(λI=>∃a1 G H S1,(sl a1 G H)=v/\b_ w' S1 (sl a1 G H) I/\S1.Nodup/\(∀k∈S1,w0.z<=k)) r
theorem W_w1a {x1:Int}{x2:Int}{res:Bt}(hm:f_M n x1 x2=some res)(W:B<=w0.z)(a0:inI x1)(Y:inI x2):q_ prog 53 [vI x1,vI x2] w0 (Q11 w0 B res):=by
 unfold f_M at hm
 refine goG func53 z z z λfn hr=>Ws<|Rw z<|Ws<|E z (f0 (α:=UInt8) H_) ?_
 rintro _ wm ⟨ad,ne,cf,rfl,s7,hp⟩;refine Rw z<|Wq<|Wq ?_
 obtain ⟨af,a1,hmq⟩:=bdS hm;refine Wt (λa w=>∃(xg:Bool),xg=af/\Sat 35 [(0,vI x1),(1,vI x2),(5,sl ad ne cf),(18,vB xg)] a/\Below wm.z wm w) ?_ ?_
 .refine Wg<|Rm z ?_
  obtain ⟨ah,ai,hmr⟩:=bdS a1;refine E z (fc call54 z<|b_j ai (zt' W s7.s) Y (ii z)<|ii z) ?_;rintro _ _ ⟨sh,rfl⟩;refine R z (not_ z)<|Rm z ?_
  rcases bs (!ah) with I | I
  .iterate 6 refine Nh z I ?_
   exact R z (pT z I z)<|Wl (λ_ q=>⟨true,som<|ifT hmr I,q.k<|s4 z z z z,sh⟩)
  refine Rh z I (mv z)<|Rh z I (mv z) ?_
  have ht:=lt_ s7.s sh.s;obtain ⟨_,aj,a2⟩:=bdS<|ifF hmr I;refine Eg z z I z (fc call39 z<|j_v aj (zt' W ht) Y) ?_;rintro _ _ ⟨ss,rfl,_⟩;refine Rh z I (sb_ z z) ?_;obtain ⟨ak,al,a4⟩:=bdS a2;refine Eg z z I z (fc call54 z<|b_j al (zt' W<|lt_ ht ss.s) a0 (ii z)<|iS _ _) ?_;rintro _ _ ⟨am,rfl⟩;exact Rh z I (not_ z)<|R z (pF z I z)<|Wl (λ_ q=>⟨!ak,som a4,q.k<|s4 z z z z,bup (bup sh ss) am⟩)
 rintro an G ⟨xg,rfl,_,s8⟩;revert an;refine Wo<|Wc z (λhci=>?_) (λhci=>?_)
 .refine Wm z<|Rw z ?_
  obtain rfl:=som<|ifT hmq hci;exact Wr<|i_ hr z ⟨bup s7 s8,ad,ne,cf,[w0.z],z,hp.e s8,a_p,a_ lr⟩
 refine Wk<|Wq<|Wm z<|R z (sb_ z z)<|Rw z ?_
 obtain ⟨_,a5,hmu⟩:=bdS<|ifF hmq hci;refine c_0 (σ:=Bt×Int) (ρ:=Bt) (λs a w=>un2 (λV x6=>∃J L O H,Sat 35 [(0,vI x1),(5,sl J L O),(6,vI x6)] a/\Cg [w0.z] G w/\b_ w H (sl J L O) V/\H.Nodup/\(∀k∈H,k∈[w0.z]∨G.z<=k)/\inI x6) s) (λs a w=>un2 (λV x6=>∃J L O H,Sat 35 [(5,sl J L O)] a/\Cg [w0.z] G w/\b_ w H (sl J L O) V/\H.Nodup/\(∀k∈H,k∈[w0.z]∨G.z<=k)/\inI x6) s) (rQ prog fn<|Q11 w0 B) a5 ?_ ?_ ?_ ?_
 .exact λ_ q=>⟨ad,ne,cf,[w0.z],q.k<|s3 z z z,cr [w0.z] G,hp.e s8,a_p,io sr,iS _ _⟩
 .rintro ⟨V,x6⟩ _ wj _ ⟨J,L,O,H,a6,sk,ha,hb,hc,hv⟩ a7;have hmw:=a_A a7;refine Wu ?_ a6;refine Wq<|Wm z<|R z (b_z z z)<|Wx z (λhcl=>?_) (λhcl=>?_)
  .refine Wk<|Wq<|Wb<|Wg<|RM z z<|Rm z<|R z (c_E z z) ?_
   obtain ⟨_,ao,a8⟩:=bdS<|ifT hmw hcl;refine R z (k_7 z z<|nnS ao)<|R z (b_G d_3 d_5 z)<|E z (fS [(.tmp 31)] H_ z z z (S_ z) (lb z)<|lb z) ?_
   rintro _ wx ⟨rfl,hn⟩;have ho:=hn.below;have aD:=a_d hn a_t;obtain ⟨ap,aq,a9⟩:=bdS a8;refine E z (a_i (α:=UInt8) H_ aq z z (ha.e ho) hb (hn.blk:Blk wx wj.z [(vU<|byteI<|mkB<|c_9 .i64 x1<|a_f 8 x6)]) a_t an_ z_) ?_;rintro _ ar ⟨Sy,au,av,aw,rfl,ax,ay,az,aA⟩;refine Rw z<|Wg<|Rm z<|R z (sb_ z z)<|Ra z<|Wl ?_
   have hz:∀k∈H,k∈[w0.z]∨G.z<=k:=or1 hc (io sr)<|o_ lr;exact λ_ q=>⟨(ap,J_ x6 1),(som a9).symm,⟨au,av,aw,Sy,q.k<|s3 z z z,(cM (e_ (cM (cr [w0.z] G) sk (io sr):Cg [w0.z] G wj) ho:Cg [w0.z] G wx) ax hz:Cg [w0.z] G ar),ay,az,(or2 aA hz an_ (o_<|lt_ sk.s ho.s):∀k∈Sy,k∈[w0.z]∨G.z<=k),iS _ _⟩⟩
  exact We<|λ_ q=>b_n (som<|ifF hmw hcl).symm ⟨J,L,O,H,q.k<|s1 z,(cM (cr [w0.z] G) sk (io sr):Cg [w0.z] G wj),ha,hb,(or1 hc (io sr) (o_ lr):∀k∈H,k∈[w0.z]∨G.z<=k),hv⟩
 .rintro ⟨V,x6⟩ aB _ rfl ⟨J,L,O,H,_,aC,ha,hb,hc,hv⟩;have aa:=elL hmu;revert aB;refine Wo<|Wm z<|Rw z ?_
  obtain rfl:=som<|a_A aa;exact Wr<|i_ hr z ⟨bM (bup s7 s8) aC<|a_ lr,J,L,O,H,z,ha,hb,(or1 hc (a_ lr) (b_6<|lt_ s7.s s8.s):∀k∈H,w0.z<=k)⟩
 rintro _ _ _ _ rfl ⟨rfl,ab⟩;have ae:=elR hmu;obtain rfl:=som ae;exact ⟨ab,z⟩
theorem W_w23 {x1:Int}{x2:Int}{res:Bt}(hm:f_S n x1 x2=some res)(aa:B<=w0.z)(Y:inI x1)(a0:inI x2):q_ prog 52 [vI x1,vI x2] w0 (Q11 w0 B res):=by
 unfold f_S at hm
 refine goG func52 z z z λfn hr=>Ws<|Rw z<|Wm z<|Rm z ?_
 obtain ⟨_,er,hms⟩:=bdS hm;refine E z (fc call53 z<|W_w1a (B:=B) er aa Y a0) ?_;rintro _ G ⟨sd,au,nt,cv,_,rfl,W,_,_⟩;refine Rw z<|Ws<|E z (f0 (α:=UInt8) H_) ?_
 rintro _ H ⟨aw,nx,cy,rfl,se,hz⟩;refine Rw z<|Wq<|Wm z ?_
 have hj:=W.e se;refine R z (lnR s_ z<|or_ hj<|b_.lt W)<|R z (sb_ z z)<|Rw z ?_
 obtain ⟨_,a1,hmk⟩:=bdS hms;refine c_0 (σ:=Bt×Int) (ρ:=Bt) (λs a w=>un2 (λV x6=>∃J L O I,Sat 27 [(5,sl au nt cv),(6,sl J L O),(7,vI x6)] a/\Cg [G.z] H w/\b_ w I (sl J L O) V/\I.Nodup/\(∀k∈I,k∈[G.z]∨H.z<=k)/\inI x6) s) (λs a w=>un2 (λV x6=>∃J L O I,Sat 27 [(6,sl J L O)] a/\Cg [G.z] H w/\b_ w I (sl J L O) V/\I.Nodup/\(∀k∈I,k∈[G.z]∨H.z<=k)/\inI x6) s) (rQ prog fn<|Q11 w0 B) a1 ?_ ?_ ?_ ?_
 .exact λ_ q=>⟨aw,nx,cy,[G.z],q.k<|s3 z z z,cr [G.z] H,hz,a_p,io sr,iS _ _⟩
 .rintro ⟨V,x6⟩ _ wf _ ⟨J,L,O,I,a2,s9,ha,hb,hc,hl⟩ a4;have hmm:=a_A a4;refine Wu ?_ a2;refine Wq<|Wm z<|R z (b_z z z)<|Wx z (λhcg=>?_) (λhcg=>?_)
  .refine Wk<|Wq<|Wb<|Wg<|RM z z<|Rm z ?_
   obtain ⟨ab,ad,a5⟩:=bdS<|ifT hmm hcg;refine RX z (at_ (α:=UInt8) s_ z_5 z z z (or_ (hj.c s9<|ds<|mnr<|b_.lt W)<|b_.lt W) ad) ?_;rintro _ ⟨_,_,_,rfl,ae,af,_⟩;obtain rfl:=u8 af;refine R z (l0 g_5 z<|ae.at0 z)<|E z (fS [(.tmp 23)] H_ z z z (S_ z) (lb z)<|lb z) ?_
   rintro _ wn ⟨rfl,hh⟩;have hi:=hh.below;have ax:=a_d hh a_t;obtain ⟨ah,ai,a6⟩:=bdS a5;refine E z (a_i (α:=UInt8) H_ ai z z (ha.e hi) hb (hh.blk:Blk wn wf.z [vU (byteI ab)]) a_t an_ z_) ?_;rintro _ aj ⟨So,ak,al,am,rfl,an,ao,ap,aq⟩;refine Rw z<|Wg<|Rm z<|R z (sb_ z z)<|Ra z<|Wl ?_
   have hp:∀k∈I,k∈[G.z]∨H.z<=k:=or1 hc (io sr)<|o_ lr;exact λ_ q=>⟨(ah,J_ x6 1),(som a6).symm,⟨ak,al,am,So,q.k<|s3 z z z,(cM (e_ (cM (cr [G.z] H) s9 (io sr):Cg [G.z] H wf) hi:Cg [G.z] H wn) an hp:Cg [G.z] H aj),ao,ap,(or2 aq hp an_ (o_<|lt_ s9.s hi.s):∀k∈So,k∈[G.z]∨H.z<=k),iS _ _⟩⟩
  exact We<|λ_ q=>b_n (som<|ifF hmm hcg).symm ⟨J,L,O,I,q.k<|s1 z,(cM (cr [G.z] H) s9 (io sr):Cg [G.z] H wf),ha,hb,(or1 hc (io sr) (o_ lr):∀k∈I,k∈[G.z]∨H.z<=k),hl⟩
 .rintro ⟨V,x6⟩ ar _ rfl ⟨J,L,O,I,_,av,ha,hb,hc,hl⟩;have a7:=elL hmk;revert ar;refine Wo<|Wm z<|Rw z ?_
  obtain rfl:=som<|a_A a7;have hq:=m1 sd.s;exact Wr<|i_ hr z ⟨bM (bup sd se) av hq,J,L,O,I,z,ha,hb,a_0 hc hq<|lt_ sd.s se.s⟩
 rintro _ _ _ _ rfl ⟨rfl,a8⟩;have a9:=elR hmk;obtain rfl:=som a9;exact ⟨a8,z⟩
theorem i_k {x1:d_}{x2:Int}{res:Bt}(hm:d_H n x1 x2=some res)(L:B<=w0.z)(a0:x1.name.b.length<=LEN)(a1:inI x1.kind)(I:inI x1.size)(a2:repS w0 B (sl A9 N9 C9) x1.bytes)(a3:repS w0 B (sl A8 N8 C8) x1.names)(a4:repS w0 B (sl AA NA CA) x1.tags)(a5:repS w0 B (sl AB NB CB) x1.kids)(J:inI x2):q_ prog 36 [(.agg #[Str.v x1.name,vI x1.kind,vI x1.size,vB x1.little,sl A9 N9 C9,sl A8 N8 C8,sl AA NA CA,sl AB NB CB]),vI x2] w0 (Q11 w0 B res):=by
 unfold d_H at hm
 refine goG func36 z z z λfn hr=>Ws<|E z (fb z) ?_
 rintro _ V ⟨rfl,h3⟩;have G:=h3.below;have h1:Blk V w0.z (vR x1 A9 N9 C9 A8 N8 C8 AA NA CA AB NB CB):=h3.blk;refine Rw z<|Wq<|Ws<|Rf z c_2 z<|R z (l0 g_4 z<|h1.at z)<|Wx z (λH=>?_) (λH=>?_)
 .refine Wm z<|Rf z a_W z<|R z (l0 g_3 z<|h1.at z) ?_
  obtain ⟨_,W,O⟩:=bdS<|ifT hm H;refine E z (fc call52 z<|W_w23 W (zt' L G.s) J I) ?_;rintro _ _ ⟨s7,Y,n9,ca,Sb,rfl,hc,hd,he⟩;refine Rw z ?_
  obtain rfl:=som O;exact Wr<|i_ hr z ⟨bup G s7,Y,n9,ca,Sb,z,hc,hd,p_ he G.s⟩
 refine Wk<|Wm z<|Rf z a_W z<|R z (l0 g_3 z<|h1.at z) ?_
 obtain ⟨_,ef,hmg⟩:=bdS<|ifF hm H;refine E z (fc call53 z<|W_w1a ef (zt' L G.s) J I) ?_;rintro _ _ ⟨sh,ai,nj,ck,Sl,rfl,hn,ho,hp⟩;refine Rw z ?_
 obtain rfl:=som hmg;exact Wr<|i_ hr z ⟨bup G sh,ai,nj,ck,Sl,z,hn,ho,p_ hp G.s⟩
theorem W_w1b {x1:Bt}{res:Int}(hm:f_B x1=some res)(O:B<=w0.z)(G:repS w0 B (sl A0 N0 C0) x1):q_ prog 37 [sl A0 N0 C0] w0 (Q9 w0 B res):=by
 unfold f_B at hm
 refine goG func37 z z z λfn hr=>Ws<|Rw z<|Ws<|Rw z<|Wq<|Ws<|Rw z ?_
 obtain ⟨_,J,H⟩:=bdS hm;refine Wf (σ:=Int) (ρ:=Int) (λ(k3:Nat)(x0:Int) a w=>Sat 20 [(0,sl A0 N0 C0),(3,vI x0),(4,vI ((k3:Nat):Int))] a/\Below w0.z w0 w/\inI x0) (λ(x0:Int) a w=>Sat 20 [(3,vI x0)] a/\Below w0.z w0 w/\inI x0) (rQ prog fn<|Q9 w0 B) J ?_ ?_ ?_ ?_ ?_
 .exact λ_ q=>⟨q.k<|s3 z z z,br w0,ii z⟩
 .rintro k3 x0 _ _ _ I ⟨L,s5,h1⟩ hma;refine Wu ?_ L;refine Wq<|Wm z<|Rm z ?_
  have h6:=G.e s5;refine R z (lnR s_ z h6)<|Rl z z z<|Wx z (λ_=>?_) (λhc=>(a_n I hc).elim)
  refine Wk<|Wq<|Wb<|Wg<|RM z z<|Rm z ?_
  obtain ⟨xb,ec,hmd⟩:=bdS hma;refine RX z (at_ (α:=UInt8) s_ z_5 z z z h6 ec) ?_;rintro _ ⟨_,_,_,rfl,he,hf,_⟩;obtain rfl:=u8 hf;exact R z (l0 g_5 z<|he.at0 z)<|R z (c_7 d_5 d_3 z)<|R z (add_ z z)<|R z (c_5 z z (by decide))<|Rw z<|Wg<|Rm z<|R z (inc_ I (lt_ (repS.len G) X_) z z)<|Ra z<|Wl (λ_ q=>⟨a_8 (j_ x0<|byteI xb) 256,(som hmd).symm,⟨q.k<|s3 z z z,s5,c_k<|iA _ _⟩⟩)
 .rintro x0 _ _ ⟨hSg,s7,h1⟩;refine Wu ?_ hSg;refine Wq<|Wm z<|Rm z<|R z (lnR s_ z<|G.e s7)<|Rl z z z<|Wx z (λhc=>(a_o hc).elim) (λ_=>?_)
  exact We<|λ_ q=>⟨rfl,⟨q.k<|s1 z,s7,h1⟩⟩
 .rintro x0 ah _ rfl ⟨_,si,h1⟩;have hmj:=elL H;revert ah;refine Wo<|Wm z<|Rw z ?_
  obtain rfl:=som hmj;exact Wr<|i_ hr z ⟨si,z,h1⟩
 rintro _ _ _ _ rfl ⟨rfl,hqk⟩;have hml:=elR H;obtain rfl:=som hml;exact ⟨hqk,z⟩
structure j_y (f:g_->Int->Val->Option Bt):Prop where
  run:∀{A0 AG AH:Option Addr}{N0 C0 NG CG NH CH:Nat}{B:Zone}{x1:g_}{x2:Int}{x3:Val}{res:Bt}{w0:World}(hm:f x1 x2 x3=some res)(hBw:B<=w0.z)(p1_0:repS w0 B (sl A0 N0 C0) x1.rules)(p2_0:inI x2)(p3_0:inI x3.number)(p3_1:repS w0 B (sl AG NG CG) x3.bytes)(p3_2:repS w0 B (sl AH NH CH) x3.items),q_ prog 16 [(.agg #[sl A0 N0 C0]),vI x2,(.agg #[vI x3.number,sl AG NG CG,sl AH NH CH])] w0<|Q11 w0 B res
abbrev l_m (n:Nat):Prop:=j_y (d_I n).spec_l11Print
theorem T_w0c (gX:l_m n):j_y (f_T n<|d_I n):=by
 constructor
 intro A0 AG AH N0 C0 NG CG NH CH B x1 x2 x3 res w0 hm H a4 j1 aA O V;unfold f_T at hm
 refine goG func16 z z z λfn hr=>Ws<|E z (fb z) ?_
 rintro _ wm ⟨rfl,bS⟩;have J:=bS.below;have ho:Blk wm w0.z [sl A0 N0 C0]:=bS.blk;refine E z (fb z) ?_;rintro _ wa ⟨rfl,bT⟩;have h4:=bT.below;have h5:Blk wa wm.z [vI x3.number,sl AG NG CG,sl AH NH CH]:=bT.blk;refine Rw z<|Ws<|Rf z T_ z ?_
 have a5:=ho.e h4;refine R z (l0 V_ z<|a5.at z)<|Rm z ?_
 obtain ⟨aa,gY,dK⟩:=bdS hm;have hn:=(J.ag B).e h4;refine RX z (at_ (α:=d_) N_ t_ z z z (a4.g hn) gY) ?_;rintro _ ⟨_,_,_,rfl,gZ,h2,_⟩;obtain ⟨ab,ad,ae,af,ai,ak,al,am,an,ao,ap,aq,rfl,bU,bV,bW,a6,bX,bY,a7⟩:=a_T h2;refine R z (lN (vs:=vR aa ab ad ae af ai ak al am an ao ap aq) R_ t_ z z fid gZ)<|E z (fa b_M) ?_
 rintro _ h3 ⟨rfl,bZ⟩;have h1:=bZ.below;have a8:Blk h3 wa.z [(Str.v (⟨[]⟩:Str)),vI 0,vI 0,vB false,sN,sN,sN,sN]:=bZ.blk;refine E0 (fs0 (cur':=vR aa ab ad ae af ai ak al am an ao ap aq) t_ z z a8 z z z z) ?_;rintro _ I ⟨c0,h6⟩;have G:=h6.one;refine Wn<|Ws<|E z (f0 (α:=UInt8) H_) ?_
 rintro _ wc ⟨h7,h9,ha,rfl,s3,hb⟩;refine Rw z<|Wq<|Ws<|Rw z ?_
 obtain ⟨_,dL,bD⟩:=bdS dK;refine Wf (σ:=Bt) (ρ:=Bt) (λ(c1:Nat)(W:Bt) a w=>∃ah ng ci S2,Sat 169 [(3,pt w0.z),(5,pt wm.z),(7,pt wa.z),(8,sl ah ng ci),(9,vI ((c1:Nat):Int))] a/\Cg [I.z] wc w/\b_ w S2 (sl ah ng ci) W/\S2.Nodup/\(∀k∈S2,k∈[I.z]∨wc.z<=k)) (λ(W:Bt) a w=>∃ah ng ci S2,Sat 169 [(3,pt w0.z),(5,pt wm.z),(7,pt wa.z),(8,sl ah ng ci)] a/\Cg [I.z] wc w/\b_ w S2 (sl ah ng ci) W/\S2.Nodup/\(∀k∈S2,k∈[I.z]∨wc.z<=k)) (rQ prog fn<|Q11 w0 B) dL ?_ ?_ ?_ ?_ ?_
 .exact λ_ q=>⟨h7,h9,ha,[I.z],q.k<|s5 z z z z z,cr [I.z] wc,hb,a_p,io sr⟩
 .rintro c1 W _ hf _ aB ⟨ah,ng,ci,S2,dN,ss,hd,hw,he⟩ dO;refine Wu ?_ dN;refine Wq<|Wm z<|Rf z b_L z ?_
  have c2:=(((h5.e h1).c G<|djs<|mmr h5.lt).e s3).c ss<|djs<|mm1 h5.lt<|lt_ h1.s G.s
  refine R z (l0 d_i z<|c2.at z) ?_;have c3:=lt_ J.s h4.s;have c4:∀k∈[wa.z],¬B k:=or0 (a_ lr)<|m_<|zt' H c3;have c5:=lt_ (lt_ c3 h1.s) G.s;have c6:∀k∈[I.z],¬B k:=or0 (a_ lr)<|m_<|zt' H c5;have c7:=(((hn.e h1).c G<|c_ c4).e s3).c ss<|c_ c6
  refine R z (lnR d_43 z<|V.g c7)<|Rl z z z<|Wx z (λ_=>?_) (λhc=>(a_n aB hc).elim)
  refine Wk<|Wq<|Wb (Wd (X:=noX) 8192 (.rd 0<|.rd 1<|.rd 2<|.rd 3<|.rd 4<|.rd 5<|.rd 7<|.rd 8<|.rd 9<|.rd 10<|.rd 11<|.ef 6<|.ef 12<|.ef 13<|.rd 14 .done) mo (by kernel_rfl) λhg sp _=>dM z z z ?_)
  refine dR z z (lN (vs:=[sl A0 N0 C0]) B_ w_ z z fid<|(((((a5.e h1).c G<|djs<|mm1 ho.lt h4.s).e s3).c ss<|djs<|mm1 ho.lt<|lt_ (lt_ h4.s h1.s) G.s).e sp).row 0 1 z)<|dR z z (lN (vs:=vR aa ab ad ae af ai ak al am an ao ap aq) R_ t_ z z fid<|(((c0.e s3).c ss<|djs<|mm1 a8.lt G.s).e sp).row 0 8 z)<|dR z z (fd f_b z) ?_
  have c8:=c2.e sp;refine dR z z (l0 g_3 z<|c8.at z)<|dM z z z<|dR z z (fd b_L z)<|dR z z (l0 d_i z<|c8.at z)<|dM z z z ?_
  obtain ⟨hh,hi,dP⟩:=bdS dO;have c9:=c7.e sp;refine dRX z z (at_ (α:=Val) d_43 n_ z z z (V.g c9) hi) ?_;rintro _ ⟨_,_,_,rfl,hj,hk,_⟩;obtain ⟨hl,hp,hq,hu,hv,hx,rfl,hy,hA,hB⟩:=r_j hk;refine dR z z (lN (vs:=[vI hh.number,sl hl hp hq,sl hu hv hx]) I_ n_ z z fid hj) ?_;have ar:=((((h1.ag B).c G<|c_ c4).e s3).c ss<|c_ c6).e sp;have ca:=lt_ (lt_ (lt_ c5 s3.s) ss.s) sp.s;obtain ⟨_,hC,dS⟩:=bdS dP;refine dE z z (fc call35 z<|i_j hC (zt' H ca) bU bV bW (a6.g ar) (bX.g ar) (bY.g ar) (a7.g ar) aA<|ic (Nat.le_of_lt aB)<|lt_ (repS.len V) X_) (.inr λ_ _ h=>x_<|h.1) ?_;rintro _ hD ⟨sx,rfl,hE⟩;obtain ⟨_,hF,dT⟩:=bdS dS;refine dE z z (fc call16 z<|gX.run hF (zt' H<|lt_ ca sx.s) (a4.g<|c9.e sx) hE hy (hA.e sx)<|hB.e sx) (.inr λ_ _ h=>x_<|h.1) ?_;rintro _ hG ⟨aM,_,_,_,_,rfl,hH,_,_⟩;obtain ⟨hI,hJ,dU⟩:=bdS dT;refine dE z z (fN (α:=UInt8) H_ hJ z z (((hd.e sp).e sx).e aM) hw<|b_.rep hH) (.inl z) ?_;rintro _ hK ⟨cb,hL,hM,hN,rfl,hO,hP,hQ,hR⟩;refine dQ z z z<|pD<|Wo<|Wg<|Rm z<|R z (inc_ aB (lt_ (repS.len V) X_) z z)<|Ra z<|Wl ?_
  have cc:∀k∈S2,k∈[I.z]∨wc.z<=k:=or1 he (io sr)<|o_ lr;exact λ_ q=>⟨hI,(som dU).symm,⟨hL,hM,hN,cb,q.k<|s5 z z z z z,(cM (e_ (e_ (e_ (cM (cr [I.z] wc) ss (io sr):Cg [I.z] wc hf) sp:Cg [I.z] wc hg) sx:Cg [I.z] wc hD) aM:Cg [I.z] wc hG) hO cc:Cg [I.z] wc hK),hP,hQ,(or1 hR cc (o_<|lt_ (lt_ (lt_ ss.s sp.s) sx.s) aM.s):∀k∈cb,k∈[I.z]∨wc.z<=k)⟩⟩
 .rintro W _ hS ⟨ah,ng,ci,S2,dV,aN,hd,hw,he⟩;refine Wu ?_ dV;refine Wq<|Wm z<|Rf z b_L z<|R z (l0 d_i z<|((((h5.e h1).c G<|djs<|mmr h5.lt).e s3).c aN<|djs<|mm1 h5.lt<|lt_ h1.s G.s).at z) ?_
  have cd:=lt_ J.s h4.s;refine R z (lnR d_43 z<|V.g<|(((hn.e h1).c G<|c_ (or0 (a_ lr) (m_<|zt' H cd):∀k∈[wa.z],¬B k)).e s3).c aN<|c_ (or0 (a_ lr) (m_<|zt' H<|lt_ (lt_ cd h1.s) G.s):∀k∈[I.z],¬B k))<|Rl z z z<|Wx z (λhc=>(a_o hc).elim) (λ_=>?_)
  exact We<|λ_ q=>⟨rfl,⟨ah,ng,ci,S2,q.k<|s4 z z z z,(cM (cr [I.z] wc) aN (io sr):Cg [I.z] wc hS),hd,hw,(or1 he (io sr) (o_ lr):∀k∈S2,k∈[I.z]∨wc.z<=k)⟩⟩
 .rintro W hT wb rfl ⟨ah,ng,ci,S2,_,s6,hd,hw,he⟩;have bE:=elL bD;revert hT;refine Wo<|Wq<|Ws<|Rf z a_V z ?_
  have aO:=mm1 a8.lt G.s;have ht:=(c0.e s3).c s6<|djs aO
  refine R z (l0 g_3 z<|ht.at z)<|Wn<|Wb<|Ws<|Rq z z z<|Rw z<|Wc z (λaC=>?_) (λaC=>?_)
  .refine Ws<|R z (lN (vs:=vR aa ab ad ae af ai ak al am an ao ap aq) R_ t_ z z fid<|ht.row 0 8 z)<|Rf z f_b z<|R z (l0 g_3 z<|((((h5.e h1).c G<|djs<|mmr h5.lt).e s3).c s6<|djs<|mm1 h5.lt<|lt_ h1.s G.s).at z) ?_
   have aP:=lt_ J.s h4.s;have aQ:=lt_ (lt_ aP h1.s) G.s;have au:=(((h1.ag B).c G<|c_ (or0 (a_ lr) (m_<|zt' H aP):∀k∈[wa.z],¬B k)).e s3).c s6<|c_ (or0 (a_ lr) (m_<|zt' H aQ):∀k∈[I.z],¬B k)
   have ce:=lt_ (lt_ aQ s3.s) s6.s;obtain ⟨_,hU,dW⟩:=bdS<|ifT bE aC;refine E z (fc call36 z<|i_k hU (zt' H ce) bU bV bW (a6.g au) (bX.g au) (bY.g au) (a7.g au) aA) ?_;rintro _ _ ⟨hV,hW,hX,hY,hZ,rfl,i0,i1,i2⟩;refine Rw z ?_
   obtain rfl:=som dW;exact Wr<|rtO<|i_ hr z ⟨bup (bM (bup (bM (bup (bup J h4) h1) G<|m1 aP) s3) s6<|m1 aQ) hV,hW,hX,hY,hZ,z,i0,i1,p_ i2 ce⟩
  have bF:=ifF bE aC;refine Ws<|Rq z z z<|Rw z<|Wc z (λaD=>?_) (λaD=>?_)
  .refine Ws<|E z (f0 (α:=UInt8) H_) ?_
   rintro _ _ ⟨_,_,_,rfl,av,i3⟩;refine Rf z a_N z<|R z (l0 U_ z<|(ht.e av).at z) ?_
   obtain ⟨_,i4,dX⟩:=bdS<|ifT bF aD;have aR:=lt_ J.s h4.s;have aS:=lt_ (lt_ aR h1.s) G.s;refine E z (fN (α:=UInt8) H_ i4 z z i3 a_p<|a6.g<|((((h1.ag B).c G<|c_ (or0 (a_ lr) (m_<|zt' H aR):∀k∈[wa.z],¬B k)).e s3).c s6<|c_ (or0 (a_ lr) (m_<|zt' H aS):∀k∈[I.z],¬B k)).e av) ?_;rintro _ _ ⟨i5,i6,i7,i8,rfl,i9,ia,ib,id⟩;refine Rw z ?_
   obtain rfl:=som dX;have cf:=lt_ (lt_ aS s3.s) s6.s;have cg:=m1 cf;exact Wr<|rtO<|i_ hr z ⟨bM (bup (bM (bup (bM (bup (bup J h4) h1) G<|m1 aR) s3) s6<|m1 aS) av) i9 cg,i6,i7,i8,i5,z,ia,ib,a_0 id cg<|lt_ cf av.s⟩
  have bG:=ifF bF aD;refine Ws<|Rq z z z<|Rw z<|Wc z (λaE=>?_) (λaE=>?_)
  .refine Wq<|Wd (X:=noX) 16384 (.rd 0<|.rd 1<|.rd 2<|.rd 3<|.rd 4<|.rd 5<|.rd 6<|.rd 7<|.rd 8<|.rd 9<|.rd 10<|.rd 12<|.rd 13<|.ef 11<|.ef 14<|.rd 15 .done) mo (by kernel_rfl) λj2 sy _=>dR z z (fd T_ z) ?_;refine dR z z (l0 V_ z<|(((((a5.e h1).c G<|djs<|mm1 ho.lt h4.s).e s3).c s6<|djs<|mm1 ho.lt<|lt_ (lt_ h4.s h1.s) G.s).e sy).at z)<|dR z z (fd M_ z)<|dR z z (l0 C_ z<|(ht.e sy).at z) ?_
   obtain ⟨_,ie,dY⟩:=bdS<|ifT bG aE;have aT:=lt_ J.s h4.s;have ch:∀k∈[wa.z],¬B k:=or0 (a_ lr)<|m_<|zt' H aT;have aU:=lt_ (lt_ aT h1.s) G.s;have cj:∀k∈[I.z],¬B k:=or0 (a_ lr)<|m_<|zt' H aU;refine dRX z z (at_ (α:=Int) A_ z_3 z z z (a7.g<|((((h1.ag B).c G<|c_ ch).e s3).c s6<|c_ cj).e sy) ie) ?_;rintro _ ⟨_,_,_,rfl,ig,ih,_⟩;obtain ⟨rfl,_⟩:=W_ ih;refine dR z z (l0 g_3 z<|ig.at0 z) ?_;obtain ⟨ij,ik,dZ⟩:=bdS dY;have aV:=((((hn.e h1).c G<|c_ ch).e s3).c s6<|c_ cj).e sy;refine dRX z z (at_ (α:=d_) N_ t_ z z z (a4.g aV) ik) ?_;rintro _ ⟨_,_,_,rfl,il,im,_⟩;obtain ⟨ip,iq,ir,it,iu,iv,iw,ix,iy,iz,iA,iB,rfl,iC,iD,iE,iF,iG,iH,iI⟩:=a_T im;refine dR z z (lN (vs:=vR ij ip iq ir it iu iv iw ix iy iz iA iB) R_ t_ z z fid il)<|dR z z (fd c_n z) ?_
   have ck:=((((h5.e h1).c G<|djs<|mmr h5.lt).e s3).c s6<|djs<|mm1 h5.lt<|lt_ h1.s G.s).e sy;refine dR z z (l0 U_ z<|ck.at z) ?_;have cm:=O.g aV;refine dR z z (lnR s_ z cm)<|dR z z (fd c_n z)<|dR z z (l0 U_ z<|ck.at z) ?_
   have aW:=lt_ (lt_ (lt_ aU s3.s) s6.s) sy.s;obtain ⟨_,iJ,e0⟩:=bdS dZ;refine dE z z (fc call36 z<|i_k iJ (zt' H aW) iC iD iE iF iG iH iI<|b_2<|repS.len cm) (.inr λ_ _ h=>x_<|h.1) ?_;rintro _ _ ⟨aX,_,_,_,_,rfl,iK,iL,iM⟩;obtain ⟨_,iN,e1⟩:=bdS e0;refine dE z z (fN (α:=UInt8) H_ iN z z iK iL<|O.g<|aV.e aX) (.inl z) ?_;rintro _ _ ⟨iO,iP,iQ,iR,rfl,iS,iT,iU,iV⟩;refine dQ z z z<|pD<|Wo ?_
   obtain rfl:=som e1;have cn:=p_ iM aW;exact Wr<|rtO<|i_ hr z ⟨bM (bup (bup (bM (bup (bM (bup (bup J h4) h1) G<|m1 aT) s3) s6<|m1 aU) sy) aX) iS cn,iP,iQ,iR,iO,z,iT,iU,a_0 iV cn<|lt_ aW aX.s⟩
  have bH:=ifF bG aE;refine Ws<|Rq z z z<|Rw z<|Wc z (λaF=>?_) (λaF=>?_)
  .refine Wq<|Wd (X:=noX) 8192 (.rd 0<|.rd 1<|.rd 2<|.rd 3<|.rd 4<|.rd 5<|.rd 6<|.rd 7<|.rd 8<|.rd 9<|.rd 10<|.rd 12<|.ef 11<|.ef 13<|.rd 14 .done) mo (by kernel_rfl) λj3 su _=>dR z z (fd T_ z) ?_;refine dR z z (l0 V_ z<|(((((a5.e h1).c G<|djs<|mm1 ho.lt h4.s).e s3).c s6<|djs<|mm1 ho.lt<|lt_ (lt_ h4.s h1.s) G.s).e su).at z)<|dR z z (fd M_ z)<|dR z z (l0 C_ z<|(ht.e su).at z) ?_
   obtain ⟨_,iW,e2⟩:=bdS<|ifT bH aF;have aY:=lt_ J.s h4.s;have co:∀k∈[wa.z],¬B k:=or0 (a_ lr)<|m_<|zt' H aY;have aZ:=lt_ (lt_ aY h1.s) G.s;have cp:∀k∈[I.z],¬B k:=or0 (a_ lr)<|m_<|zt' H aZ;refine dRX z z (at_ (α:=Int) A_ z_3 z z z (a7.g<|((((h1.ag B).c G<|c_ co).e s3).c s6<|c_ cp).e su) iW) ?_;rintro _ ⟨_,_,_,rfl,iX,iY,_⟩;obtain ⟨rfl,_⟩:=W_ iY;refine dR z z (l0 g_3 z<|iX.at0 z) ?_;obtain ⟨iZ,j0,e3⟩:=bdS e2;have cq:=((((hn.e h1).c G<|c_ co).e s3).c s6<|c_ cp).e su;refine dRX z z (at_ (α:=d_) N_ t_ z z z (a4.g cq) j0) ?_;rintro _ ⟨_,_,_,rfl,e4,e5,_⟩;obtain ⟨e6,e7,e8,e9,ea,eb,ec,ed,ee,eg,eh,ei,rfl,ej,ek,em,en,eo,ep,er⟩:=a_T e5;refine dR z z (lN (vs:=vR iZ e6 e7 e8 e9 ea eb ec ed ee eg eh ei) R_ t_ z z fid e4)<|dR z z (fd b_L z)<|dR z z (l0 d_i z<|(((((h5.e h1).c G<|djs<|mmr h5.lt).e s3).c s6<|djs<|mm1 h5.lt<|lt_ h1.s G.s).e su).at z) ?_
   have ct:=V.g cq;refine dR z z (lnR d_43 z ct)<|dM z z z ?_
   have b0:=lt_ (lt_ (lt_ aZ s3.s) s6.s) su.s;obtain ⟨_,es,df⟩:=bdS e3;refine dE z z (fc call36 z<|i_k es (zt' H b0) ej ek em en eo ep er<|b_2<|repS.len ct) (.inr λ_ _ h=>x_<|h.1) ?_;rintro _ _ ⟨b1,_,_,_,_,rfl,eu,ew,ex⟩;obtain ⟨_,ey,dg⟩:=bdS df;refine dE z z (fN (α:=UInt8) H_ ey z z eu ew<|or_ ((hd.e su).e b1)<|b_.lt hd) (.inl z) ?_;rintro _ _ ⟨ez,eA,eB,eC,rfl,eD,eE,eF,eG⟩;refine dQ z z z<|pD<|Wo ?_
   obtain rfl:=som dg;have cu:=p_ ex b0;exact Wr<|rtO<|i_ hr z ⟨bM (bup (bup (bM (bup (bM (bup (bup J h4) h1) G<|m1 aY) s3) s6<|m1 aZ) su) b1) eD cu,eA,eB,eC,ez,z,eE,eF,a_0 eG cu<|lt_ b0 b1.s⟩
  have bI:=ifF bH aF;refine Ws<|Rq z z z<|Rw z<|Wc z (λaG=>?_) (λaG=>?_)
  .refine Wq<|Wd (X:=noX) 4096 (.rd 0<|.rd 1<|.rd 2<|.rd 3<|.rd 4<|.rd 5<|.rd 6<|.rd 7<|.rd 8<|.rd 9<|.rd 11<|.ef 10<|.ef 12<|.rd 13 .done) mo (by kernel_rfl) λj4 sv _=>dR z z (fd T_ z) ?_;refine dR z z (l0 V_ z<|(((((a5.e h1).c G<|djs<|mm1 ho.lt h4.s).e s3).c s6<|djs<|mm1 ho.lt<|lt_ (lt_ h4.s h1.s) G.s).e sv).at z)<|dR z z (fd M_ z)<|dR z z (l0 C_ z<|(ht.e sv).at z) ?_
   obtain ⟨_,eH,dh⟩:=bdS<|ifT bI aG;have b2:=lt_ J.s h4.s;have cv:∀k∈[wa.z],¬B k:=or0 (a_ lr)<|m_<|zt' H b2;have b3:=lt_ (lt_ b2 h1.s) G.s;have cw:∀k∈[I.z],¬B k:=or0 (a_ lr)<|m_<|zt' H b3;refine dRX z z (at_ (α:=Int) A_ z_3 z z z (a7.g<|((((h1.ag B).c G<|c_ cv).e s3).c s6<|c_ cw).e sv) eH) ?_;rintro _ ⟨_,_,_,rfl,eI,eJ,_⟩;obtain ⟨rfl,_⟩:=W_ eJ;refine dR z z (l0 g_3 z<|eI.at0 z) ?_;obtain ⟨eK,eL,di⟩:=bdS dh;refine dRX z z (at_ (α:=d_) N_ t_ z z z (a4.g<|((((hn.e h1).c G<|c_ cv).e s3).c s6<|c_ cw).e sv) eL) ?_;rintro _ ⟨_,_,_,rfl,eM,eN,_⟩;obtain ⟨eO,eP,eQ,eR,eS,eT,eU,eV,eW,eX,eY,eZ,rfl,f1,f2,f3,f4,f5,f6,f7⟩:=a_T eN;refine dR z z (lN (vs:=vR eK eO eP eQ eR eS eT eU eV eW eX eY eZ) R_ t_ z z fid eM)<|dR z z (fd f_b z)<|dR z z (l0 g_3 z<|(((((h5.e h1).c G<|djs<|mmr h5.lt).e s3).c s6<|djs<|mm1 h5.lt<|lt_ h1.s G.s).e sv).at z)<|dM z z z ?_
   have b4:=lt_ (lt_ (lt_ b3 s3.s) s6.s) sv.s;obtain ⟨_,f8,dj⟩:=bdS di;refine dE z z (fc call36 z<|i_k f8 (zt' H b4) f1 f2 f3 f4 f5 f6 f7 aA) (.inr λ_ _ h=>x_<|h.1) ?_;rintro _ _ ⟨b5,_,_,_,_,rfl,f9,fe,ff⟩;obtain ⟨_,fg,dk⟩:=bdS dj;refine dE z z (fN (α:=UInt8) H_ fg z z f9 fe<|or_ ((hd.e sv).e b5)<|b_.lt hd) (.inl z) ?_;rintro _ _ ⟨fh,fi,fj,fk,rfl,fl,fm,fo,fp⟩;refine dQ z z z<|pD<|Wo ?_
   obtain rfl:=som dk;have cx:=p_ ff b4;exact Wr<|rtO<|i_ hr z ⟨bM (bup (bup (bM (bup (bM (bup (bup J h4) h1) G<|m1 b2) s3) s6<|m1 b3) sv) b5) fl cx,fi,fj,fk,fh,z,fm,fo,a_0 fp cx<|lt_ b4 b5.s⟩
  have bJ:=ifF bI aG;refine Ws<|Rq z z z<|Rw z<|Wc z (λaH=>?_) (λaH=>?_)
  .refine Ws<|Rf z b_L z<|R z (l0 d_i z<|((((h5.e h1).c G<|djs<|mmr h5.lt).e s3).c s6<|djs<|mm1 h5.lt<|lt_ h1.s G.s).at z) ?_
   have b6:=lt_ J.s h4.s;have b7:=lt_ (lt_ b6 h1.s) G.s;refine R z (lnR d_43 z<|V.g<|(((hn.e h1).c G<|c_ (or0 (a_ lr) (m_<|zt' H b6):∀k∈[wa.z],¬B k)).e s3).c s6<|c_ (or0 (a_ lr) (m_<|zt' H b7):∀k∈[I.z],¬B k))<|R z (b_G d_3 d_5 z)<|E z (fS [(.tmp 105)] H_ z z z (S_ z) (lb z)<|lb z) ?_
   rintro _ fq ⟨rfl,b8⟩;have b9:=b8.below;have j5:Blk fq wb.z [(vU<|byteI<|mkB (x3.items.length:Int))]:=b8.blk;refine Rm z ?_;obtain ⟨_,fr,dl⟩:=bdS<|ifT bJ aH;refine E z (fN (α:=UInt8) H_ fr z z (a_d b8 a_t) a_p<|or_ (hd.e b9)<|b_.lt hd) ?_;rintro _ _ ⟨fs,ft,fu,fv,rfl,fw,fx,fy,fz⟩;refine Rw z ?_
   obtain rfl:=som dl;have cy:=lt_ (lt_ b7 s3.s) s6.s;have cz:=m1 cy;exact Wr<|rtO<|i_ hr z ⟨bM (bup (bM (bup (bM (bup (bup J h4) h1) G<|m1 b6) s3) s6<|m1 b7) b9) fw cz,ft,fu,fv,fs,z,fx,fy,a_0 fz cz<|lt_ cy b9.s⟩
  have bK:=ifF bJ aH;refine Ws<|Rq z z z<|Rw z<|Wc z (λaI=>?_) (λaI=>?_)
  .refine Wm z<|Rm z ?_
   obtain ⟨fA,fB,dm⟩:=bdS<|ifT bK aI;refine E z (fc call37 z<|W_w1b (B:=wb.z) fB zr<|b_.rep hd) ?_;rintro _ fC ⟨ba,rfl,_⟩;refine R z (b_G d_3 d_5 z)<|E z (fS [(.tmp 114)] H_ z z z (S_ z) (lb z)<|lb z) ?_
   rintro _ fD ⟨rfl,bb⟩;have bc:=bb.below;have j6:=a_d bb a_t;obtain ⟨_,fE,dn⟩:=bdS dm;refine E z (a_i (α:=UInt8) H_ fE z z ((hd.e ba).e bc) hw (bb.blk:Blk fD fC.z [(vU<|byteI<|mkB fA)]) a_t an_ z_) ?_;rintro _ _ ⟨cA,fF,fG,fH,rfl,fI,fJ,fK,fL⟩;refine Rw z ?_
   obtain rfl:=som dn;have cB:=lt_ J.s h4.s;have cC:=lt_ (lt_ cB h1.s) G.s;have cD:=m1 cC;have cE:=lt_ cC s3.s;have cF:=a_0 he cD cE;exact Wr<|rtO<|i_ hr z ⟨bM (bup (bup (bM (bup (bM (bup (bup J h4) h1) G<|m1 cB) s3) s6 cD) ba) bc) fI cF,fF,fG,fH,cA,z,fJ,fK,(or2 fL cF an_ (b_6<|lt_ (lt_ (lt_ cE s6.s) ba.s) bc.s):∀k∈cA,w0.z<=k)⟩
  have bL:=ifF bK aI;refine Ws<|Rq z z z<|Rw z<|Wc z (λaJ=>?_) (λaJ=>?_)
  .refine Wq<|Ws<|Rw z ?_
   obtain ⟨_,dp,bN⟩:=bdS<|ifT bL aJ;refine Wf (σ:=Bt) (ρ:=Bt) (λ(aw:Nat)(xr:Bt) a w=>∃aj nk cl L,Sat 169 [(5,pt wm.z),(7,pt wa.z),(8,sl aj nk cl),(10,vI ((aw:Nat):Int))] a/\Cg S2 wb w/\b_ w L (sl aj nk cl) xr/\L.Nodup/\(∀k∈L,k∈S2∨wb.z<=k)) (λ(xr:Bt) a w=>∃aj nk cl L,Sat 169 [(7,pt wa.z),(8,sl aj nk cl)] a/\Cg S2 wb w/\b_ w L (sl aj nk cl) xr/\L.Nodup/\(∀k∈L,k∈S2∨wb.z<=k)) (rQ prog fn<|Q11 w0 B) dp ?_ ?_ ?_ ?_ ?_
   .exact λ_ q=>⟨ah,ng,ci,S2,q.k<|s4 z z z z,cr S2 wb,hd,hw,io sr⟩
   .rintro aw xr _ be _ bO ⟨aj,nk,cl,L,dq,Y,a0,a1,hz⟩ dr;refine Wu ?_ dq;refine Wq<|Wm z<|Rf z c_n z ?_
    have cG:=lt_ h1.s G.s;have cH:=mm1 h5.lt cG;have cI:=lt_ cG s3.s;have cJ:∀k∈S2,k∉[wm.z]:=or1 he cH<|k_ (a_ h5.lt) cI;have bf:=((((h5.e h1).c G<|djs<|mmr h5.lt).e s3).c s6<|djs cH).c Y<|djs cJ
    refine R z (l0 U_ z<|bf.at z) ?_;have cK:=lt_ J.s h4.s;have cL:∀k∈[wa.z],¬B k:=or0 (a_ lr)<|m_<|zt' H cK;have cN:=lt_ (lt_ cK h1.s) G.s;have bg:∀k∈[I.z],¬B k:=or0 (a_ lr)<|m_<|zt' H cN;have cO:=lt_ cN s3.s;have bh:∀k∈S2,¬B k:=or1 he bg<|m_<|zt' H cO;have bi:=((((hn.e h1).c G<|c_ cL).e s3).c s6<|c_ bg).c Y<|c_ bh
    refine R z (lnR s_ z<|O.g bi)<|Rl z z z<|Wx z (λ_=>?_) (λhc=>(a_n bO hc).elim)
    refine Wk<|Wq<|Wb<|Wq<|Wq ?_
    obtain ⟨fM,ds,dt⟩:=bdS dr;refine Wt (λa w=>∃(bj:Bool),bj=fM/\Sat 169 [(5,pt wm.z),(7,pt wa.z),(8,sl aj nk cl),(10,vI ((aw:Nat):Int)),(143,vB bj)] a/\Below be.z be w) ?_ ?_
    .refine Wd (X:=noX) 0 (pl_ 18 []) mo (by kernel_rfl) λj7 a2 _=>dR z z (fd c_n z) ?_
     have cP:=bf.e a2;refine dR z z (l0 U_ z<|cP.at z)<|dM z z z ?_
     obtain ⟨fO,fP,du⟩:=bdS ds;have cQ:=O.g<|bi.e a2
     refine dRX z z (at_ (α:=UInt8) s_ z_5 z z z cQ fP) ?_;rintro _ ⟨_,_,_,rfl,fQ,fR,_⟩;obtain rfl:=u8 fR;refine dR z z (l0 g_5 z<|fQ.at0 z)<|dR z z (fd a_N z) ?_
     refine dR z z (l0 U_ z<|((ht.c Y<|djs (or1 he aO (k_ (a_ a8.lt)<|lt_ G.s s3.s):∀k∈S2,k∉[wa.z])).e a2).at z) ?_;obtain ⟨fT,fU,bP⟩:=bdS du;refine dRX z z (at_ (α:=UInt8) s_ z_5 z z z (a6.g<|(((((h1.ag B).c G<|c_ cL).e s3).c s6<|c_ bg).c Y<|c_ bh).e a2) fU) ?_;rintro _ ⟨_,_,_,rfl,fV,fW,_⟩;obtain rfl:=u8 fW;refine dR z z (l0 g_5 z<|fV.at0 z)<|dR z z (eql z z)<|dM z z z ?_
     rcases bs ((byteI fO)==(byteI fT)) with hcf | hcf
     .iterate 6 refine dRn z z z hcf z ?_
      exact dR z z (pT z hcf z)<|pD (λ_ q=>⟨true,som<|ifT bP hcf,q.k<|s5 z z z z z,a2⟩)
     refine dRg z z z hcf z (fd c_n z)<|dRg z z z hcf z (l0 U_ z<|cP.at z)<|dRg z z z hcf z (mv z) ?_
     obtain ⟨fX,fY,dv⟩:=bdS<|ifF bP hcf;refine c_l z z z hcf z (at_ (α:=UInt8) s_ z_5 z z z cQ fY) ?_;rintro _ ⟨_,_,_,rfl,fZ,g0,_⟩;obtain rfl:=u8 g0;exact dRg z z z hcf z (l0 g_5 z<|fZ.at0 z)<|dRg z z z hcf z (eql z z)<|dR z z (pF z hcf z)<|pD (λ_ q=>⟨(byteI fX)==(byteI (92:UInt8)),som dv,q.k<|s5 z z z z z,a2⟩)
    rintro g1 wq ⟨bj,rfl,_,a3⟩;revert g1;refine Wo ?_;obtain ⟨g2,bQ,dw⟩:=bdS dt;refine Wt (λa w=>∃(bk:Bt),bk=g2/\∃bm bn bo a9,Sat 169 [(5,pt wm.z),(7,pt wa.z),(8,sl bm bn bo),(10,vI ((aw:Nat):Int))] a/\Cg L wq w/\b_ w a9 (sl bm bn bo) bk/\a9.Nodup/\(∀k∈a9,k∈L∨wq.z<=k)) ?_ ?_
    .refine Wc z (λaK=>?_)<|λaK=>?_
     .refine Wg<|Rm z<|E z (fS [(.const<|.int .u8 92)] H_ z z z (S_ z) (lb z)<|lb z) ?_
      rintro _ cR ⟨rfl,bp⟩;have bq:=bp.below;have j8:=a_d bp<|h_F (x:=(92:UInt8)) z
      obtain ⟨g3,g4,dx⟩:=bdS<|ifT bQ aK;refine E z (a_i (α:=UInt8) H_ g4 z z ((a0.e a3).e bq) a1 (bp.blk:Blk cR wq.z [(vU<|byteI (92:UInt8))]) (h_F (x:=(92:UInt8)) z) an_ z_) ?_;rintro _ g5 ⟨cS,g6,g7,g8,rfl,g9,ga,gb,gc⟩;refine Ra z<|Wl ?_
      exact λ_ q=>⟨g3,som dx,g6,g7,g8,cS,q.k<|s4 z z z z,(cM (e_ (cr L wq) bq:Cg L wq cR) g9 (io sr):Cg L wq g5),ga,gb,(or2 gc (io sr) an_ (o_ bq.s):∀k∈cS,k∈L∨wq.z<=k)⟩
     exact a_c<|λ_ q=>⟨xr,som<|ifF bQ aK,aj,nk,cl,L,q.k<|s4 z z z z,cr L wq,a0.e a3,a1,io sr⟩
    rintro ge cT ⟨bk,rfl,bm,bn,bo,a9,_,ax,gf,gg,gh⟩;revert ge;refine Wo<|Wg<|Rm z<|Rf z c_n z ?_
    refine R z (l0 U_ z<|((bf.e a3).c ax<|djs (or1 hz cJ (k_ (a_ h5.lt)<|lt_ cI s6.s):∀k∈L,k∉[wm.z])).at z)<|Rm z ?_
    obtain ⟨gi,gj,dy⟩:=bdS dw;refine RX z (at_ (α:=UInt8) s_ z_5 z z z (O.g<|(bi.e a3).c ax<|c_ (or1 hz bh (m_<|zt' H<|lt_ cO s6.s):∀k∈L,¬B k)) gj) ?_;rintro _ ⟨_,_,_,rfl,gk,gl,_⟩;obtain rfl:=u8 gl;refine R z (l0 g_5 z<|gk.at0 z)<|E z (fS [(.tmp 152)] H_ z z z (S_ z) (lb z)<|lb z) ?_
    rintro _ cU ⟨rfl,br⟩;have bt:=br.below;have j9:=a_d br a_t;obtain ⟨gm,gn,dz⟩:=bdS dy;refine E z (a_i (α:=UInt8) H_ gn z z (gf.e bt) gg (br.blk:Blk cU cT.z [vU (byteI gi)]) a_t an_ z_) ?_;rintro _ gp ⟨cV,gq,gr,gs,rfl,gt,gu,gv,gw⟩;refine Rw z<|Wg<|Rm z<|R z (inc_ bO (lt_ (repS.len O) X_) z z)<|Ra z<|Wl ?_
    have cW:=lt_ Y.s a3.s;have cX:∀k∈L,k∈S2∨wb.z<=k:=or1 hz (io sr)<|o_ lr;have cY:∀k∈a9,k∈S2∨wb.z<=k:=or1 gh cX<|o_ cW;exact λ_ q=>⟨gm,(som dz).symm,⟨gq,gr,gs,cV,q.k<|s4 z z z z,(cM (e_ (cM (e_ (cM (cr S2 wb) Y (io sr):Cg S2 wb be) a3:Cg S2 wb wq) ax cX:Cg S2 wb cT) bt:Cg S2 wb cU) gt cY:Cg S2 wb gp),gu,gv,(or2 gw cY an_ (o_<|lt_ (lt_ cW ax.s) bt.s):∀k∈cV,k∈S2∨wb.z<=k)⟩⟩
   .rintro xr _ gx ⟨aj,nk,cl,L,dA,bu,a0,a1,hz⟩;refine Wu ?_ dA;refine Wq<|Wm z<|Rf z c_n z ?_
    have cZ:=lt_ h1.s G.s;have d0:=mm1 h5.lt cZ;refine R z (l0 U_ z<|(((((h5.e h1).c G<|djs<|mmr h5.lt).e s3).c s6<|djs d0).c bu<|djs (or1 he d0 (k_ (a_ h5.lt)<|lt_ cZ s3.s):∀k∈S2,k∉[wm.z])).at z) ?_;have d1:=lt_ J.s h4.s;have d2:=lt_ (lt_ d1 h1.s) G.s;have d3:∀k∈[I.z],¬B k:=or0 (a_ lr)<|m_<|zt' H d2;refine R z (lnR s_ z<|O.g<|((((hn.e h1).c G<|c_ (or0 (a_ lr) (m_<|zt' H d1):∀k∈[wa.z],¬B k)).e s3).c s6<|c_ d3).c bu<|c_ (or1 he d3 (m_<|zt' H<|lt_ d2 s3.s):∀k∈S2,¬B k))<|Rl z z z<|Wx z (λhc=>(a_o hc).elim) (λ_=>?_)
    exact We<|λ_ q=>⟨rfl,⟨aj,nk,cl,L,q.k<|s2 z z,(cM (cr S2 wb) bu (io sr):Cg S2 wb gx),a0,a1,(or1 hz (io sr) (o_ lr):∀k∈L,k∈S2∨wb.z<=k)⟩⟩
   .rintro xr gy gz rfl ⟨aj,nk,cl,L,_,ay,a0,a1,hz⟩;have dB:=elL bN;revert gy;refine Wo<|Wm z<|Rf z a_N z ?_
    refine R z (l0 U_ z<|(ht.c ay<|djs (or1 he aO (k_ (a_ a8.lt)<|lt_ G.s s3.s):∀k∈S2,k∉[wa.z])).at z) ?_;obtain ⟨gA,gB,dC⟩:=bdS dB;have bv:=lt_ J.s h4.s;have bw:=lt_ (lt_ bv h1.s) G.s;have d4:∀k∈[I.z],¬B k:=or0 (a_ lr)<|m_<|zt' H bw;have bx:=lt_ bw s3.s;refine RX z (at_ (α:=UInt8) s_ z_5 z z z (a6.g<|((((h1.ag B).c G<|c_ (or0 (a_ lr) (m_<|zt' H bv):∀k∈[wa.z],¬B k)).e s3).c s6<|c_ d4).c ay<|c_ (or1 he d4 (m_<|zt' H bx):∀k∈S2,¬B k)) gB) ?_;rintro _ ⟨_,_,_,rfl,gC,gD,_⟩;obtain rfl:=u8 gD;refine R z (l0 g_5 z<|gC.at0 z)<|E z (fS [(.tmp 159)] H_ z z z (S_ z) (lb z)<|lb z) ?_
    rintro _ gE ⟨rfl,bz⟩;have bA:=bz.below;have ja:=a_d bz a_t;obtain ⟨_,gF,dD⟩:=bdS dC;refine E z (a_i (α:=UInt8) H_ gF z z (a0.e bA) a1 (bz.blk:Blk gE gz.z [vU (byteI gA)]) a_t an_ z_) ?_;rintro _ _ ⟨d5,gG,gH,gI,rfl,gJ,gK,gL,gM⟩;refine Rw z ?_
    obtain rfl:=som dD;have d6:=m1 bw;have d7:=a_0 he d6 bx;have d8:=lt_ bx s6.s;have d9:=a_0 hz d7 d8;exact Wr<|rtO<|i_ hr z ⟨bM (bup (bM (bM (bup (bM (bup (bup J h4) h1) G<|m1 bv) s3) s6 d6) ay d7) bA) gJ d9,gG,gH,gI,d5,z,gK,gL,(or2 gM d9 an_ (b_6<|lt_ (lt_ d8 ay.s) bA.s):∀k∈d5,w0.z<=k)⟩
   rintro _ _ _ _ rfl ⟨rfl,dF⟩;have dG:=elR bN;obtain rfl:=som dG;exact ⟨dF,z⟩
  have bR:=ifF bL aJ;refine Ws<|Rq z z z<|Rw z<|Wc z (λaL=>?_) (λaL=>?_)
  .refine Ws<|E z (f0 (α:=UInt8) H_) ?_
   rintro _ _ ⟨_,_,_,rfl,az,gN⟩;refine Rf z c_n z<|R z (l0 U_ z<|(((((h5.e h1).c G<|djs<|mmr h5.lt).e s3).c s6<|djs<|mm1 h5.lt<|lt_ h1.s G.s).e az).at z) ?_
   obtain ⟨_,gO,dH⟩:=bdS<|ifT bR aL;have bB:=lt_ J.s h4.s;have bC:=lt_ (lt_ bB h1.s) G.s;refine E z (fN (α:=UInt8) H_ gO z z gN a_p<|O.g<|((((hn.e h1).c G<|c_ (or0 (a_ lr) (m_<|zt' H bB):∀k∈[wa.z],¬B k)).e s3).c s6<|c_ (or0 (a_ lr) (m_<|zt' H bC):∀k∈[I.z],¬B k)).e az) ?_;rintro _ _ ⟨gP,gQ,gR,gS,rfl,gT,gU,gV,gW⟩;refine Rw z ?_
   obtain rfl:=som dH;have da:=lt_ (lt_ bC s3.s) s6.s;have db:=m1 da;exact Wr<|rtO<|i_ hr z ⟨bM (bup (bM (bup (bM (bup (bup J h4) h1) G<|m1 bB) s3) s6<|m1 bC) az) gT db,gQ,gR,gS,gP,z,gU,gV,a_0 gW db<|lt_ da az.s⟩
  refine Wk<|Wm z<|Rw z ?_
  obtain rfl:=som<|ifF bR aL;have dc:=lt_ J.s h4.s;have dd:=lt_ (lt_ dc h1.s) G.s;have de:=m1 dd;exact Wr<|i_ hr z ⟨bM (bup (bM (bup (bup J h4) h1) G<|m1 dc) s3) s6 de,ah,ng,ci,S2,z,hd,hw,a_0 he de<|lt_ dd s3.s⟩
 rintro _ _ _ _ rfl ⟨rfl,dI⟩;have dJ:=elR bD;obtain rfl:=som dJ;exact ⟨dI,z⟩
theorem A_w0c:∀n,l_m n
  | 0=>⟨λhm=>by intros;exact nomatch (show none=some _ from hm)⟩
  | n+1=>T_w0c<|A_w0c n
theorem W_w0c:j_y (d_I n).spec_l11Print:=A_w0c n
theorem W_w24 {x1:Int}{x2:Int}{res:Int}(hm:i_5 x1 x2=some res)(J:B<=w0.z)(a0:inI x1)(I:inI x2):q_ prog 103 [vI x1,vI x2] w0 (Q9 w0 B res):=by
 unfold i_5 at hm
 refine goG func103 z z z λfn hr=>Ws<|Rw z<|Wq<|Wm z ?_
 obtain ⟨_,V,H⟩:=bdS hm;refine E z (fc call54 z<|b_j (B:=B) V J I (ii z)<|ii z) ?_;rintro _ _ ⟨s2,rfl⟩;refine R z (not_ z)<|Wx z (λG=>?_) (λG=>?_)
 .refine Ws<|Rw z ?_
  obtain rfl:=som<|ifT H G;exact Wr<|i_ hr z ⟨s2,z,ii z⟩
 refine Wk<|Wm z<|Rm z ?_
 obtain ⟨_,W,L⟩:=bdS<|ifF H G;refine R z (c_5 z z<|nzS W)<|Rm z<|R z (add_ z z)<|Rm z ?_
 obtain ⟨_,Y,O⟩:=bdS L;refine R z (c_5 z z<|nzS Y)<|Rw z ?_
 obtain rfl:=som O;exact Wr<|i_ hr z ⟨s2,z,c_k<|iA _ _⟩
theorem W_w25 {x1:Int}{x2:Int}{res:Int}(hm:i_6 x1 x2=some res)(J:B<=w0.z)(H:inI x1)(I:inI x2):q_ prog 102 [vI x1,vI x2] w0 (Q9 w0 B res):=by
 unfold i_6 at hm
 refine goG func102 z z z λfn hr=>Ws<|Rw z<|Wq<|Wm z<|Rm z<|R z (a_b z z)<|Wx z (λG=>?_) (λG=>?_)
 .refine Wm z<|Rw z ?_
  obtain rfl:=som<|ifT hm G;exact Wr<|i_ hr z ⟨br w0,z,I⟩
 refine Wk<|Wm z<|Rw z ?_
 obtain rfl:=som<|ifF hm G;exact Wr<|i_ hr z ⟨br w0,z,H⟩
theorem W_w26 {x1:Int}{res:Int}(hm:g_b x1=some res)(G:B<=w0.z)(I:inI x1):q_ prog 72 [vI x1] w0 (Q9 w0 B res):=by
 unfold g_b at hm
 refine goG func72 z z z λfn hr=>Ws<|Rw z<|Wm z ?_
 obtain ⟨_,O,J⟩:=bdS hm;refine E z (fc call103 z<|W_w24 (B:=B) O G I<|ii z) ?_;rintro _ _ ⟨H,rfl,_⟩;refine R z (c_E z z)<|R z (c_5 z z (by decide)) ?_
 obtain ⟨_,V,L⟩:=bdS J;refine E z (fc call102 z<|W_w25 V (zt' G H.s) (ii z)<|c_k<|n_v _ _) ?_;rintro _ _ ⟨s5,rfl,h6⟩;refine Rw z ?_
 obtain rfl:=som L;exact Wr<|i_ hr z ⟨bup H s5,z,h6⟩
def Q12 (w0:World)(g1:Nat)(B:Zone)(x1:Int)(r:Int×Int)(v:Value)(w':World):Prop:=Cg [g1] w0 w'/\un2 (λG H=>(vI G)=v/\inI G/\inI H/\Blk w' g1 [vI H]) r
theorem j_z {x1:Int}{g1:Nat}{res:Int×Int}(hm:e_q x1=some res)(hB1:Blk w0 g1 [vI x1])(I:B<=w0.z)(hBg:¬B g1)(H:inI x1):q_ prog 56 [pt g1] w0 (Q12 w0 g1 B x1 res):=by
 unfold e_q at hm
 refine goG func56 z z z λfn hr=>Ws<|Rw z<|Wm z<|Rm z<|R z (O_ z)<|R z (l0 g_3 z<|hB1.at z) ?_
 obtain ⟨L,O,J⟩:=bdS hm;refine E z (fc call72 z<|W_w26 (B:=B) O I H) ?_;rintro _ V ⟨G,rfl,h1⟩;refine R z (O_ z)<|E0 (fs0 (cur':=[vI L]) z_3 z z (hB1.e G) z z z z) ?_
 rintro _ W ⟨h2,s8⟩;refine Wn<|Wm z<|R z (O_ z)<|R z (l0 g_3 z<|h2.at z)<|Rw z ?_
 obtain rfl:=som J;exact Wr<|i_ hr z ⟨(cM (e_ (cr [g1] w0) G:Cg [g1] w0 V) s8.one (io sr):Cg [g1] w0 W),z,h1,h1,h2⟩
def Q13 (w0:World)(B:Zone)(r:c_R)(v:Value)(w':World):Prop:=Bw w0 w'/\(λG=>(.agg #[vI G.kind,vI G.at_,vI G.byte])=v/\inI G.kind/\inI G.at_/\inI G.byte) r
theorem W_w27 {x1:Int}{x2:Int}{res:c_R}(hm:f_6 x1 x2=some res)(J:B<=w0.z)(ab:inI x1)(ad:inI x2):q_ prog 41 [vI x1,vI x2] w0 (Q13 w0 B res):=by
 unfold f_6 at hm
 refine goG func41 z z z λfn hr=>Ws<|E z (fa l_k) ?_
 rintro _ ao ⟨rfl,hy⟩;have he:=hy.below;have hf:Blk ao w0.z [vI 0,vI 0,vI 0]:=hy.blk;refine Wn<|Wq<|Wm z ?_
 obtain ⟨_,ap,hmz⟩:=bdS hm;refine E z (fc call54 z<|b_j ap (zt' J he.s) ab (ii z)<|ii z) ?_;rintro _ a0 ⟨s4,rfl⟩;refine R z (not_ z)<|Wx z (λhcm=>?_) (λhcm=>?_)
 .refine Ws<|R z (bP (parts:=[]) (cs:=[vI 0,vI 0,vI 0]) l_a z z)<|E0 (fs0 (cur':=[vI 0,vI 0,vI 0]) f_d z z (hf.e s4) z z z z) ?_
  rintro _ _ ⟨aq,ar⟩;refine Wn ?_;obtain rfl:=som<|ifT hmz hcm;exact Wr<|i_ hr (v_ g_74 f_d z aq z) ⟨bM (bup he s4) ar.one<|a_ lr,z,ii z,ii z,ii z⟩
 refine Wk<|Wm z<|E z (fa i_h) ?_
 rintro _ au ⟨rfl,a1⟩;have hg:=a1.below;have a2:Blk au a0.z [vI 0]:=a1.blk;refine E0 (fs0 (cur':=[vI x2]) z_3 z z a2 z z z z) ?_;rintro _ _ ⟨av,aw⟩;have L:=aw.one;refine Wn<|Ws ?_
 have hp:=lt_ he.s s4.s;have hq:∀k∈[a0.z],¬B k:=or0 (a_ lr)<|m_<|zt' J hp;have a3:=lt_ (lt_ hp hg.s) L.s;obtain ⟨rr,_,ax,ae⟩:=a_9<|ifF hmz hcm;refine E z (fc call56 z<|j_z (B:=B) ax av (zt' J a3) (atp hq) ad) ?_;rintro _ G ⟨s8,rfl,_,ay,az⟩;refine R z (c_5 z z (by decide))<|R z (add_ z z)<|R z (bP (parts:=[(0,.tmp 16)]) (cs:=[(vI<|j_ 1<|a_8 rr 3),vI 0,vI 0]) l_a z z)<|E z (fa l_k) ?_
 rintro _ aA ⟨rfl,a4⟩;have hh:=a4.below;refine E0 (fs0 (cur':=[(vI<|j_ 1<|a_8 rr 3),vI 0,vI 0]) f_d z z (a4.blk:Blk aA G.z [vI 0,vI 0,vI 0]) z z z z) ?_;rintro _ _ ⟨a5,aB⟩;have hi:=aB.one;refine Wn<|Ws ?_
 have O:=mm1 a2.lt<|lt_ L.s s8.s
 have a6:=lt_ a3 s8.s;have a7:=lt_ (lt_ a6 hh.s) hi.s;obtain ⟨I,_,aC,af⟩:=a_9 ae;refine E z (fc call56 z<|j_z (B:=B) aC ((az.e hh).c hi<|djs O) (zt' J a7) (atp hq) ay) ?_;rintro _ _ ⟨sa,rfl,ht,aD,aE⟩;refine Rw z<|Ws ?_
 obtain ⟨rb,_,aF,ah⟩:=a_9 af;refine E z (fc call56 z<|j_z (B:=B) aF aE (zt' J<|lt_ a7 sa.s) (atp hq) aD) ?_;rintro _ wj ⟨sk,rfl,a8,_,_⟩;refine Rw z<|Wq<|Wm z<|Rq z z z<|Wn ?_
 obtain ⟨aG,V,ai⟩:=bdS ah;refine Wt (λa w=>∃(x0:Int),x0=aG/\Sat 49 [(0,vI x1),(4,pt w0.z),(6,pt G.z),(7,vI I),(8,vI rb)] a/\Cg [G.z] wj w/\inI x0/\Blk w G.z [vI x0,vI 0,vI 0]) ?_ ?_
 .refine Wc z (λhcs=>?_)<|λhcs=>?_
  .refine Wg<|Rf z g_i z<|E0 (fs0 (cur':=[vI 2,vI 0,vI 0]) z_3 z z ((a5.c sa<|atp O).c sk<|atp O) z z z z) ?_
   rintro _ aH ⟨aI,aJ⟩;refine Wl ?_;exact λ_ q=>⟨2,som<|ifT V hcs,q.k<|s5 z z z z z,(cM (cr [G.z] wj) aJ.one (io sr):Cg [G.z] wj aH),ii z,aI⟩
  exact a_c<|λ_ q=>⟨j_ 1<|a_8 rr 3,som<|ifF V hcs,q.k<|s5 z z z z z,cr [G.z] wj,iA _ _,(a5.c sa<|atp O).c sk<|atp O⟩
 rintro aK H ⟨x0,rfl,_,a9,aL,hl⟩;revert aK;refine Wo<|Wq<|Ws<|Rf z g_i z<|R z (l0 g_3 z<|hl.at z)<|Wn<|Wb<|Ws<|Rq z z z<|Rw z ?_
 obtain ⟨aM,W,aj⟩:=bdS ai;refine Wt (λa w=>∃(x5:Int)(x6:Int),(x5,x6)=aM/\Sat 49 [(4,pt w0.z),(6,pt G.z)] a/\Cg [G.z] H w/\inI x5/\inI x6/\Blk w G.z [vI x0,vI x5,vI x6]) ?_ ?_
 .refine Wc z (λhcu=>?_)<|λhcu=>?_
  .refine Wm z<|Rm z ?_
   obtain ⟨_,aN,ak⟩:=bdS<|ifT W hcu;refine R z (c_5 z z<|nzS aN)<|Rf z d_k z<|E0 (fs0 (cur':=[vI x0,vI<|a_8 I x1,vI 0]) z_3 z z hl z z z z) ?_
   rintro _ aO ⟨aP,aQ⟩;refine Wn<|Wg<|Rm z<|R z (c_5 z z (by decide))<|Rf z f_c z<|E0 (fs0 (cur':=[vI x0,vI<|a_8 I x1,vI<|a_8 rb 256]) z_3 z z aP z z z z) ?_
   rintro _ aR ⟨aS,aT⟩;refine Wl ?_;exact λ_ q=>⟨a_8 I x1,a_8 rb 256,som ak,q.k<|s2 z z,(cM (cM (cr [G.z] H) aQ.one (io sr):Cg [G.z] H aO) aT.one (io sr):Cg [G.z] H aR),c_k ht,c_k a8,aS⟩
  refine Ws<|Rq z z z<|Rw z ?_
  obtain ⟨aU,Y,al⟩:=bdS<|ifF W hcu;refine Wt (λa w=>∃(xc:Int)(xd:Int),(xc,xd)=aU/\Sat 49 [(4,pt w0.z),(6,pt G.z)] a/\Cg [G.z] H w/\inI xc/\inI xd/\Blk w G.z [vI x0,vI xc,vI xd]) ?_ ?_
  .refine Wc z (λhcv=>?_)<|λhcv=>?_
   .refine Wm z<|Rm z<|R z (add_ z z) ?_
    obtain ⟨_,aV,am⟩:=bdS<|ifT Y hcv;refine R z (c_5 z z<|nzS aV)<|Rf z d_k z<|E0 (fs0 (cur':=[vI x0,vI<|a_8 I<|j_ x1 1,vI 0]) z_3 z z hl z z z z) ?_
    rintro _ aW ⟨aX,aY⟩;refine Wn<|Wg<|Rm z<|R z (c_5 z z (by decide))<|Rf z f_c z<|E0 (fs0 (cur':=[vI x0,vI<|a_8 I<|j_ x1 1,vI<|a_8 rb 256]) z_3 z z aX z z z z) ?_
    rintro _ aZ ⟨b0,b1⟩;refine Wl ?_;exact λ_ q=>⟨a_8 I<|j_ x1 1,a_8 rb 256,som am,q.k<|s2 z z,(cM (cM (cr [G.z] H) aY.one (io sr):Cg [G.z] H aW) b1.one (io sr):Cg [G.z] H aZ),c_k ht,c_k a8,b0⟩
   refine Wg<|RM z z ?_
   obtain ⟨_,b2,an⟩:=bdS<|ifF Y hcv;refine R z (c_5 z z<|nzS b2)<|Rf z d_k z<|E0 (fs0 (cur':=[vI x0,vI<|a_8 I x1,vI 0]) z_3 z z hl z z z z) ?_
   rintro _ b3 ⟨b4,b5⟩;refine Wl ?_;exact λ_ q=>⟨a_8 I x1,0,som an,q.k<|s2 z z,(cM (cr [G.z] H) b5.one (io sr):Cg [G.z] H b3),c_k ht,ii z,b4⟩
  rintro b6 b7 ⟨xc,xd,rfl,_,b8,b9,ba,bb⟩;revert b6;exact λ_ q=>⟨xc,xd,som<|a_A al,q.k<|s2 z z,(cM (cr [G.z] H) b8 (io sr):Cg [G.z] H b7),b9,ba,bb⟩
 rintro bc _ ⟨x5,x6,rfl,_,aa,be,bf,bg⟩;revert bc;refine Wo<|Ws<|R z (lN (vs:=[vI x0,vI x5,vI x6]) g_74 f_d z z fid<|bg.row 0 3 z) ?_
 have hn:=mm1 hf.lt s4.s;have hw:=mm1 hf.lt<|lt_ (lt_ (lt_ s4.s hg.s) L.s) s8.s
 refine E0 (fs0 (cur':=[vI x0,vI x5,vI x6]) f_d z z ((((((((((hf.e s4).e hg).c L<|djs hn).c s8<|djs hn).e hh).c hi<|djs hw).c sa<|djs hn).c sk<|djs hn).c a9<|djs hw).c aa<|djs hw) z z z z) ?_;rintro _ _ ⟨bh,bi⟩;refine Wn ?_;obtain rfl:=som<|a_A aj;have ho:=m1 hp;have hx:=m1 a6;exact Wr<|i_ hr (v_ g_74 f_d z bh z) ⟨bM (bM (bM (bM (bM (bM (bup (bM (bM (bup (bup he s4) hg) L ho) s8 ho) hh) hi hx) sa ho) sk ho) a9 hx) aa hx) bi.one<|a_ lr,z,aL,be,bf⟩
def Q14 (w0:World)(B:Zone)(r:Bt×Bool)(v:Value)(w':World):Prop:=Bw w0 w'/\un2 (λI J=>∃a1 G H S1,v = .tuple #[sl a1 G H,vB J]/\b_ w' S1 (sl a1 G H) I/\S1.Nodup/\(∀k∈S1,w0.z<=k)) r
theorem j_A {x1:Bt}{x2:Int}{x3:Int}{x4:Bt}{res:Bt×Bool}(hm:c_h x1 x2 x3 x4=some res)(W:B<=w0.z)(J:repS w0 B (sl A0 N0 C0) x1)(aF:inI x2)(aG:inI x3)(Y:repS w0 B (sl AD ND CD) x4):q_ prog 55 [sl A0 N0 C0,vI x2,vI x3,sl AD ND CD] w0 (Q14 w0 B res):=by
 unfold c_h at hm
 refine goG func55 z z z λfn hr=>Ws<|Ra z<|Rw z<|Wq<|Wq ?_
 obtain ⟨ur,hug,hmh⟩:=bdS hm;refine Wt (λa w=>∃(V:Bool),V=ur/\Sat 46 [(0,sl A0 N0 C0),(1,vI x2),(2,vI x3),(3,sl AD ND CD),(29,vB V)] a/\Below w0.z w0 w) ?_ ?_
 .refine Wg<|Rm z<|Rl z z z<|Rm z ?_
  rcases bs (decide<|x2<0) with I | I
  .exact Nh z I<|Nh z I<|R z (pT z I z)<|Rm z<|Nh z z<|Nh z z<|Nh z z<|Nh z z<|R z (pT z z z)<|Rm z<|Nh z z<|Nh z z<|Nh z z<|Nh z z<|Nh z z<|Nh z z<|R z (pT z z z)<|Wl (λ_ q=>⟨true,som<|ifT hug I,q.k<|s5 z z z z z,br w0⟩)
  have hmi:=ifF hug I;refine Rh z I (mv z)<|Rh z I (lss z z)<|R z (pF z I z)<|Rm z ?_
  rcases bs (decide<|x3<0) with H | H
  .iterate 4 refine Nh z H ?_
   exact R z (pT z H z)<|Rm z<|Nh z z<|Nh z z<|Nh z z<|Nh z z<|Nh z z<|Nh z z<|R z (pT z z z)<|Wl (λ_ q=>⟨true,som<|ifT hmi H,q.k<|s5 z z z z z,br w0⟩)
  have hmj:=ifF hmi H;refine Rh z H (mv z)<|Rh z H (mv z)<|Rh z H (lnR s_ z J)<|Rh z H (a_b z z)<|R z (pF z H z)<|Rm z ?_
  rcases bs (decide<|(x1.length:Int)<x3) with G | G
  .iterate 6 refine Nh z G ?_
   exact R z (pT z G z)<|Wl (λ_ q=>⟨true,som<|ifT hmj G,q.k<|s5 z z z z z,br w0⟩)
  exact Rh z G (mv z)<|Rh z G (mv z)<|Rh z G (lnR s_ z J)<|Rh z G (mv z)<|Rh z G (sb_ z z)<|Rh z G (a_b z z)<|R z (pF z G z)<|Wl (λ_ q=>⟨decide<|(J_ (x1.length:Int) x3)<x2,som<|ifF hmj G,q.k<|s5 z z z z z,br w0⟩)
 rintro az L ⟨V,rfl,_,s3⟩;revert az;refine Wo<|Wc z (λO=>?_) (λO=>?_)
 .refine Ws<|E z (f0 (α:=UInt8) H_) ?_
  rintro _ _ ⟨_,_,_,rfl,sa,a6⟩;refine Rm z ?_;obtain ⟨_,es,a0⟩:=bdS<|ifT hmh O;refine E z (fN (α:=UInt8) H_ es z z a6 a_p<|J.g<|(s3.ag B).e sa) ?_;rintro _ _ ⟨a7,a8,a9,aa,rfl,ab,ad,ae,af⟩;refine Ra z<|Rw z ?_
  obtain rfl:=som a0;have hl:=m1 s3.s;exact Wr<|a_e hr z z ⟨bM (bup s3 sa) ab hl,a8,a9,aa,a7,z,ad,ae,a_0 af hl<|lt_ s3.s sa.s⟩
 refine Wk<|Wq (Wd (X:=λk=>k∈([]:List Nat)∨L.z<=k) 0 (.rd 1<|.rd 2<|.rd 3<|.rd 5<|.rd 7<|.rd 8<|.rd 9<|.rd 10<|.rd 11<|.ef 0<|.ef 4<|.ef 6<|.ef 12<|.rd 13<|.rd 14 .done) mo (by kernel_rfl) λwk s6 _=>dM z z z<|dM z z z ?_)
 obtain ⟨_,ah,a1⟩:=bdS<|ifF hmh O;have hn:=(s3.ag B).e s6;have ho:=J.g hn;refine dRX z z (rX s_ z_5 z z ho z z ah) ?_;rintro _ ⟨_,_,_,rfl,ai⟩
 iterate 4 refine dM z z z ?_
 refine dR z z (add_ z z) ?_;obtain ⟨_,aj,a2⟩:=bdS a1;refine dRX z z (rX s_ z_5 z z ho z z aj) ?_;rintro _ ⟨_,_,_,rfl,ak⟩;refine dE z z (f0 (α:=UInt8) H_) (.inr λ_ _ h=>x_ (by obtain ⟨_,_,_,_,h,_⟩:=h;exact h)) ?_;rintro _ _ ⟨_,_,_,rfl,s4,al⟩;obtain ⟨_,am,a3⟩:=bdS a2;have hp:∀k∈[wk.z],k∈([]:List Nat)∨L.z<=k:=mor s6.s;refine dE z z (fN (α:=UInt8) H_ am z z al a_p<|ai.e s4) (.inr λ_ _ h=>by obtain ⟨_,_,_,_,_,h,_⟩:=h;exact h.mono λk _ hk=>hp k hk) ?_;rintro _ _ ⟨Sm,_,_,_,rfl,s7,an,ao,hb⟩;obtain ⟨_,ap,a4⟩:=bdS a3;have hc:=lt_ s3.s s6.s;have hd:∀k∈[wk.z],¬B k:=or0 (a_ lr)<|m_<|zt' W hc;have hq:=lt_ s6.s s4.s;have ht:∀k∈Sm,k∈([]:List Nat)∨L.z<=k:=or1 hb hp<|o_ hq;refine dE z z (fN (α:=UInt8) H_ ap z z an ao<|Y.g<|(hn.e s4).c s7<|c_ hd) (.inr λ_ _ h=>by obtain ⟨_,_,_,_,_,h,_⟩:=h;exact h.mono λk _ hk=>ht k hk) ?_;rintro _ _ ⟨aq,_,_,_,rfl,se,ar,au,hu⟩;obtain ⟨_,av,a5⟩:=bdS a4;have hf:=lt_ hc s4.s;refine dE z z (fN (α:=UInt8) H_ av z z ar au<|ak.g<|((s4.ag B).c s7<|c_ hd).c se<|c_ (or1 hb hd (m_<|zt' W hf):∀k∈Sm,¬B k)) (.inr λ_ _ h=>by obtain ⟨_,_,_,_,_,h,_⟩:=h;exact h.mono λk _ hk=>(or1 hu ht (o_<|lt_ hq s7.s):∀k∈aq,k∈([]:List Nat)∨L.z<=k) k hk) ?_;rintro _ _ ⟨aw,ax,ay,aA,rfl,aB,aC,aD,aE⟩;refine dQ z z z<|dQ z z z<|pD<|Wo ?_
 obtain rfl:=som a5;have hv:=m1 hc;have hw:=a_0 hb hv hf;have hx:=lt_ hf s7.s;have hy:=a_0 hu hw hx;exact Wr<|a_e hr z z ⟨bM (bM (bM (bup (bup s3 s6) s4) s7 hv) se hw) aB hy,ax,ay,aA,aw,z,aC,aD,a_0 aE hy<|lt_ hx se.s⟩
theorem W_w28 {x1:Bt}{x2:c_R}{res:Bt×Bool}(hm:f_7 x1 x2=some res)(I:B<=w0.z)(W:repS w0 B (sl A0 N0 C0) x1)(bf:inI x2.kind)(Y:inI x2.at_)(ap:inI x2.byte):q_ prog 40 [sl A0 N0 C0,(.agg #[vI x2.kind,vI x2.at_,vI x2.byte])] w0 (Q14 w0 B res):=by
 unfold f_7 at hm
 refine goG func40 z z z λfn hr=>Ws<|E z (fb z) ?_
 rintro _ wa ⟨rfl,hw⟩;have G:=hw.below;have V:Blk wa w0.z [vI x2.kind,vI x2.at_,vI x2.byte]:=hw.blk;refine Ra z<|Rw z<|Ws<|E z (f0 (α:=UInt8) H_) ?_
 rintro _ _ ⟨_,_,_,rfl,s3,ay⟩;refine Rm z ?_;obtain ⟨_,az,aq⟩:=bdS hm;have hb:=(G.ag B).e s3;refine E z (fN (α:=UInt8) H_ az z z ay a_p<|W.g hb) ?_;rintro _ wx ⟨Sy,af,ng,ch,rfl,s1,hz,a8,a9⟩;refine Rw z<|Wq<|Wq ?_
 obtain ⟨aA,ar,a0⟩:=bdS aq;refine Wt (λa w=>∃(xk:Bool),xk=aA/\Sat 82 [(0,sl A0 N0 C0),(3,pt w0.z),(6,sl af ng ch),(21,vB xk)] a/\Below wx.z wx w) ?_ ?_
 .refine Wg<|Rf z f_c z ?_
  have aa:=(V.e s3).c s1<|djs<|mmr V.lt
  refine R z (l0 g_3 z<|aa.at z) ?_;have ab:=lt_ (lt_ G.s s3.s) s1.s;obtain ⟨aB,aC,a1⟩:=bdS ar;refine E z (fc call54 z<|b_j aC (zt' I ab) ap (ii z)<|ii z) ?_;rintro _ _ ⟨si,rfl⟩;refine R z (not_ z)<|Rm z ?_
  rcases bs (!aB) with H | H
  .iterate 6 refine Nh z H ?_
   exact R z (pT z H z)<|Wl (λ_ q=>⟨true,som<|ifT a1 H,q.k<|s4 z z z z,si⟩)
  refine Rh z H (fd d_k z)<|Rh z H (l0 g_3 z<|(aa.e si).at z)<|Rh z H (mv z) ?_
  have ad:=W.g<|(hb.c s1<|c_ (or0 (a_ lr) (m_<|zt' I G.s):∀k∈[wa.z],¬B k)).e si
  refine Rh z H (lnR s_ z ad) ?_;obtain ⟨aD,aE,au⟩:=bdS<|ifF a1 H;refine Eg z z H z (fc call54 z<|b_j aE (zt' I<|lt_ ab si.s) Y (ii z)<|b_2<|repS.len ad) ?_;rintro _ _ ⟨aF,rfl⟩;exact Rh z H (not_ z)<|R z (pF z H z)<|Wl (λ_ q=>⟨!aD,som au,q.k<|s4 z z z z,bup si aF⟩)
 rintro aG wj ⟨xk,rfl,_,s2⟩;revert aG;refine Wo<|Wc z (λhcl=>?_) (λhcl=>?_)
 .refine Wm z<|Ra z<|Rw z ?_
  obtain rfl:=som<|ifT a0 hcl;have ae:=m1 G.s;exact Wr<|a_e hr z z ⟨bup (bM (bup G s3) s1 ae) s2,af,ng,ch,Sy,z,hz.e s2,a8,a_0 a9 ae<|lt_ G.s s3.s⟩
 refine Wk<|Wq<|Wb<|Wq ?_
 obtain ⟨aH,a2,a3⟩:=bdS<|ifF a0 hcl;refine Wt (λa w=>∃(xm:Bool),xm=aH/\Sat 82 [(0,sl A0 N0 C0),(3,pt w0.z),(6,sl af ng ch),(23,vB xm)] a/\Below wj.z wj w) ?_ ?_
 .refine Wg<|Rf z g_i z ?_
  have ah:=((V.e s3).c s1<|djs<|mmr V.lt).e s2;refine R z (l0 g_3 z<|ah.at z)<|Rq z z z<|Rm z ?_
  rcases bs (x2.kind==1) with J | J
  .refine Rh z J (fd d_k z)<|Rh z J (l0 g_3 z<|ah.at z)<|Rh z J (mv z) ?_
   exact Rh z J (lnR s_ z<|W.g<|(hb.c s1<|c_ (or0 (a_ lr) (m_<|zt' I G.s):∀k∈[wa.z],¬B k)).e s2)<|Rh z J (lss z z)<|R z (pT z J z)<|Ra z<|Wl (λ_ q=>⟨decide<|x2.at_<(x1.length:Int),som<|ifT a2 J,q.k<|s4 z z z z,br wj⟩)
  iterate 5 refine Nh z J ?_
  exact R z (pF z J z)<|Ra z<|Wl (λ_ q=>⟨false,som<|ifF a2 J,q.k<|s4 z z z z,br wj⟩)
 rintro aI wc ⟨xm,rfl,_,s5⟩;revert aI;refine Wo<|Wc z (λhcn=>?_) (λhcn=>?_)
 .refine Wm z<|Rf z d_k z ?_
  have ai:=(((V.e s3).c s1<|djs<|mmr V.lt).e s2).e s5;refine R z (l0 g_3 z<|ai.at z)<|Rf z f_c z<|R z (l0 g_3 z<|ai.at z)<|R z (b_G d_3 d_5 z)<|E z (fS [(.tmp 39)] H_ z z z (S_ z) (lb z)<|lb z) ?_
  rintro _ aj ⟨rfl,ho⟩;have hp:=ho.below;have bg:Blk aj wc.z [(vU<|byteI<|mkB x2.byte)]:=ho.blk;have ak:=lt_ (lt_ (lt_ (lt_ (lt_ G.s s3.s) s1.s) s2.s) s5.s) hp.s;obtain ⟨_,_,aJ,av⟩:=a_9<|ifT a3 hcn;refine E z (fc call55 z<|j_A (B:=aj.z) aJ zr (repS.mono (W.g<|(((hb.c s1<|c_ (or0 (a_ lr) (m_<|zt' I G.s):∀k∈[wa.z],¬B k)).e s2).e s5).e hp)<|zt' I ak) Y (ii z)<|b_.rep<|a_d ho a_t) ?_;rintro _ _ ⟨aK,aL,aM,aN,aO,rfl,aP,aQ,aR⟩;refine Re z z z<|Re z z z<|Ra z<|Rw z ?_
  obtain rfl:=som av;exact Wr<|rtO<|a_e hr z z ⟨bup (bup (bup (bup (bM (bup G s3) s1<|m1 G.s) s2) s5) hp) aK,aL,aM,aN,aO,z,aP,aQ,p_ aR ak⟩
 have a4:=ifF a3 hcn;refine Ws<|Rf z g_i z ?_
 have hd:=(((V.e s3).c s1<|djs<|mmr V.lt).e s2).e s5;refine R z (l0 g_3 z<|hd.at z)<|Rq z z z<|Rw z<|Wc z (λhcq=>?_) (λhcq=>?_)
 .refine Wm z<|Rf z d_k z<|R z (l0 g_3 z<|hd.at z)<|Rf z f_c z<|R z (l0 g_3 z<|hd.at z)<|R z (b_G d_3 d_5 z)<|E z (fS [(.tmp 53)] H_ z z z (S_ z) (lb z)<|lb z) ?_
  rintro _ al ⟨rfl,ht⟩;have hu:=ht.below;have bh:Blk al wc.z [(vU<|byteI<|mkB x2.byte)]:=ht.blk;have am:=lt_ (lt_ (lt_ (lt_ (lt_ G.s s3.s) s1.s) s2.s) s5.s) hu.s;obtain ⟨_,_,aS,aw⟩:=a_9<|ifT a4 hcq;refine E z (fc call55 z<|j_A (B:=al.z) aS zr (repS.mono (W.g<|(((hb.c s1<|c_ (or0 (a_ lr) (m_<|zt' I G.s):∀k∈[wa.z],¬B k)).e s2).e s5).e hu)<|zt' I am) Y (ii z)<|b_.rep<|a_d ht a_t) ?_;rintro _ _ ⟨aT,aU,aV,aW,aX,rfl,aY,aZ,b0⟩;refine Re z z z<|Re z z z<|Ra z<|Rw z ?_
  obtain rfl:=som aw;exact Wr<|rtO<|a_e hr z z ⟨bup (bup (bup (bup (bM (bup G s3) s1<|m1 G.s) s2) s5) hu) aT,aU,aV,aW,aX,z,aY,aZ,p_ b0 am⟩
 refine Wq ?_;obtain ⟨b1,a5,a6⟩:=bdS<|ifF a4 hcq;refine Wt (λa w=>∃(xr:Bool),xr=b1/\Sat 82 [(0,sl A0 N0 C0),(3,pt w0.z),(6,sl af ng ch),(58,vB xr)] a/\Below wc.z wc w) ?_ ?_
 .refine Wg<|Rf z g_i z<|R z (l0 g_3 z<|hd.at z)<|Rq z z z<|Rm z ?_
  rcases bs (x2.kind==3) with L | L
  .have a7:=ifT a5 L;refine Rh z L (fd d_k z)<|Rh z L (l0 g_3 z<|hd.at z)<|Rh z L (mv z) ?_
   refine Rh z L (lnR s_ z<|W.g<|((hb.c s1<|c_ (or0 (a_ lr) (m_<|zt' I G.s):∀k∈[wa.z],¬B k)).e s2).e s5)<|Rh z L (lss z z)<|R z (pT z L z)<|Rm z ?_
   rcases bs (decide<|x2.at_<(x1.length:Int)) with O | O
   .exact Rh z O (fd f_c z)<|Rh z O (l0 g_3 z<|hd.at z)<|Rh z O (eql z z)<|R z (pT z O z)<|Ra z<|Wl (λ_ q=>⟨x2.byte==0,som<|ifT a7 O,q.k<|s4 z z z z,br wc⟩)
   iterate 3 refine Nh z O ?_
   exact R z (pF z O z)<|Ra z<|Wl (λ_ q=>⟨false,som<|ifF a7 O,q.k<|s4 z z z z,br wc⟩)
  iterate 5 refine Nh z L ?_
  exact R z (pF z L z)<|Rm z<|Nh z z<|Nh z z<|Nh z z<|R z (pF z z z)<|Ra z<|Wl (λ_ q=>⟨false,som<|ifF a5 L,q.k<|s4 z z z z,br wc⟩)
 rintro b2 _ ⟨xr,rfl,_,se⟩;revert b2;refine Wo<|Wc z (λhcs=>?_) (λhcs=>?_)
 .refine Wm z<|Rf z d_k z<|R z (l0 g_3 z<|(hd.e se).at z)<|E z (f0 (α:=UInt8) H_) ?_
  rintro _ b3 ⟨_,_,_,rfl,sv,b4⟩;have an:=lt_ (lt_ (lt_ (lt_ (lt_ (lt_ G.s s3.s) s1.s) s2.s) s5.s) se.s) sv.s;obtain ⟨_,_,b5,ax⟩:=a_9<|ifT a6 hcs;refine E z (fc call55 z<|j_A (B:=b3.z) b5 zr (repS.mono (W.g<|((((hb.c s1<|c_ (or0 (a_ lr) (m_<|zt' I G.s):∀k∈[wa.z],¬B k)).e s2).e s5).e se).e sv)<|zt' I an) Y (ii z)<|b_.rep b4) ?_;rintro _ _ ⟨b6,b7,b8,b9,ba,rfl,bb,bc,be⟩;refine Re z z z<|Re z z z<|Ra z<|Rw z ?_
  obtain rfl:=som ax;exact Wr<|rtO<|a_e hr z z ⟨bup (bup (bup (bup (bup (bM (bup G s3) s1<|m1 G.s) s2) s5) se) sv) b6,b7,b8,b9,ba,z,bb,bc,p_ be an⟩
 refine Wk<|Wm z<|Ra z<|Rw z ?_
 obtain rfl:=som<|ifF a6 hcs;have ao:=m1 G.s;exact Wr<|a_e hr z z ⟨bup (bup (bup (bM (bup G s3) s1 ao) s2) s5) se,af,ng,ch,Sy,z,((hz.e s2).e s5).e se,a8,a_0 a9 ao<|lt_ G.s s3.s⟩
theorem W_w29 {x1:Bt}{x2:Int}{x3:Int}{res:Bt}(hm:g_c n x1 x2 x3=some res)(Y:B<=w0.z)(W:repS w0 B (sl A0 N0 C0) x1)(aw:inI x2)(ax:inI x3):q_ prog 18 [sl A0 N0 C0,vI x2,vI x3] w0 (Q11 w0 B res):=by
 unfold g_c at hm
 refine goG func18 z z z λfn hr=>Ws<|Rw z<|Ws<|E z (f0 (α:=UInt8) H_) ?_
 rintro _ _ ⟨_,_,_,rfl,sa,ht⟩;refine Rm z ?_;obtain ⟨_,es,hmu⟩:=bdS hm;refine E z (fN (α:=UInt8) H_ es z z ht a_p<|W.e sa) ?_;rintro _ O ⟨Sb,av,nw,cx,rfl,sf,hy,hz,a9⟩;refine Rw z<|Wq<|Ws<|Rw z ?_
 obtain ⟨_,a0,hmm⟩:=bdS hmu;refine c_0 (σ:=Bt×Int) (ρ:=Bt) (λs a w=>un2 (λxd x4=>∃a1 H I G,Sat 41 [(0,sl A0 N0 C0),(1,vI x2),(2,vI x3),(7,sl a1 H I),(8,vI x4)] a/\Below O.z O w/\b_ w G (sl a1 H I) xd/\G.Nodup/\(∀k∈G,k∈Sb∨O.z<=k)/\inI x4) s) (λs a w=>un2 (λxd x4=>∃a1 H I G,Sat 41 [(7,sl a1 H I)] a/\Below O.z O w/\b_ w G (sl a1 H I) xd/\G.Nodup/\(∀k∈G,k∈Sb∨O.z<=k)/\inI x4) s) (rQ prog fn<|Q11 w0 B) a0 ?_ ?_ ?_ ?_
 .exact λ_ q=>⟨av,nw,cx,Sb,q.k<|s5 z z z z z,br O,hy,hz,io sr,ii z⟩
 .rintro ⟨xd,x4⟩ _ wc _ ⟨a1,H,I,G,a2,se,V,hh,hi,hn⟩ a3;refine Wu ?_ a2;refine Wq<|Wq ?_
  obtain ⟨aa,huo,hmp⟩:=bdS<|a_A a3;refine Wt (λa w=>∃(xj:Bool),xj=aa/\Sat 41 [(0,sl A0 N0 C0),(1,vI x2),(2,vI x3),(7,sl a1 H I),(8,vI x4),(25,vB xj)] a/\Below wc.z wc w) ?_ ?_
  .refine Wg<|RM z z<|Rl z z z<|Rm z ?_
   rcases bs (decide<|x4<x3) with J | J
   .have hmq:=ifT huo J;refine Rh z J (mv z)<|Rh z J (lss z z)<|R z (pT z J z)<|Rm z ?_
    rcases bs (decide<|x4<20) with L | L
    .refine Rh z L (mv z) ?_;exact Rh z L (lnR s_ z<|W.g<|((sa.ag B).c sf<|c_ (or0 (a_ lr) (m_ Y):∀k∈[w0.z],¬B k)).e se)<|Rh z L (c_F z z)<|R z (pT z L z)<|Wl (λ_ q=>⟨decide<|(x1.length:Int)<=380,som<|ifT hmq L,q.k<|s6 z z z z z z,br wc⟩)
    iterate 3 refine Nh z L ?_
    exact R z (pF z L z)<|Wl (λ_ q=>⟨false,som<|ifF hmq L,q.k<|s6 z z z z z z,br wc⟩)
   exact Nh z J<|Nh z J<|R z (pF z J z)<|Rm z<|Nh z z<|Nh z z<|Nh z z<|R z (pF z z z)<|Wl (λ_ q=>⟨false,som<|ifF huo J,q.k<|s6 z z z z z z,br wc⟩)
  rintro ab _ ⟨xj,rfl,_,s9⟩;revert ab;refine Wo<|Wc z (λhck=>?_) (λhck=>?_)
  .refine Wk<|Wq<|Wb<|Wm z<|Rm z ?_
   have hl:=V.e s9;refine R z (lnR s_ z<|or_ hl<|b_.lt V)<|RM z z<|R z (add_ z z) ?_
   obtain ⟨_,ad,a4⟩:=bdS<|ifT hmp hck;refine E z (fc call41 z<|W_w27 ad (zt' Y<|lt_ (lt_ (lt_ sa.s sf.s) se.s) s9.s) (b_2<|repS.len<|or_ hl<|b_.lt V)<|iA _ _) ?_;rintro _ _ ⟨sg,rfl,ae,af,ah⟩;obtain ⟨ai,_,aj,a5⟩:=a_9 a4;refine E z (fc call40 z<|W_w28 (B:=wc.z) aj (b_a<|lt_ s9.s sg.s) (or_ (hl.e sg)<|b_.lt V) ae af ah) ?_;rintro _ _ ⟨ak,al,am,an,Sr,rfl,ao,ap,aq⟩;refine Rm z<|Re z z z<|Re z z z<|Ra z<|Rw z<|Wg<|Rm z<|Rw z<|Wg<|Rm z<|R z (add_ z z)<|Ra z<|Wl ?_
   exact λ_ q=>⟨(ai,j_ x4 1),(som a5).symm,⟨al,am,an,Sr,q.k<|s5 z z z z z,bup (bup (bup se s9) sg) ak,ao,ap,(or0 aq (o_<|lt_ (lt_ se.s s9.s) sg.s):∀k∈Sr,k∈Sb∨O.z<=k),iA _ _⟩⟩
  exact We<|λ_ q=>b_n (som<|ifF hmp hck).symm ⟨a1,H,I,G,q.k<|s1 z,bup se s9,V.e s9,hh,(or1 hi (io sr) (o_ lr):∀k∈G,k∈Sb∨O.z<=k),hn⟩
 .rintro ⟨xd,x4⟩ ar _ rfl ⟨a1,H,I,G,_,au,V,hh,hi,hn⟩;have a6:=elL hmm;revert ar;refine Wo<|Wm z<|Rw z ?_
  obtain rfl:=som<|a_A a6;exact Wr<|i_ hr z ⟨bup (bM sa sf<|a_ lr) au,a1,H,I,G,z,V,hh,a_0 hi (or1 a9 (a_ lr) (b_6 sa.s):∀k∈Sb,w0.z<=k)<|lt_ sa.s sf.s⟩
 rintro _ _ _ _ rfl ⟨rfl,a7⟩;have a8:=elR hmm;obtain rfl:=som a8;exact ⟨a7,z⟩
def Q15 (w0:World)(B:Zone)(r:g_×Bt)(v:Value)(w':World):Prop:=Bw w0 w'/\un2 (λL O=>∃a1 G H S1 a2 I J S2,v = .tuple #[(.agg #[.slice a1 G H]),sl a2 I J]/\b_ w' S1 (sl a1 G H) L.rules/\b_ w' S2 (sl a2 I J) O/\(S1++S2).Nodup/\(∀k∈(S1++S2),w0.z<=k)) r
theorem W_w2a {x1:Bt}{res:g_×Bt}(hm:g_d n x1=some res)(a0:B<=w0.z)(bD:repS w0 B (sl A0 N0 C0) x1):q_ prog 5 [sl A0 N0 C0] w0 (Q15 w0 B res):=by
 unfold g_d at hm
 refine goG func5 z z z λfn hr=>Ws<|E z (fa c_8) ?_
 rintro _ bV ⟨rfl,aL⟩;have a5:=aL.below;have hy:Blk bV w0.z [sN]:=aL.blk;refine Rw z<|Wm z ?_
 have aM:=zt' a0 a5.s;obtain ⟨_,bW,bE⟩:=bdS hm;refine E z (fc call12 z<|W_w18 (B:=B) bW aM<|bD.e a5) ?_;rintro _ a6 ⟨a7,G,aN,aO,aP,rfl,hj,ap,hz,bX,bY⟩;refine Rw z<|Wm z ?_
 have ha:∀k∈[G],¬B k:=or0 (a_ ap)<|m_ aM;have aq:=lt_ a5.s a7.s;have ar:=zt' a0 aq;obtain ⟨_,_,_,bZ,bF⟩:=r_ bE;refine E z (fc call13 z<|j_u (B:=B) bZ hj ar (atp ha) hz bX bY) ?_;rintro _ J ⟨ss,aQ,aR,aS,H,rfl,au,c0,c1,c2,c3,ho⟩;refine E z (fa c_8) ?_;rintro _ c4 ⟨rfl,aT⟩;have hp:=aT.below;have h3:Blk c4 J.z [sN]:=aT.blk;refine E0 (fs0 (cur':=[sl aQ aR aS]) w_ z z h3 z z z z) ?_;rintro _ _ ⟨c5,c6⟩;have hg:=c6.one;refine Wn<|Wq<|Wm z ?_
 have av:=lt_ aq ss.s;have aw:∀k∈[J.z],¬B k:=or0 (a_ lr)<|m_<|zt' a0 av;have ax:=((ss.agc B<|c_ ha).e hp).c hg<|c_ aw
 have hd:=mm1 (Blk.lt hj) ss.s;have ay:=lt_ (lt_ av hp.s) hg.s;obtain ⟨_,_,_,c7,bG⟩:=r_ bF;refine E z (fc call14 z<|a_B (B:=B) c7 ((c2.e hp).c hg<|djs hd) (zt' a0 ay) (atp ha) (hz.g ax) c0 c1<|ii z) ?_;rintro _ I ⟨sb,rfl,_,c9,ca,cb⟩;refine R z (add_ z z)<|Rw z ?_
 obtain ⟨_,bH,aJ⟩:=bdS bG;refine c_0 (σ:=Int×Int×Int×(List d_)) (ρ:=g_×Bt) (λs a w=>un4 (λxu xv xw xr=>∃O V W L,Sat 47 [(2,pt w0.z),(4,pt G),(5,pt J.z),(6,vI xu)] a/\Chg (· ∈ ([G]++(H++[J.z]))) I w/\inI xu/\inI xv/\inI xw/\b_ w L (sl O V W) xr/\L.Nodup/\(∀k∈L,k∈H∨I.z<=k)/\Blk w G [sl aN aO aP,vI xv,vI xw]/\Blk w J.z [sl O V W]) s) (λs a w=>un4 (λxu xv xw xr=>∃O V W L,Sat 47 [(2,pt w0.z),(4,pt G),(5,pt J.z)] a/\Chg (· ∈ ([G]++(H++[J.z]))) I w/\inI xu/\inI xv/\inI xw/\b_ w L (sl O V W) xr/\L.Nodup/\(∀k∈L,k∈H∨I.z<=k)/\Blk w G [sl aN aO aP,vI xv,vI xw]/\Blk w J.z [sl O V W]) s) (rQ prog fn<|Q15 w0 B) bH ?_ ?_ ?_ ?_
 .exact λ_ q=>⟨aQ,aR,aS,H,q.k<|s4 z z z z,cr ([G]++(H++[J.z])) I,iA _ _,c9,ca,((au.e hp).c hg<|ds<|mnr<|b_.lt au).c sb<|l_ ho (Blk.lt hj) lr,c3,io sr,cb,c5.c sb<|atp hd⟩
 .rintro ⟨xu,xv,xw,xr⟩ _ a8 _ ⟨O,V,W,L,bI,a1,aU,af,ah,Y,ai,hh,aj,ak⟩ bJ;have aK:=c_m bJ;refine Wu ?_ bI;refine Wq<|Wm z<|R z (a_b z z)<|Wx z (λao=>?_) (λao=>?_)
  .refine Wk<|Wq<|Wb (Wd (X:=λk=>k∈[G]∨a8.z<=k) 320 (pl_ 9 [4,5,6,8]) mo (by kernel_rfl) λcc sc _=>dR z z (fd T_ z) ?_)
   have az:=ak.e sc;have aV:=lt_ hg.s sb.s;have aA:=lt_ aV a1.s;refine dR z z (l1 V_ z (a_3 (atp hd)<|Nat.lt_of_lt_of_le h3.lt aA)<|az.at z)<|dM z z z<|dR z z (lN (vs:=[sl O V W]) B_ w_ z z (a_3 (atp hd)<|Nat.lt_of_lt_of_le h3.lt aA)<|az.row 0 1 z) ?_
   have aW:=lt_ (lt_ (lt_ ss.s hp.s) hg.s) sb.s;have aX:=Y.e sc;obtain ⟨aY,cd,ce,cf,bK⟩:=r_<|ifT aK ao;refine dE z z (fc call15 z<|j_t (B:=zn B a6.z a8.z) (x2:=(⟨xr⟩:g_)) cf (aj.e sc) (a_P (zt' a0<|lt_ (lt_ (lt_ ay sb.s) a1.s) sc.s) sc.s) (atp ((b_7 ha (a_<|Blk.lt hj) lr):∀k∈[G],¬(zn B a6.z a8.z) k)) (repS.mono (hz.g<|((ax.c sb<|c_ ha).c a1<|nmA (c_ ha)<|nmA (c_ (or0 ho (m_ ar):∀k∈H,¬B k))<|c_ aw).e sc) a_r) af ah (or_ aX<|zin (B:=B) (a_0 hh ho aW)<|b_.lt Y)<|ii z) (.inr λ_ _ h=>h.1.mono λk _ hk=>(io sr) k hk) ?_;rintro _ aZ ⟨a9,cg,ch,ci,b0,cj,ck,cl,b1,cm,cn,co,b2,cp,cq,ct,b3,rfl,cu,cv,cw,cx,cy,cz,cA,cB,cC,cD,hl,he⟩;refine dE z z (fS [(.tmp 23)] f_9 z z z (S_ z) (lb z)<|lb z) (.inr λ_ _ h=>x_<|h.2.below) ?_;rintro _ b4 ⟨rfl,b5⟩;have hn:=b5.below;have b6:∀k∈L,k∉[G]:=or1 hh (l_ ho (Blk.lt hj) lr)<|k_ (a_<|Blk.lt hj) aW;obtain ⟨cE,cF,bL⟩:=bdS bK;refine dE z z (a_i (α:=d_) f_9 cF z z ((aX.c a9 b6).e hn) ai (b5.blk:Blk b4 aZ.z (vR aY cg ch ci cj ck cl cm cn co cp cq ct)) (b_g (x:=aY) (S1:=b0) (S2:=b1) (S3:=b2) (S4:=b3) cu cv cw (cx.e hn) (cy.e hn) (cz.e hn)<|cA.e hn) (aa_ (b_F (al_ he) (b_.lt Y) sc.s)<|aa_ (b_F (al_<|ar_ he) (b_.lt Y) sc.s)<|aa_ (b_F (al_<|ar_<|ar_ he) (b_.lt Y) sc.s)<|b_F (ar_<|ar_<|ar_ he) (b_.lt Y) sc.s)<|na_ (nl_ hl) (na_ (nl_<|nr_ hl) (na_ (nl_<|nr_<|nr_ hl) (nr_<|nr_<|nr_ hl)<|nj<|nr_<|nr_ hl)<|nmA (nmL<|nj<|nr_ hl)<|nmR<|nj<|nr_ hl)<|nmA (nmL<|nj hl)<|nmA (nmL<|nmR<|nj hl)<|nmR<|nmR<|nj hl) (.inl z) ?_;rintro _ cG ⟨aB,b7,b8,b9,rfl,aC,cH,cI,ba⟩;refine dR z z (fd T_ z) ?_;have bb:∀k∈L,k∉[J.z]:=or1 hh (ds<|mnr<|b_.lt au)<|k_ (a_ h3.lt) aV;refine dE0 z (fs0 (cur':=[sl b7 b8 b9]) z_24 z z (((az.c a9<|atp hd).e hn).c aC<|djs bb) z z z z) (.inl z) ?_;rintro _ cJ ⟨cK,cL⟩;have aD:=cL.one;refine pD<|Wo<|Wg<|Rm z<|R z (sb_ z z)<|Ra z<|Wl ?_
   have aa:=lt_ aA sc.s;have ab:=lt_ a1.s sc.s;exact λ_ q=>⟨(J_ xu 1,cd,ce,cE),(som bL).symm,⟨b7,b8,b9,aB,q.k<|s4 z z z z,(cM (cM (e_ (cM (e_ (cM (cr ([G]++(H++[J.z])) I) a1 (aa_ (io<|h_ sr)<|aa_ (io<|f_<|h_ sr)<|io<|f_<|f_ sr):Chg (· ∈ ([G]++(H++[J.z]))) I a8) sc:Chg (· ∈ ([G]++(H++[J.z]))) I cc) a9 (io<|h_ sr):Chg (· ∈ ([G]++(H++[J.z]))) I aZ) hn:Chg (· ∈ ([G]++(H++[J.z]))) I b4) aC (or1 hh (io<|f_<|h_ sr) (o_ lr):∀k∈L,k∈([G]++(H++[J.z]))∨I.z<=k):Chg (· ∈ ([G]++(H++[J.z]))) I cG) aD (io<|f_<|f_ sr):Chg (· ∈ ([G]++(H++[J.z]))) I cJ),iS _ _,cB,cC,cH.c aD (or2 ba bb (aa_ (l_ (al_ he) h3.lt aa)<|aa_ (l_ (al_<|ar_ he) h3.lt aa)<|aa_ (l_ (al_<|ar_<|ar_ he) h3.lt aa)<|l_ (ar_<|ar_<|ar_ he) h3.lt aa) (k_ (a_ h3.lt)<|lt_ (lt_ aa a9.s) hn.s):∀k∈aB,k∉[J.z]),cI,(or2 ba (or1 hh (io sr) (o_ lr):∀k∈L,k∈H∨I.z<=k) (aa_ (or0 (al_ he) (o_ ab):∀k∈b0,k∈H∨I.z<=k)<|aa_ (or0 (al_<|ar_ he) (o_ ab):∀k∈b1,k∈H∨I.z<=k)<|aa_ (or0 (al_<|ar_<|ar_ he) (o_ ab):∀k∈b2,k∈H∨I.z<=k) (or0 (ar_<|ar_<|ar_ he) (o_ ab):∀k∈b3,k∈H∨I.z<=k)) (o_<|lt_ (lt_ ab a9.s) hn.s):∀k∈aB,k∈H∨I.z<=k),((cD.e hn).c aC<|djs b6).c aD<|djs hd,cK⟩⟩
  exact We<|λ_ q=>b_n (som<|ifF aK ao).symm ⟨O,V,W,L,q.k<|s3 z z z,(cM (cr ([G]++(H++[J.z])) I) a1 (aa_ (io<|h_ sr)<|aa_ (io<|f_<|h_ sr)<|io<|f_<|f_ sr):Chg (· ∈ ([G]++(H++[J.z]))) I a8),aU,af,ah,Y,ai,(or1 hh (io sr) (o_ lr):∀k∈L,k∈H∨I.z<=k),aj,ak⟩
 .rintro ⟨xu,xv,xw,xr⟩ cN al rfl ⟨O,V,W,L,_,sx,aU,af,ah,Y,ai,hh,aj,ak⟩;have bN:=elL aJ;revert cN;refine Wo<|Wq (Wd (X:=λk=>k∈[G]∨al.z<=k) 0 (pl_ 14 [11,12]) mo (by kernel_rfl) λcO sf _=>?_)
  have ad:=ak.e sf;have ae:=lt_ (lt_ hg.s sb.s) sx.s;refine dR z z (lN (vs:=[sl O V W]) B_ w_ z z (a_3 (atp hd)<|Nat.lt_of_lt_of_le h3.lt ae)<|ad.row 0 1 z)<|dR z z (fd T_ z)<|dR z z (l1 V_ z (a_3 (atp hd)<|Nat.lt_of_lt_of_le h3.lt ae)<|ad.at z) ?_
  have aE:=lt_ (lt_ (lt_ ss.s hp.s) hg.s) sb.s;have am:=a_0 hh ho aE;have an:=Y.e sf;refine dR z z (lnR N_ z<|or_ an<|zin (B:=B) am<|b_.lt Y)<|dR z z (sb_ z z)<|dM z z z<|dR z z (lN (vs:=[sl O V W]) B_ w_ z z (a_3 (atp hd)<|Nat.lt_of_lt_of_le h3.lt ae)<|ad.row 0 1 z)<|dR z z (fd T_ z)<|dR z z (l1 V_ z (a_3 (atp hd)<|Nat.lt_of_lt_of_le h3.lt ae)<|ad.at z)<|dR z z (lnR N_ z<|or_ an<|zin (B:=B) am<|b_.lt Y)<|dR z z (sb_ z z) ?_
  have bc:=((ax.c sb<|c_ ha).c sx<|nmA (c_ ha)<|nmA (c_ (or0 ho (m_ ar):∀k∈H,¬B k))<|c_ aw).e sf;have be:=lt_ ay sb.s;have bf:=lt_ (lt_ be sx.s) sf.s;obtain ⟨_,_,_,cP,bO⟩:=r_<|c_m bN;refine dE z z (fc call17 z<|W_w0b.run (B:=zn B a6.z al.z) (x2:=(⟨xr⟩:g_)) cP (aj.e sf) (a_P (zt' a0 bf) sf.s) (atp ((b_7 ha (a_<|Blk.lt hj) lr):∀k∈[G],¬(zn B a6.z al.z) k)) (repS.mono (hz.g bc) a_r) af ah (or_ an<|zin (B:=B) am<|b_.lt Y) (iS _ _)<|ii z) (.inr λ_ _ h=>h.1.mono λk _ hk=>(io sr) k hk) ?_;rintro _ bg ⟨sk,_,_,_,_,_,_,_,_,rfl,cQ,bh,bi,cR,cS,cT,_,bj⟩;have aF:∀k∈L,k∉[G]:=or1 hh (l_ ho (Blk.lt hj) lr)<|k_ (a_<|Blk.lt hj) aE;have bk:=an.c sk aF;have bm:=lt_ bf sk.s;have bn:=lt_ sf.s sk.s;obtain ⟨_,cU,bP⟩:=bdS bO;refine dE z z (fc call16 z<|W_w0c.run (B:=zn (zn B a6.z al.z) cO.z bg.z) (x1:=(⟨xr⟩:g_)) cU (a_P (a_P (zt' a0 bm) bn) lr) (repS.mono (or_ bk<|zin (B:=B) am<|b_.lt Y)<|zns (zt a_r<|a_r)<|znD<|znI lr lr) (iS _ _) cQ (repS.mono (or_ bh<|zin (B:=B) (al_ bj)<|b_.lt bh)<|zns (zt a_r<|a_r)<|znI lr lr)<|repS.mono (or_ bi<|zin (B:=B) (ar_ bj)<|b_.lt bi)<|zns (zt a_r<|a_r)<|znI lr lr) (.inr λ_ _ h=>x_<|h.1) ?_;rintro _ bo ⟨sm,_,_,_,_,rfl,bp,_,bq⟩;refine dQ z z z<|pD<|Wo<|Wq (Wd (X:=λk=>k∈[G]∨bo.z<=k) 128 (.rd 0<|.rd 1<|.rd 2<|.rd 4<|.ef 3<|.ef 5<|.ef 6<|.ef 7<|.rd 8 .done) mo (by kernel_rfl) λdb si _=>dR z z (lN (vs:=[sl O V W]) B_ w_ z z (a_3 (atp hd)<|Nat.lt_of_lt_of_le h3.lt<|lt_ (lt_ (lt_ ae sf.s) sk.s) sm.s)<|(((ad.c sk<|atp hd).e sm).e si).row 0 1 z) ?_)
  iterate 3 refine dM z z z ?_
  have br:=((bc.c sk<|c_ ha).e sm).e si;have bs:=lt_ (lt_ bm sm.s) si.s;obtain ⟨_,_,_,cV,bQ⟩:=r_ bP;refine dE z z (fc call14 z<|a_B (B:=B) cV ((cT.e sm).e si) (zt' a0 bs) (atp ha) (hz.g br) cR cS<|ii z) (.inr λ_ _ h=>h.1.mono λk _ hk=>(io sr) k hk) ?_;rintro _ _ ⟨sq,rfl,cW,cX,cY,cZ⟩;have bt:=lt_ bs sq.s;obtain ⟨_,_,_,d0,bR⟩:=r_ bQ;refine dE z z (fc call14 z<|a_B (B:=B) d0 cZ (zt' a0 bt) (atp ha) (hz.g<|br.c sq<|c_ ha) cX cY<|ii z) (.inr λ_ _ h=>h.1.mono λk _ hk=>(io sr) k hk) ?_;rintro _ _ ⟨st,rfl,d1,_,_,_⟩;have bu:=l_ bq (Blk.lt hj)<|lt_ (lt_ (lt_ aE sx.s) sf.s) sk.s
  have bv:=lt_ bt st.s;obtain ⟨_,d2,bS⟩:=bdS bR;refine dE z z (fc call18 z<|W_w29 (B:=zn B bg.z bo.z) d2 (a_P (zt' a0 bv)<|lt_ (lt_ si.s sq.s) st.s) (or_ (((bp.e si).c sq bu).c st bu)<|zin (B:=B) bq<|b_.lt bp) cW d1) (.inr λ_ _ h=>x_<|h.1) ?_;rintro _ _ ⟨aG,d3,d4,d5,d6,rfl,d7,d8,aH⟩;have a2:=l_ (a_ ap) hy.lt lr;have bw:=lt_ a7.s ss.s;have bx:=mm1 hy.lt bw;have bz:=l_ ho hy.lt a7.s;refine dE0 z (fs0 (cur':=[sl O V W]) w_ z z (((((((((((((hy.e a7).c ss<|djs a2).e hp).c hg<|djs bx).c sb<|djs a2).c sx<|atp<|nmA (ds a2)<|nmA (ds bz)<|ds bx).e sf).c sk<|djs a2).e sm).e si).c sq<|djs a2).c st<|djs a2).e aG) z z z z) (.inl z) ?_;rintro _ _ ⟨d9,da⟩;have aI:=da.one;refine dQ z z z<|pD<|Wo ?_
  obtain rfl:=som bS;have bA:=lt_ (lt_ (lt_ bw hp.s) hg.s) sb.s;have a3:=p_ (a_ ap) a5.s;have bB:=m1 av;have bC:=p_ ho aq;exact Wr<|a_e hr (v_ B_ w_ z d9 z) z ⟨bM (bup (bM (bM (bup (bup (bM (bup (bM (bM (bM (bup (bM (bup a5 a7) ss a3) hp) hg bB) sb a3) sx<|aa_ a3<|aa_ bC bB) sf) sk a3) sm) si) sq a3) st a3) aG) aI<|a_ lr,O,V,W,L,d3,d4,d5,d6,z,(((((bk.e sm).e si).c sq aF).c st aF).e aG).c aI (or1 hh bz (k_ (a_ hy.lt) bA):∀k∈L,k∉[w0.z]),d7.c aI<|l_ aH hy.lt<|lt_ (lt_ (lt_ (lt_ (lt_ (lt_ (lt_ bA sx.s) sf.s) sk.s) sm.s) si.s) sq.s) st.s,na_ ai d8<|ds<|b_F aH (b_.lt Y)<|lt_ (lt_ (lt_ (lt_ bn sm.s) si.s) sq.s) st.s,aa_ (a_0 hh bC be)<|p_ aH bv⟩
 rintro _ _ _ _ rfl ⟨rfl,bT⟩;have bU:=elR aJ;obtain rfl:=som bU;exact ⟨bT,z⟩
theorem f_f {x1:g_}{res:Int}(hm:d_B x1=some res)(J:B<=w0.z)(H:repS w0 B (sl A0 N0 C0) x1.rules):q_ prog 42 [(.agg #[sl A0 N0 C0])] w0 (Q9 w0 B res):=by
 unfold d_B at hm
 refine goG func42 z z z λfn hr=>Ws<|E z (fb z) ?_
 rintro _ I ⟨rfl,G⟩;have h1:=G.below;refine Rw z<|Ws<|Rf z T_ z<|R z (l0 V_ z<|(G.blk:Blk I w0.z [sl A0 N0 C0]).at z)<|R z (lnR N_ z<|H.e h1)<|R z (sb_ z z)<|Rw z ?_
 obtain rfl:=som hm;exact Wr<|i_ hr z ⟨h1,z,iS _ _⟩
theorem d_S {x1:Int}{x2:Int}{x3:Int}{res:Bool}(hm:c_i x1 x2 x3=some res)(Y:B<=w0.z)(O:inI x1)(V:inI x2)(W:inI x3):q_ prog 122 [vI x1,vI x2,vI x3] w0 (Q0 w0 B res):=by
 unfold c_i at hm
 refine goG func122 z z z λfn hr=>Ws<|Rw z<|Wq ?_
 obtain ⟨J,H,I⟩:=bdS hm;refine Wt (λa w=>∃(x4:Bool),x4=J/\Sat 15 [(6,vB x4)] a/\Below w0.z w0 w) ?_ ?_
 .refine Wg<|RM z z<|R z (c_F z z)<|Rm z ?_
  rcases bs (decide<|x2<=x1) with G | G
  .exact Rh z G (mv z)<|Rh z G (mv z)<|Rh z G (c_F z z)<|R z (pT z G z)<|Ra z<|Wl (λ_ q=>⟨decide<|x1<=x3,som<|ifT H G,q.k<|s1 z,br w0⟩)
  iterate 3 refine Nh z G ?_
  exact R z (pF z G z)<|Ra z<|Wl (λ_ q=>⟨false,som<|ifF H G,q.k<|s1 z,br w0⟩)
 rintro L _ ⟨x4,rfl,_,s6⟩;revert L;refine Wo ?_;obtain rfl:=som I;exact Wr<|i_ hr z ⟨s6,z⟩
theorem j_B {x1:g_}{x2:Int}{res:Bool}(hm:e_b x1 x2=some res)(Y:B<=w0.z)(J:repS w0 B (sl A0 N0 C0) x1.rules)(W:inI x2):q_ prog 93 [(.agg #[sl A0 N0 C0]),vI x2] w0 (Q0 w0 B res):=by
 unfold e_b at hm
 refine goG func93 z z z λfn hr=>Ws<|E z (fb z) ?_
 rintro _ H ⟨rfl,h2⟩;have h4:=h2.below;refine Rw z<|Wq ?_
 obtain ⟨O,I,L⟩:=bdS hm;refine Wt (λa w=>∃(x3:Bool),x3=O/\Sat 14 [(4,vB x3)] a/\Below H.z H w) ?_ ?_
 .refine Wg<|Rm z<|R z (b_z z z)<|Rm z ?_
  rcases bs (decide<|0<=x2) with G | G
  .exact Rh z G (mv z)<|Rh z G (fd T_ z)<|Rh z G (l0 V_ z<|(h2.blk:Blk H w0.z [sl A0 N0 C0]).at z)<|Rh z G (lnR N_ z<|J.e h4)<|Rh z G (lss z z)<|R z (pT z G z)<|Ra z<|Wl (λ_ q=>⟨decide<|x2<(x1.rules.length:Int),som<|ifT I G,q.k<|s1 z,br H⟩)
  iterate 5 refine Nh z G ?_
  exact R z (pF z G z)<|Ra z<|Wl (λ_ q=>⟨false,som<|ifF I G,q.k<|s1 z,br H⟩)
 rintro V _ ⟨x3,rfl,_,sa⟩;revert V;refine Wo ?_;obtain rfl:=som L;exact Wr<|i_ hr z ⟨bup h4 sa,z⟩
theorem j_C {x1:Str}{res:Bool}(hm:e_a n x1=some res)(ap:B<=w0.z)(ao:x1.b.length<=LEN):q_ prog 75 [Str.v x1] w0 (Q0 w0 B res):=by
 unfold e_a at hm
 refine goG func75 z z z λfn hr=>Ws<|Rw z<|Wq<|Wq ?_
 obtain ⟨a8,huo,hmp⟩:=bdS hm;refine Wt (λa w=>∃(xg:Bool),xg=a8/\Sat 43 [(0,Str.v x1),(14,vB xg)] a/\Below w0.z w0 w) ?_ ?_
 .refine Wg<|Rm z<|R z (lnT d_9 z)<|Rl z z z<|Rm z ?_
  rcases bs (decide<|(x1.b.length:Int)<1) with J | J
  .iterate 3 refine Nh z J ?_
   exact R z (pT z J z)<|Wl (λ_ q=>⟨true,som<|ifT huo J,q.k<|s2 z z,br w0⟩)
  exact Rh z J (mv z)<|Rh z J (lnT d_9 z)<|Rh z J (a_b z z)<|R z (pF z J z)<|Wl (λ_ q=>⟨decide<|12<(x1.b.length:Int),som<|ifF huo J,q.k<|s2 z z,br w0⟩)
 rintro a9 G ⟨xg,rfl,_,s9⟩;revert a9;refine Wo<|Wc z (λhch=>?_) (λhch=>?_)
 .refine Ws<|Rw z ?_
  obtain rfl:=som<|ifT hmp hch;exact Wr<|i_ hr z ⟨s9,z⟩
 refine Wk<|Wq<|Wm z<|E z (n_U d_9 z) ?_
 rintro _ I ⟨rfl,sq,aa⟩;refine Wn ?_;obtain ⟨_,a1,hmr⟩:=bdS<|ifF hmp hch;refine c_0 (σ:=Nat) (ρ:=Bool) (λ(x0:Nat) a w=>Sat 43 [(16,pt G.z)] a/\Cg [G.z] I w/\b_o w G.z x1 x0) (λ(x0:Nat) a w=>Sat 43 [] a/\Cg [G.z] I w/\b_o w G.z x1 x0) (rQ prog fn<|Q0 w0 B) a1 ?_ ?_ ?_ ?_
 .exact λ_ q=>⟨q.k<|s1 z,cr [G.z] I,aa⟩
 .rintro x0 _ ws _ ⟨a2,si,he⟩ hmt;refine Wu ?_ a2;refine Ws ?_
  rcases bs (decide<|x0<x1.b.length) with hca | hca
  .refine E z (n_V z he<|of_decide_eq_true hca) ?_;rintro _ wb ⟨rfl,ab,su⟩;refine Re z z z<|Wn<|Wq<|Wc z (λ_=>?_) (λhc=>(bcon z hc).elim)
   refine Wk<|Wb<|Ws<|Re z z z<|Re z z z<|Ra z<|Rw z<|Wq ?_
   obtain ⟨ad,huv,a3⟩:=bdS<|ifT hmt hca;refine Wt (λa w=>∃(xc:Bool),xc=ad/\Sat 43 [(3,vI (x0:Int)),(4,.int .i32<|(dec x1 x0).1),(5,vB xc),(16,pt G.z)] a/\Below wb.z wb w) ?_ ?_
   .refine Wg<|Rm z<|R z (b_z z z)<|Rm z ?_
    rcases bs (decide<|97<=((dec x1 x0).1)) with L | L
    .exact Rh z L (mv z)<|Rh z L (c_F z z)<|R z (pT z L z)<|Ra z<|Wl (λ_ q=>⟨decide<|((dec x1 x0).1)<=122,som<|ifT huv L,q.k<|s4 z z z z,br wb⟩)
    exact Nh z L<|Nh z L<|R z (pF z L z)<|Ra z<|Wl (λ_ q=>⟨false,som<|ifF huv L,q.k<|s4 z z z z,br wb⟩)
   rintro ae wd ⟨xc,rfl,_,sj⟩;revert ae;refine Wo<|Wq ?_
   obtain ⟨af,huw,a4⟩:=bdS a3;refine Wt (λa w=>∃(xf:Bool),xf=af/\Sat 43 [(3,vI (x0:Int)),(5,vB xc),(6,vB xf),(16,pt G.z)] a/\Below wd.z wd w) ?_ ?_
   .refine Wg<|Rm z<|R z (b_z z z)<|Rm z ?_
    rcases bs (decide<|48<=((dec x1 x0).1)) with O | O
    .exact Rh z O (mv z)<|Rh z O (c_F z z)<|R z (pT z O z)<|Ra z<|Wl (λ_ q=>⟨decide<|((dec x1 x0).1)<=57,som<|ifT huw O,q.k<|s4 z z z z,br wd⟩)
    exact Nh z O<|Nh z O<|R z (pF z O z)<|Ra z<|Wl (λ_ q=>⟨false,som<|ifF huw O,q.k<|s4 z z z z,br wd⟩)
   rintro ah W ⟨xf,rfl,_,sk⟩;revert ah;refine Wo<|Wq ?_
   obtain ⟨ai,hux,hmy⟩:=bdS a4;refine Wt (λa w=>∃(xl:Bool),xl=ai/\Sat 43 [(16,pt G.z),(42,vB xl)] a/\Below W.z W w) ?_ ?_
   .refine Wg<|Rm z<|R z (not_ z)<|Rm z ?_
    rcases bs (!xc) with H | H
    .have hmz:=ifT hux H;refine Rh z H (mv z)<|Rh z H (not_ z)<|Rh z H (mv z) ?_
     rcases bs (!xf) with V | V
     .exact Nh z V<|Nh z V<|Rh z H (pT z V z)<|R z (pT z H z)<|Wl (λ_ q=>⟨true,som<|ifT hmz V,q.k<|s2 z z,br W⟩)
     exact Rh z V (mv z)<|Rh z V (eql z z)<|Rh z H (pF z V z)<|R z (pT z H z)<|Wl (λ_ q=>⟨(x0:Int)==0,som<|ifF hmz V,q.k<|s2 z z,br W⟩)
    iterate 3 refine Nh z H ?_
    exact Nv z<|Nv z<|Nh z H<|R z (pF z H z)<|Wl (λ_ q=>⟨false,som<|ifF hux H,q.k<|s2 z z,br W⟩)
   rintro aj ak ⟨xl,rfl,_,sm⟩;revert aj;refine Wo<|Wc z (λhcn=>?_) (λhcn=>?_)
   .refine Ws<|Rw z ?_
    have Y:=m1 s9.s;exact Wr<|rtO<|qL (som<|ifT hmy hcn).symm<|i_ hr z ⟨bup (bup (bup (bM (bM (bup s9 sq) si Y) su Y) sj) sk) sm,z⟩
   refine a_c ?_;exact λ_ q=>⟨x0+(dec x1 x0).2,(som<|ifF hmy hcn).symm,⟨q.k<|s1 z,(e_ (e_ (e_ (cM (cM (cr [G.z] I) si (io sr):Cg [G.z] I ws) su (io sr):Cg [G.z] I wb) sj:Cg [G.z] I wd) sk:Cg [G.z] I W) sm:Cg [G.z] I ak),((ab.e sj).e sk).e sm⟩⟩
  refine E z (n_W z he<|of_decide_eq_false hca) ?_;rintro _ al ⟨rfl,a0⟩;refine Re z z z<|Wn<|Wq<|Wc z (λhc=>(bcon hc z).elim) (λ_=>?_)
  exact We<|λ_ q=>b_n (som<|ifF hmt hca).symm ⟨q.k sn,(e_ (cM (cr [G.z] I) si (io sr):Cg [G.z] I ws) a0:Cg [G.z] I al),he.e a0⟩
 .rintro x0 am _ rfl ⟨_,an,he⟩;have a5:=elL hmr;revert am;refine Wo<|Ws<|Rw z ?_
  obtain rfl:=som a5;exact Wr<|i_ hr z ⟨bM (bup s9 sq) an<|m1 s9.s,z⟩
 rintro _ _ _ _ rfl ⟨rfl,a6⟩;have a7:=elR hmr;obtain rfl:=som a7;exact ⟨a6,z⟩
theorem d_n {x1:d_}{x2:Bool}{x3:Bool}{x4:Bool}{x5:Bool}{x6:Int}{res:Bool}(hm:c_j x1 x2 x3 x4 x5 x6=some res)(a8:B<=w0.z)(a4:x1.name.b.length<=LEN)(a5:inI x1.kind)(a6:inI x1.size)(a0:repS w0 B (sl A9 N9 C9) x1.bytes)(a1:repS w0 B (sl A8 N8 C8) x1.names)(a2:repS w0 B (sl AA NA CA) x1.tags)(a3:repS w0 B (sl AB NB CB) x1.kids)(a7:inI x6):q_ prog 137 [(.agg #[Str.v x1.name,vI x1.kind,vI x1.size,vB x1.little,sl A9 N9 C9,sl A8 N8 C8,sl AA NA CA,sl AB NB CB]),vB x2,vB x3,vB x4,vB x5,vI x6] w0 (Q0 w0 B res):=by
 unfold c_j at hm
 refine goG func137 z z z λfn hr=>Ws<|E z (fb z) ?_
 rintro _ w9 ⟨rfl,hd⟩;have ha:=hd.below;have hb:Blk w9 w0.z (vR x1 A9 N9 C9 A8 N8 C8 AA NA CA AB NB CB):=hd.blk;refine Rw z<|Wq ?_
 obtain ⟨ur,hus,hmt⟩:=bdS hm;refine Wt (λa w=>∃(xc:Bool),xc=ur/\Sat 57 [(12,vB xc)] a/\Below w9.z w9 w) ?_ ?_
 .refine Wg<|RM z z ?_
  obtain ⟨ue,huf,hmu⟩:=bdS hus;refine d_8 18 ue 4 ?_ ?_
  .rcases bs x2 with Y | Y
   .iterate 3 refine Nh z Y ?_
    exact R z (pT z Y z)<|WLq 4 (ifT huf Y) z z z
   exact Rh z Y (fd a_W z)<|Rh z Y (l0 g_3 z<|hb.at z)<|Rh z Y (eql z z)<|R z (pF z Y z)<|WLq 4 (ifF huf Y) z z z
  refine Rm z ?_;obtain ⟨ug,huh,hmv⟩:=bdS hmu;refine d_8 27 ug 8 ?_ ?_
  .rcases bs ue with G | G
   .have hmi:=ifT huh G;refine Rh z G (mv z)<|Rh z G (mv z) ?_
    rcases bs x3 with O | O
    .iterate 4 refine Nh z O ?_
     exact Rh z G (pT z O z)<|R z (pT z G z)<|WLq 8 (ifT hmi O) z z z
    exact Rh z O (fd a_N z)<|Rh z O (l0 U_ z<|hb.at z)<|Rh z O (lnR s_ z<|a0.e ha)<|Rh z O (eql z z)<|Rh z G (pF z O z)<|R z (pT z G z)<|WLq 8 (ifF hmi O) z z z
   exact Nh z G<|Nh z G<|Nv z<|Nv z<|Nv z<|Nv z<|Nh z G<|R z (pF z G z)<|WLq 8 (ifF huh G) z z z
  refine Rm z ?_;obtain ⟨uj,huk,hmw⟩:=bdS hmv;refine d_8 36 uj 8 ?_ ?_
  .rcases bs ug with H | H
   .have hml:=ifT huk H;refine Rh z H (mv z)<|Rh z H (mv z) ?_
    rcases bs x4 with V | V
    .iterate 4 refine Nh z V ?_
     exact Rh z H (pT z V z)<|R z (pT z H z)<|WLq 8 (ifT hml V) z z z
    exact Rh z V (fd b_x z)<|Rh z V (l0 b_8 z<|hb.at z)<|Rh z V (lnR a_X z<|a1.e ha)<|Rh z V (eql z z)<|Rh z H (pF z V z)<|R z (pT z H z)<|WLq 8 (ifF hml V) z z z
   exact Nh z H<|Nh z H<|Nv z<|Nv z<|Nv z<|Nv z<|Nh z H<|R z (pF z H z)<|WLq 8 (ifF huk H) z z z
  refine Rm z ?_;obtain ⟨um,hun,hmo⟩:=bdS hmw;refine d_8 45 um 8 ?_ ?_
  .rcases bs uj with I | I
   .have hmp:=ifT hun I;refine Rh z I (mv z)<|Rh z I (mv z) ?_
    rcases bs x5 with W | W
    .iterate 4 refine Nh z W ?_
     exact Rh z I (pT z W z)<|R z (pT z I z)<|WLq 8 (ifT hmp W) z z z
    exact Rh z W (fd a_O z)<|Rh z W (l0 C_ z<|hb.at z)<|Rh z W (lnR A_ z<|a2.e ha)<|Rh z W (eql z z)<|Rh z I (pF z W z)<|R z (pT z I z)<|WLq 8 (ifF hmp W) z z z
   exact Nh z I<|Nh z I<|Nv z<|Nv z<|Nv z<|Nv z<|Nh z I<|R z (pF z I z)<|WLq 8 (ifF hun I) z z z
  refine Rm z ?_
  rcases bs um with J | J
  .have hmq:=ifT hmo J;refine Rh z J (mv z)<|Rh z J (lss z z)<|Rh z J (mv z) ?_
   rcases bs (decide<|x6<0) with L | L
   .iterate 5 refine Nh z L ?_
    exact Rh z J (pT z L z)<|R z (pT z J z)<|Ra z<|Wl (λ_ q=>⟨true,som<|ifT hmq L,q.k<|s1 z,br w9⟩)
   exact Rh z L (fd M_ z)<|Rh z L (l0 C_ z<|hb.at z)<|Rh z L (lnR A_ z<|a3.e ha)<|Rh z L (mv z)<|Rh z L (eql z z)<|Rh z J (pF z L z)<|R z (pT z J z)<|Ra z<|Wl (λ_ q=>⟨(x1.kids.length:Int)==x6,som<|ifF hmq L,q.k<|s1 z,br w9⟩)
  iterate 3 refine Nh z J ?_
  exact Nv z<|Nv z<|Nv z<|Nv z<|Nv z<|Nh z J<|R z (pF z J z)<|Ra z<|Wl (λ_ q=>⟨false,som<|ifF hmo J,q.k<|s1 z,br w9⟩)
 rintro ax _ ⟨xc,rfl,_,sy⟩;revert ax;refine Wo ?_;obtain rfl:=som hmt;exact Wr<|i_ hr z ⟨bup ha sy,z⟩
theorem j_D {x1:g_}{x2:Int}{res:Int}(hm:e_L x1 x2=some res)(V:B<=w0.z)(I:repS w0 B (sl A0 N0 C0) x1.rules)(Y:inI x2):q_ prog 138 [(.agg #[sl A0 N0 C0]),vI x2] w0 (Q9 w0 B res):=by
 unfold e_L at hm
 refine goG func138 z z z λfn hr=>Ws<|E z (fb z) ?_
 rintro _ L ⟨rfl,W⟩;have h2:=W.below;have h6:Blk L w0.z [sl A0 N0 C0]:=W.blk;refine Rw z<|Wq<|Wq ?_
 obtain ⟨uf,hug,hma⟩:=bdS hm;refine Wt (λa w=>∃(O:Bool),O=uf/\Sat 37 [(1,vI x2),(2,pt w0.z),(27,vB O)] a/\Below L.z L w) ?_ ?_
 .refine Wg<|R z (lN (vs:=[sl A0 N0 C0]) B_ w_ z z fid<|h6.row 0 1 z)<|Rm z ?_
  obtain ⟨rh,ei,hmb⟩:=bdS hug;refine E z (fc call93 z<|j_B ei (zt' V h2.s) (I.e h2) Y) ?_;rintro _ _ ⟨s4,rfl⟩;refine R z (not_ z)<|Rm z ?_
  rcases bs (!rh) with H | H
  .iterate 7 refine Nh z H ?_
   exact R z (pT z H z)<|Rm z<|Nh z z<|Nh z z<|Nh z z<|Nh z z<|Nh z z<|Nh z z<|Nh z z<|Nh z z<|R z (pT z z z)<|Wl (λ_ q=>⟨true,som<|ifT hmb H,q.k<|s3 z z z,s4⟩)
  refine Rh z H (fd T_ z) ?_;have hc:=h6.e s4;refine Rh z H (l0 V_ z<|hc.at z)<|Rh z H (mv z) ?_
  obtain ⟨xj,ek,hmd⟩:=bdS<|ifF hmb H;have he:=I.g<|(h2.ag B).e s4
  refine RXg z z H z (at_ (α:=d_) N_ t_ z z z he ek) ?_;rintro _ ⟨_,_,_,rfl,hl,hn,_⟩;obtain ⟨_,_,_,_,_,_,_,_,_,_,_,_,rfl,_,_,_,_,_,_,_⟩:=a_T hn;refine Rh z H (fd a_V z)<|Rh z H (l0 g_3 z<|hl.at (j:=1) z)<|Rh z H (nq z z)<|R z (pF z H z)<|Rm z ?_
  rcases bs (xj.kind != 1) with G | G
  .iterate 8 refine Nh z G ?_
   exact R z (pT z G z)<|Wl (λ_ q=>⟨true,som<|ifT hmd G,q.k<|s3 z z z,s4⟩)
  refine Rh z G (fd T_ z)<|Rh z G (l0 V_ z<|hc.at z)<|Rh z G (mv z) ?_
  obtain ⟨_,em,hmo⟩:=bdS<|ifF hmd G;refine RXg z z G z (at_ (α:=d_) N_ t_ z z z he em) ?_;rintro _ ⟨_,_,_,rfl,hp,hq,_⟩;obtain ⟨_,_,_,_,_,_,_,_,_,_,_,_,rfl,_,_,ht,_,_,_,_⟩:=a_T hq;refine Rh z G (fd a_W z)<|Rh z G (l0 g_3 z<|hp.at (j:=2) z) ?_
  obtain ⟨rr,es,hmu⟩:=bdS hmo;refine Eg z z G z (fc call122 z<|d_S es (zt' V<|lt_ h2.s s4.s) ht (ii z)<|ii z) ?_;rintro _ _ ⟨sv,rfl⟩;exact Rh z G (not_ z)<|R z (pF z G z)<|Wl (λ_ q=>⟨!rr,som hmu,q.k<|s3 z z z,bup s4 sv⟩)
 rintro aw _ ⟨O,rfl,_,s5⟩;revert aw;refine Wo<|Wc z (λJ=>?_) (λJ=>?_)
 .refine Ws<|Rw z ?_
  obtain rfl:=som<|ifT hma J;exact Wr<|i_ hr z ⟨bup h2 s5,z,ii z⟩
 refine Wk<|Ws<|Rf z T_ z<|R z (l0 V_ z<|(h6.e s5).at z)<|Rm z ?_
 obtain ⟨_,ex,hmy⟩:=bdS<|ifF hma J;refine RX z (at_ (α:=d_) N_ t_ z z z (I.g<|(h2.ag B).e s5) ex) ?_;rintro _ ⟨_,_,_,rfl,hz,a1,_⟩;obtain ⟨_,_,_,_,_,_,_,_,_,_,_,_,rfl,_,_,_,_,_,_,_⟩:=a_T a1;refine Rf z a_W z<|R z (l0 g_3 z<|hz.at (j:=2) z)<|R z (c_E z z) ?_
 obtain ⟨_,a2,a0⟩:=bdS hmy;refine R z (i_x z z<|nnS a2)<|R z (sb_ z z)<|Rw z ?_
 obtain rfl:=som a0;exact Wr<|i_ hr z ⟨bup h2 s5,z,iS _ _⟩
theorem W_w1c {x1:List Str}{x2:Str}{res:Bool}(hm:e_M x1 x2=some res)(a1:B<=w0.z)(G:repS w0 B (sl A0 N0 C0) x1)(a0:x2.b.length<=LEN):q_ prog 79 [sl A0 N0 C0,Str.v x2] w0 (Q0 w0 B res):=by
 unfold e_M at hm
 refine goG func79 z z z λfn hr=>Ws<|Rw z<|Wq<|Wm z<|R z (lnR a_X z G)<|Rm z<|Wn ?_
 obtain ⟨_,V,J⟩:=bdS hm;refine Wf (σ:=Unit) (ρ:=Bool) (λ(k3:Nat)(_:Unit) a w=>Sat 17 [(1,Str.v x2),(7,sl A0 N0 C0),(8,vI (x1.length:Int)),(9,vI ((k3:Nat):Int))] a/\Below w0.z w0 w) (λ(_:Unit) a w=>Sat 17 [] a/\Below w0.z w0 w) (rQ prog fn<|Q0 w0 B) V ?_ ?_ ?_ ?_ ?_
 .exact λ_ q=>⟨q.k<|s4 z z z z,br w0⟩
 .rintro k3 _ _ _ _ L ⟨W,I⟩ Y;refine Wu ?_ W;refine Ws<|Rl z z z<|Wn<|Wq<|Wc z (λ_=>?_) (λhc=>(a_n L hc).elim)
  refine Wk<|Wq<|Wb<|Ws ?_
  obtain ⟨_,e9,O⟩:=bdS Y;refine RX z (at_ (α:=Str) a_X z_9 z z z (G.e I) e9) ?_;rintro _ ⟨_,_,_,rfl,ha,hb,_⟩;obtain ⟨rfl,_⟩:=c_y hb;refine R z (l0 g_9 z<|ha.at0 z)<|Rw z<|Wm z<|Rm z<|R z (c_a z z)<|Wx z (λH=>?_) (λH=>?_)
  .exact Ws<|Rw z<|Wr<|rtO<|qL (som<|ifT O H).symm<|i_ hr z ⟨I,z⟩
  exact Wk<|Wg<|R z (inc_ L (lt_ (repS.len G) X_) z z)<|Rm z<|Wl (λ_ q=>⟨(),(som<|ifF O H).symm,⟨q.k<|s4 z z z z,I⟩⟩)
 .rintro _ _ _ ⟨hSc,sd⟩;refine Wu ?_ hSc;refine Ws<|Rl z z z<|Wn<|Wq<|Wc z (λhc=>(a_o hc).elim) (λ_=>?_)
  exact We<|λ_ q=>⟨rfl,⟨q.k sn,sd⟩⟩
 .rintro _ ae _ rfl ⟨_,sf⟩;have hmg:=elL J;revert ae;refine Wo<|Ws<|Rw z ?_
  obtain rfl:=som hmg;exact Wr<|i_ hr z ⟨sf,z⟩
 rintro _ _ _ _ rfl ⟨rfl,hqh⟩;have hmi:=elR J;obtain rfl:=som hmi;exact ⟨hqh,z⟩
end Go.Vw
