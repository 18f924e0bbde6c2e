
import Derived.Test.YtlagjoejlchiiaaGreatDoorVwUW1
set_option linter.unusedVariables false
namespace Go.Vw
open Go.RowKit Dat Go.Proofs
open Go.Proofs.Tryz
open Go.Vw renaming a_M->Wq,b_j->Wg,WC.of_KC->Wo,a_N->Wl,c_T->Wc,d_Q->Wr,h_c->Wu,i_v->pT,i_w->pF,h_f->fd,c_n->l1,i_R->lN,b_P->mv,d_o->asg,h_6->lnR,f_l->lss,h_k->eql,h_g->ext_,i_y->bP,h_h->add_,h_1->inc_,e_v->not_,h_7->at_,f_c->fc,b_z->fs,f_b->fb,e_l->fa,i_p->sr,i_t->cr,i_u->cM,d_k->bM,i_h->iS,i_g->iA,h_0->br,b_L->oA,i_l->bs,ltge->lg,inor->io,h_l->nq,i_S->lnT,i_T->sb_,i_n->ar_,i_m->al_,i_o->ds,j_z->m1,i_r->nr_,i_q->nl_,h_4->aa_,all_nil->an_,d_R->Wb,h_2->u8,i_c->pD,g_X->We,i_j->Wt,g_Z->fS,f_7->or_,i_O->Wf,i_E->qL,i_b->Wd,i_z->fN,h_5->na_,i_s->nj,f_g->f0,i_x->rX,i_A->tl_,i_B->ic
variable {A0:Option Addr}{N0 C0:Nat}{B:Zone}{w0:World}{AB:Option Addr}{AA:Option Addr}{AC:Option Addr}{AD:Option Addr}{NB CB:Nat}{NA CA:Nat}{NC CC:Nat}{ND CD:Nat}{n:Nat}{A2:Option Addr}{A3:Option Addr}{A1:Option Addr}{A4:Option Addr}{N2 C2:Nat}{N3 C3:Nat}{N1 C1:Nat}{N4 C4:Nat}{A7:Option Addr}{N7 C7:Nat}{A6:Option Addr}{N6 C6:Nat}{A8:Option Addr}{A9:Option Addr}{N8 C8:Nat}{N9 C9:Nat}{A5:Option Addr}{N5 C5:Nat}
theorem W_w2p {x1:Str}{x2:UInt8}{res:(List Str)}(hm:e_P x1 x2=some res)(aW:B<=w0.z)(L:x1.b.length<=LEN):i_ prog 138 [Str.v x1,vU<|byteI x2] w0 (Q2 w0 B res):=by
 unfold e_P at hm
 refine goG func138 z z z fun fn hr=>Ws<|Rw z<|Ws<|E z (f0 (α:=Str) a_S) ?_
 rintro _ H ⟨aj,ak,al,rfl,sk,am⟩;refine Rw z<|Ws<|Rw z<|Wq<|Ws<|Rw z ?_
 obtain ⟨_,a3,hmr⟩:=bdS hm;refine Wf (σ:=(List Str)×Int) (ρ:=List Str) (fun (kd:Nat) s a w=>un2 (fun V x5=>∃a2 I J G,Sat 35 [(0,Str.v x1),(1,vU<|byteI x2),(5,sl a2 I J),(6,vI x5),(7,vI ((kd:Nat):Int))] a/\Chg (· ∈ [w0.z]) H w/\c_ w G (sl a2 I J) V/\G.Nodup/\(∀k∈G,k∈[w0.z]∨H.z<=k)/\inI x5) s) (fun s a w=>un2 (fun V x5=>∃a2 I J G,Sat 35 [(0,Str.v x1),(5,sl a2 I J),(6,vI x5)] a/\Chg (· ∈ [w0.z]) H w/\c_ w G (sl a2 I J) V/\G.Nodup/\(∀k∈G,k∈[w0.z]∨H.z<=k)/\inI x5) s) (rQ prog fn<|Q2 w0 B) a3 ?_ ?_ ?_ ?_ ?_
 ·exact fun _ q=>⟨aj,ak,al,[w0.z],q.k<|s5 z z z z z,cr [w0.z] H,am,b_l,io sr,ii z⟩
 ·rintro kd ⟨V,x5⟩ _ O _ hke ⟨a2,I,J,G,a4,ss,W,Y,hb,hf⟩ a5;refine Wu ?_ a4;refine Wq<|Wm z<|Rm z<|R z (lnT d_9 z)<|Rl z z z<|Wx z (fun _=>?_) (fun hc=>(T_ hke hc).elim)
  refine Wk<|Wq<|Wb<|Wm z<|Rm z ?_
  obtain ⟨_,eu,a6⟩:=bdS<|a_I a5;refine R z (b_D d_9 z z (a_h eu).1 (a_h eu).2.1)<|Rm z<|Rq z z z<|Wn ?_
  obtain ⟨an,huv,a7⟩:=bdS a6;refine Wt (fun a w=>∃(xg:List Str)(xc:Int),(xg,xc)=an/\∃ah ni cj Sa,Sat 35 [(0,Str.v x1),(1,vU<|byteI x2),(5,sl ah ni cj),(6,vI xc),(7,vI ((kd:Nat):Int))] a/\Chg (· ∈ G) O w/\c_ w Sa (sl ah ni cj) xg/\Sa.Nodup/\(∀k∈Sa,k∈G∨O.z<=k)/\inI xc) ?_ ?_
  ·refine Wc z (fun hcl=>?_)<|fun hcl=>?_
   ·refine Wm z<|RM z z<|Rm z ?_
    obtain ⟨ao,em,a8⟩:=bdS<|ifT huv hcl;refine R z (f_j d_9 z z z L em)<|E z (fS [(.tmp 24)] a_S z z z (b_X z) (lb z)<|lb z) ?_
    rintro _ ww ⟨rfl,hn⟩;have ho:=hn.below;have aX:=c_V hn<|b_K<|e_s em L
    obtain ⟨ap,aq,a9⟩:=bdS a8;refine E z (c_E (α:=Str) a_S aq z z (W.e ho) Y (hn.blk:Blk ww O.z [Str.v ao]) (b_K<|e_s em L) an_ a_q) ?_;rintro _ ar ⟨Sx,au,av,aw,rfl,ax,ay,az,aA⟩;refine Rw z<|Wg<|Rm z<|R z (inc_ hke (lt_ L C_) z z)<|Ra z<|Wl ?_
    exact fun _ q=>⟨ap,((kd+1:Nat):Int),som a9,au,av,aw,Sx,q.k<|s5 z z z z z,(cM (g_ (cr G O) ho:Chg (· ∈ G) O ww) ax (io sr):Chg (· ∈ G) O ar),ay,az,(or2 aA (io sr) an_ (S_ ho.s):∀k∈Sx,k∈G∨O.z<=k),ic (Nat.succ_le_of_lt hke)<|lt_ L C_⟩
   exact a_f<|fun _ q=>⟨V,x5,som<|ifF huv hcl,a2,I,J,G,q.k<|s5 z z z z z,cr G O,W,Y,io sr,hf⟩
  rintro aB aC ⟨xg,xc,rfl,ah,ni,cj,Sa,_,aD,aE,aF,aG,aH⟩;revert aB;refine Wo<|Wg<|Rm z<|R z (inc_ hke (lt_ L C_) z z)<|Ra z<|Wl ?_
  have hy:∀k∈G,k∈[w0.z]∨H.z<=k:=or1 hb (io sr)<|S_ lr;exact fun _ q=>⟨(xg,xc),(som<|a_I a7).symm,⟨ah,ni,cj,Sa,q.k<|s5 z z z z z,(cM (cM (cr [w0.z] H) ss (io sr):Chg (· ∈ [w0.z]) H O) aD hy:Chg (· ∈ [w0.z]) H aC),aE,aF,(or1 aG hy (S_ ss.s):∀k∈Sa,k∈[w0.z]∨H.z<=k),aH⟩⟩
 ·rintro ⟨V,x5⟩ _ aI ⟨a2,I,J,G,aa,aJ,W,Y,hb,hf⟩;refine Wu ?_ aa;refine Wq<|Wm z<|Rm z<|R z (lnT d_9 z)<|Rl z z z<|Wx z (fun hc=>(U_ hc).elim) (fun _=>?_)
  exact We<|fun _ q=>⟨rfl,⟨a2,I,J,G,q.k<|s3 z z z,(cM (cr [w0.z] H) aJ (io sr):Chg (· ∈ [w0.z]) H aI),W,Y,(or1 hb (io sr) (S_ lr):∀k∈G,k∈[w0.z]∨H.z<=k),hf⟩⟩
 ·rintro ⟨V,x5⟩ aK aL rfl ⟨a2,I,J,G,_,sz,W,Y,hb,hf⟩;have ab:=elL hmr;revert aK;refine Wo<|Wm z<|RM z z ?_
  obtain ⟨aM,ep,ad⟩:=bdS<|a_I ab;refine R z (f_j d_9 z z z L ep)<|E z (fS [(.tmp 32)] a_S z z z (b_X z) (lb z)<|lb z) ?_
  rintro _ aN ⟨rfl,hq⟩;have ht:=hq.below;have aY:=c_V hq<|b_K<|e_s ep L
  obtain ⟨_,aO,ae⟩:=bdS ad;refine E z (c_E (α:=Str) a_S aO z z (W.e ht) Y (hq.blk:Blk aN aL.z [Str.v aM]) (b_K<|e_s ep L) an_ a_q) ?_;rintro _ _ ⟨a0,aP,aQ,aR,rfl,aS,aT,aU,aV⟩;refine Rw z ?_
  obtain rfl:=som ae;have a1:∀k∈G,w0.z<=k:=or1 hb (f_ lr)<|c_7 sk.s;exact Wr<|a_ hr z ⟨bM (bup (bM sk sz<|f_ lr) ht) aS a1,aP,aQ,aR,a0,z,aT,aU,(or2 aV a1 an_ (c_7<|lt_ (lt_ sk.s sz.s) ht.s):∀k∈a0,w0.z<=k)⟩
 rintro _ _ _ _ rfl ⟨rfl,af⟩;have ai:=elR hmr;obtain rfl:=som ai;exact ⟨af,z⟩
theorem j_Q {x1:Str}{res:Bool}(hm:d_F n x1=some res)(ap:B<=w0.z)(ao:x1.b.length<=LEN):i_ prog 116 [Str.v x1] w0 (Q7 w0 B res):=by
 unfold d_F at hm
 refine goG func116 z z z fun fn hr=>Ws<|Rw z<|Wq<|Wq ?_
 obtain ⟨a8,huo,hmp⟩:=bdS hm;refine Wt (fun a w=>∃(xg:Bool),xg=a8/\Sat 43 [(0,Str.v x1),(14,vB xg)] a/\Below w0.z w0 w) ?_ ?_
 ·refine Wg<|Rm z<|R z (lnT d_9 z)<|Rl z z z<|Rm z ?_
  rcases bs (decide<|(x1.b.length:Int)<1) with J | J
  ·iterate 3 refine Nh z J ?_
   exact R z (pT z J z)<|Wl (fun _ q=>⟨true,som<|ifT huo J,q.k<|s2 z z,br w0⟩)
  exact Rh z J (mv z)<|Rh z J (lnT d_9 z)<|Rh z J (a_3 z z)<|R z (pF z J z)<|Wl (fun _ q=>⟨decide<|12<(x1.b.length:Int),som<|ifF huo J,q.k<|s2 z z,br w0⟩)
 rintro a9 G ⟨xg,rfl,_,s9⟩;revert a9;refine Wo<|Wc z (fun hch=>?_) (fun hch=>?_)
 ·refine Ws<|Rw z ?_
  obtain rfl:=som<|ifT hmp hch;exact Wr<|a_ hr z ⟨s9,z⟩
 refine Wk<|Wq<|Wm z<|E z (n_n d_9 z) ?_
 rintro _ I ⟨rfl,sq,aa⟩;refine Wn ?_;obtain ⟨_,a1,hmr⟩:=bdS<|ifF hmp hch;refine d_W (σ:=Nat) (ρ:=Bool) (fun (x0:Nat) a w=>Sat 43 [(16,pt G.z)] a/\Chg (· ∈ [G.z]) I w/\b_5 w G.z x1 x0) (fun (x0:Nat) a w=>Sat 43 [] a/\Chg (· ∈ [G.z]) I w/\b_5 w G.z x1 x0) (rQ prog fn<|Q7 w0 B) a1 ?_ ?_ ?_ ?_
 ·exact fun _ q=>⟨q.k<|s1 z,cr [G.z] I,aa⟩
 ·rintro x0 _ ws _ ⟨a2,si,he⟩ hmt;refine Wu ?_ a2;refine Ws ?_
  rcases bs (decide<|x0<x1.b.length) with hca | hca
  ·refine E z (n_o z he<|of_decide_eq_true hca) ?_;rintro _ wb ⟨rfl,ab,su⟩;refine Re z z z<|Wn<|Wq<|Wc z (fun _=>?_) (fun hc=>(b_c z hc).elim)
   refine Wk<|Wb<|Ws<|Re z z z<|Re z z z<|Ra z<|Rw z<|Wq ?_
   obtain ⟨ad,huv,a3⟩:=bdS<|ifT hmt hca;refine Wt (fun a w=>∃(xc:Bool),xc=ad/\Sat 43 [(3,vI (x0:Int)),(4,.int .i32<|(dec x1 x0).1),(5,vB xc),(16,pt G.z)] a/\Below wb.z wb w) ?_ ?_
   ·refine Wg<|Rm z<|R z (b_m z z)<|Rm z ?_
    rcases bs (decide<|97<=((dec x1 x0).1)) with L | L
    ·exact Rh z L (mv z)<|Rh z L (b_E z z)<|R z (pT z L z)<|Ra z<|Wl (fun _ q=>⟨decide<|((dec x1 x0).1)<=122,som<|ifT huv L,q.k<|s4 z z z z,br wb⟩)
    exact Nh z L<|Nh z L<|R z (pF z L z)<|Ra z<|Wl (fun _ q=>⟨false,som<|ifF huv L,q.k<|s4 z z z z,br wb⟩)
   rintro ae wd ⟨xc,rfl,_,sj⟩;revert ae;refine Wo<|Wq ?_
   obtain ⟨af,huw,a4⟩:=bdS a3;refine Wt (fun a w=>∃(xf:Bool),xf=af/\Sat 43 [(3,vI (x0:Int)),(5,vB xc),(6,vB xf),(16,pt G.z)] a/\Below wd.z wd w) ?_ ?_
   ·refine Wg<|Rm z<|R z (b_m z z)<|Rm z ?_
    rcases bs (decide<|48<=((dec x1 x0).1)) with O | O
    ·exact Rh z O (mv z)<|Rh z O (b_E z z)<|R z (pT z O z)<|Ra z<|Wl (fun _ q=>⟨decide<|((dec x1 x0).1)<=57,som<|ifT huw O,q.k<|s4 z z z z,br wd⟩)
    exact Nh z O<|Nh z O<|R z (pF z O z)<|Ra z<|Wl (fun _ q=>⟨false,som<|ifF huw O,q.k<|s4 z z z z,br wd⟩)
   rintro ah W ⟨xf,rfl,_,sk⟩;revert ah;refine Wo<|Wq ?_
   obtain ⟨ai,hux,hmy⟩:=bdS a4;refine Wt (fun a w=>∃(xl:Bool),xl=ai/\Sat 43 [(16,pt G.z),(42,vB xl)] a/\Below W.z W w) ?_ ?_
   ·refine Wg<|Rm z<|R z (not_ z)<|Rm z ?_
    rcases bs (!xc) with H | H
    ·have hmz:=ifT hux H;refine Rh z H (mv z)<|Rh z H (not_ z)<|Rh z H (mv z) ?_
     rcases bs (!xf) with V | V
     ·exact Nh z V<|Nh z V<|Rh z H (pT z V z)<|R z (pT z H z)<|Wl (fun _ q=>⟨true,som<|ifT hmz V,q.k<|s2 z z,br W⟩)
     exact Rh z V (mv z)<|Rh z V (eql z z)<|Rh z H (pF z V z)<|R z (pT z H z)<|Wl (fun _ q=>⟨(x0:Int)==0,som<|ifF hmz V,q.k<|s2 z z,br W⟩)
    iterate 3 refine Nh z H ?_
    exact Nv z<|Nv z<|Nh z H<|R z (pF z H z)<|Wl (fun _ q=>⟨false,som<|ifF hux H,q.k<|s2 z z,br W⟩)
   rintro aj ak ⟨xl,rfl,_,sm⟩;revert aj;refine Wo<|Wc z (fun hcn=>?_) (fun hcn=>?_)
   ·refine Ws<|Rw z ?_
    have Y:=m1 s9.s;exact Wr<|rtO<|qL (som<|ifT hmy hcn).symm<|a_ hr z ⟨bup (bup (bup (bM (bM (bup s9 sq) si Y) su Y) sj) sk) sm,z⟩
   refine a_f ?_;exact fun _ q=>⟨x0+(dec x1 x0).2,(som<|ifF hmy hcn).symm,⟨q.k<|s1 z,(g_ (g_ (g_ (cM (cM (cr [G.z] I) si (io sr):Chg (· ∈ [G.z]) I ws) su (io sr):Chg (· ∈ [G.z]) I wb) sj:Chg (· ∈ [G.z]) I wd) sk:Chg (· ∈ [G.z]) I W) sm:Chg (· ∈ [G.z]) I ak),((ab.e sj).e sk).e sm⟩⟩
  refine E z (n_p z he<|of_decide_eq_false hca) ?_;rintro _ al ⟨rfl,a0⟩;refine Re z z z<|Wn<|Wq<|Wc z (fun hc=>(b_c hc z).elim) (fun _=>?_)
  exact We<|fun _ q=>c_F (som<|ifF hmt hca).symm ⟨q.k sn,(g_ (cM (cr [G.z] I) si (io sr):Chg (· ∈ [G.z]) I ws) a0:Chg (· ∈ [G.z]) I al),he.e a0⟩
 ·rintro x0 am _ rfl ⟨_,an,he⟩;have a5:=elL hmr;revert am;refine Wo<|Ws<|Rw z ?_
  obtain rfl:=som a5;exact Wr<|a_ hr z ⟨bM (bup s9 sq) an<|m1 s9.s,z⟩
 rintro _ _ _ _ rfl ⟨rfl,a6⟩;have a7:=elR hmr;obtain rfl:=som a7;exact ⟨a6,z⟩
theorem W_w15 {x1:Str}{res:Int×Bool}(hm:e_Q x1=some res)(af:B<=w0.z)(Y:x1.b.length<=LEN):i_ prog 117 [Str.v x1] w0 (Q9 w0 B res):=by
 unfold e_Q at hm
 refine goG func117 z z z fun fn hr=>Ws<|Ra z<|Rw z<|Wq<|Wq ?_
 obtain ⟨uv,huf,hmg⟩:=bdS hm;refine Wt (fun a w=>∃(W:Bool),W=uv/\Sat 50 [(0,Str.v x1),(22,vB W)] a/\Below w0.z w0 w) ?_ ?_
 ·refine Wg<|Rm z<|R z (b_6 z z)<|Rm z ?_
  rcases bs (x1.b==(⟨[]⟩:Str).b) with I | I
  ·iterate 3 refine Nh z I ?_
   exact R z (pT z I z)<|Rm z<|Nh z z<|Nh z z<|Nh z z<|Nh z z<|Nv z<|Nv z<|Nv z<|Nh z z<|R z (pT z z z)<|Wl (fun _ q=>⟨true,som<|ifT huf I,q.k<|s2 z z,br w0⟩)
  have hmh:=ifF huf I;refine Rh z I (mv z)<|Rh z I (lnT d_9 z)<|Rh z I (a_3 z z)<|R z (pF z I z)<|Rm z ?_
  rcases bs (decide<|13<(x1.b.length:Int)) with G | G
  ·iterate 4 refine Nh z G ?_
   exact Nv z<|Nv z<|Nv z<|Nh z G<|R z (pT z G z)<|Wl (fun _ q=>⟨true,som<|ifT hmh G,q.k<|s2 z z,br w0⟩)
  refine Rh z G (mv z) ?_;obtain ⟨xw,ei,hmj⟩:=bdS<|ifF hmh G;refine Rh z G (b_D d_9 z z (a_h ei).1 (a_h ei).2.1)<|Rh z G (eql z z)<|Rh z G (mv z) ?_
  rcases bs ((byteI xw)==(byteI (48:UInt8))) with J | J
  ·exact Rh z J (mv z)<|Rh z J (lnT d_9 z)<|Rh z J (a_3 z z)<|Rh z G (pT z J z)<|R z (pF z G z)<|Wl (fun _ q=>⟨decide<|1<(x1.b.length:Int),som<|ifT hmj J,q.k<|s2 z z,br w0⟩)
  iterate 3 refine Nh z J ?_
  exact Rh z G (pF z J z)<|R z (pF z G z)<|Wl (fun _ q=>⟨false,som<|ifF hmj J,q.k<|s2 z z,br w0⟩)
 rintro ax L ⟨W,rfl,_,s6⟩;revert ax;refine Wo<|Wc z (fun hca=>?_) (fun hca=>?_)
 ·refine Ws<|Ra z<|Rw z ?_
  obtain rfl:=som<|ifT hmg hca;exact Wr<|a_4 hr z z ⟨s6,z,ii z⟩
 refine Wk<|Ws<|Rw z<|Wq<|Ws<|Rw z ?_
 obtain ⟨_,huy,hmk⟩:=bdS<|ifF hmg hca;refine Wf (σ:=Int) (ρ:=Int×Bool) (fun (kb:Nat)(x2:Int) a w=>Sat 50 [(0,Str.v x1),(4,vI x2),(5,vI ((kb:Nat):Int))] a/\Below L.z L w/\inI x2) (fun (x2:Int) a w=>Sat 50 [(4,vI x2)] a/\Below L.z L w/\inI x2) (rQ prog fn<|Q9 w0 B) huy ?_ ?_ ?_ ?_ ?_
 ·exact fun _ q=>⟨q.k<|s3 z z z,br L,ii z⟩
 ·rintro kb x2 _ O _ hkl ⟨hSz,sm,V⟩ a0;refine Wu ?_ hSz;refine Wq<|Wm z<|Rm z<|R z (lnT d_9 z)<|Rl z z z<|Wx z (fun _=>?_) (fun hc=>(T_ hkl hc).elim)
  refine Wk<|Wq<|Wb<|Wq<|Wq ?_
  obtain ⟨a7,a1,hmn⟩:=bdS a0;refine Wt (fun a w=>∃(xc:Bool),xc=a7/\Sat 50 [(0,Str.v x1),(4,vI x2),(5,vI ((kb:Nat):Int)),(38,vB xc)] a/\Below O.z O w) ?_ ?_
  ·refine Wg<|RM z z ?_
   obtain ⟨a8,eo,hmp⟩:=bdS a1;refine R z (b_D d_9 z z (a_h eo).1 (a_h eo).2.1)<|Rl z z z<|Rm z ?_
   rcases bs (decide<|(byteI a8)<(byteI (48:UInt8))) with H | H
   ·iterate 4 refine Nh z H ?_
    exact R z (pT z H z)<|Wl (fun _ q=>⟨true,som<|ifT hmp H,q.k<|s4 z z z z,br O⟩)
   refine Rh z H (mv z)<|Rh z H (mv z) ?_
   obtain ⟨a9,eq,a2⟩:=bdS<|ifF hmp H;exact Rh z H (b_D d_9 z z (a_h eq).1 (a_h eq).2.1)<|Rh z H (a_3 z z)<|R z (pF z H z)<|Wl (fun _ q=>⟨decide<|(byteI (57:UInt8))<(byteI a9),som a2,q.k<|s4 z z z z,br O⟩)
  rintro aa _ ⟨xc,rfl,_,sr⟩;revert aa;refine Wo<|Wc z (fun hcd=>?_) (fun hcd=>?_)
  ·exact Ws<|Ra z<|Rw z<|Wr<|rtO<|qL (som<|ifT hmn hcd).symm<|a_4 hr z z ⟨bup (bup s6 sm) sr,z,ii z⟩
  refine Wk<|Wg<|Rm z<|R z (e_u z z)<|RM z z ?_
  obtain ⟨ab,es,a3⟩:=bdS<|ifF hmn hcd;exact R z (b_D d_9 z z (a_h es).1 (a_h es).2.1)<|R z (k_w z z)<|R z (b_J d_5 d_3 z)<|R z (add_ z z)<|Rw z<|Wg<|Rm z<|R z (inc_ hkl (lt_ Y C_) z z)<|Ra z<|Wl (fun _ q=>⟨j_ (b_1 10 x2)<|byteI<|mkB (byteI ab - byteI (48:UInt8)),(som a3).symm,⟨q.k<|s3 z z z,bup sm sr,iA _ _⟩⟩)
 ·rintro x2 _ _ ⟨a4,ad,V⟩;refine Wu ?_ a4;refine Wq<|Wm z<|Rm z<|R z (lnT d_9 z)<|Rl z z z<|Wx z (fun hc=>(U_ hc).elim) (fun _=>?_)
  exact We<|fun _ q=>⟨rfl,⟨q.k<|s1 z,ad,V⟩⟩
 ·rintro x2 ae _ rfl ⟨_,st,V⟩;have hmu:=elL hmk;revert ae;refine Wo<|Wq<|Wm z<|R z (a_3 z z)<|Wx z (fun hce=>?_) (fun hce=>?_)
  ·refine Ws<|Ra z<|Rw z ?_
   obtain rfl:=som<|ifT hmu hce;exact Wr<|a_4 hr z z ⟨bup s6 st,z,ii z⟩
  refine Wk<|Wm z<|Ra z<|Rw z ?_
  obtain rfl:=som<|ifF hmu hce;exact Wr<|a_4 hr z z ⟨bup s6 st,z,V⟩
 rintro _ _ _ _ rfl ⟨rfl,a5⟩;have a6:=elR hmk;obtain rfl:=som a6;exact ⟨a5,z⟩
theorem W_w2q {x1:Str}{res:Bool}(hm:e_9 n x1=some res)(O:B<=w0.z)(L:x1.b.length<=LEN):i_ prog 84 [Str.v x1] w0 (Q7 w0 B res):=by
 unfold e_9 at hm
 refine goG func84 z z z fun fn hr=>Ws<|Rw z<|Wq<|Wq ?_
 obtain ⟨ub,huc,V⟩:=bdS hm;refine Wt (fun a w=>∃(x4:Bool),x4=ub/\Sat 25 [(0,Str.v x1),(18,vB x4)] a/\Below w0.z w0 w) ?_ ?_
 ·refine Wg<|Rm z ?_
  obtain ⟨rd,ee,W⟩:=bdS huc;refine E z (fc call116 z<|j_Q (B:=B) ee O L) ?_;rintro _ _ ⟨s3,rfl⟩;refine Rm z ?_
  rcases bs rd with G | G
  ·exact Nh z G<|Nh z G<|R z (pT z G z)<|Rm z<|Nh z z<|Nh z z<|R z (pT z z z)<|Rm z<|Nh z z<|Nh z z<|R z (pT z z z)<|Wl (fun _ q=>⟨true,som<|ifT W G,q.k<|s2 z z,s3⟩)
  have Y:=ifF W G;refine Rh z G (mv z)<|Rh z G (b_6 z z)<|R z (pF z G z)<|Rm z ?_
  rcases bs (x1.b==(⟨[42]⟩:Str).b) with H | H
  ·exact Nh z H<|Nh z H<|R z (pT z H z)<|Rm z<|Nh z z<|Nh z z<|R z (pT z z z)<|Wl (fun _ q=>⟨true,som<|ifT Y H,q.k<|s2 z z,s3⟩)
  have hma:=ifF Y H;refine Rh z H (mv z)<|Rh z H (b_6 z z)<|R z (pF z H z)<|Rm z ?_
  rcases bs (x1.b==(⟨[63]⟩:Str).b) with I | I
  ·exact Nh z I<|Nh z I<|R z (pT z I z)<|Wl (fun _ q=>⟨true,som<|ifT hma I,q.k<|s2 z z,s3⟩)
  exact Rh z I (mv z)<|Rh z I (b_6 z z)<|R z (pF z I z)<|Wl (fun _ q=>⟨x1.b==(⟨[43]⟩:Str).b,som<|ifF hma I,q.k<|s2 z z,s3⟩)
 rintro af _ ⟨x4,rfl,_,s5⟩;revert af;refine Wo<|Wc z (fun J=>?_) (fun J=>?_)
 ·refine Ws<|Rw z ?_
  obtain rfl:=som<|ifT V J;exact Wr<|a_ hr z ⟨s5,z⟩
 refine Wk<|Wm z ?_
 obtain ⟨_,_,eg,hmh⟩:=a_m<|ifF V J;refine E z (fc call117 z<|W_w15 eg (zt' O s5.s) L) ?_;rintro _ _ ⟨si,rfl,_⟩;refine Rm z<|Re z z z<|Re z z z<|Ra z<|Rw z<|Wm z<|Rw z ?_
 obtain rfl:=som hmh;exact Wr<|a_ hr z ⟨bup s5 si,z⟩
def Q17 (w0:World)(B:Zone)(r:(List Str)×Bool)(v:Value)(w':World):Prop:=Bw w0 w'/\un2 (fun J L=>∃(G:Option Addr)(H I:Nat)(S1:List Nat),v = .tuple #[(sl G H I),(vB L)]/\c_ w' S1 (sl G H I) J/\S1.Nodup/\(∀k∈S1,w0.heap.size<=k)) r
theorem q_T {w:World}{gp b:Nat}{s:Str}{l0 parts:List Str}(hs:s.b.length<=LEN)(hm:e_P s (47:UInt8)=some l0)(hsl:slc l0 1 (l0.length:Int)=some parts)(hp:Blk w gp [Str.v s])(hb:b<w.heap.size)(hrow:∀g,c_x w b g->g<w.heap.size) :
    SeqStopsK (α:={x:Str // x∈parts/\x.b.length<=LEN}) Fence.wide 1 Tryz.prog 137 [pt gp].toArray (fun x=>#[x.1.v]) (KpS b) (fun xs=>xs.map (·.1)=parts) (fun _=>True) parts.length w:=by
  intro l J Jx W hW hJ hJx hY h0;have hpW:=hp.ext hW
  have hrowW:∀g,c_x W b g->g<W.heap.size:=fun g ⟨n,c,h⟩=>by
    have h':w.cell? ⟨b,0,none⟩=some (sl (some ⟨g,0,none⟩) n c):=(World.cell?_of_block (w:=w) (w':=W) (a:=⟨b,0,none⟩)<|hW.block b hb).symm.trans h;exact Nat.lt_of_lt_of_le (hrow g ⟨n,c,h'⟩) hW.size
  have hbW:=Nat.lt_of_lt_of_le hb hW.size
  have hc:i_ Tryz.prog 137 [.func (.yield l) #[] #[],pt gp] W (fun _ W'=>(∃xs:List {x:Str // x∈parts/\x.b.length<=LEN},xs.map (·.1)=parts/\J xs W')∨(∃pre,True/\Jx pre W')):=by
    obtain ⟨fn,hf,hbd,hN,hr⟩:=fnE Tryz.func137;refine i_N hf (hbd.trans rfl) (hN.trans rfl) (Nat.le_of_ble_eq_true rfl) ?_;refine a_M<|b_j ?_;refine R rfl (c_n g_9 rfl (fun h=>h)<|hpW.at rfl) ?_;refine E rfl (f_c Tryz.call138 rfl<|W_w2p (B:=W.heap.size) hm zr hs) ?_;rintro _ W1 ⟨s1,a1,n1,c1,S1,rfl,ho,nd,hge⟩;refine RX rfl (p_R R_ z_9 rfl ho rfl rfl hsl) ?_;intro v7 hv7;obtain ⟨ao7,c7,rfl,_⟩:=id hv7;refine R rfl (h_6 R_ rfl<|hv7.repS (B:=W1.heap.size)<|fun k hk=>ho.lt k hk) ?_;refine R rfl (b_P rfl) ?_;refine a_N<|WC.of_KC ?_;have hJ1:J [] W1:=hJ [] W W1 none h0 (Below.grows s1) (fun r h=>by cases h);have hb1:b∉S1:=fun h=>absurd (hge b h)<|Nat.not_le.2 hbW
    have hr1:∀g,c_x W1 b g->g∉S1:=fun g ⟨n,c,h⟩ hg=>by
      have h':W.cell? ⟨b,0,none⟩=some (sl (some ⟨g,0,none⟩) n c):=(World.cell?_of_block (w:=W) (w':=W1) (a:=⟨b,0,none⟩)<|s1.block b hbW).symm.trans h;exact absurd (hge g hg)<|Nat.not_le.2<|hrowW g ⟨n,c,h'⟩
    have hlenL:parts.length<=9223372036854775807:=Nat.le_trans (by obtain ⟨_,_,_,_,h,_⟩:=hv7;exact h) C_;refine d_R fun a ha=>?_
    refine Code.wp_mono (Q:=Exit.then noK<|fun ex a w=>(ex = .exit 0/\b_O Tryz.prog fn (fun _ W'=>(∃xs:List {x:Str // x∈parts/\x.b.length<=LEN},xs.map (·.1)=parts/\J xs W')∨(∃pre,True/\Jx pre W')) a w)∨(ex = .ret/\b_O Tryz.prog fn (fun _ W'=>(∃xs:List {x:Str // x∈parts/\x.b.length<=LEN},xs.map (·.1)=parts/\J xs W')∨(∃pre,True/\Jx pre W')) a w)) (fun ex a' w' q=>?_)<|wp_loop_ghost (fun m a w=>∃(k:Nat)(pre:List {x:Str // x∈parts/\x.b.length<=LEN}),k+m=parts.length/\pre.map (·.1)=parts.take k/\Sat 18 [(9,vI (k:Int)),(8,vI (parts.length:Int)),(7,sl ao7 parts.length c7),(0,.func (.yield l) #[] #[])] a/\J pre w/\c_ w S1 (sl a1 n1 c1) l0/\(∀g,c_x w b g->g∉S1)/\d_7 w (· ∈ S1) (sl ao7 parts.length c7) parts) parts.length ?_ ?_
    · cases ex with
      | normal=>exact (show False from q).elim
      | exit i =>
        rcases q with ⟨h,q⟩ | ⟨h,_⟩
        · cases h;exact q
        · cases h
      | ret =>
        rcases q with ⟨h,_⟩ | ⟨_,q⟩
        · cases h
        · exact q
      | _=>rcases q with ⟨h,_⟩ | ⟨h,_⟩ <;> cases h
    · exact ⟨0,[],by omega,by simp,ha.weaken<|sc rfl<|sc rfl<|sc rfl<|sc rfl sn,hJ1,ho,hr1,hv7⟩
    · rintro m a w ⟨k,pre,hkm,hpre,hsat,hJw,how,hrw,hvw⟩
      refine h_c (N:=18) (e:=[(9,vI (k:Int)),(8,vI (parts.length:Int)),(7,sl ao7 parts.length c7),(0,.func (.yield l) #[] #[])]) ?_ hsat;refine a_M<|b_j<|R rfl (f_l rfl rfl)<|a_N<|WC.of_KC ?_;refine a_M<|c_T rfl (fun hc=>?_)<|fun hc=>?_
      · have hk:k<parts.length:=by simpa using hc
        obtain ⟨m,rfl⟩:∃m',m=m'+1:=⟨m - 1,by omega⟩;refine a_f<|WC.of_KC ?_;refine a_M<|d_R ?_;refine a_M<|b_j ?_;have hrep:=hvw.repS (B:=w.heap.size)<|fun k hk=>how.lt k hk;have hidx:idx parts (k:Int)=some parts[k]:=by rw [k_u];simp [hk]
        refine RX rfl (h_7 (α:=Str) R_ z_9 rfl rfl rfl hrep hidx) ?_;rintro _ ⟨bb,oo,cs,rfl,hc1,hrr,hlt⟩;obtain ⟨rfl,hxl⟩:=a_U hrr;refine R rfl (c_n g_9 rfl (fun h=>h)<|hc1.at0 rfl) ?_;refine R rfl (d_o rfl) ?_;refine a_N<|WC.of_KC ?_;refine a_M<|p_K ?_;refine h_H rfl (b_P rfl) ?_;refine h_H rfl (b_P rfl) ?_
        have hpl:pre.length=k:=by
          have:=congrArg List.length hpre
          simp at this;omega
        refine p_L (S:=fun v w'=>(v=vB true/\J (pre++[⟨parts[k],List.getElem_mem hk,hxl⟩]) w'/\KpS b w w')∨(v=vB false/\Jx (pre++[⟨parts[k],List.getElem_mem hk,hxl⟩]) w')) rfl rfl rfl (hY pre ⟨parts[k],List.getElem_mem hk,hxl⟩ w hJw (by omega)) (fun e w' h=>?_) ?_
        · rcases h with ⟨rfl,h⟩ | ⟨rfl,h⟩
          · exact ⟨_,rfl,.inl ⟨rfl,h⟩⟩
          · exact ⟨_,rfl,.inr ⟨rfl,h⟩⟩
        rintro v w' (⟨rfl,hJ',hK⟩ | ⟨rfl,hX⟩)
        · refine h_H rfl (e_v rfl) ?_
          refine m_1<|WC.of_KC ?_;refine c_T rfl (fun h=>by cases h)<|fun _=>?_;refine a_f<|WC.of_KC ?_;refine b_j<|R rfl (h_1 hk hlenL rfl rfl)<|R rfl (b_P rfl) ?_;obtain ⟨ho',hr'⟩:=hK.own how hb1 hrw
          have hv':d_7 w' (· ∈ S1) (sl ao7 parts.length c7) parts:=hvw.stay fun g hg=>hK.chg.block g (how.lt g hg) fun hm=>by
            rcases hm with rfl | hm | ⟨o,ho2,hcl⟩
            · exact hb1 hg
            · exact hrw g hm hg
            · obtain ⟨cur,hB⟩:=e_G how g hg
              rw [hB.isCells ho2] at hcl;cases hcl
          refine a_N fun a' ha'=>⟨m,Nat.lt_succ_self _,k+1,pre++[⟨parts[k],List.getElem_mem hk,hxl⟩],by omega,?_,ha'.weaken<|sc rfl<|sc rfl<|sc rfl<|sc rfl sn,hJ',ho',hr',hv'⟩
          rw [List.map_append,hpre,List.take_add_one,List.getElem?_eq_getElem hk];rfl
        · refine h_H rfl (e_v rfl) ?_
          refine m_1<|WC.of_KC ?_;refine c_T rfl (fun _=>?_) (fun h=>by cases h);exact d_Q<|rtO fun a' ha'=>.inr ⟨rfl,ret0 hr (.inr ⟨_,trivial,hX⟩) a' ha'⟩
      · have hk:¬k<parts.length:=by simpa using hc
        have:k=parts.length:=by omega
        subst this;refine g_X fun a' ha'=>.inl ⟨rfl,ret0 hr (.inl ⟨pre,?_,hJw⟩) a' ha'⟩
        rw [hpre,List.take_length]
  refine callsIn_wide.2<|hc.run.mono fun e w' ⟨v,he,h⟩=>⟨⟨v,he⟩,h⟩
theorem m_n {w0 W W':World}{row:Option Nat}(h:Below w0.heap.size w0 W)(hg:W.grownBy W' row)(hr:∀r,row=some r->w0.heap.size<=r):Below w0.heap.size w0 W':=d_i h (j_x hg) fun k hk e=>absurd (hr k e)<|Nat.not_le.2 hk
def q_U (w0:World)(s:Str)(v:Value)(w':World):Prop:=v = .func (.func 137) #[] #[pt w0.heap.size]/\Blk w' w0.heap.size [Str.v s]/\Bw w0 w'
theorem q_V {w0:World}{s:Str}:i_ Tryz.prog 115 [Str.v s] w0 (q_U w0 s):=by
  obtain ⟨_,hf,hb,hN,hr⟩:=fnE Tryz.func115;refine i_N hf (hb.trans rfl) (hN.trans rfl) (Nat.le_of_ble_eq_true rfl) ?_;refine a_M<|b_j ?_;refine E rfl (f_b rfl) ?_;rintro _ G ⟨rfl,h1⟩;refine R rfl (d_o rfl) ?_;refine a_N<|WC.of_KC ?_;refine a_M<|b_j ?_;refine R rfl (i_f rfl) ?_;refine R rfl (d_o rfl) ?_;refine a_N<|WC.of_KC ?_;exact d_Q<|a_ hr rfl ⟨rfl,(h1.blk:Blk G w0.heap.size [Str.v s]),h1.below⟩
theorem W_w2r {n:Nat}{B:Zone}{x1:Str}{res:(List Str)×Bool}{w0:World}(hm:h_M n x1=some res)(hBw:B<=w0.heap.size)(p1_0:x1.b.length<=LEN):i_ Tryz.prog 83 [(Str.v x1),.func (.func 84) #[] #[]] w0 (Q17 w0 B res):=by
  unfold h_M at hm
  obtain ⟨fn,hf,hb,hN,hr⟩:=fnE Tryz.func83;refine p_O hf (hb.trans rfl) (hN.trans rfl) (Nat.le_of_ble_eq_true rfl) ?_
  -- the cells
  refine a_M<|b_j ?_;refine E rfl (f_b rfl) ?_;rintro _ w1 ⟨rfl,h1⟩;have b3:Blk w1 w0.heap.size [.func (.func 84) #[] #[]]:=h1.blk;refine E rfl (e_l m_k) ?_;rintro _ w2 ⟨rfl,h2⟩;have b4:Blk w2 w1.heap.size [.slice none 0 0]:=h2.blk;refine E rfl (e_l zero_4) ?_;rintro _ w3 ⟨rfl,h3⟩;have b5:Blk w3 w2.heap.size [vB false]:=h3.blk;refine a_N<|WC.of_KC ?_;refine a_M<|b_j ?_;refine E rfl (f_g (α:=Str) a_S) ?_;rintro _ w4 ⟨a,m,c,rfl,s4,ho4⟩;refine E rfl (e_l m_k) ?_;rintro _ w5 ⟨rfl,h5⟩;have b6:Blk w5 w4.heap.size [.slice none 0 0]:=h5.blk;refine E0 (b_z (cur':=[.slice a m c]) e_h rfl rfl b6 rfl (Nat.le_of_ble_eq_true rfl) (b_L rfl) rfl) ?_;rintro _ w6 ⟨c6,s6⟩;have t6:=s6.one;refine a_N<|WC.of_KC ?_
  -- what is known behind
  have g1:=h1.below;have g2:=h2.below;have g3:=h3.below;have g5:=h5.below;have z1:=h1.size;have z2:=h2.size;have z3:=h3.size;have z5:=h5.size;have z4:=s4.size;have z6:=s6.size
  have hz:w0.heap.size<w1.heap.size/\w1.heap.size<w2.heap.size/\w2.heap.size<w3.heap.size/\w3.heap.size<w4.heap.size/\w4.heap.size<w6.heap.size:=by
    have:=ho4.lt _ List.mem_cons_self
    omega
  have k3:Blk w6 w0.heap.size [.func (.func 84) #[] #[]]:=((((b3.ext g2).ext g3).ext s4).ext g5).chg s6 (by omega);have k4:Blk w6 w1.heap.size [.slice none 0 0]:=(((b4.ext g3).ext s4).ext g5).chg s6 (by omega);have k5:Blk w6 w2.heap.size [vB false]:=((b5.ext s4).ext g5).chg s6 (by omega);have kS:c_ w6 [w3.heap.size] (sl a m c) ([]:List Str):=(ho4.ext g5).chg s6 (fun k hk=>by have:=List.mem_singleton.1 hk;omega);have kB:Below w0.heap.size w0 w6:=d_k (bup (bup (bup (bup g1 g2) g3) s4) g5) t6 (fun k hk=>by have:=List.mem_singleton.1 hk;omega)
  clear b3 b4 b5 b6 ho4 h1 h2 h3 h5 s4 s6 t6 g1 g2 g3 g5 z1 z2 z3 z4 z5 z6
  -- the first look
  refine a_M<|a_M<|b_j ?_;refine R rfl (b_P rfl) ?_;refine R rfl (b_6 rfl rfl) ?_;refine a_N<|WC.of_KC ?_;refine c_T rfl (fun hc=>?_)<|fun hc=>?_
  · obtain rfl:=som (ifT hm hc)
    refine a_M<|b_j ?_;refine R rfl (c_n a_A rfl (fun h=>h)<|c6.at rfl) ?_;refine E0 (b_z (cur':=[.slice a m c]) e_h rfl rfl k4 rfl (Nat.le_of_ble_eq_true rfl) (b_L rfl) rfl) ?_;rintro _ w7 ⟨c7,s7⟩;refine E0 (b_z (cur':=[vB true]) z_4 rfl rfl (k5.chg s7 (by omega)) rfl (Nat.le_of_ble_eq_true rfl) (b_L rfl) rfl) ?_;rintro _ w8 ⟨c8,s8⟩;refine a_N<|WC.of_KC ?_;refine d_Q fun a' ha'=>retM<|a_4 hr (d_l (n:=1) a_A rfl<|c7.chg s8 (by omega)) (d_l (n:=1) g_4 rfl c8) ⟨d_k (d_k kB s7.one (fun k hk=>by have:=List.mem_singleton.1 hk;omega)) s8.one (fun k hk=>by have:=List.mem_singleton.1 hk;omega),?_⟩ a' ha'
    exact ⟨a,m,c,_,rfl,(kS.chg s7 (fun k hk=>by have:=List.mem_singleton.1 hk;omega)).chg s8 (fun k hk=>by have:=List.mem_singleton.1 hk;omega),(by simp),fun k hk=>by have:=List.mem_singleton.1 hk;omega⟩
  replace hm:=ifF hm hc;refine a_f<|WC.of_KC ?_
  -- the first byte
  refine a_M<|a_M<|b_j ?_;refine R rfl (b_P rfl) ?_;obtain ⟨x13,e13,hm⟩:=bdS hm;refine R rfl (b_D d_9 rfl rfl (a_h e13).1 (a_h e13).2.1) ?_;refine R rfl (h_l rfl rfl) ?_;refine a_N<|WC.of_KC ?_;refine c_T rfl (fun hc=>?_)<|fun hc=>?_
  · obtain rfl:=som (ifT hm hc)
    refine a_M<|b_j ?_;refine R rfl (c_n a_A rfl (fun h=>h)<|c6.at rfl) ?_;refine E0 (b_z (cur':=[.slice a m c]) e_h rfl rfl k4 rfl (Nat.le_of_ble_eq_true rfl) (b_L rfl) rfl) ?_;rintro _ w7 ⟨c7,s7⟩;refine E0 (b_z (cur':=[vB false]) z_4 rfl rfl (k5.chg s7 (by omega)) rfl (Nat.le_of_ble_eq_true rfl) (b_L rfl) rfl) ?_;rintro _ w8 ⟨c8,s8⟩;refine a_N<|WC.of_KC ?_;refine d_Q fun a' ha'=>retM<|a_4 hr (d_l (n:=1) a_A rfl<|c7.chg s8 (by omega)) (d_l (n:=1) g_4 rfl c8) ⟨d_k (d_k kB s7.one (fun k hk=>by have:=List.mem_singleton.1 hk;omega)) s8.one (fun k hk=>by have:=List.mem_singleton.1 hk;omega),?_⟩ a' ha'
    exact ⟨a,m,c,_,rfl,(kS.chg s7 (fun k hk=>by have:=List.mem_singleton.1 hk;omega)).chg s8 (fun k hk=>by have:=List.mem_singleton.1 hk;omega),(by simp),fun k hk=>by have:=List.mem_singleton.1 hk;omega⟩
  replace hm:=ifF hm hc;refine a_f<|WC.of_KC ?_;obtain ⟨l0,hsp,hm⟩:=bdS hm;obtain ⟨parts,hsl,hm⟩:=bdS hm;obtain ⟨oks,hok,hm⟩:=bdS hm
  split at hm
  case isFalse=>cases hm
  rename_i hlim
  obtain rfl:=som hm;obtain ⟨hacc,hall⟩:=m_7 hok
  -- the loop
  refine a_M<|a_M<|b_j ?_;refine R rfl (b_P rfl) ?_;refine E rfl (f_c Tryz.call115 rfl q_V) ?_;rintro _ w7 ⟨rfl,bp,s7⟩;refine a_N<|WC.of_KC ?_;replace k3:=k3.ext s7;replace k4:=k4.ext s7;replace k5:=k5.ext s7;replace c6:=c6.ext s7;replace kS:=kS.ext s7;replace kB:=bup kB<|s7.mono<|Nat.le_refl _;have z7:=s7.size
  have hrow:∀g,c_x w7 w4.heap.size g->g<w7.heap.size:=fun g hg=>by
    have h1:=m_4 c6 hg;exact kS.lt _<|(h_I kS).2 g 0 none h1
  generalize w1.heap.size=q4 at *
  generalize w2.heap.size=q5 at *
  generalize w4.heap.size=q6 at *
  refine p_P (α:={x:Str // x∈parts/\x.b.length<=LEN}) (f:=fun x=>x.1) (gf:=137) (lb:=[pt w6.heap.size]) (b:=q6) (M:=parts.length) (S:=fun xs=>xs.map (·.1)=parts) (Sp:=fun _=>True) rfl Tryz.call137 rfl rfl (by omega)
    (q_T p1_0 hsp hsl bp (by omega) hrow)
    (fun pre W=>(∀x∈pre,(e_9 n x.1).getD false=true)/\(∃(a:Option Addr)(m c:Nat)(S:List Nat),Blk W q6 [.slice a m c]/\c_ W S (sl a m c) (pre.map (·.1))/\S.Nodup/\(∀k∈S,q5<k/\k ≠ q6))/\Blk W w0.heap.size [.func (.func 84) #[] #[]]/\Blk W q4 [.slice none 0 0]/\Blk W q5 [vB false]/\Below w0.heap.size w0 W)
    (fun pre W=>(∃x∈pre,(e_9 n x.1).getD false=false)/\(∃(a:Option Addr)(m c:Nat)(S:List Nat),Blk W q4 [.slice a m c]/\c_ W S (sl a m c) ([]:List Str)/\S.Nodup/\(∀k∈S,w0.heap.size<=k))/\Blk W q5 [vB false]/\Below w0.heap.size w0 W)
    ?_ ?_ ?_ ?_ ?_ ?_
  · rintro pre W W' row ⟨h1,⟨a,m,c,S,h2,h3,h4,h5⟩,h6,h7,h8,h9⟩ hg hr
    have hr':=fun r e=>(hr r e).2
    exact ⟨h1,⟨a,m,c,S,h2.grown hg hr',m_6 h3 hg hr',h4,h5⟩,h6.grown hg hr',h7.grown hg hr',h8.grown hg hr',m_n h9 hg fun r e=>Nat.le_trans (by omega) (hr r e).1⟩
  · rintro pre W W' row ⟨h1,⟨a,m,c,S,h2,h3,h4,h5⟩,h8,h9⟩ hg hr
    have hr':=fun r e=>(hr r e).2
    exact ⟨h1,⟨a,m,c,S,h2.grown hg hr',m_6 h3 hg hr',h4,h5⟩,h8.grown hg hr',m_n h9 hg fun r e=>Nat.le_trans (by omega) (hr r e).1⟩
  · exact ⟨fun x hx=>(by cases hx),⟨a,m,c,_,c6,kS,(by simp),fun k hk=>by have:=List.mem_singleton.1 hk;omega⟩,k3,k4,k5,kB⟩
  · rintro l pre ⟨x,hx,hxl⟩ W ⟨h1,⟨a,m,c,S,h2,h3,h4,h5⟩,h6,h7,h8,h9⟩ hlt
    refine p_J<|j_w<|j_w<|j_v rfl (fun _ _ h=>by cases h.1) ?_;refine R rfl (c_n g_74 rfl (fun h=>h)<|h6.at rfl) ?_;refine R rfl (b_P rfl) ?_;refine E rfl (d_h (caps:=[]) Tryz.call84 rfl rfl<|W_w2q (hacc x hx) zr hxl) ?_;rintro _ W1 ⟨s1,rfl⟩;refine R rfl (e_v rfl) ?_;refine a_N<|WCI.of_KC ?_;have y1:=s1.size;have hq6:=h2.lt;have hw0.heap.size:=h6.lt;have hq4:=h7.lt;have hq5:=h8.lt;refine p_G rfl (fun hc=>?_)<|fun hc=>?_
    · refine j_w (j_v rfl (fun _ _ h=>by cases h.1) ?_)
      refine E rfl (f_g (α:=Str) a_S) ?_;rintro _ W2 ⟨a2,m2,c2,rfl,s2,ho2⟩;refine E0 (b_z (cur':=[.slice a2 m2 c2]) e_h rfl rfl ((h7.ext s1).ext s2) rfl (Nat.le_of_ble_eq_true rfl) (b_L rfl) rfl) ?_;rintro _ W3 ⟨c3,s3⟩;refine E0 (b_z (cur':=[vB false]) z_4 rfl rfl (((h8.ext s1).ext s2).chg s3 (by omega)) rfl (Nat.le_of_ble_eq_true rfl) (b_L rfl) rfl) ?_;rintro _ W4 ⟨c4,s4⟩;refine a_N<|WCI.of_KC ?_;have hW:Below W.heap.size W W2:=bup s1 s2
      have hc4:Chg (fun k=>k=q4∨k=q5) W W4:=by
        have e1:Chg (fun k=>k=q4∨k=q5) W W2:=(Chg.refl _ W).ext hW;refine (e1.comp s3 fun k _ hk=>.inl hk).comp s4 fun k _ hk=>.inr hk
      refine p_I fun _ q=>⟨rfl,m_5 hc4 fun k _ hk=>?_,⟨⟨x,hx,hxl⟩,by simp,by simpa using hc⟩,⟨a2,m2,c2,_,c3.chg s4 (by omega),(ho2.chg s3 fun k hk=>by have:=List.mem_singleton.1 hk;omega).chg s4 fun k hk=>by have:=List.mem_singleton.1 hk;omega,(by simp),fun k hk=>by have:=List.mem_singleton.1 hk;omega⟩,c4,?_⟩
      · rcases hk with rfl | rfl
        · exact ⟨_,h7⟩
        · exact ⟨_,h8⟩
      · exact d_i h9 hc4 fun k hk hm=>by rcases hm with rfl | rfl <;> omega
    · refine p_H (WCI.of_KC ?_)
      refine j_v rfl (fun _ _ h=>by cases h.1) ?_
      have hpsh:psh (pre.map (·.1)) x=some (pre.map (·.1)++[x]):=by
        unfold psh
        rw [if_pos (by rw [List.length_map];omega)]
      refine R rfl (c_n a_A rfl (fun h=>h)<|(h2.ext s1).at rfl) ?_;refine R rfl (b_P rfl) ?_;refine E rfl (g_Z [(.tmp 25)] a_S rfl rfl rfl (b_X rfl) (Nat.le_of_ble_eq_true rfl)<|Nat.le_of_ble_eq_true rfl) ?_;rintro _ W2 ⟨rfl,hb⟩;have s2:=hb.below;have y2:=s2.size;refine E rfl (c_E (α:=Str) a_S hpsh rfl rfl ((h3.ext s1).ext s2) h4 hb.blk (b_K hxl) all_nil a_q) ?_;rintro _ W3 ⟨S',a',n',c',rfl,s3,ho3,nd3,hs3⟩;have y3:=s3.size
      have n3:∀k,k<W.heap.size->k<=q5∨k=q6->k∉S':=fun k hk hq hm=>by
        rcases hs3 k hm with h | h | h
        · have:=h5 k h;omega
        · cases h
        · omega
      refine E0 (b_z (cur':=[.slice a' n' c']) e_h rfl rfl (((h2.ext s1).ext s2).chg s3 (fun hm=>(h5 _ hm).2 rfl)) rfl (Nat.le_of_ble_eq_true rfl) (b_L rfl) rfl) ?_;rintro _ W4 ⟨c4,s4⟩;have hW:Below W.heap.size W W2:=bup s1 s2
      have hc4:Chg (fun k=>k=q6∨k∈S) W W4:=by
        have e1:Chg (fun k=>k=q6∨k∈S) W W2:=(Chg.refl _ W).ext hW;refine (e1.comp s3 fun k _ hk=>.inr hk).comp s4 fun k _ hk=>.inl hk
      have ho4:c_ W4 S' (sl a' n' c') (pre.map (·.1)++[x]):=ho3.chg s4 fun k hk he=>n3 q6 hq6 (.inr rfl)<|he ▸ hk
      have hs4:∀k∈S',k∈S∨W.heap.size<=k:=fun k hk=>by
        rcases hs3 k hk with h | h | h
        · exact .inl h
        · cases h
        · exact .inr (by omega)
      have k4:∀k,k<=q5->¬(k=q6∨k∈S):=fun k hk hm=>by
        rcases hm with rfl | hm
        · omega
        · have:=h5 k hm;omega
      refine a_N fun a'' ha''=>⟨m_5 hc4 fun k _ hk=>?_,KpS.of_chg h2 h3 c4 ho4 hs4 hc4,fun y hy=>?_,⟨a',n',c',S',c4,by simpa using ho4,nd3,fun k hk=>?_⟩,h6.chg hc4<|k4 _ (by omega),h7.chg hc4<|k4 _ (by omega),h8.chg hc4<|k4 _ (by omega),d_i h9 hc4 fun k hk hm=>k4 k (by omega) hm⟩
      · rcases hk with rfl | hk
        · exact ⟨_,h2⟩
        · exact e_G h3 k hk
      · rcases List.mem_append.1 hy with hy | hy
        · exact h1 y hy
        · obtain rfl:=List.mem_singleton.1 hy
          simpa using hc
      · rcases hs4 k hk with h | h
        · exact h5 k h
        · omega
  · rintro D xs W hD hxs ⟨h1,⟨a,m,c,S,h2,h3,h4,h5⟩,h6,h7,h8,h9⟩ hdef a0 ha0
    have hw0.heap.size:=h6.lt;have hq4:=h7.lt;have hq5:=h8.lt;refine tailD ?_ ha0;refine R rfl (c_n a_A rfl (fun h=>h)<|h2.at rfl) ?_;refine E0 (b_z (cur':=[.slice a m c]) e_h rfl rfl h7 rfl (Nat.le_of_ble_eq_true rfl) (b_L rfl) rfl) ?_;rintro _ W1 ⟨c7,s7⟩;refine E0 (b_z (cur':=[vB true]) z_4 rfl rfl (h8.chg s7 (by omega)) rfl (Nat.le_of_ble_eq_true rfl) (b_L rfl) rfl) ?_;rintro _ W2 ⟨c8,s8⟩;have hDlt:=(Array.getElem?_eq_some_iff.1 hdef).1;have hdef2:W2.heap[D]? = some (.deferred<|some []):=((s8.block D (Nat.lt_of_lt_of_le hDlt s7.size) (by omega)).trans (s7.block D hDlt (by omega))).trans hdef
    have hDS:∀k∈S,k ≠ D:=fun k hk e=>by
      obtain ⟨cur,hB⟩:=e_G h3 k hk;have:=(e ▸ hB).isCells hdef
      cases this
    have hoks:oks.all id=true:=hall.2 fun y hy=>by
      rw [← hxs] at hy
      obtain ⟨z,hz,rfl⟩:=List.mem_map.1 hy;exact h1 z hz
    rw [if_pos hoks]
    refine a_N fun a' ha'=>⟨ha'.defers,hdef2,?_⟩
    have hp:=m_2 W2 D<|.deferred none;obtain ⟨_,v,e1,e2⟩:=a_4 (R:=Q17 w0 B (parts,true)) hr (d_l (n:=1) a_A rfl<|(c7.chg s8 (by omega)).chg hp (by omega)) (d_l (n:=1) g_4 rfl<|c8.chg hp (by omega)) ⟨d_i (d_i (d_i h9 s7 fun k hk e=>by omega) s8 fun k hk e=>by omega) hp fun k hk e=>by omega,a,m,c,S,rfl,((hxs ▸ h3).chg s7 fun k hk e=>by have:=h5 k hk;omega).chg s8 (fun k hk e=>by have:=h5 k hk;omega) |>.chg hp fun k hk e=>hDS k hk e,h4,fun k hk=>by have:=h5 k hk;omega⟩ a' ha';exact ⟨v,e1,e2⟩
  · rintro D pre W hD _ ⟨⟨⟨x,hx,hxl⟩,hxm,hxb⟩,⟨a,m,c,S,h2,h3,h4,h5⟩,h8,h9⟩ hdef a0 ha0
    have hq4:=h2.lt;have hq5:=h8.lt
    have hDS:∀k∈S,k ≠ D:=fun k hk e=>by
      obtain ⟨cur,hB⟩:=e_G h3 k hk;have:=(e ▸ hB).isCells hdef
      cases this
    have hoks:¬oks.all id=true:=fun h=>by
      have:=hall.1 h x hx
      rw [this] at hxb;cases hxb
    rw [if_neg hoks]
    have hp:=m_2 W D<|.deferred none;obtain ⟨_,v,e1,e2⟩:=a_4 (R:=Q17 w0 B ([],false)) hr (d_l (n:=1) a_A rfl<|h2.chg hp (by omega)) (d_l (n:=1) g_4 rfl<|h8.chg hp (by omega)) ⟨d_i h9 hp fun k hk e=>by omega,a,m,c,S,rfl,h3.chg hp fun k hk e=>hDS k hk e,h4,h5⟩ a0 ha0;exact retD ha0.defers hdef e1 e2
def Q18 (w0:World)(B:Zone)(r:(List Str)×Bool)(v:Value)(w':World):Prop:=Bw w0 w'/\un2 (fun J L=>∃G H I S1,v = .tuple #[sl G H I,vB L]/\c_ w' S1 (sl G H I) J/\S1.Nodup/\(∀k∈S1,w0.z<=k)) r
theorem W_w2s {x1:Str}{res:(List Str)×Bool}(hm:g_8 n x1=some res)(H:B<=w0.z)(G:x1.b.length<=LEN):i_ prog 59 [Str.v x1] w0 (Q18 w0 B res):=by
 unfold g_8 at hm
 refine goG func59 z z z fun fn hr=>Ws<|Ra z<|Rw z<|Wm z ?_
 obtain ⟨_,_,J,I⟩:=a_m hm;refine E z (fc call83 z<|W_w2r (B:=B) J H G) ?_;rintro _ _ ⟨s2,L,O,V,W,rfl,Y,h8,h9⟩;refine Re z z z<|Re z z z<|Ra z<|Rw z ?_
 obtain rfl:=som I;exact Wr<|a_4 hr z z ⟨s2,L,O,V,W,z,Y,h8,h9⟩
theorem d_f {x1:Int}{x2:Int}{x3:Int}{res:Bool}(hm:b_U x1 x2 x3=some res)(Y:B<=w0.z)(O:inI x1)(V:inI x2)(W:inI x3):i_ prog 85 [vI x1,vI x2,vI x3] w0 (Q7 w0 B res):=by
 unfold b_U at hm
 refine goG func85 z z z fun fn hr=>Ws<|Rw z<|Wq ?_
 obtain ⟨J,H,I⟩:=bdS hm;refine Wt (fun a w=>∃(x4:Bool),x4=J/\Sat 15 [(6,vB x4)] a/\Below w0.z w0 w) ?_ ?_
 ·refine Wg<|RM z z<|R z (b_E z z)<|Rm z ?_
  rcases bs (decide<|x2<=x1) with G | G
  ·exact Rh z G (mv z)<|Rh z G (mv z)<|Rh z G (b_E z z)<|R z (pT z G z)<|Ra z<|Wl (fun _ q=>⟨decide<|x1<=x3,som<|ifT H G,q.k<|s1 z,br w0⟩)
  iterate 3 refine Nh z G ?_
  exact R z (pF z G z)<|Ra z<|Wl (fun _ q=>⟨false,som<|ifF H G,q.k<|s1 z,br w0⟩)
 rintro L _ ⟨x4,rfl,_,s6⟩;revert L;refine Wo ?_;obtain rfl:=som I;exact Wr<|a_ hr z ⟨s6,z⟩
theorem j_R {x1:d_}{x2:Int}{res:Bool}(hm:d_G x1 x2=some res)(Y:B<=w0.z)(J:repS w0 B (sl A0 N0 C0) x1.rules)(W:inI x2):i_ prog 91 [(.agg #[sl A0 N0 C0]),vI x2] w0 (Q7 w0 B res):=by
 unfold d_G at hm
 refine goG func91 z z z fun fn hr=>Ws<|E z (fb z) ?_
 rintro _ H ⟨rfl,h2⟩;have h4:=h2.below;refine Rw z<|Wq ?_
 obtain ⟨O,I,L⟩:=bdS hm;refine Wt (fun a w=>∃(x3:Bool),x3=O/\Sat 14 [(4,vB x3)] a/\Below H.z H w) ?_ ?_
 ·refine Wg<|Rm z<|R z (b_m z z)<|Rm z ?_
  rcases bs (decide<|0<=x2) with G | G
  ·exact Rh z G (mv z)<|Rh z G (fd a_5 z)<|Rh z G (l0 a_9 z<|(h2.blk:Blk H w0.z [sl A0 N0 C0]).at z)<|Rh z G (lnR Z_ z<|J.e h4)<|Rh z G (lss z z)<|R z (pT z G z)<|Ra z<|Wl (fun _ q=>⟨decide<|x2<(x1.rules.length:Int),som<|ifT I G,q.k<|s1 z,br H⟩)
  iterate 5 refine Nh z G ?_
  exact R z (pF z G z)<|Ra z<|Wl (fun _ q=>⟨false,som<|ifF I G,q.k<|s1 z,br H⟩)
 rintro V _ ⟨x3,rfl,_,sa⟩;revert V;refine Wo ?_;obtain rfl:=som L;exact Wr<|a_ hr z ⟨bup h4 sa,z⟩
theorem d_g {x1:b_}{x2:Bool}{x3:Bool}{x4:Bool}{x5:Bool}{x6:Int}{res:Bool}(hm:c_6 x1 x2 x3 x4 x5 x6=some res)(a8:B<=w0.z)(a4:x1.name.b.length<=LEN)(a5:inI x1.kind)(a6:inI x1.size)(a0:repS w0 B (sl AB NB CB) x1.bytes)(a1:repS w0 B (sl AA NA CA) x1.names)(a2:repS w0 B (sl AC NC CC) x1.tags)(a3:repS w0 B (sl AD ND CD) x1.kids)(a7:inI x6):i_ prog 139 [(.agg #[Str.v x1.name,vI x1.kind,vI x1.size,vB x1.little,sl AB NB CB,sl AA NA CA,sl AC NC CC,sl AD ND CD]),vB x2,vB x3,vB x4,vB x5,vI x6] w0 (Q7 w0 B res):=by
 unfold c_6 at hm
 refine goG func139 z z z fun fn hr=>Ws<|E z (fb z) ?_
 rintro _ w9 ⟨rfl,hd⟩;have ha:=hd.below;have hb:Blk w9 w0.z (vR x1 AB NB CB AA NA CA AC NC CC AD ND CD):=hd.blk;refine Rw z<|Wq ?_
 obtain ⟨ur,hus,hmt⟩:=bdS hm;refine Wt (fun a w=>∃(xc:Bool),xc=ur/\Sat 57 [(12,vB xc)] a/\Below w9.z w9 w) ?_ ?_
 ·refine Wg<|RM z z ?_
  obtain ⟨ue,huf,hmu⟩:=bdS hus;refine c_D 18 ue 4 ?_ ?_
  ·rcases bs x2 with Y | Y
   ·iterate 3 refine Nh z Y ?_
    exact R z (pT z Y z)<|WLq 4 (ifT huf Y) z z z
   exact Rh z Y (fd a_w z)<|Rh z Y (l0 g_3 z<|hb.at z)<|Rh z Y (eql z z)<|R z (pF z Y z)<|WLq 4 (ifF huf Y) z z z
  refine Rm z ?_;obtain ⟨ug,huh,hmv⟩:=bdS hmu;refine c_D 27 ug 8 ?_ ?_
  ·rcases bs ue with G | G
   ·have hmi:=ifT huh G;refine Rh z G (mv z)<|Rh z G (mv z) ?_
    rcases bs x3 with O | O
    ·iterate 4 refine Nh z O ?_
     exact Rh z G (pT z O z)<|R z (pT z G z)<|WLq 8 (ifT hmi O) z z z
    exact Rh z O (fd a_T z)<|Rh z O (l0 O_ z<|hb.at z)<|Rh z O (lnR k_ z<|a0.e ha)<|Rh z O (eql z z)<|Rh z G (pF z O z)<|R z (pT z G z)<|WLq 8 (ifF hmi O) z z z
   exact Nh z G<|Nh z G<|Nv z<|Nv z<|Nv z<|Nv z<|Nh z G<|R z (pF z G z)<|WLq 8 (ifF huh G) z z z
  refine Rm z ?_;obtain ⟨uj,huk,hmw⟩:=bdS hmv;refine c_D 36 uj 8 ?_ ?_
  ·rcases bs ug with H | H
   ·have hml:=ifT huk H;refine Rh z H (mv z)<|Rh z H (mv z) ?_
    rcases bs x4 with V | V
    ·iterate 4 refine Nh z V ?_
     exact Rh z H (pT z V z)<|R z (pT z H z)<|WLq 8 (ifT hml V) z z z
    exact Rh z V (fd b_y z)<|Rh z V (l0 a_A z<|hb.at z)<|Rh z V (lnR R_ z<|a1.e ha)<|Rh z V (eql z z)<|Rh z H (pF z V z)<|R z (pT z H z)<|WLq 8 (ifF hml V) z z z
   exact Nh z H<|Nh z H<|Nv z<|Nv z<|Nv z<|Nv z<|Nh z H<|R z (pF z H z)<|WLq 8 (ifF huk H) z z z
  refine Rm z ?_;obtain ⟨um,hun,hmo⟩:=bdS hmw;refine c_D 45 um 8 ?_ ?_
  ·rcases bs uj with I | I
   ·have hmp:=ifT hun I;refine Rh z I (mv z)<|Rh z I (mv z) ?_
    rcases bs x5 with W | W
    ·iterate 4 refine Nh z W ?_
     exact Rh z I (pT z W z)<|R z (pT z I z)<|WLq 8 (ifT hmp W) z z z
    exact Rh z W (fd a_L z)<|Rh z W (l0 u_ z<|hb.at z)<|Rh z W (lnR o_ z<|a2.e ha)<|Rh z W (eql z z)<|Rh z I (pF z W z)<|R z (pT z I z)<|WLq 8 (ifF hmp W) z z z
   exact Nh z I<|Nh z I<|Nv z<|Nv z<|Nv z<|Nv z<|Nh z I<|R z (pF z I z)<|WLq 8 (ifF hun I) z z z
  refine Rm z ?_
  rcases bs um with J | J
  ·have hmq:=ifT hmo J;refine Rh z J (mv z)<|Rh z J (lss z z)<|Rh z J (mv z) ?_
   rcases bs (decide<|x6<0) with L | L
   ·iterate 5 refine Nh z L ?_
    exact Rh z J (pT z L z)<|R z (pT z J z)<|Ra z<|Wl (fun _ q=>⟨true,som<|ifT hmq L,q.k<|s1 z,br w9⟩)
   exact Rh z L (fd G_ z)<|Rh z L (l0 u_ z<|hb.at z)<|Rh z L (lnR o_ z<|a3.e ha)<|Rh z L (mv z)<|Rh z L (eql z z)<|Rh z J (pF z L z)<|R z (pT z J z)<|Ra z<|Wl (fun _ q=>⟨(x1.kids.length:Int)==x6,som<|ifF hmq L,q.k<|s1 z,br w9⟩)
  iterate 3 refine Nh z J ?_
  exact Nv z<|Nv z<|Nv z<|Nv z<|Nv z<|Nh z J<|R z (pF z J z)<|Ra z<|Wl (fun _ q=>⟨false,som<|ifF hmo J,q.k<|s1 z,br w9⟩)
 rintro ax _ ⟨xc,rfl,_,sy⟩;revert ax;refine Wo ?_;obtain rfl:=som hmt;exact Wr<|a_ hr z ⟨bup ha sy,z⟩
theorem e_i {x1:d_}{x2:Int}{res:Int}(hm:c_y x1 x2=some res)(V:B<=w0.z)(I:repS w0 B (sl A0 N0 C0) x1.rules)(Y:inI x2):i_ prog 130 [(.agg #[sl A0 N0 C0]),vI x2] w0 (Q0 w0 B res):=by
 unfold c_y at hm
 refine goG func130 z z z fun fn hr=>Ws<|E z (fb z) ?_
 rintro _ L ⟨rfl,W⟩;have h2:=W.below;have h6:Blk L w0.z [sl A0 N0 C0]:=W.blk;refine Rw z<|Wq<|Wq ?_
 obtain ⟨uf,hug,hma⟩:=bdS hm;refine Wt (fun a w=>∃(O:Bool),O=uf/\Sat 37 [(1,vI x2),(2,pt w0.z),(27,vB O)] a/\Below L.z L w) ?_ ?_
 ·refine Wg<|R z (lN (vs:=[sl A0 N0 C0]) B_ z_ z z fid<|h6.row 0 1 z)<|Rm z ?_
  obtain ⟨rh,ei,hmb⟩:=bdS hug;refine E z (fc call91 z<|j_R ei (zt' V h2.s) (I.e h2) Y) ?_;rintro _ _ ⟨s4,rfl⟩;refine R z (not_ z)<|Rm z ?_
  rcases bs (!rh) with H | H
  ·iterate 7 refine Nh z H ?_
   exact R z (pT z H z)<|Rm z<|Nh z z<|Nh z z<|Nh z z<|Nh z z<|Nh z z<|Nh z z<|Nh z z<|Nh z z<|R z (pT z z z)<|Wl (fun _ q=>⟨true,som<|ifT hmb H,q.k<|s3 z z z,s4⟩)
  refine Rh z H (fd a_5 z) ?_;have hc:=h6.e s4;refine Rh z H (l0 a_9 z<|hc.at z)<|Rh z H (mv z) ?_
  obtain ⟨xj,ek,hmd⟩:=bdS<|ifF hmb H;have he:=I.g<|(h2.ag B).e s4
  refine RXg z z H z (at_ (α:=b_) Z_ l_ z z z he ek) ?_;rintro _ ⟨_,_,_,rfl,hl,hn,_⟩;obtain ⟨_,_,_,_,_,_,_,_,_,_,_,_,rfl,_,_,_,_,_,_,_⟩:=a_u hn;refine Rh z H (fd a_a z)<|Rh z H (l0 g_3 z<|hl.at (j:=1) z)<|Rh z H (nq z z)<|R z (pF z H z)<|Rm z ?_
  rcases bs (xj.kind != 1) with G | G
  ·iterate 8 refine Nh z G ?_
   exact R z (pT z G z)<|Wl (fun _ q=>⟨true,som<|ifT hmd G,q.k<|s3 z z z,s4⟩)
  refine Rh z G (fd a_5 z)<|Rh z G (l0 a_9 z<|hc.at z)<|Rh z G (mv z) ?_
  obtain ⟨_,em,hmo⟩:=bdS<|ifF hmd G;refine RXg z z G z (at_ (α:=b_) Z_ l_ z z z he em) ?_;rintro _ ⟨_,_,_,rfl,hp,hq,_⟩;obtain ⟨_,_,_,_,_,_,_,_,_,_,_,_,rfl,_,_,ht,_,_,_,_⟩:=a_u hq;refine Rh z G (fd a_w z)<|Rh z G (l0 g_3 z<|hp.at (j:=2) z) ?_
  obtain ⟨rr,es,hmu⟩:=bdS hmo;refine Eg z z G z (fc call85 z<|d_f es (zt' V<|lt_ h2.s s4.s) ht (ii z)<|ii z) ?_;rintro _ _ ⟨sv,rfl⟩;exact Rh z G (not_ z)<|R z (pF z G z)<|Wl (fun _ q=>⟨!rr,som hmu,q.k<|s3 z z z,bup s4 sv⟩)
 rintro aw _ ⟨O,rfl,_,s5⟩;revert aw;refine Wo<|Wc z (fun J=>?_) (fun J=>?_)
 ·refine Ws<|Rw z ?_
  obtain rfl:=som<|ifT hma J;exact Wr<|a_ hr z ⟨bup h2 s5,z,ii z⟩
 refine Wk<|Ws<|Rf z a_5 z<|R z (l0 a_9 z<|(h6.e s5).at z)<|Rm z ?_
 obtain ⟨_,ex,hmy⟩:=bdS<|ifF hma J;refine RX z (at_ (α:=b_) Z_ l_ z z z (I.g<|(h2.ag B).e s5) ex) ?_;rintro _ ⟨_,_,_,rfl,hz,a1,_⟩;obtain ⟨_,_,_,_,_,_,_,_,_,_,_,_,rfl,_,_,_,_,_,_,_⟩:=a_u a1;refine Rf z a_w z<|R z (l0 g_3 z<|hz.at (j:=2) z)<|R z (e_u z z) ?_
 obtain ⟨_,a2,a0⟩:=bdS hmy;refine R z (h_j z z<|nnS a2)<|R z (sb_ z z)<|Rw z ?_
 obtain rfl:=som a0;exact Wr<|a_ hr z ⟨bup h2 s5,z,iS _ _⟩
theorem W_w16 {x1:List Str}{x2:Str}{res:Bool}(hm:e_a x1 x2=some res)(a1:B<=w0.z)(G:repS w0 B (sl A0 N0 C0) x1)(a0:x2.b.length<=LEN):i_ prog 120 [sl A0 N0 C0,Str.v x2] w0 (Q7 w0 B res):=by
 unfold e_a at hm
 refine goG func120 z z z fun fn hr=>Ws<|Rw z<|Wq<|Wm z<|R z (lnR R_ z G)<|Rm z<|Wn ?_
 obtain ⟨_,V,J⟩:=bdS hm;refine Wf (σ:=Unit) (ρ:=Bool) (fun (k3:Nat)(_:Unit) a w=>Sat 17 [(1,Str.v x2),(7,sl A0 N0 C0),(8,vI (x1.length:Int)),(9,vI ((k3:Nat):Int))] a/\Below w0.z w0 w) (fun (_:Unit) a w=>Sat 17 [] a/\Below w0.z w0 w) (rQ prog fn<|Q7 w0 B) V ?_ ?_ ?_ ?_ ?_
 ·exact fun _ q=>⟨q.k<|s4 z z z z,br w0⟩
 ·rintro k3 _ _ _ _ L ⟨W,I⟩ Y;refine Wu ?_ W;refine Ws<|Rl z z z<|Wn<|Wq<|Wc z (fun _=>?_) (fun hc=>(T_ L hc).elim)
  refine Wk<|Wq<|Wb<|Ws ?_
  obtain ⟨_,e9,O⟩:=bdS Y;refine RX z (at_ (α:=Str) R_ z_9 z z z (G.e I) e9) ?_;rintro _ ⟨_,_,_,rfl,ha,hb,_⟩;obtain ⟨rfl,_⟩:=a_U hb;refine R z (l0 g_9 z<|ha.at0 z)<|Rw z<|Wm z<|Rm z<|R z (b_6 z z)<|Wx z (fun H=>?_) (fun H=>?_)
  ·exact Ws<|Rw z<|Wr<|rtO<|qL (som<|ifT O H).symm<|a_ hr z ⟨I,z⟩
  exact Wk<|Wg<|R z (inc_ L (lt_ (repS.len G) C_) z z)<|Rm z<|Wl (fun _ q=>⟨(),(som<|ifF O H).symm,⟨q.k<|s4 z z z z,I⟩⟩)
 ·rintro _ _ _ ⟨hSc,sd⟩;refine Wu ?_ hSc;refine Ws<|Rl z z z<|Wn<|Wq<|Wc z (fun hc=>(U_ hc).elim) (fun _=>?_)
  exact We<|fun _ q=>⟨rfl,⟨q.k sn,sd⟩⟩
 ·rintro _ ae _ rfl ⟨_,sf⟩;have hmg:=elL J;revert ae;refine Wo<|Ws<|Rw z ?_
  obtain rfl:=som hmg;exact Wr<|a_ hr z ⟨sf,z⟩
 rintro _ _ _ _ rfl ⟨rfl,hqh⟩;have hmi:=elR J;obtain rfl:=som hmi;exact ⟨hqh,z⟩
theorem W_w2t {x1:b_}{res:Bool}(hm:g_a n x1=some res)(O:B<=w0.z)(Y:x1.name.b.length<=LEN)(a0:inI x1.kind)(a1:inI x1.size)(a2:repS w0 B (sl AB NB CB) x1.bytes)(J:repS w0 B (sl AA NA CA) x1.names)(a3:repS w0 B (sl AC NC CC) x1.tags)(W:repS w0 B (sl AD ND CD) x1.kids):i_ prog 140 [(.agg #[Str.v x1.name,vI x1.kind,vI x1.size,vB x1.little,sl AB NB CB,sl AA NA CA,sl AC NC CC,sl AD ND CD])] w0 (Q7 w0 B res):=by
 unfold g_a at hm
 refine goG func140 z z z fun fn hr=>Ws<|E z (fb z) ?_
 rintro _ V ⟨rfl,hi⟩;have h1:=hi.below;have ha:Blk V w0.z (vR x1 AB NB CB AA NA CA AC NC CC AD ND CD):=hi.blk;refine Rw z<|Wq<|Wq ?_
 obtain ⟨uy,huz,hmj⟩:=bdS hm;refine Wt (fun a w=>∃(xb:Bool),xb=uy/\Sat 44 [(1,pt w0.z),(23,vB xb)] a/\Below V.z V w) ?_ ?_
 ·refine Wg<|R z (lN (vs:=vR x1 AB NB CB AA NA CA AC NC CC AD ND CD) D_ l_ z z fid<|ha.row 0 8 z) ?_
  obtain ⟨ai,aj,hmk⟩:=bdS huz;refine E z (fc call139 z<|d_g aj (zt' O h1.s) Y a0 a1 (a2.e h1) (J.e h1) (a3.e h1) (W.e h1)<|ii z) ?_;rintro _ _ ⟨s6,rfl⟩;refine R z (not_ z)<|Rm z ?_
  rcases bs (!ai) with G | G
  ·iterate 7 refine Nh z G ?_
   exact R z (pT z G z)<|Rm z<|Nh z z<|Nh z z<|Nh z z<|Nh z z<|Nh z z<|R z (pT z z z)<|Wl (fun _ q=>⟨true,som<|ifT hmk G,q.k<|s2 z z,s6⟩)
  have hml:=ifF hmk G;refine Rh z G (fd G_ z) ?_;have hd:=ha.e s6;refine Rh z G (l0 u_ z<|hd.at z) ?_;have hn:=(h1.ag B).e s6;have he:=W.g hn;refine Rh z G (lnR o_ z he)<|Rh z G (fd b_y z)<|Rh z G (l0 a_A z<|hd.at z)<|Rh z G (lnR R_ z<|J.g hn)<|Rh z G (nq z z)<|R z (pF z G z)<|Rm z ?_
  rcases bs ((x1.kids.length:Int) != (x1.names.length:Int)) with I | I
  ·iterate 5 refine Nh z I ?_
   exact R z (pT z I z)<|Wl (fun _ q=>⟨true,som<|ifT hml I,q.k<|s2 z z,s6⟩)
  refine Rh z I (fd G_ z)<|Rh z I (l0 u_ z<|hd.at z)<|Rh z I (lnR o_ z he) ?_
  obtain ⟨ak,al,a4⟩:=bdS<|ifF hml I;refine Eg z z I z (fc call85 z<|d_f al (zt' O<|lt_ h1.s s6.s) (b_A<|repS.len he) (ii z)<|ii z) ?_;rintro _ _ ⟨am,rfl⟩;exact Rh z I (not_ z)<|R z (pF z I z)<|Wl (fun _ q=>⟨!ak,som a4,q.k<|s2 z z,bup s6 am⟩)
 rintro an L ⟨xb,rfl,_,s7⟩;revert an;refine Wo<|Wc z (fun hcc=>?_) (fun hcc=>?_)
 ·refine Ws<|Rw z ?_
  obtain rfl:=som<|ifT hmj hcc;exact Wr<|a_ hr z ⟨bup h1 s7,z⟩
 refine Wk<|Wq<|Ws<|Rf z b_y z ?_
 have ho:=ha.e s7;refine R z (l0 a_A z<|ho.at z) ?_;have hp:=(h1.ag B).e s7;refine R z (lnR R_ z<|J.g hp)<|Rm z<|Wn ?_
 obtain ⟨_,a5,hmm⟩:=bdS<|ifF hmj hcc;refine Wf (σ:=Unit) (ρ:=Bool) (fun (kf:Nat)(_:Unit) a w=>Sat 44 [(1,pt w0.z),(25,sl AA NA CA),(26,vI (x1.names.length:Int)),(27,vI ((kf:Nat):Int))] a/\Below L.z L w) (fun (_:Unit) a w=>Sat 44 [] a/\Below L.z L w) (rQ prog fn<|Q7 w0 B) a5 ?_ ?_ ?_ ?_ ?_
 ·exact fun _ q=>⟨q.k<|s4 z z z z,br L⟩
 ·rintro kf _ _ wq _ hkr ⟨a6,s8⟩ a7;refine Wu ?_ a6;refine Ws<|Rl z z z<|Wn<|Wq<|Wc z (fun _=>?_) (fun hc=>(T_ hkr hc).elim)
  refine Wk<|Wq<|Wb<|Wm z ?_
  obtain ⟨_,ao,a8⟩:=bdS a7;have ht:=hp.e s8;refine RX z (at_ (α:=Str) R_ z_9 z z z (J.g ht) ao) ?_;rintro _ ⟨_,_,_,rfl,ap,aq,_⟩;obtain ⟨rfl,hu⟩:=a_U aq;refine R z (l0 g_9 z<|ap.at0 z)<|Ra z<|Rw z<|Wq ?_
  obtain ⟨ar,a9,hms⟩:=bdS a8;refine Wt (fun a w=>∃(xg:Bool),xg=ar/\Sat 44 [(1,pt w0.z),(25,sl AA NA CA),(26,vI (x1.names.length:Int)),(27,vI ((kf:Nat):Int)),(42,vB xg)] a/\Below wq.z wq w) ?_ ?_
  ·refine Wg<|Rm z ?_
   have hv:=lt_ (lt_ h1.s s7.s) s8.s;obtain ⟨au,av,hmw⟩:=bdS a9;refine E z (fc call116 z<|j_Q av (zt' O hv) hu) ?_;rintro _ _ ⟨s9,rfl⟩;refine R z (not_ z)<|Rm z ?_
   rcases bs (!au) with H | H
   ·iterate 6 refine Nh z H ?_
    exact R z (pT z H z)<|Wl (fun _ q=>⟨true,som<|ifT hmw H,q.k<|s5 z z z z z,s9⟩)
   refine Rh z H (fd b_y z)<|Rh z H (l0 a_A z<|((ho.e s8).e s9).at z)<|Rh z H (mv z) ?_
   obtain ⟨_,aw,aa⟩:=bdS<|ifF hmw H;refine RXg z z H z (rX R_ z_9 z z (J.g<|ht.e s9) z z aw) ?_;rintro _ ⟨_,_,_,rfl,ax⟩;refine Rh z H (mv z) ?_;obtain ⟨ay,az,ab⟩:=bdS aa;refine Eg z z H z (fc call120 z<|W_w16 az (zt' O<|lt_ hv s9.s) ax hu) ?_;rintro _ _ ⟨aA,rfl⟩;exact R z (pF z H z)<|Wl (fun _ q=>⟨ay,som ab,q.k<|s5 z z z z z,bup s9 aA⟩)
  rintro aB _ ⟨xg,rfl,_,sx⟩;revert aB;refine Wo<|Wc z (fun hch=>?_) (fun hch=>?_)
  ·exact Ws<|Rw z<|Wr<|rtO<|qL (som<|ifT hms hch).symm<|a_ hr z ⟨bup (bup (bup h1 s7) s8) sx,z⟩
  exact Wk<|Wg<|R z (inc_ hkr (lt_ (repS.len J) C_) z z)<|Rm z<|Wl (fun _ q=>⟨(),(som<|ifF hms hch).symm,⟨q.k<|s4 z z z z,bup s8 sx⟩⟩)
 ·rintro _ _ _ ⟨ad,aC⟩;refine Wu ?_ ad;refine Ws<|Rl z z z<|Wn<|Wq<|Wc z (fun hc=>(U_ hc).elim) (fun _=>?_)
  exact We<|fun _ q=>⟨rfl,⟨q.k sn,aC⟩⟩
 ·rintro _ aD _ rfl ⟨_,aE⟩;have ae:=elL hmm;revert aD;refine Wo<|Ws<|Rw z ?_
  obtain rfl:=som ae;exact Wr<|a_ hr z ⟨bup (bup h1 s7) aE,z⟩
 rintro _ _ _ _ rfl ⟨rfl,af⟩;have ah:=elR hmm;obtain rfl:=som ah;exact ⟨af,z⟩
theorem W_w2u {x1:d_}{x2:b_}{res:Bool}(hm:g_b x1 x2=some res)(O:B<=w0.z)(a4:repS w0 B (sl A0 N0 C0) x1.rules)(a5:x2.name.b.length<=LEN)(a6:inI x2.kind)(a7:inI x2.size)(a8:repS w0 B (sl A2 N2 C2) x2.bytes)(a9:repS w0 B (sl A3 N3 C3) x2.names)(J:repS w0 B (sl A1 N1 C1) x2.tags)(V:repS w0 B (sl A4 N4 C4) x2.kids):i_ prog 141 [(.agg #[sl A0 N0 C0]),(.agg #[Str.v x2.name,vI x2.kind,vI x2.size,vB x2.little,sl A2 N2 C2,sl A3 N3 C3,sl A1 N1 C1,sl A4 N4 C4])] w0 (Q7 w0 B res):=by
 unfold g_b at hm
 refine goG func141 z z z fun fn hr=>Ws<|E z (fb z) ?_
 rintro _ L ⟨rfl,hn⟩;have h4:=hn.below;refine E z (fb z) ?_;rintro _ wg ⟨rfl,ho⟩;have h3:=ho.below;have he:Blk wg L.z (vR x2 A2 N2 C2 A3 N3 C3 A1 N1 C1 A4 N4 C4):=ho.blk;refine Rw z<|Wq<|Wq ?_
 obtain ⟨aq,aa,hmp⟩:=bdS hm;refine Wt (fun a w=>∃(xh:Bool),xh=aq/\Sat 57 [(2,pt w0.z),(3,pt L.z),(21,vB xh)] a/\Below wg.z wg w) ?_ ?_
 ·refine Wg<|R z (lN (vs:=vR x2 A2 N2 C2 A3 N3 C3 A1 N1 C1 A4 N4 C4) D_ l_ z z fid<|he.row 0 8 z)<|Rf z a_L z<|R z (l0 u_ z<|he.at z) ?_
  have h6:=(h4.ag B).e h3;have hq:=J.g h6;refine R z (lnR o_ z hq)<|R z (add_ z z) ?_
  have ht:=lt_ h4.s h3.s;obtain ⟨ar,au,hmr⟩:=bdS aa;refine E z (fc call139 z<|d_g au (zt' O ht) a5 a6 a7 (a8.g h6) (a9.g h6) hq (V.g h6)<|iA _ _) ?_;rintro _ _ ⟨s9,rfl⟩;refine R z (not_ z)<|Rm z ?_
  rcases bs (!ar) with I | I
  ·iterate 5 refine Nh z I ?_
   exact R z (pT z I z)<|Wl (fun _ q=>⟨true,som<|ifT hmr I,q.k<|s3 z z z,s9⟩)
  refine Rh z I (fd a_L z)<|Rh z I (l0 u_ z<|(he.e s9).at z) ?_
  have hu:=J.g<|h6.e s9
  refine Rh z I (lnR o_ z hu) ?_;obtain ⟨av,aw,ab⟩:=bdS<|ifF hmr I;refine Eg z z I z (fc call85 z<|d_f aw (zt' O<|lt_ ht s9.s) (b_A<|repS.len hu) (ii z)<|ii z) ?_;rintro _ _ ⟨ax,rfl⟩;exact Rh z I (not_ z)<|R z (pF z I z)<|Wl (fun _ q=>⟨!av,som ab,q.k<|s3 z z z,bup s9 ax⟩)
 rintro ay _ ⟨xh,rfl,_,s7⟩;revert ay;refine Wo<|Wc z (fun hci=>?_) (fun hci=>?_)
 ·refine Ws<|Rw z ?_
  obtain rfl:=som<|ifT hmp hci;exact Wr<|a_ hr z ⟨bup (bup h4 h3) s7,z⟩
 refine Wk<|Wq (Wd (X:=noX) 0 (pl_ 7 [5]) mo (by kernel_rfl) fun aV s8 _=>dR z z (lN (vs:=[sl A0 N0 C0]) B_ z_ z z fid<|((((hn.blk:Blk L w0.z [sl A0 N0 C0]).e h3).e s7).e s8).row 0 1 z)<|dR z z (fd G_ z) ?_)
 have hv:=(he.e s7).e s8;refine dR z z (l0 u_ z<|hv.at z) ?_;obtain ⟨_,az,ad⟩:=bdS<|ifF hmp hci;have hj:=(((h4.ag B).e h3).e s7).e s8;refine dRX z z (at_ (α:=Int) o_ z_3 z z z (V.g hj) az) ?_;rintro _ ⟨_,_,_,rfl,aA,aB,_⟩;obtain ⟨rfl,aC⟩:=J_ aB;refine dR z z (l0 g_3 z<|aA.at0 z) ?_;have hw:=lt_ (lt_ (lt_ h4.s h3.s) s7.s) s8.s;obtain ⟨rk,aD,ae⟩:=bdS ad;refine dE z z (fc call130 z<|e_i aD (zt' O hw) (a4.g hj) aC) (.inr fun _ _ h=>H_<|h.1) ?_;rintro _ wa ⟨sb,rfl,aE⟩;refine dQ z z z<|pD<|Wo<|Wq<|Ws<|Rf z a_L z ?_
 have hx:=hv.e sb;refine R z (l0 u_ z<|hx.at z) ?_;have hy:=hj.e sb;refine R z (lnR o_ z<|J.g hy)<|Rm z<|Wn ?_
 obtain ⟨_,af,hms⟩:=bdS ae;refine Wf (σ:=Unit) (ρ:=Bool) (fun (kf:Nat)(_:Unit) a w=>Sat 57 [(3,pt L.z),(5,vI rk),(29,sl A1 N1 C1),(30,vI (x2.tags.length:Int)),(31,vI ((kf:Nat):Int))] a/\Below wa.z wa w) (fun (_:Unit) a w=>Sat 57 [(5,vI rk)] a/\Below wa.z wa w) (rQ prog fn<|Q7 w0 B) af ?_ ?_ ?_ ?_ ?_
 ·exact fun _ q=>⟨q.k<|s5 z z z z z,br wa⟩
 ·rintro kf _ _ wz _ W ⟨ah,sc⟩ ai;refine Wu ?_ ah;refine Ws<|Rl z z z<|Wn<|Wq<|Wc z (fun _=>?_) (fun hc=>(T_ W hc).elim)
  refine Wk<|Wq<|Wb<|Wm z ?_
  obtain ⟨aF,aG,aj⟩:=bdS ai;have a2:=hy.e sc;refine RX z (at_ (α:=Int) o_ z_3 z z z (J.g a2) aG) ?_;rintro _ ⟨_,_,_,rfl,aH,aI,_⟩;obtain ⟨rfl,aJ⟩:=J_ aI;refine R z (l0 g_3 z<|aH.at0 z)<|Ra z<|Rw z<|Wq ?_
  obtain ⟨aK,ak,Y⟩:=bdS aj;refine Wt (fun a w=>∃(xl:Bool),xl=aK/\Sat 57 [(3,pt L.z),(5,vI rk),(29,sl A1 N1 C1),(30,vI (x2.tags.length:Int)),(31,vI ((kf:Nat):Int)),(53,vB xl)] a/\Below wz.z wz w) ?_ ?_
  ·refine Wg<|RM z z ?_
   obtain ⟨aL,aM,a0⟩:=bdS ak;refine E z (fc call85 z<|d_f aM (zt' O<|lt_ (lt_ hw sb.s) sc.s) aJ (ii z) aE) ?_;rintro _ _ ⟨sd,rfl⟩;refine R z (not_ z)<|Rm z ?_
   rcases bs (!aL) with H | H
   ·iterate 3 refine Nh z H ?_
    exact Nv z<|Nv z<|Nv z<|Nv z<|Nv z<|Nv z<|Nv z<|Nv z<|Nh z H<|R z (pT z H z)<|Wl (fun _ q=>⟨true,som<|ifT a0 H,q.k<|s6 z z z z z z,sd⟩)
   have a1:=ifF a0 H;refine Rh z H (mv z)<|Rh z H (a_3 z z)<|Rh z H (mv z) ?_
   rcases bs (decide<|0<((kf:Nat):Int)) with G | G
   ·refine Rh z G (fd a_L z)<|Rh z G (l0 u_ z<|((hx.e sc).e sd).at z)<|Rh z G (mv z)<|Rh z G (sb_ z z) ?_
    obtain ⟨aN,aO,al⟩:=bdS<|ifT a1 G;refine RXg z z G z (at_ (α:=Int) o_ z_3 z z z (J.g<|a2.e sd) aO) ?_;rintro _ ⟨_,_,_,rfl,aP,aQ,_⟩;obtain ⟨rfl,_⟩:=J_ aQ;exact Rh z G (l0 g_3 z<|aP.at0 z)<|Rh z G (mv z)<|Rh z G (b_m z z)<|Rh z H (pT z G z)<|R z (pF z H z)<|Wl (fun _ q=>⟨decide<|aF<=aN,som al,q.k<|s6 z z z z z z,sd⟩)
   iterate 8 refine Nh z G ?_
   exact Rh z H (pF z G z)<|R z (pF z H z)<|Wl (fun _ q=>⟨false,som<|ifF a1 G,q.k<|s6 z z z z z z,sd⟩)
  rintro aR _ ⟨xl,rfl,_,a3⟩;revert aR;refine Wo<|Wc z (fun hcm=>?_) (fun hcm=>?_)
  ·exact Ws<|Rw z<|Wr<|rtO<|qL (som<|ifT Y hcm).symm<|a_ hr z ⟨bup (bup (bup (bup (bup (bup h4 h3) s7) s8) sb) sc) a3,z⟩
  exact Wk<|Wg<|R z (inc_ W (lt_ (repS.len J) C_) z z)<|Rm z<|Wl (fun _ q=>⟨(),(som<|ifF Y hcm).symm,⟨q.k<|s5 z z z z z,bup sc a3⟩⟩)
 ·rintro _ _ _ ⟨am,aS⟩;refine Wu ?_ am;refine Ws<|Rl z z z<|Wn<|Wq<|Wc z (fun hc=>(U_ hc).elim) (fun _=>?_)
  exact We<|fun _ q=>⟨rfl,⟨q.k<|s1 z,aS⟩⟩
 ·rintro _ aT _ rfl ⟨_,aU⟩;have an:=elL hms;revert aT;refine Wo<|Wm z<|R z (a_3 z z)<|Rw z ?_
  obtain rfl:=som an;exact Wr<|a_ hr z ⟨bup (bup (bup (bup (bup h4 h3) s7) s8) sb) aU,z⟩
 rintro _ _ _ _ rfl ⟨rfl,ao⟩;have ap:=elR hms;obtain rfl:=som ap;exact ⟨ao,z⟩
theorem W_w2v {x1:d_}{x2:b_}{res:Bool}(hm:g_c n x1 x2=some res)(L:B<=w0.z)(a7:repS w0 B (sl A0 N0 C0) x1.rules)(a3:x2.name.b.length<=LEN)(a4:inI x2.kind)(V:inI x2.size)(W:repS w0 B (sl A2 N2 C2) x2.bytes)(a5:repS w0 B (sl A3 N3 C3) x2.names)(a6:repS w0 B (sl A1 N1 C1) x2.tags)(Y:repS w0 B (sl A4 N4 C4) x2.kids):i_ prog 118 [(.agg #[sl A0 N0 C0]),(.agg #[Str.v x2.name,vI x2.kind,vI x2.size,vB x2.little,sl A2 N2 C2,sl A3 N3 C3,sl A1 N1 C1,sl A4 N4 C4])] w0 (Q7 w0 B res):=by
 unfold g_c at hm
 refine goG func118 z z z fun fn hr=>Ws<|E z (fb z) ?_
 rintro _ ww ⟨rfl,aJ⟩;have h1:=aJ.below;have hx:Blk ww w0.z [sl A0 N0 C0]:=aJ.blk;refine E z (fb z) ?_;rintro _ J ⟨rfl,aK⟩;have G:=aK.below;have h6:Blk J ww.z (vR x2 A2 N2 C2 A3 N3 C3 A1 N1 C1 A4 N4 C4):=aK.blk;refine Rw z<|Wq<|Ws<|Rf z a_a z<|R z (l0 g_3 z<|h6.at z)<|Wn<|Wb<|Ws<|Rq z z z<|Rw z<|Wc z (fun hcy=>?_) (fun hcy=>?_)
 ·refine Wq ?_;obtain ⟨bp,b1,b2⟩:=bdS<|ifT hm hcy;refine Wt (fun a w=>∃(xz:Bool),xz=bp/\Sat 102 [(4,vB xz)] a/\Below J.z J w) ?_ ?_
  ·refine Wg<|R z (lN (vs:=vR x2 A2 N2 C2 A3 N3 C3 A1 N1 C1 A4 N4 C4) D_ l_ z z fid<|h6.row 0 8 z) ?_
   have hq:=(h1.ag B).e G;have aL:=lt_ h1.s G.s;obtain ⟨bq,bt,ap⟩:=bdS b1;refine E z (fc call139 z<|d_g bt (zt' L aL) a3 a4 V (W.g hq) (a5.g hq) (a6.g hq) (Y.g hq)<|ii z) ?_;rintro _ _ ⟨se,rfl⟩;refine Rm z ?_
   rcases bs bq with hca | hca
   ·refine Rh z hca (fd a_w z) ?_;have aM:=h6.e se;refine Rh z hca (l0 g_3 z<|aM.at z) ?_;obtain ⟨bu,bv,aq⟩:=bdS<|ifT ap hca;refine Eg z z hca z (fc call85 z<|d_f bv (zt' L<|lt_ aL se.s) V (ii z)<|ii z) ?_;rintro _ _ ⟨sr,rfl⟩;refine R z (pT z hca z)<|Rm z ?_
    rcases bs bu with O | O
    ·have ar:=ifT aq O;refine Rh z O (fd c_B z) ?_;have aN:=aM.e sr;refine Rh z O (l0 g_4 z<|aN.at z)<|Rh z O (not_ z)<|Rh z O (mv z) ?_
     rcases bs (!x2.little) with hcb | hcb
     ·iterate 3 refine Nh z hcb ?_
      exact Rh z O (pT z hcb z)<|R z (pT z O z)<|Ra z<|Wl (fun _ q=>⟨true,som<|ifT ar hcb,q.k<|s1 z,bup se sr⟩)
     exact Rh z hcb (fd a_w z)<|Rh z hcb (l0 g_3 z<|aN.at z)<|Rh z hcb (a_3 z z)<|Rh z O (pF z hcb z)<|R z (pT z O z)<|Ra z<|Wl (fun _ q=>⟨decide<|1<x2.size,som<|ifF ar hcb,q.k<|s1 z,bup se sr⟩)
    iterate 4 refine Nh z O ?_
    exact Nv z<|Nv z<|Nv z<|Nh z O<|R z (pF z O z)<|Ra z<|Wl (fun _ q=>⟨false,som<|ifF aq O,q.k<|s1 z,bup se sr⟩)
   iterate 3 refine Nh z hca ?_
   exact R z (pF z hca z)<|Rm z<|Nh z z<|Nh z z<|Nh z z<|Nh z z<|Nv z<|Nv z<|Nv z<|Nh z z<|R z (pF z z z)<|Ra z<|Wl (fun _ q=>⟨false,som<|ifF ap hca,q.k<|s1 z,se⟩)
  rintro bw _ ⟨xz,rfl,_,bx⟩;revert bw;refine Wo ?_;obtain rfl:=som b2;exact Wr<|rtO<|a_ hr z ⟨bup (bup h1 G) bx,z⟩
 have au:=ifF hm hcy;refine Ws<|Rq z z z<|Rw z<|Wc z (fun a8=>?_) (fun a8=>?_)
 ·refine Wq ?_;obtain ⟨bz,b3,b4⟩:=bdS<|ifT au a8;refine Wt (fun a w=>∃(aj:Bool),aj=bz/\Sat 102 [(4,vB aj)] a/\Below J.z J w) ?_ ?_
  ·refine Wg<|R z (lN (vs:=vR x2 A2 N2 C2 A3 N3 C3 A1 N1 C1 A4 N4 C4) D_ l_ z z fid<|h6.row 0 8 z) ?_
   have hj:=(h1.ag B).e G;have aO:=lt_ h1.s G.s;obtain ⟨bA,bB,av⟩:=bdS b3;refine E z (fc call139 z<|d_g bB (zt' L aO) a3 a4 V (W.g hj) (a5.g hj) (a6.g hj) (Y.g hj)<|ii z) ?_;rintro _ _ ⟨sk,rfl⟩;refine Rm z ?_
   rcases bs bA with a1 | a1
   ·refine Rh z a1 (fd a_T z)<|Rh z a1 (l0 O_ z<|(h6.e sk).at z) ?_
    have aP:=W.g<|hj.e sk
    refine Rh z a1 (lnR k_ z aP) ?_;obtain ⟨bC,bD,b5⟩:=bdS<|ifT av a1;refine Eg z z a1 z (fc call85 z<|d_f bD (zt' L<|lt_ aO sk.s) (b_A<|repS.len aP) (ii z)<|ii z) ?_;rintro _ _ ⟨bE,rfl⟩;exact R z (pT z a1 z)<|Ra z<|Wl (fun _ q=>⟨bC,som b5,q.k<|s1 z,bup sk bE⟩)
   iterate 4 refine Nh z a1 ?_
   exact R z (pF z a1 z)<|Ra z<|Wl (fun _ q=>⟨false,som<|ifF av a1,q.k<|s1 z,sk⟩)
  rintro bF _ ⟨aj,rfl,_,bG⟩;revert bF;refine Wo ?_;obtain rfl:=som b4;exact Wr<|rtO<|a_ hr z ⟨bup (bup h1 G) bG,z⟩
 have aw:=ifF au a8;refine Ws<|Rq z z z<|Rw z<|Wc z (fun a9=>?_) (fun a9=>?_)
 ·refine Wq ?_;obtain ⟨bH,b6,b7⟩:=bdS<|ifT aw a9;refine Wt (fun a w=>∃(ak:Bool),ak=bH/\Sat 102 [(4,vB ak)] a/\Below J.z J w) ?_ ?_
  ·refine Wg<|R z (lN (vs:=vR x2 A2 N2 C2 A3 N3 C3 A1 N1 C1 A4 N4 C4) D_ l_ z z fid<|h6.row 0 8 z) ?_
   have ht:=(h1.ag B).e G;have aQ:=lt_ h1.s G.s;obtain ⟨bI,bJ,ax⟩:=bdS b6;refine E z (fc call139 z<|d_g bJ (zt' L aQ) a3 a4 V (W.g ht) (a5.g ht) (a6.g ht) (Y.g ht)<|ii z) ?_;rintro _ _ ⟨ss,rfl⟩;refine Rm z ?_
   rcases bs bI with hcc | hcc
   ·refine Rh z hcc (fd a_w z)<|Rh z hcc (l0 g_3 z<|(h6.e ss).at z) ?_
    obtain ⟨bK,bL,b8⟩:=bdS<|ifT ax hcc;refine Eg z z hcc z (fc call85 z<|d_f bL (zt' L<|lt_ aQ ss.s) V (ii z)<|ii z) ?_;rintro _ _ ⟨bM,rfl⟩;exact R z (pT z hcc z)<|Ra z<|Wl (fun _ q=>⟨bK,som b8,q.k<|s1 z,bup ss bM⟩)
   iterate 3 refine Nh z hcc ?_
   exact R z (pF z hcc z)<|Ra z<|Wl (fun _ q=>⟨false,som<|ifF ax hcc,q.k<|s1 z,ss⟩)
  rintro bN _ ⟨ak,rfl,_,bO⟩;revert bN;refine Wo ?_;obtain rfl:=som b7;exact Wr<|rtO<|a_ hr z ⟨bup (bup h1 G) bO,z⟩
 have ay:=ifF aw a9;refine Ws<|Rq z z z<|Rw z<|Wc z (fun aa=>?_) (fun aa=>?_)
 ·refine Wq ?_;obtain ⟨bP,b9,ba⟩:=bdS<|ifT ay aa;refine Wt (fun a w=>∃(al:Bool),al=bP/\Sat 102 [(4,vB al)] a/\Below J.z J w) ?_ ?_
  ·refine Wd (X:=noX) 0 (pl_ 12 [1,8]) mo (by kernel_rfl) fun cv sf _=>?_
   have aR:=h6.e sf;refine dR z z (lN (vs:=vR x2 A2 N2 C2 A3 N3 C3 A1 N1 C1 A4 N4 C4) D_ l_ z z fid<|aR.row 0 8 z) ?_;have hl:=((h1.ag B).e G).e sf;have aS:=lt_ (lt_ h1.s G.s) sf.s;obtain ⟨bQ,bR,az⟩:=bdS b9;refine dE z z (fc call139 z<|d_g bR (zt' L aS) a3 a4 V (W.g hl) (a5.g hl) (a6.g hl) (Y.g hl)<|ii z) (.inr fun _ _ h=>H_<|h.1) ?_;rintro _ _ ⟨sg,rfl⟩;refine dM z z z ?_
   rcases bs bQ with H | H
   ·refine dRg z z z H z (lN (vs:=[sl A0 N0 C0]) B_ z_ z z fid<|(((hx.e G).e sf).e sg).row 0 1 z)<|dRg z z z H z (fd G_ z)<|dRg z z z H z (l0 u_ z<|(aR.e sg).at z) ?_
    obtain ⟨_,bS,bb⟩:=bdS<|ifT az H;have aT:=hl.e sg;refine b_M z z z H z (at_ (α:=Int) o_ z_3 z z z (Y.g aT) bS) ?_;rintro _ ⟨_,_,_,rfl,bT,bU,_⟩;obtain ⟨rfl,bV⟩:=J_ bU;refine dRg z z z H z (l0 g_3 z<|bT.at0 z) ?_;obtain ⟨bW,bX,bc⟩:=bdS bb;refine dEg z z z H z (fc call130 z<|e_i bX (zt' L<|lt_ aS sg.s) (a7.g aT) bV) (.inr fun _ _ h=>H_<|h.1) ?_;rintro _ _ ⟨bY,rfl,_⟩;exact dRg z z z H z (a_3 z z)<|dR z z (pT z H z)<|dQ z z z<|pD (fun _ q=>⟨decide<|0<bW,som bc,q.k<|s1 z,bup (bup sf sg) bY⟩)
   iterate 5 refine dRn z z z H z ?_
   exact dEn z z z H z<|dRn z z z H z<|dR z z (pF z H z)<|dQ z z z<|pD (fun _ q=>⟨false,som<|ifF az H,q.k<|s1 z,bup sf sg⟩)
  rintro bZ _ ⟨al,rfl,_,c0⟩;revert bZ;refine Wo ?_;obtain rfl:=som ba;exact Wr<|rtO<|a_ hr z ⟨bup (bup h1 G) c0,z⟩
 have aA:=ifF ay aa;refine Ws<|Rq z z z<|Rw z<|Wc z (fun ab=>?_) (fun ab=>?_)
 ·refine Wq ?_;obtain ⟨c1,be,bf⟩:=bdS<|ifT aA ab;refine Wt (fun a w=>∃(am:Bool),am=c1/\Sat 102 [(4,vB am)] a/\Below J.z J w) ?_ ?_
  ·refine Wd (X:=noX) 0 (pl_ 12 [1,8]) mo (by kernel_rfl) fun cw sh _=>?_
   have aU:=h6.e sh;refine dR z z (lN (vs:=vR x2 A2 N2 C2 A3 N3 C3 A1 N1 C1 A4 N4 C4) D_ l_ z z fid<|aU.row 0 8 z) ?_;have hn:=((h1.ag B).e G).e sh;have aV:=lt_ (lt_ h1.s G.s) sh.s;obtain ⟨c2,c3,aB⟩:=bdS be;refine dE z z (fc call139 z<|d_g c3 (zt' L aV) a3 a4 V (W.g hn) (a5.g hn) (a6.g hn) (Y.g hn)<|ii z) (.inr fun _ _ h=>H_<|h.1) ?_;rintro _ _ ⟨si,rfl⟩;refine dM z z z ?_
   rcases bs c2 with I | I
   ·refine dRg z z z I z (lN (vs:=[sl A0 N0 C0]) B_ z_ z z fid<|(((hx.e G).e sh).e si).row 0 1 z)<|dRg z z z I z (fd G_ z)<|dRg z z z I z (l0 u_ z<|(aU.e si).at z) ?_
    obtain ⟨_,c4,bg⟩:=bdS<|ifT aB I;have aW:=hn.e si;refine b_M z z z I z (at_ (α:=Int) o_ z_3 z z z (Y.g aW) c4) ?_;rintro _ ⟨_,_,_,rfl,c5,c6,_⟩;obtain ⟨rfl,c7⟩:=J_ c6;refine dRg z z z I z (l0 g_3 z<|c5.at0 z) ?_;obtain ⟨c8,c9,bh⟩:=bdS bg;refine dEg z z z I z (fc call130 z<|e_i c9 (zt' L<|lt_ aV si.s) (a7.g aW) c7) (.inr fun _ _ h=>H_<|h.1) ?_;rintro _ _ ⟨ca,rfl,_⟩;exact dRg z z z I z (a_3 z z)<|dR z z (pT z I z)<|dQ z z z<|pD (fun _ q=>⟨decide<|0<c8,som bh,q.k<|s1 z,bup (bup sh si) ca⟩)
   iterate 5 refine dRn z z z I z ?_
   exact dEn z z z I z<|dRn z z z I z<|dR z z (pF z I z)<|dQ z z z<|pD (fun _ q=>⟨false,som<|ifF aB I,q.k<|s1 z,bup sh si⟩)
  rintro cb _ ⟨am,rfl,_,cc⟩;revert cb;refine Wo ?_;obtain rfl:=som bf;exact Wr<|rtO<|a_ hr z ⟨bup (bup h1 G) cc,z⟩
 have aC:=ifF aA ab;refine Ws<|Rq z z z<|Rw z<|Wc z (fun ad=>?_) (fun ad=>?_)
 ·refine Ws<|R z (lN (vs:=vR x2 A2 N2 C2 A3 N3 C3 A1 N1 C1 A4 N4 C4) D_ l_ z z fid<|h6.row 0 8 z) ?_
  have hu:=(h1.ag B).e G;obtain ⟨_,cd,bi⟩:=bdS<|ifT aC ad;refine E z (fc call140 z<|W_w2t cd (zt' L<|lt_ h1.s G.s) a3 a4 V (W.g hu) (a5.g hu) (a6.g hu)<|Y.g hu) ?_;rintro _ _ ⟨ce,rfl⟩;refine Rw z ?_
  obtain rfl:=som bi;exact Wr<|rtO<|a_ hr z ⟨bup (bup h1 G) ce,z⟩
 have aD:=ifF aC ad;refine Ws<|Rq z z z<|Rw z<|Wc z (fun ae=>?_) (fun ae=>?_)
 ·refine Ws<|R z (lN (vs:=[sl A0 N0 C0]) B_ z_ z z fid<|(hx.e G).row 0 1 z)<|R z (lN (vs:=vR x2 A2 N2 C2 A3 N3 C3 A1 N1 C1 A4 N4 C4) D_ l_ z z fid<|h6.row 0 8 z) ?_
  have ho:=(h1.ag B).e G;obtain ⟨_,cf,bj⟩:=bdS<|ifT aD ae;refine E z (fc call141 z<|W_w2u cf (zt' L<|lt_ h1.s G.s) (a7.g ho) a3 a4 V (W.g ho) (a5.g ho) (a6.g ho)<|Y.g ho) ?_;rintro _ _ ⟨cg,rfl⟩;refine Rw z ?_
  obtain rfl:=som bj;exact Wr<|rtO<|a_ hr z ⟨bup (bup h1 G) cg,z⟩
 refine Wq<|Ws<|Rq z z z<|Rw z ?_
 obtain ⟨ch,aE,aF⟩:=bdS<|ifF aD ae;refine Wt (fun a w=>∃(an:Bool),an=ch/\Sat 102 [(3,pt ww.z),(6,vI x2.kind),(80,vB an)] a/\Below J.z J w) ?_ ?_
 ·refine Wc z (fun af=>?_)<|fun af=>?_
  ·exact a_f<|fun _ q=>⟨x2.kind==8,som<|ifT aE af,q.k<|s3 z z z,br J⟩
  exact Wg<|Rq z z z<|Ra z<|Wl (fun _ q=>⟨x2.kind==9,som<|ifF aE af,q.k<|s3 z z z,br J⟩)
 rintro ci aX ⟨an,rfl,_,sd⟩;revert ci;refine Wo<|Wc z (fun ah=>?_) (fun ah=>?_)
 ·refine Ws<|R z (lN (vs:=vR x2 A2 N2 C2 A3 N3 C3 A1 N1 C1 A4 N4 C4) D_ l_ z z fid<|(h6.e sd).row 0 8 z) ?_
  have hv:=((h1.ag B).e G).e sd;obtain ⟨_,cj,bk⟩:=bdS<|ifT aF ah;refine E z (fc call139 z<|d_g cj (zt' L<|lt_ (lt_ h1.s G.s) sd.s) a3 a4 V (W.g hv) (a5.g hv) (a6.g hv) (Y.g hv)<|ii z) ?_;rintro _ _ ⟨ck,rfl⟩;refine Rw z ?_
  obtain rfl:=som bk;exact Wr<|rtO<|a_ hr z ⟨bup (bup (bup h1 G) sd) ck,z⟩
 have aG:=ifF aF ah;refine Ws<|Rq z z z<|Rw z<|Wc z (fun ai=>?_) (fun ai=>?_)
 ·refine Wq ?_;obtain ⟨cl,bm,bn⟩:=bdS<|ifT aG ai;refine Wt (fun a w=>∃(ao:Bool),ao=cl/\Sat 102 [(4,vB ao)] a/\Below aX.z aX w) ?_ ?_
  ·refine Wg ?_;have aY:=h6.e sd;refine R z (lN (vs:=vR x2 A2 N2 C2 A3 N3 C3 A1 N1 C1 A4 N4 C4) D_ l_ z z fid<|aY.row 0 8 z) ?_;have hp:=((h1.ag B).e G).e sd;obtain ⟨cm,cn,aH⟩:=bdS bm;refine E z (fc call139 z<|d_g cn (zt' L<|lt_ (lt_ h1.s G.s) sd.s) a3 a4 V (W.g hp) (a5.g hp) (a6.g hp) (Y.g hp)<|ii z) ?_;rintro _ _ ⟨sm,rfl⟩;refine Rm z ?_
   rcases bs cm with a2 | a2
   ·have aI:=ifT aH a2;refine Rh z a2 (fd a_T z) ?_;have aZ:=aY.e sm;refine Rh z a2 (l0 O_ z<|aZ.at z) ?_;have b0:=W.g<|hp.e sm
    refine Rh z a2 (lnR k_ z b0)<|Rh z a2 (eql z z)<|R z (pT z a2 z)<|Rm z ?_
    rcases bs ((x2.bytes.length:Int)==1) with a0 | a0
    ·refine Rh z a0 (fd a_T z)<|Rh z a0 (l0 O_ z<|aZ.at z) ?_
     obtain ⟨co,cp,bo⟩:=bdS<|ifT aI a0;refine RXg z z a0 z (at_ (α:=UInt8) k_ z_5 z z z b0 cp) ?_;rintro _ ⟨_,_,_,rfl,cq,cr,_⟩;obtain rfl:=u8 cr;exact Rh z a0 (l0 g_5 z<|cq.at0 z)<|Rh z a0 (nq z z)<|R z (pT z a0 z)<|Ra z<|Wl (fun _ q=>⟨(byteI co) != (byteI (92:UInt8)),som bo,q.k<|s1 z,sm⟩)
    iterate 5 refine Nh z a0 ?_
    exact R z (pF z a0 z)<|Ra z<|Wl (fun _ q=>⟨false,som<|ifF aI a0,q.k<|s1 z,sm⟩)
   iterate 4 refine Nh z a2 ?_
   exact R z (pF z a2 z)<|Rm z<|Nh z z<|Nh z z<|Nh z z<|Nh z z<|Nh z z<|R z (pF z z z)<|Ra z<|Wl (fun _ q=>⟨false,som<|ifF aH a2,q.k<|s1 z,sm⟩)
  rintro ct _ ⟨ao,rfl,_,cu⟩;revert ct;refine Wo ?_;obtain rfl:=som bn;exact Wr<|rtO<|a_ hr z ⟨bup (bup (bup h1 G) sd) cu,z⟩
 refine Wk<|Ws<|Rw z ?_
 obtain rfl:=som<|ifF aG ai;exact Wr<|a_ hr z ⟨bup (bup h1 G) sd,z⟩
theorem W_w2w {x1:d_}{x2:Int}{res:Bool}(hm:g_d n x1 x2=some res)(V:B<=w0.z)(O:repS w0 B (sl A0 N0 C0) x1.rules)(aU:inI x2):i_ prog 86 [(.agg #[sl A0 N0 C0]),vI x2] w0 (Q7 w0 B res):=by
 unfold g_d at hm
 refine goG func86 z z z fun fn hr=>Ws<|E z (fb z) ?_
 rintro _ bf ⟨rfl,am⟩;have h2:=am.below;have ho:Blk bf w0.z [sl A0 N0 C0]:=am.blk;refine Rw z<|Wq<|Ws<|R z (lN (vs:=[sl A0 N0 C0]) B_ z_ z z fid<|ho.row 0 1 z)<|Rm z ?_
 obtain ⟨_,bg,a8⟩:=bdS hm;refine E z (fc call91 z<|j_R bg (zt' V h2.s) (O.e h2) aU) ?_;rintro _ J ⟨s5,rfl⟩;refine R z (not_ z)<|Wx z (fun hcp=>?_) (fun hcp=>?_)
 ·refine Ws<|Rw z ?_
  obtain rfl:=som<|ifT a8 hcp;exact Wr<|a_ hr z ⟨bup h2 s5,z⟩
 refine Wk<|Ws<|Rf z a_5 z ?_
 have an:=ho.e s5;refine R z (l0 a_9 z<|an.at z)<|Rm z ?_
 obtain ⟨L,bh,aV⟩:=bdS<|ifF a8 hcp;have ao:=(h2.ag B).e s5;refine RX z (at_ (α:=b_) Z_ l_ z z z (O.g ao) bh) ?_;rintro _ ⟨_,_,_,rfl,bi,bj,_⟩;obtain ⟨aq,nr,cs,au,nt,cv,aw,nx,cy,ae,nf,cg,rfl,ap,bk,bm,bn,bo,bp,hj⟩:=a_u bj;refine R z (lN (vs:=vR L aq nr cs au nt cv aw nx cy ae nf cg) D_ l_ z z fid bi)<|E z (fa b_H) ?_
 rintro _ bq ⟨rfl,ar⟩;have h4:=ar.below;have av:Blk bq J.z [(Str.v (⟨[]⟩:Str)),vI 0,vI 0,vB false,sl none 0 0,sl none 0 0,sl none 0 0,sl none 0 0]:=ar.blk;refine E0 (fs0 (cur':=vR L aq nr cs au nt cv aw nx cy ae nf cg) l_ z z av z z z z) ?_;rintro _ ax ⟨hk,bt⟩;have h3:=bt.one;refine Wn<|Wq<|Wq ?_
 obtain ⟨bu,aW,a9⟩:=bdS aV;refine Wt (fun a w=>∃(xz:Bool),xz=bu/\Sat 65 [(1,vI x2),(2,pt w0.z),(5,pt J.z),(31,vB xz)] a/\Below ax.z ax w) ?_ ?_
 ·refine Wg<|Rf z d_c z<|R z (l0 g_9 z<|hk.at z) ?_
  obtain ⟨bv,bw,aa⟩:=bdS aW;refine E z (fc call116 z<|j_Q bw (zt' V<|lt_ (lt_ (lt_ h2.s s5.s) h4.s) h3.s) ap) ?_;rintro _ _ ⟨sm,rfl⟩;refine R z (not_ z)<|Rm z ?_
  rcases bs (!bv) with G | G
  ·iterate 3 refine Nh z G ?_
   exact Nv z<|Nv z<|Nv z<|Nh z G<|R z (pT z G z)<|Wl (fun _ q=>⟨true,som<|ifT aa G,q.k<|s4 z z z z,sm⟩)
  have ab:=ifF aa G;refine Rh z G (fd c_B z) ?_;have ay:=hk.e sm;refine Rh z G (l0 g_4 z<|ay.at z)<|Rh z G (mv z) ?_
  rcases bs L.little with H | H
  ·exact Rh z H (fd a_a z)<|Rh z H (l0 g_3 z<|ay.at z)<|Rh z H (nq z z)<|Rh z G (pT z H z)<|R z (pF z G z)<|Wl (fun _ q=>⟨L.kind != 1,som<|ifT ab H,q.k<|s4 z z z z,sm⟩)
  iterate 3 refine Nh z H ?_
  exact Rh z G (pF z H z)<|R z (pF z G z)<|Wl (fun _ q=>⟨false,som<|ifF ab H,q.k<|s4 z z z z,sm⟩)
 rintro bx wh ⟨xz,rfl,_,s1⟩;revert bx;refine Wo<|Wc z (fun W=>?_) (fun W=>?_)
 ·refine Ws<|Rw z ?_
  obtain rfl:=som<|ifT a9 W;exact Wr<|a_ hr z ⟨bup (bM (bup (bup h2 s5) h4) h3<|m1<|lt_ h2.s s5.s) s1,z⟩
 refine Wk<|Wq<|Ws<|Rf z a_5 z ?_
 have az:=((an.e h4).c h3<|djs<|mm1 ho.lt s5.s).e s1;refine R z (l0 a_9 z<|az.at z)<|Rm z ?_
 obtain ⟨bz,bA,aX⟩:=bdS<|ifF a9 W;have hd:=lt_ h2.s s5.s;have aA:∀k∈[J.z],¬B k:=or0 (f_ lr)<|q_<|zt' V hd;have aB:=((ao.e h4).c h3<|e_ aA).e s1;refine RX z (rX Z_ l_ z z (O.g aB) z z bA) ?_;rintro _ ⟨bB,bC,bD,rfl,a1⟩;refine R z (lnR Z_ z a1)<|Rm z<|Wn ?_
 obtain ⟨_,aY,ad⟩:=bdS aX;refine Wf (σ:=Unit) (ρ:=Bool) (fun (aC:Nat)(_:Unit) a w=>Sat 65 [(1,vI x2),(2,pt w0.z),(5,pt J.z),(35,sl bB bC bD),(36,vI (bz.length:Int)),(37,vI ((aC:Nat):Int))] a/\Below wh.z wh w) (fun (_:Unit) a w=>Sat 65 [(1,vI x2),(2,pt w0.z),(5,pt J.z)] a/\Below wh.z wh w) (rQ prog fn<|Q7 w0 B) aY ?_ ?_ ?_ ?_ ?_
 ·exact fun _ q=>⟨q.k<|s6 z z z z z z,br wh⟩
 ·rintro aC _ _ bE _ af ⟨aZ,sa⟩ b0;refine Wu ?_ aZ;refine Ws<|Rl z z z<|Wn<|Wq<|Wc z (fun _=>?_) (fun hc=>(T_ af hc).elim)
  refine Wk<|Wq<|Wb<|Ws ?_
  obtain ⟨aD,bF,ah⟩:=bdS b0;refine RX z (at_ (α:=b_) Z_ l_ z z z (a1.e sa) bF) ?_;rintro _ ⟨_,_,_,rfl,bG,bH,_⟩;obtain ⟨aE,aF,aG,aH,aI,aJ,aK,aL,aM,aN,aO,aP,rfl,_,_,_,_,_,_,_⟩:=a_u bH;refine R z (lN (vs:=vR aD aE aF aG aH aI aJ aK aL aM aN aO aP) D_ l_ z z fid bG)<|E z (fa b_H) ?_
  rintro _ bI ⟨rfl,aQ⟩;have a2:=aQ.below;refine E0 (fs0 (cur':=vR aD aE aF aG aH aI aJ aK aL aM aN aO aP) l_ z z (aQ.blk:Blk bI bE.z [(Str.v (⟨[]⟩:Str)),vI 0,vI 0,vB false,sl none 0 0,sl none 0 0,sl none 0 0,sl none 0 0]) z z z z) ?_;rintro _ _ ⟨bJ,bK⟩;have a3:=bK.one;refine Wn<|Ws<|Rf z d_c z<|R z (l0 g_9 z<|bJ.at z)<|Rf z d_c z<|R z (l0 g_9 z<|((((hk.e s1).e sa).e a2).c a3<|djs<|mm1 av.lt<|lt_ (lt_ h3.s s1.s) sa.s).at z)<|R z (b_6 z z)<|Wx z (fun Y=>?_) (fun Y=>?_)
  ·exact Ws<|Rw z<|Wr<|rtO<|qL (som<|ifT ah Y).symm<|a_ hr z ⟨bM (bup (bup (bup (bM (bup (bup h2 s5) h4) h3<|m1 hd) s1) sa) a2) a3<|m1<|lt_ (lt_ (lt_ (lt_ hd h4.s) h3.s) s1.s) sa.s,z⟩
  exact Wk<|Wg<|R z (inc_ af (lt_ (repS.len a1) C_) z z)<|Rm z<|Wl (fun _ q=>⟨(),(som<|ifF ah Y).symm,⟨q.k<|s6 z z z z z z,bM (bup sa a2) a3<|m1 sa.s⟩⟩)
 ·rintro _ _ _ ⟨b1,bL⟩;refine Wu ?_ b1;refine Ws<|Rl z z z<|Wn<|Wq<|Wc z (fun hc=>(U_ hc).elim) (fun _=>?_)
  exact We<|fun _ q=>⟨rfl,⟨q.k<|s3 z z z,bL⟩⟩
 ·rintro _ bN wi rfl ⟨_,sb⟩;have b2:=elL ad;revert bN;refine Wo<|Wq<|Ws<|Rf z G_ z ?_
  have aR:=(hk.e s1).e sb;refine R z (l0 u_ z<|aR.at z) ?_;have a4:=(((h4.ag B).c h3<|e_ aA).e s1).e sb;refine R z (lnR o_ z<|hj.g a4)<|Rm z<|Wn ?_
  obtain ⟨_,b3,ai⟩:=bdS b2;refine Wf (σ:=Unit) (ρ:=Bool) (fun (a5:Nat)(_:Unit) a w=>Sat 65 [(1,vI x2),(2,pt w0.z),(5,pt J.z),(48,sl ae nf cg),(49,vI (L.kids.length:Int)),(50,vI ((a5:Nat):Int))] a/\Below wi.z wi w) (fun (_:Unit) a w=>Sat 65 [(2,pt w0.z),(5,pt J.z)] a/\Below wi.z wi w) (rQ prog fn<|Q7 w0 B) b3 ?_ ?_ ?_ ?_ ?_
  ·exact fun _ q=>⟨q.k<|s6 z z z z z z,br wi⟩
  ·rintro a5 _ _ wl _ aj ⟨b4,a6⟩ b5;refine Wu ?_ b4;refine Ws<|Rl z z z<|Wn<|Wq<|Wc z (fun _=>?_) (fun hc=>(T_ aj hc).elim)
   refine Wk<|Wq<|Wb<|Ws ?_
   obtain ⟨aS,bO,b6⟩:=bdS b5;refine RX z (at_ (α:=Int) o_ z_3 z z z (hj.g<|a4.e a6) bO) ?_;rintro _ ⟨_,_,_,rfl,bP,bQ,_⟩;obtain ⟨rfl,_⟩:=J_ bQ;refine R z (l0 g_3 z<|bP.at0 z)<|Rw z<|Wq ?_
   obtain ⟨bR,ak,al⟩:=bdS b6;refine Wt (fun a w=>∃(a7:Bool),a7=bR/\Sat 65 [(1,vI x2),(2,pt w0.z),(5,pt J.z),(48,sl ae nf cg),(49,vI (L.kids.length:Int)),(50,vI ((a5:Nat):Int)),(60,vB a7)] a/\Below wl.z wl w) ?_ ?_
   ·refine Wg<|Rm z<|Rl z z z<|Rm z ?_
    rcases bs (decide<|aS<0) with I | I
    ·iterate 3 refine Nh z I ?_
     exact R z (pT z I z)<|Wl (fun _ q=>⟨true,som<|ifT ak I,q.k<|s7 z z z z z z z,br wl⟩)
    exact Rh z I (mv z)<|Rh z I (mv z)<|Rh z I (b_m z z)<|R z (pF z I z)<|Wl (fun _ q=>⟨decide<|x2<=aS,som<|ifF ak I,q.k<|s7 z z z z z z z,br wl⟩)
   rintro bS _ ⟨a7,rfl,_,aT⟩;revert bS;refine Wo<|Wc z (fun a0=>?_) (fun a0=>?_)
   ·exact Ws<|Rw z<|Wr<|rtO<|qL (som<|ifT al a0).symm<|a_ hr z ⟨bup (bup (bup (bup (bM (bup (bup h2 s5) h4) h3<|m1 hd) s1) sb) a6) aT,z⟩
   exact Wk<|Wg<|R z (inc_ aj (lt_ (repS.len hj) C_) z z)<|Rm z<|Wl (fun _ q=>⟨(),(som<|ifF al a0).symm,⟨q.k<|s6 z z z z z z,bup a6 aT⟩⟩)
  ·rintro _ _ _ ⟨b7,bT⟩;refine Wu ?_ b7;refine Ws<|Rl z z z<|Wn<|Wq<|Wc z (fun hc=>(U_ hc).elim) (fun _=>?_)
   exact We<|fun _ q=>⟨rfl,⟨q.k<|s2 z z,bT⟩⟩
  ·rintro _ bU _ rfl ⟨_,sc⟩;have b8:=elL ai;revert bU;refine Wo<|Ws<|R z (lN (vs:=[sl A0 N0 C0]) B_ z_ z z fid<|((az.e sb).e sc).row 0 1 z)<|R z (lN (vs:=vR L aq nr cs au nt cv aw nx cy ae nf cg) D_ l_ z z fid<|(aR.e sc).row 0 8 z) ?_
   have hn:=a4.e sc;obtain ⟨_,bV,b9⟩:=bdS b8;refine E z (fc call118 z<|W_w2v bV (zt' V<|lt_ (lt_ (lt_ (lt_ (lt_ hd h4.s) h3.s) s1.s) sb.s) sc.s) (O.g<|(aB.e sb).e sc) ap bk bm (bn.g hn) (bo.g hn) (bp.g hn)<|hj.g hn) ?_;rintro _ _ ⟨bW,rfl⟩;refine Rw z ?_
   obtain rfl:=som b9;exact Wr<|a_ hr z ⟨bup (bup (bup (bup (bM (bup (bup h2 s5) h4) h3<|m1 hd) s1) sb) sc) bW,z⟩
  rintro _ _ _ _ rfl ⟨rfl,ba⟩;have bb:=elR ai;obtain rfl:=som bb;exact ⟨ba,z⟩
 rintro _ _ _ _ rfl ⟨rfl,bc⟩;have be:=elR ad;obtain rfl:=som be;exact ⟨bc,z⟩
theorem W_w17 {x1:d_}{res:Bool}(hm:e_R n x1=some res)(V:B<=w0.z)(H:repS w0 B (sl A0 N0 C0) x1.rules):i_ prog 60 [(.agg #[sl A0 N0 C0])] w0 (Q7 w0 B res):=by
 unfold e_R at hm
 refine goG func60 z z z fun fn hr=>Ws<|E z (fb z) ?_
 rintro _ wh ⟨rfl,W⟩;have G:=W.below;have Y:Blk wh w0.z [sl A0 N0 C0]:=W.blk;refine Rw z<|Wq<|Ws<|Rf z a_5 z<|R z (l0 a_9 z<|Y.at z) ?_
 have h9:=H.e G;refine R z (lnR Z_ z h9) ?_;obtain ⟨_,ei,hma⟩:=bdS hm;refine E z (fc call85 z<|d_f ei (zt' V G.s) (b_A<|repS.len h9) (ii z)<|ii z) ?_;rintro _ I ⟨s1,rfl⟩;refine R z (not_ z)<|Wx z (fun J=>?_) (fun J=>?_)
 ·refine Ws<|Rw z ?_
  obtain rfl:=som<|ifT hma J;exact Wr<|a_ hr z ⟨bup G s1,z⟩
 refine Wk<|Wq<|Ws<|Rf z a_5 z ?_
 have hb:=Y.e s1;refine R z (l0 a_9 z<|hb.at z) ?_;have hd:=(G.ag B).e s1;refine R z (lnR Z_ z<|H.g hd)<|Rm z<|Wn ?_
 obtain ⟨_,huj,hmc⟩:=bdS<|ifF hma J;refine Wf (σ:=Unit) (ρ:=Bool) (fun (ke:Nat)(_:Unit) a w=>Sat 20 [(1,pt w0.z),(11,vI (x1.rules.length:Int)),(12,vI ((ke:Nat):Int))] a/\Below I.z I w) (fun (_:Unit) a w=>Sat 20 [] a/\Below I.z I w) (rQ prog fn<|Q7 w0 B) huj ?_ ?_ ?_ ?_ ?_
 ·exact fun _ q=>⟨q.k<|s3 z z z,br I⟩
 ·rintro ke _ _ _ _ L ⟨hSk,s4⟩ hml;refine Wu ?_ hSk;refine Ws<|Rl z z z<|Wn<|Wq<|Wc z (fun _=>?_) (fun hc=>(T_ L hc).elim)
  refine Wk<|Wq<|Wb<|Wm z<|Rw z<|Ws<|R z (lN (vs:=[sl A0 N0 C0]) B_ z_ z z fid<|(hb.e s4).row 0 1 z)<|Rm z ?_
  obtain ⟨_,em,hmf⟩:=bdS hml;refine E z (fc call86 z<|W_w2w em (zt' V<|lt_ (lt_ G.s s1.s) s4.s) (H.g<|hd.e s4)<|ic (Nat.le_of_lt L)<|lt_ (repS.len H) C_) ?_;rintro _ _ ⟨sg,rfl⟩;refine R z (not_ z)<|Wx z (fun O=>?_) (fun O=>?_)
  ·exact Ws<|Rw z<|Wr<|rtO<|qL (som<|ifT hmf O).symm<|a_ hr z ⟨bup (bup (bup G s1) s4) sg,z⟩
  exact Wk<|Wg<|R z (inc_ L (lt_ (repS.len H) C_) z z)<|Rm z<|Wl (fun _ q=>⟨(),(som<|ifF hmf O).symm,⟨q.k<|s3 z z z,bup s4 sg⟩⟩)
 ·rintro _ _ _ ⟨hSn,so⟩;refine Wu ?_ hSn;refine Ws<|Rl z z z<|Wn<|Wq<|Wc z (fun hc=>(U_ hc).elim) (fun _=>?_)
  exact We<|fun _ q=>⟨rfl,⟨q.k sn,so⟩⟩
 ·rintro _ ap _ rfl ⟨_,sq⟩;have hmr:=elL hmc;revert ap;refine Wo<|Ws<|Rw z ?_
  obtain rfl:=som hmr;exact Wr<|a_ hr z ⟨bup (bup G s1) sq,z⟩
 rintro _ _ _ _ rfl ⟨rfl,hqs⟩;have hmt:=elR hmc;obtain rfl:=som hmt;exact ⟨hqs,z⟩
theorem W_w2x {x1:d_}{res:Int}(hm:g_e x1=some res)(J:B<=w0.z)(H:repS w0 B (sl A0 N0 C0) x1.rules):i_ prog 61 [(.agg #[sl A0 N0 C0])] w0 (Q0 w0 B res):=by
 unfold g_e at hm
 refine goG func61 z z z fun fn hr=>Ws<|E z (fb z) ?_
 rintro _ I ⟨rfl,G⟩;have h1:=G.below;refine Rw z<|Ws<|Rf z a_5 z<|R z (l0 a_9 z<|(G.blk:Blk I w0.z [sl A0 N0 C0]).at z)<|R z (lnR Z_ z<|H.e h1)<|R z (sb_ z z)<|Rw z ?_
 obtain rfl:=som hm;exact Wr<|a_ hr z ⟨h1,z,iS _ _⟩
theorem j_S {x1:d_}{x2:Int}{res:Bool}(hm:e_b n x1 x2=some res)(J:B<=w0.z)(I:repS w0 B (sl A0 N0 C0) x1.rules)(O:inI x2):i_ prog 64 [(.agg #[sl A0 N0 C0]),vI x2] w0 (Q7 w0 B res):=by
 unfold e_b at hm
 refine goG func64 z z z fun fn hr=>Ws<|E z (fb z) ?_
 rintro _ H ⟨rfl,h5⟩;have h1:=h5.below;have h6:Blk H w0.z [sl A0 N0 C0]:=h5.blk;refine Rw z<|Wq ?_
 obtain ⟨u8,V,hma⟩:=bdS hm;refine Wt (fun a w=>∃(x4:Bool),x4=u8/\Sat 12 [(4,vB x4)] a/\Below H.z H w) ?_ ?_
 ·refine Wg<|R z (lN (vs:=[sl A0 N0 C0]) B_ z_ z z fid<|h6.row 0 1 z) ?_
  obtain ⟨rb,ec,L⟩:=bdS V;refine E z (fc call60 z<|W_w17 ec (zt' J h1.s)<|I.e h1) ?_;rintro _ _ ⟨s2,rfl⟩;refine Rm z ?_
  rcases bs rb with G | G
  ·refine Rh z G (lN (vs:=[sl A0 N0 C0]) B_ z_ z z fid<|(h6.e s2).row 0 1 z)<|Rh z G (mv z) ?_
   obtain ⟨rd,ee,hmf⟩:=bdS<|ifT L G;refine Eg z z G z (fc call91 z<|j_R ee (zt' J<|lt_ h1.s s2.s) (I.g<|(h1.ag B).e s2) O) ?_;rintro _ _ ⟨sg,rfl⟩;exact R z (pT z G z)<|Ra z<|Wl (fun _ q=>⟨rd,som hmf,q.k<|s1 z,bup s2 sg⟩)
  iterate 3 refine Nh z G ?_
  exact R z (pF z G z)<|Ra z<|Wl (fun _ q=>⟨false,som<|ifF L G,q.k<|s1 z,s2⟩)
 rintro ah _ ⟨x4,rfl,_,si⟩;revert ah;refine Wo ?_;obtain rfl:=som hma;exact Wr<|a_ hr z ⟨bup h1 si,z⟩
def Q19 (w0:World)(B:Zone)(r:M_)(v:Value)(w':World):Prop:=Bw w0 w'/\(fun G=>(.agg #[vI G.at_,vI G.code])=v/\inI G.at_/\inI G.code) r
theorem g_J {x1:V_}{b1 o1:Nat}{x2:Int}{x3:Int}{res:M_}(hm:d_a x1 x2 x3=some res)(a0:B<=w0.z)(V:repS w0 B (sl A0 N0 C0) x1.d.rules)(I:repS w0 B (sl A5 N5 C5) x1.b)(W:inI x1.applied)(hC1:I_ w0 b1 o1 [sl A0 N0 C0,sl A5 N5 C5,vI x1.applied])(hC1b:B b1)(J:inI x2)(Y:inI x3):i_ prog 144 [(.pointer<|some ⟨b1,o1,none⟩),vI x2,vI x3] w0 (Q19 w0 B res):=by
 unfold d_a at hm
 refine goG func144 z z z fun fn hr=>Ws<|E z (fa b_i) ?_
 rintro _ L ⟨rfl,h2⟩;have G:=h2.below;have h3:Blk L w0.z [vI 0,vI 0]:=h2.blk;refine Wn<|Wq<|Wm z<|Rm z<|R z (A_ z)<|Rf z d_b z<|R z (l0 O_ z<|(hC1.e G).at (j:=1) z)<|R z (lnR k_ z<|I.e G)<|Rm z<|R z (sb_ z z)<|R z (a_3 z z)<|Wx z (fun H=>?_) (fun H=>?_)
 ·refine Wm z<|R z (bP (parts:=[(0,.tmp 16),(1,.const<|.int .i64 1)]) (cs:=[vI x2,vI 1]) c_j z z)<|E0 (fs0 (cur':=[vI x2,vI 1]) y_ z z h3 z z z z) ?_
  rintro _ _ ⟨h5,s6⟩;refine Wn ?_;obtain rfl:=som<|ifT hm H;exact Wr<|a_ hr (n_ a_2 y_ z h5 z) ⟨bM G s6.one<|f_ lr,z,J,ii z⟩
 refine Wk<|Wm z<|Rm z<|R z (add_ z z)<|R z (bP (parts:=[(0,.tmp 20),(1,.const<|.int .i64 0)]) (cs:=[vI (j_ x2 x3),vI 0]) c_j z z)<|E0 (fs0 (cur':=[vI (j_ x2 x3),vI 0]) y_ z z h3 z z z z) ?_
 rintro _ _ ⟨O,s8⟩;refine Wn ?_;obtain rfl:=som<|ifF hm H;exact Wr<|a_ hr (n_ a_2 y_ z O z) ⟨bM G s8.one<|f_ lr,z,iA _ _,ii z⟩
theorem j_T {x1:List UInt8}{x2:Bool}{res:Int}(hm:e_c x1 x2=some res)(W:B<=w0.z)(G:repS w0 B (sl A0 N0 C0) x1):i_ prog 125 [sl A0 N0 C0,vB x2] w0 (Q0 w0 B res):=by
 unfold e_c at hm
 refine goG func125 z z z fun fn hr=>Ws<|Rw z<|Wq<|Wm z<|R z (lnR k_ z G)<|R z (a_3 z z)<|Wx z (fun I=>?_) (fun I=>?_)
 ·refine Ws<|Rw z ?_
  obtain rfl:=som<|ifT hm I;exact Wr<|a_ hr z ⟨br w0,z,ii z⟩
 refine Wk<|Ws<|Rw z<|Wq<|Wm z<|R z (lnR k_ z G)<|Rm z<|Wn ?_
 obtain ⟨_,huc,L⟩:=bdS<|ifF hm I;refine Wf (σ:=Int) (ρ:=Int) (fun (k5:Nat)(x0:Int) a w=>Sat 38 [(0,sl A0 N0 C0),(1,vB x2),(5,vI x0),(11,vI (x1.length:Int)),(12,vI ((k5:Nat):Int))] a/\Below w0.z w0 w/\inI x0) (fun (x0:Int) a w=>Sat 38 [(5,vI x0)] a/\Below w0.z w0 w/\inI x0) (rQ prog fn<|Q0 w0 B) huc ?_ ?_ ?_ ?_ ?_
 ·exact fun _ q=>⟨q.k<|s5 z z z z z,br w0,ii z⟩
 ·rintro k5 x0 _ H _ O ⟨hSd,s6,h2⟩ hme;refine Wu ?_ hSd;refine Ws<|Rl z z z<|Wn<|Wq<|Wc z (fun _=>?_) (fun hc=>(T_ O hc).elim)
  refine Wk<|Wq<|Wb<|Wm z<|Rw z<|Wm z<|Wn ?_
  obtain ⟨uf,hua,hmg⟩:=bdS hme;refine Wt (fun a w=>∃(x3:Int),x3=uf/\Sat 38 [(0,sl A0 N0 C0),(1,vB x2),(5,vI x3),(11,vI (x1.length:Int)),(12,vI ((k5:Nat):Int))] a/\Below H.z H w/\inI x3) ?_ ?_
  ·refine Wc z (fun J=>?_)<|fun J=>?_
   ·refine Wg<|Rm z<|R z (h_j z z (by decide))<|RM z z ?_
    have hb:=G.e s6;refine R z (lnR k_ z hb)<|R z (sb_ z z)<|Rm z<|R z (sb_ z z) ?_
    obtain ⟨xh,ei,hmj⟩:=bdS<|ifT hua J;refine RX z (at_ (α:=UInt8) k_ z_5 z z z hb ei) ?_;rintro _ ⟨_,_,_,rfl,hk,hl,_⟩;obtain rfl:=u8 hl;exact R z (l0 g_5 z<|hk.at0 z)<|R z (b_J d_5 d_3 z)<|R z (rd_or z z)<|Ra z<|Wl (fun _ q=>⟨b_C .i64 (· ||| ·) (b_s .i64 x0 8)<|byteI xh,som hmj,q.k<|s5 z z z z z,br H,k_y _ _ _⟩)
   refine Wg<|Rm z<|R z (h_j z z (by decide))<|RM z z ?_
   obtain ⟨xm,en,hmo⟩:=bdS<|ifF hua J;refine RX z (at_ (α:=UInt8) k_ z_5 z z z (G.e s6) en) ?_;rintro _ ⟨_,_,_,rfl,hp,hq,_⟩;obtain rfl:=u8 hq;exact R z (l0 g_5 z<|hp.at0 z)<|R z (b_J d_5 d_3 z)<|R z (rd_or z z)<|Ra z<|Wl (fun _ q=>⟨b_C .i64 (· ||| ·) (b_s .i64 x0 8)<|byteI xm,som hmo,q.k<|s5 z z z z z,br H,k_y _ _ _⟩)
  rintro ar _ ⟨x3,rfl,_,ss,ht⟩;revert ar;exact Wo<|Wg<|R z (inc_ O (lt_ (repS.len G) C_) z z)<|Rm z<|Wl (fun _ q=>⟨x3,(som hmg).symm,⟨q.k<|s5 z z z z z,bup s6 ss,ht⟩⟩)
 ·rintro x0 _ _ ⟨hSu,sv,h2⟩;refine Wu ?_ hSu;refine Ws<|Rl z z z<|Wn<|Wq<|Wc z (fun hc=>(U_ hc).elim) (fun _=>?_)
  exact We<|fun _ q=>⟨rfl,⟨q.k<|s1 z,sv,h2⟩⟩
 ·rintro x0 aw _ rfl ⟨_,sx,h2⟩;have hmy:=elL L;revert aw;refine Wo<|Wm z<|Rw z ?_
  obtain rfl:=som hmy;exact Wr<|a_ hr z ⟨sx,z,h2⟩
 rintro _ _ _ _ rfl ⟨rfl,hqz⟩;have V:=elR L;obtain rfl:=som V;exact ⟨hqz,z⟩
def Q20 (w0:World)(g1:Nat)(B:Zone)(A0:Option Addr)(N0 C0:Nat)(A5:Option Addr)(N5 C5:Nat)(x1:V_)(r:Int×M_×Int)(v:Value)(w':World):Prop:=Chg (· ∈ [g1]) w0 w'/\un3 (fun H G I=>v = .tuple #[vI H,(.agg #[vI G.at_,vI G.code])]/\inI H/\inI G.at_/\inI G.code/\inI I/\Blk w' g1 [sl A0 N0 C0,sl A5 N5 C5,vI I]) r
theorem h_Z {x1:V_}{g1:Nat}{x2:Int}{x3:Int}{res:Int×M_×Int}(hm:d_H x1 x2 x3=some res)(hB1:Blk w0 g1 [sl A0 N0 C0,sl A5 N5 C5,vI x1.applied])(L:B<=w0.z)(hBg:¬B g1)(O:repS w0 B (sl A0 N0 C0) x1.d.rules)(V:repS w0 B (sl A5 N5 C5) x1.b)(aP:inI x1.applied)(aQ:inI x2)(al:inI x3):i_ prog 142 [pt g1,vI x2,vI x3] w0 (Q20 w0 g1 B A0 N0 C0 A5 N5 C5 x1 res):=by
 unfold d_H at hm
 refine goG func142 z z z fun fn hr=>Ws<|Ra z<|E z (fa b_i) ?_
 rintro _ wf ⟨rfl,ho⟩;have hb:=ho.below;have I:Blk wf w0.z [vI 0,vI 0]:=ho.blk;refine Wn<|Wm z<|R z (A_ z)<|Rf z h_S z ?_
 have hp:=hB1.e hb;refine R z (l0 g_3 z<|hp.at z)<|R z (add_ z z)<|R z (A_ z)<|Rf z h_S z<|E0 (fs0 (cur':=[sl A0 N0 C0,sl A5 N5 C5,vI<|j_ x1.applied 1]) z_3 z z hp z z z z) ?_
 rintro _ J ⟨hq,ap⟩;have h1:=ap.one;refine Wn<|Wm z<|R z (A_ z)<|Rf z m_c z<|Rf z a_5 z<|R z (l0 a_9 z<|hq.at z)<|Rm z ?_
 obtain ⟨xr,aq,am⟩:=bdS hm;have ht:=(hb.ag B).c h1<|e_<|f_ hBg
 refine RX z (at_ (α:=b_) Z_ l_ z z z (O.g ht) aq) ?_;rintro _ ⟨_,_,_,rfl,ar,av,_⟩;obtain ⟨au,ns,cv,aw,nx,cy,az,Y,a0,a1,a2,a3,rfl,_,_,ax,_,_,_,_⟩:=a_u av;refine R z (lN (vs:=vR xr au ns cv aw nx cy az Y a0 a1 a2 a3) D_ l_ z z fid ar)<|E z (fa b_H) ?_
 rintro _ wg ⟨rfl,a4⟩;have h4:=a4.below;have a5:Blk wg J.z [(Str.v (⟨[]⟩:Str)),vI 0,vI 0,vB false,sl none 0 0,sl none 0 0,sl none 0 0,sl none 0 0]:=a4.blk;refine E0 (fs0 (cur':=vR xr au ns cv aw nx cy az Y a0 a1 a2 a3) l_ z z a5 z z z z) ?_;rintro _ a6 ⟨a7,ay⟩;have h2:=ay.one;refine Wn<|Wm z<|Rm z<|Rf z a_w z<|R z (l0 g_3 z<|a7.at z) ?_
 have hc:=lt_ hb.s h1.s;have hh:=(hq.e h4).c h2<|djs<|mm1 (Blk.lt hB1) hc
 have hi:=(ht.e h4).c h2<|e_ (or0 (f_ lr) (q_<|zt' L hc):∀k∈[J.z],¬B k)
 have hj:=lt_ (lt_ hc h4.s) h2.s;obtain ⟨H,aA,W⟩:=bdS am;refine E z (fc call144 z<|g_J (B:=w0.z) aA (a_1 hj) (repS.mono (O.g hi) L) (repS.mono (V.g hi) L) (iA _ _) (hh.row 0 3 z) (Blk.lt hB1) al ax) ?_;rintro _ wa ⟨G,rfl,a8,a9⟩;refine E z (fa b_i) ?_;rintro _ wk ⟨rfl,aa⟩;have h5:=aa.below;refine E0 (fs0 (cur':=[vI H.at_,vI H.code]) y_ z z (aa.blk:Blk wk wa.z [vI 0,vI 0]) z z z z) ?_;rintro _ ab ⟨hl,aB⟩;have h6:=aB.one;refine Wn<|Wq<|Ws<|Rf z c_P z<|R z (l0 g_3 z<|hl.at z)<|R z (nq z z)<|Wx z (fun hcm=>?_) (fun hcm=>?_)
 ·refine Wq (Wd (X:=noX) 4 (pl_ 3 [2]) mo (by kernel_rfl) fun aC sd _=>dR z z (lN (vs:=[vI H.at_,vI H.code]) a_2 y_ z z fid<|(hl.e sd).row 0 2 z)<|dQ z z z ?_);have ad:=mmr<|Blk.lt hB1
  refine dE0 z (fs0 (cur':=[vI H.at_,vI H.code]) y_ z z (((((((I.c h1<|atp ad).e h4).c h2<|djs<|mm1 I.lt h1.s).e G).e h5).c h6<|djs<|mm1 I.lt<|lt_ (lt_ (lt_ h1.s h4.s) h2.s) G.s).e sd) z z z z) (.inl z) ?_;rintro _ aD ⟨aE,aF⟩;have ae:=aF.one;refine pD<|Wo ?_
  obtain rfl:=som<|ifT W hcm;have af:=lt_ hj G.s;exact Wr<|a_4 hr z (n_ a_2 y_ z aE z) ⟨(cM (g_ (cM (g_ (g_ (cM (g_ (cM (g_ (cr [g1] w0) hb:Chg (· ∈ [g1]) w0 wf) h1 (io sr):Chg (· ∈ [g1]) w0 J) h4:Chg (· ∈ [g1]) w0 wg) h2 (mor hc:∀k∈[J.z],k∈[g1]∨w0.z<=k):Chg (· ∈ [g1]) w0 a6) G:Chg (· ∈ [g1]) w0 wa) h5:Chg (· ∈ [g1]) w0 wk) h6 (mor af:∀k∈[wa.z],k∈[g1]∨w0.z<=k):Chg (· ∈ [g1]) w0 ab) sd:Chg (· ∈ [g1]) w0 aC) ae (mor lr:∀k∈[w0.z],k∈[g1]∨w0.z<=k):Chg (· ∈ [g1]) w0 aD),z,ii z,a8,a9,iA _ _,((((hh.e G).e h5).c h6<|djs<|mm1 (Blk.lt hB1) af).e sd).c ae<|djs ad⟩
 refine Wk<|Wq (Wd (X:=noX) 8192 (.rd 0<|.rd 1<|.rd 2<|.rd 3<|.rd 4<|.rd 5<|.rd 6<|.rd 7<|.rd 8<|.rd 9<|.rd 11<|.ef 10<|.rd 12<|.ef 13 .done) mo (by kernel_rfl) fun aG s7 _=>dM z z z<|dR z z (A_ z)<|dR z z (fd d_b z) ?_)
 have he:=lt_ hj G.s;have ah:=(((hh.e G).e h5).c h6<|djs<|mm1 (Blk.lt hB1) he).e s7;refine dR z z (l0 O_ z<|ah.at z)<|dM z z z<|dR z z (fd c_A z) ?_
 have ai:=hl.e s7;refine dR z z (l0 g_3 z<|ai.at z) ?_;obtain ⟨_,aH,an⟩:=bdS<|ifF W hcm;refine dRX z z (rX k_ z_5 z z (V.g<|(((hi.e G).e h5).c h6<|e_ (or0 (f_ lr) (q_<|zt' L he):∀k∈[wa.z],¬B k)).e s7) z z aH) ?_;rintro _ ⟨_,_,_,rfl,aI⟩;refine dR z z (fd c_B z)<|dR z z (l0 g_4 z<|((((a7.e G).e h5).c h6<|djs<|mm1 a5.lt<|lt_ h2.s G.s).e s7).at z)<|dR z z (lN (vs:=[vI H.at_,vI H.code]) a_2 y_ z z fid<|ai.row 0 2 z) ?_
 obtain ⟨_,aJ,ao⟩:=bdS an;refine dE z z (fc call125 z<|j_T aJ (zt' L<|lt_ (lt_ (lt_ he h5.s) h6.s) s7.s) aI) (.inr fun _ _ h=>H_<|h.1) ?_;rintro _ aK ⟨sn,rfl,aL⟩;refine dQ z z z ?_;have aj:=mmr<|Blk.lt hB1
 refine dE0 z (fs0 (cur':=[vI H.at_,vI H.code]) y_ z z ((((((((I.c h1<|atp aj).e h4).c h2<|djs<|mm1 I.lt h1.s).e G).e h5).c h6<|djs<|mm1 I.lt<|lt_ (lt_ (lt_ h1.s h4.s) h2.s) G.s).e s7).e sn) z z z z) (.inl z) ?_;rintro _ aM ⟨aN,aO⟩;have ak:=aO.one;refine pD<|Wo ?_
 obtain rfl:=som ao;exact Wr<|a_4 hr z (n_ a_2 y_ z aN z) ⟨(cM (g_ (g_ (cM (g_ (g_ (cM (g_ (cM (g_ (cr [g1] w0) hb:Chg (· ∈ [g1]) w0 wf) h1 (io sr):Chg (· ∈ [g1]) w0 J) h4:Chg (· ∈ [g1]) w0 wg) h2 (mor hc:∀k∈[J.z],k∈[g1]∨w0.z<=k):Chg (· ∈ [g1]) w0 a6) G:Chg (· ∈ [g1]) w0 wa) h5:Chg (· ∈ [g1]) w0 wk) h6 (mor he:∀k∈[wa.z],k∈[g1]∨w0.z<=k):Chg (· ∈ [g1]) w0 ab) s7:Chg (· ∈ [g1]) w0 aG) sn:Chg (· ∈ [g1]) w0 aK) ak (mor lr:∀k∈[w0.z],k∈[g1]∨w0.z<=k):Chg (· ∈ [g1]) w0 aM),z,aL,a8,a9,iA _ _,(ah.e sn).c ak<|djs aj⟩
theorem W_w2y {x1:V_}{b1 o1:Nat}{x2:b_}{x3:Int}{res:M_}(hm:g_f x1 x2 x3=some res)(ah:B<=w0.z)(a7:repS w0 B (sl A0 N0 C0) x1.d.rules)(W:repS w0 B (sl A5 N5 C5) x1.b)(a8:inI x1.applied)(hC1:I_ w0 b1 o1 [sl A0 N0 C0,sl A5 N5 C5,vI x1.applied])(hC1b:B b1)(a9:x2.name.b.length<=LEN)(aa:inI x2.kind)(ab:inI x2.size)(I:repS w0 B (sl A2 N2 C2) x2.bytes)(ad:repS w0 B (sl A3 N3 C3) x2.names)(ae:repS w0 B (sl A1 N1 C1) x2.tags)(af:repS w0 B (sl A4 N4 C4) x2.kids)(Y:inI x3):i_ prog 143 [(.pointer<|some ⟨b1,o1,none⟩),.agg #[Str.v x2.name,vI x2.kind,vI x2.size,vB x2.little,sl A2 N2 C2,sl A3 N3 C3,sl A1 N1 C1,sl A4 N4 C4],vI x3] w0 (Q19 w0 B res):=by
 unfold g_f at hm
 refine goG func143 z z z fun fn hr=>Ws<|E z (fb z) ?_
 rintro _ J ⟨rfl,hb⟩;have G:=hb.below;refine E z (fa b_i) ?_;rintro _ H ⟨rfl,hd⟩;have h3:=hd.below;have O:Blk H J.z [vI 0,vI 0]:=hd.blk;refine Wn<|Wq<|Ws<|Rf z a_T z ?_
 have he:=(hb.blk:Blk J w0.z (vR x2 A2 N2 C2 A3 N3 C3 A1 N1 C1 A4 N4 C4)).e h3;refine R z (l0 O_ z<|he.at z) ?_;have V:=(G.ag B).e h3;refine R z (lnR k_ z<|I.g V)<|Rm z<|Wn ?_
 obtain ⟨_,hum,hmc⟩:=bdS hm;refine Wf (σ:=Unit) (ρ:=M_) (fun (k5:Nat)(_:Unit) a w=>Sat 50 [(0,.pointer<|some ⟨b1,o1,none⟩),(2,vI x3),(4,pt w0.z),(6,pt J.z),(10,sl A2 N2 C2),(11,vI (x2.bytes.length:Int)),(12,vI ((k5:Nat):Int))] a/\Below H.z H w) (fun (_:Unit) a w=>Sat 50 [(2,vI x3),(4,pt w0.z),(6,pt J.z)] a/\Below H.z H w) (rQ prog fn<|Q19 w0 B) hum ?_ ?_ ?_ ?_ ?_
 ·exact fun _ q=>⟨q.k<|s7 z z z z z z z,br H⟩
 ·rintro k5 _ _ _ _ hkf ⟨hSn,s1⟩ hmo;refine Wu ?_ hSn;refine Ws<|Rl z z z<|Wn<|Wq<|Wc z (fun _=>?_) (fun hc=>(T_ hkf hc).elim)
  refine Wk<|Wq<|Wb<|Wm z ?_
  obtain ⟨_,ep,hmg⟩:=bdS hmo;have hh:=V.e s1;refine RX z (at_ (α:=UInt8) k_ z_5 z z z (I.g hh) ep) ?_;rintro _ ⟨_,_,_,rfl,hq,ht,_⟩;obtain rfl:=u8 ht;refine R z (l0 g_5 z<|hq.at0 z)<|Ra z<|Rw z<|Wq<|Wm z<|Rm z<|R z (add_ z z)<|Rm z<|R z (A_ z)<|Rf z d_b z ?_
  have hi:=((hC1.e G).e h3).e s1;refine R z (l0 O_ z<|hi.at (j:=1) z) ?_;have hj:=W.g hh;refine R z (lnR k_ z hj)<|Rq z z z<|Wx z (fun L=>?_) (fun L=>?_)
  ·refine Wm z<|R z (bP (parts:=[(0,.tmp 26),(1,.const<|.int .i64 1)]) (cs:=[vI x3,vI 1]) c_j z z)<|E0 (fs0 (cur':=[vI x3,vI 1]) y_ z z (O.e s1) z z z z) ?_
   rintro _ _ ⟨hu,sr⟩;exact Wn<|Wr<|rtO<|qL (som<|ifT hmg L).symm<|a_ hr (n_ a_2 y_ z hu z) ⟨bM (bup (bup G h3) s1) sr.one<|m1 G.s,z,Y,ii z⟩
  refine Wk<|Wm z<|R z (A_ z)<|Rf z d_b z<|R z (l0 O_ z<|hi.at (j:=1) z)<|RM z z<|R z (add_ z z) ?_
  obtain ⟨_,es,hmk⟩:=bdS<|ifF hmg L;refine RX z (at_ (α:=UInt8) k_ z_5 z z z hj es) ?_;rintro _ ⟨_,_,_,rfl,hv,hw,_⟩;obtain rfl:=u8 hw;refine R z (l0 g_5 z<|hv.at0 z)<|Rm z<|R z (nq z z)<|Wx z (fun hca=>?_) (fun hca=>?_)
  ·refine Wm z<|Rm z<|R z (add_ z z)<|R z (bP (parts:=[(0,.tmp 41),(1,.const<|.int .i64 2)]) (cs:=[(vI<|j_ x3 ((k5:Nat):Int)),vI 2]) c_j z z)<|E0 (fs0 (cur':=[(vI<|j_ x3 ((k5:Nat):Int)),vI 2]) y_ z z (O.e s1) z z z z) ?_
   rintro _ _ ⟨hx,sy⟩;exact Wn<|Wr<|rtO<|qL (som<|ifT hmk hca).symm<|a_ hr (n_ a_2 y_ z hx z) ⟨bM (bup (bup G h3) s1) sy.one<|m1 G.s,z,iA _ _,ii z⟩
  exact Wk<|Wg<|R z (inc_ hkf (lt_ (repS.len I) C_) z z)<|Rm z<|Wl (fun _ q=>⟨(),(som<|ifF hmk hca).symm,⟨q.k<|s7 z z z z z z z,s1⟩⟩)
 ·rintro _ _ _ ⟨hSz,a3⟩;refine Wu ?_ hSz;refine Ws<|Rl z z z<|Wn<|Wq<|Wc z (fun hc=>(U_ hc).elim) (fun _=>?_)
  exact We<|fun _ q=>⟨rfl,⟨q.k<|s3 z z z,a3⟩⟩
 ·rintro _ a4 _ rfl ⟨_,s6⟩;have a0:=elL hmc;revert a4;refine Wo<|Wm z<|Rf z a_T z<|R z (l0 O_ z<|(he.e s6).at z)<|R z (lnR k_ z<|I.g<|V.e s6)<|R z (add_ z z)<|R z (bP (parts:=[(0,.tmp 48),(1,.const<|.int .i64 0)]) (cs:=[(vI<|j_ x3 (x2.bytes.length:Int)),vI 0]) c_j z z)<|E0 (fs0 (cur':=[(vI<|j_ x3 (x2.bytes.length:Int)),vI 0]) y_ z z (O.e s6) z z z z) ?_
  rintro _ _ ⟨a5,a6⟩;refine Wn ?_;obtain rfl:=som a0;exact Wr<|a_ hr (n_ a_2 y_ z a5 z) ⟨bM (bup (bup G h3) s6) a6.one<|m1 G.s,z,iA _ _,ii z⟩
 rintro _ _ _ _ rfl ⟨rfl,a1⟩;have a2:=elR hmc;obtain rfl:=som a2;exact ⟨a1,z⟩
theorem W_w18 {x1:List UInt8}{res:Int}(hm:e_S x1=some res)(W:B<=w0.z)(G:repS w0 B (sl A0 N0 C0) x1):i_ prog 126 [sl A0 N0 C0] w0 (Q0 w0 B res):=by
 unfold e_S at hm
 refine goG func126 z z z fun fn hr=>Ws<|Rw z<|Ws<|Rw z<|Wq<|Wm z<|R z (lnR k_ z G)<|Rm z<|Wn ?_
 obtain ⟨_,J,H⟩:=bdS hm;refine Wf (σ:=Int) (ρ:=Int) (fun (k3:Nat)(x0:Int) a w=>Sat 19 [(3,vI x0),(6,sl A0 N0 C0),(7,vI (x1.length:Int)),(8,vI ((k3:Nat):Int))] a/\Below w0.z w0 w/\inI x0) (fun (x0:Int) a w=>Sat 19 [(3,vI x0)] a/\Below w0.z w0 w/\inI x0) (rQ prog fn<|Q0 w0 B) J ?_ ?_ ?_ ?_ ?_
 ·exact fun _ q=>⟨q.k<|s4 z z z z,br w0,ii z⟩
 ·rintro k3 x0 _ _ _ I ⟨L,s5,h1⟩ O;refine Wu ?_ L;refine Ws<|Rl z z z<|Wn<|Wq<|Wc z (fun _=>?_) (fun hc=>(T_ I hc).elim)
  refine Wk<|Wq<|Wb<|Ws ?_
  obtain ⟨V,ea,hmb⟩:=bdS O;refine RX z (at_ (α:=UInt8) k_ z_5 z z z (G.e s5) ea) ?_;rintro _ ⟨_,_,_,rfl,hd,he,_⟩;obtain rfl:=u8 he;exact R z (l0 g_5 z<|hd.at0 z)<|Rw z<|Wg<|RM z z<|R z (b_J d_5 d_3 z)<|R z (add_ z z)<|Rw z<|Wg<|R z (inc_ I (lt_ (repS.len G) C_) z z)<|Rm z<|Wl (fun _ q=>⟨j_ x0<|byteI V,(som hmb).symm,⟨q.k<|s4 z z z z,s5,iA _ _⟩⟩)
 ·rintro x0 _ _ ⟨hSc,sf,h1⟩;refine Wu ?_ hSc;refine Ws<|Rl z z z<|Wn<|Wq<|Wc z (fun hc=>(U_ hc).elim) (fun _=>?_)
  exact We<|fun _ q=>⟨rfl,⟨q.k<|s1 z,sf,h1⟩⟩
 ·rintro x0 ag _ rfl ⟨_,sh,h1⟩;have hmi:=elL H;revert ag;refine Wo<|Wm z<|R z (h_i z z (by decide))<|Rw z ?_
  obtain rfl:=som hmi;exact Wr<|a_ hr z ⟨sh,z,i_i h1⟩
 rintro _ _ _ _ rfl ⟨rfl,hqj⟩;have hmk:=elR H;obtain rfl:=som hmk;exact ⟨hqj,z⟩
theorem W_w19 {x1:List UInt8}{x2:Int}{x3:UInt8}{res:(List UInt8)×Int×Bool}(hm:e_T n x1 x2 x3=some res)(aq:B<=w0.z)(Y:repS w0 B (sl A0 N0 C0) x1)(a0:inI x2):i_ prog 100 [sl A0 N0 C0,vI x2,vU<|byteI x3] w0 (Q14 w0 B res):=by
 unfold e_T at hm
 refine goG func100 z z z fun fn hr=>Ws<|RA z z<|Rw z<|Ws<|E z (f0 (α:=UInt8) b_q) ?_
 rintro _ wg ⟨aj,nk,cl,rfl,s8,hv⟩;refine Rw z<|Wq<|Wq ?_
 obtain ⟨ar,huw,hmx⟩:=bdS hm;refine Wt (fun a w=>∃(xm:Bool),xm=ar/\Sat 58 [(0,sl A0 N0 C0),(1,vI x2),(2,vU<|byteI x3),(9,sl aj nk cl),(19,vB xm)] a/\Below wg.z wg w) ?_ ?_
 ·refine Wg<|Rm z<|Rl z z z<|Rm z ?_
  rcases bs (decide<|x2<0) with I | I
  ·iterate 4 refine Nh z I ?_
   exact R z (pT z I z)<|Wl (fun _ q=>⟨true,som<|ifT huw I,q.k<|s5 z z z z z,br wg⟩)
  exact Rh z I (mv z)<|Rh z I (mv z)<|Rh z I (lnR k_ z<|Y.e s8)<|Rh z I (a_3 z z)<|R z (pF z I z)<|Wl (fun _ q=>⟨decide<|(x1.length:Int)<x2,som<|ifF huw I,q.k<|s5 z z z z z,br wg⟩)
 rintro au G ⟨xm,rfl,_,s6⟩;revert au;refine Wo<|Wc z (fun hcn=>?_) (fun hcn=>?_)
 ·refine Wm z<|Rm z<|RA z z<|Rw z ?_
  obtain rfl:=som<|ifT hmx hcn;exact Wr<|x_ hr z z z ⟨bup s8 s6,aj,nk,cl,[w0.z],z,hv.e s6,a0,b_l,f_ lr⟩
 refine Wk<|Wq<|Wm z<|Rw z ?_
 obtain ⟨_,ad,hmy⟩:=bdS<|ifF hmx hcn;refine d_W (σ:=(List UInt8)×Int) (ρ:=(List UInt8)×Int×Bool) (fun s a w=>un2 (fun xb V=>∃J L O H,Sat 58 [(0,sl A0 N0 C0),(1,vI x2),(2,vU<|byteI x3),(9,sl J L O),(10,vI V)] a/\Chg (· ∈ [w0.z]) G w/\c_ w H (sl J L O) xb/\H.Nodup/\(∀k∈H,k∈[w0.z]∨G.z<=k)/\inI V) s) (fun s a w=>un2 (fun xb V=>∃J L O H,Sat 58 [(1,vI x2)] a/\Chg (· ∈ [w0.z]) G w/\c_ w H (sl J L O) xb/\H.Nodup/\(∀k∈H,k∈[w0.z]∨G.z<=k)/\inI V) s) (rQ prog fn<|Q14 w0 B) ad ?_ ?_ ?_ ?_
 ·exact fun _ q=>⟨aj,nk,cl,[w0.z],q.k<|s5 z z z z z,cr [w0.z] G,hv.e s6,b_l,io sr,a0⟩
 ·rintro ⟨xb,V⟩ _ W _ ⟨J,L,O,H,ae,sa,hc,hd,he,ho⟩ af;have hmz:=a_I af;refine Wu ?_ ae;refine Wq<|Wm z<|Rm z ?_
  have a6:=((s8.ag B).e s6).c sa<|e_ (or0 (f_ lr) (q_ aq):∀k∈[w0.z],¬B k)
  have hh:=Y.g a6;refine R z (lnR k_ z hh)<|Rl z z z<|Wx z (fun hcp=>?_) (fun hcp=>?_)
  ·refine Wk<|Wq<|Wb<|Wq<|Wm z<|Rm z ?_
   obtain ⟨_,av,a1⟩:=bdS<|ifT hmz hcp;refine RX z (at_ (α:=UInt8) k_ z_5 z z z hh av) ?_;rintro _ ⟨_,_,_,rfl,aw,ax,_⟩;obtain rfl:=u8 ax;refine R z (l0 g_5 z<|aw.at0 z)<|Rm z<|Rq z z z<|Wx z (fun hcq=>?_) (fun hcq=>?_)
   ·refine Wm z<|Rm z<|R z (add_ z z)<|RA z z<|Rw z ?_
    exact Wr<|rtO<|qL (som<|ifT a1 hcq).symm<|x_ hr z z z ⟨bM (bup s8 s6) sa<|f_ lr,J,L,O,H,z,hc,iA _ _,hd,(or1 he (f_ lr) (c_7<|lt_ s8.s s6.s):∀k∈H,w0.z<=k)⟩
   refine Wk<|Wq<|Wm z<|Rm z ?_
   obtain ⟨_,ay,ah⟩:=bdS<|ifF a1 hcq;refine RX z (at_ (α:=UInt8) k_ z_5 z z z hh ay) ?_;rintro _ ⟨_,_,_,rfl,az,aA,_⟩;obtain rfl:=u8 aA;refine R z (l0 g_5 z<|az.at0 z)<|Rq z z z<|Wn ?_
   obtain ⟨aB,a2,a4⟩:=bdS ah;refine Wt (fun a w=>∃(xf:Int),Sum.inl xf=aB/\Sat 58 [(0,sl A0 N0 C0),(1,vI x2),(2,vU<|byteI x3),(9,sl J L O),(10,vI xf)] a/\Below W.z W w/\inI xf) ?_ ?_
   ·refine Wc z (fun hcr=>?_)<|fun hcr=>?_
    ·have a5:=ifT a2 hcr;refine Wm z<|R z (add_ z z)<|Rw z<|Wm z<|Rm z<|R z (lnR k_ z hh)<|Rq z z z<|Wx z (fun hcs=>?_) (fun hcs=>?_)
     ·obtain rfl:=som<|ifT a5 hcs;have ai:=elR a4;exact We<|exO z (fun _ q=>c_F (som ai).symm ⟨J,L,O,H,q.k<|s1 z,(cM (cr [w0.z] G) sa (io sr):Chg (· ∈ [w0.z]) G W),hc,hd,(or1 he (io sr) (S_ lr):∀k∈H,k∈[w0.z]∨G.z<=k),iA _ _⟩)
     exact a_f<|fun _ q=>⟨j_ V 1,som<|ifF a5 hcs,q.k<|s5 z z z z z,br W,iA _ _⟩
    exact a_f<|fun _ q=>⟨V,som<|ifF a2 hcr,q.k<|s5 z z z z z,br W,ho⟩
   rintro aC a7 ⟨xf,rfl,_,si,_⟩;have ak:=elL a4;revert aC;refine Wo<|Wg<|RM z z<|Rm z ?_
   obtain ⟨aD,aE,al⟩:=bdS ak;refine RX z (at_ (α:=UInt8) k_ z_5 z z z (Y.g<|a6.e si) aE) ?_;rintro _ ⟨_,_,_,rfl,aF,aG,_⟩;obtain rfl:=u8 aG;refine R z (l0 g_5 z<|aF.at0 z)<|E z (fS [(.tmp 53)] b_q z z z (b_X z) (lb z)<|lb z) ?_
   rintro _ a8 ⟨rfl,ht⟩;have hu:=ht.below;have aY:=c_V ht e_q;obtain ⟨aH,aI,am⟩:=bdS al;refine E z (c_E (α:=UInt8) b_q aI z z ((hc.e si).e hu) hd (ht.blk:Blk a8 a7.z [vU (byteI aD)]) e_q an_ a_q) ?_;rintro _ aJ ⟨a9,aK,aL,aM,rfl,aN,aO,aP,aQ⟩;refine Rw z<|Wg<|Rm z<|R z (add_ z z)<|Ra z<|Wl ?_
   have aa:∀k∈H,k∈[w0.z]∨G.z<=k:=or1 he (io sr)<|S_ lr;exact fun _ q=>⟨(aH,j_ xf 1),(som am).symm,⟨aK,aL,aM,a9,q.k<|s5 z z z z z,(cM (g_ (g_ (cM (cr [w0.z] G) sa (io sr):Chg (· ∈ [w0.z]) G W) si:Chg (· ∈ [w0.z]) G a7) hu:Chg (· ∈ [w0.z]) G a8) aN aa:Chg (· ∈ [w0.z]) G aJ),aO,aP,(or2 aQ aa an_ (S_<|lt_ (lt_ sa.s si.s) hu.s):∀k∈a9,k∈[w0.z]∨G.z<=k),iA _ _⟩⟩
  exact We<|fun _ q=>c_F (som<|ifF hmz hcp).symm ⟨J,L,O,H,q.k<|s1 z,(cM (cr [w0.z] G) sa (io sr):Chg (· ∈ [w0.z]) G W),hc,hd,(or1 he (io sr) (S_ lr):∀k∈H,k∈[w0.z]∨G.z<=k),ho⟩
 ·rintro ⟨xb,V⟩ aR aS rfl ⟨J,L,O,H,_,ab,hc,hd,he,ho⟩;have an:=elL hmy;revert aR;refine Wo<|Ws<|E z (f0 (α:=UInt8) b_q) ?_
  rintro _ _ ⟨aT,aU,aV,rfl,aW,aX⟩;refine Rm z<|RA z z<|Rw z ?_
  obtain rfl:=som<|a_I an;exact Wr<|x_ hr z z z ⟨bup (bM (bup s8 s6) ab<|f_ lr) aW,aT,aU,aV,[aS.z],z,aX,a0,b_l,m1<|lt_ (lt_ s8.s s6.s) ab.s⟩
 rintro _ _ _ _ rfl ⟨rfl,ao⟩;have ap:=elR hmy;obtain rfl:=som ap;exact ⟨ao,z⟩
def Q21 (w0:World)(g1:Nat)(B:Zone)(A0:Option Addr)(N0 C0:Nat)(A5:Option Addr)(N5 C5:Nat)(x1:V_)(r:M_×Int)(v:Value)(w':World):Prop:=Chg (· ∈ [g1]) w0 w'/\un2 (fun G H=>(.agg #[vI G.at_,vI G.code])=v/\inI G.at_/\inI G.code/\inI H/\Blk w' g1 [sl A0 N0 C0,sl A5 N5 C5,vI H]) r
structure j_U (f:V_->Int->Int->Option (M_×Int)):Prop where
  run:∀{A0 A5:Option Addr}{N0 C0 N5 C5 g1:Nat}{B:Zone}{x1:V_}{x2:Int}{x3:Int}{res:M_×Int}{w0:World}(hm:f x1 x2 x3=some res)(hB1:Blk w0 g1 [sl A0 N0 C0,sl A5 N5 C5,vI x1.applied])(hBw:B<=w0.z)(hBg:¬B g1)(p1_0:repS w0 B (sl A0 N0 C0) x1.d.rules)(p1_1:repS w0 B (sl A5 N5 C5) x1.b)(p1_2:inI x1.applied)(p2_0:inI x2)(p3_0:inI x3),i_ prog 123 [pt g1,vI x2,vI x3] w0<|Q21 w0 g1 B A0 N0 C0 A5 N5 C5 x1 res
structure j_V (f:V_->b_->Int->Option (M_×Int)):Prop where
  run:∀{A0 A5 A2 A3 A1 A4:Option Addr}{N0 C0 N5 C5 g1 N2 C2 N3 C3 N1 C1 N4 C4:Nat}{B:Zone}{x1:V_}{x2:b_}{x3:Int}{res:M_×Int}{w0:World}(hm:f x1 x2 x3=some res)(hB1:Blk w0 g1 [sl A0 N0 C0,sl A5 N5 C5,vI x1.applied])(hBw:B<=w0.z)(hBg:¬B g1)(p1_0:repS w0 B (sl A0 N0 C0) x1.d.rules)(p1_1:repS w0 B (sl A5 N5 C5) x1.b)(p1_2:inI x1.applied)(p2_0:x2.name.b.length<=LEN)(p2_1:inI x2.kind)(p2_2:inI x2.size)(p2_4:repS w0 B (sl A2 N2 C2) x2.bytes)(p2_5:repS w0 B (sl A3 N3 C3) x2.names)(p2_6:repS w0 B (sl A1 N1 C1) x2.tags)(p2_7:repS w0 B (sl A4 N4 C4) x2.kids)(p3_0:inI x3),i_ prog 145 [pt g1,.agg #[Str.v x2.name,vI x2.kind,vI x2.size,vB x2.little,sl A2 N2 C2,sl A3 N3 C3,sl A1 N1 C1,sl A4 N4 C4],vI x3] w0<|Q21 w0 g1 B A0 N0 C0 A5 N5 C5 x1 res
structure j_W (f:V_->b_->Int->Option (M_×Int)):Prop where
  run:∀{A0 A5 A2 A3 A1 A4:Option Addr}{N0 C0 N5 C5 g1 N2 C2 N3 C3 N1 C1 N4 C4:Nat}{B:Zone}{x1:V_}{x2:b_}{x3:Int}{res:M_×Int}{w0:World}(hm:f x1 x2 x3=some res)(hB1:Blk w0 g1 [sl A0 N0 C0,sl A5 N5 C5,vI x1.applied])(hBw:B<=w0.z)(hBg:¬B g1)(p1_0:repS w0 B (sl A0 N0 C0) x1.d.rules)(p1_1:repS w0 B (sl A5 N5 C5) x1.b)(p1_2:inI x1.applied)(p2_0:x2.name.b.length<=LEN)(p2_1:inI x2.kind)(p2_2:inI x2.size)(p2_4:repS w0 B (sl A2 N2 C2) x2.bytes)(p2_5:repS w0 B (sl A3 N3 C3) x2.names)(p2_6:repS w0 B (sl A1 N1 C1) x2.tags)(p2_7:repS w0 B (sl A4 N4 C4) x2.kids)(p3_0:inI x3),i_ prog 146 [pt g1,.agg #[Str.v x2.name,vI x2.kind,vI x2.size,vB x2.little,sl A2 N2 C2,sl A3 N3 C3,sl A1 N1 C1,sl A4 N4 C4],vI x3] w0<|Q21 w0 g1 B A0 N0 C0 A5 N5 C5 x1 res
structure j_X (f:V_->b_->Int->Option (M_×Int)):Prop where
  run:∀{A0 A5 A2 A3 A1 A4:Option Addr}{N0 C0 N5 C5 g1 N2 C2 N3 C3 N1 C1 N4 C4:Nat}{B:Zone}{x1:V_}{x2:b_}{x3:Int}{res:M_×Int}{w0:World}(hm:f x1 x2 x3=some res)(hB1:Blk w0 g1 [sl A0 N0 C0,sl A5 N5 C5,vI x1.applied])(hBw:B<=w0.z)(hBg:¬B g1)(p1_0:repS w0 B (sl A0 N0 C0) x1.d.rules)(p1_1:repS w0 B (sl A5 N5 C5) x1.b)(p1_2:inI x1.applied)(p2_0:x2.name.b.length<=LEN)(p2_1:inI x2.kind)(p2_2:inI x2.size)(p2_4:repS w0 B (sl A2 N2 C2) x2.bytes)(p2_5:repS w0 B (sl A3 N3 C3) x2.names)(p2_6:repS w0 B (sl A1 N1 C1) x2.tags)(p2_7:repS w0 B (sl A4 N4 C4) x2.kids)(p3_0:inI x3),i_ prog 147 [pt g1,.agg #[Str.v x2.name,vI x2.kind,vI x2.size,vB x2.little,sl A2 N2 C2,sl A3 N3 C3,sl A1 N1 C1,sl A4 N4 C4],vI x3] w0<|Q21 w0 g1 B A0 N0 C0 A5 N5 C5 x1 res
structure j_Y (f:V_->b_->Int->Option (M_×Int)):Prop where
  run:∀{A0 A5 A2 A3 A1 A4:Option Addr}{N0 C0 N5 C5 g1 N2 C2 N3 C3 N1 C1 N4 C4:Nat}{B:Zone}{x1:V_}{x2:b_}{x3:Int}{res:M_×Int}{w0:World}(hm:f x1 x2 x3=some res)(hB1:Blk w0 g1 [sl A0 N0 C0,sl A5 N5 C5,vI x1.applied])(hBw:B<=w0.z)(hBg:¬B g1)(p1_0:repS w0 B (sl A0 N0 C0) x1.d.rules)(p1_1:repS w0 B (sl A5 N5 C5) x1.b)(p1_2:inI x1.applied)(p2_0:x2.name.b.length<=LEN)(p2_1:inI x2.kind)(p2_2:inI x2.size)(p2_4:repS w0 B (sl A2 N2 C2) x2.bytes)(p2_5:repS w0 B (sl A3 N3 C3) x2.names)(p2_6:repS w0 B (sl A1 N1 C1) x2.tags)(p2_7:repS w0 B (sl A4 N4 C4) x2.kids)(p3_0:inI x3),i_ prog 148 [pt g1,.agg #[Str.v x2.name,vI x2.kind,vI x2.size,vB x2.little,sl A2 N2 C2,sl A3 N3 C3,sl A1 N1 C1,sl A4 N4 C4],vI x3] w0<|Q21 w0 g1 B A0 N0 C0 A5 N5 C5 x1 res
abbrev f_5 (n:Nat):Prop:=j_U (a_i n).impl_checker_value/\j_V (a_i n).impl_checker_array/\j_W (a_i n).impl_checker_choice/\j_X (a_i n).impl_checker_option/\j_Y (a_i n).impl_checker_checked
theorem T_w03 (ih:f_5 n):j_U (g_g n<|a_i n):=by
 obtain ⟨dN,dO,dP,dS,dT⟩:=ih
 constructor
 intro A0 A5 N0 C0 N5 C5 g1 B x1 x2 x3 res w0 hm hB1 J hBg W Y cT cU a0;unfold g_g at hm
 refine goG func123 z z z fun fn hr=>Ws<|E z (fa b_i) ?_
 rintro _ H ⟨rfl,bo⟩;have h1:=bo.below;have h6:Blk H w0.z [vI 0,vI 0]:=bo.blk;refine Wn<|Wm z<|R z (A_ z)<|Rf z m_c z<|Rf z a_5 z ?_
 have aL:=hB1.e h1;refine R z (l0 a_9 z<|aL.at z)<|Rm z ?_
 obtain ⟨xh,dU,b8⟩:=bdS hm;refine RX z (at_ (α:=b_) Z_ l_ z z z (W.e h1) dU) ?_;rintro _ ⟨_,_,_,rfl,dV,dW,_⟩;obtain ⟨ao,np,cq,ar,ns,ct,au,nv,cw,ai,nj,ck,rfl,a7,a8,hz,a1,a9,aa,he⟩:=a_u dW;refine R z (lN (vs:=vR xh ao np cq ar ns ct au nv cw ai nj ck) D_ l_ z z fid dV)<|E z (fa b_H) ?_
 rintro _ O ⟨rfl,bp⟩;have h2:=bp.below;have bq:Blk O H.z [(Str.v (⟨[]⟩:Str)),vI 0,vI 0,vB false,sl none 0 0,sl none 0 0,sl none 0 0,sl none 0 0]:=bp.blk;refine E0 (fs0 (cur':=vR xh ao np cq ar ns ct au nv cw ai nj ck) l_ z z bq z z z z) ?_;rintro _ V ⟨br,dX⟩;have G:=dX.one;refine Wn<|Wq<|Ws<|Rf z a_a z<|R z (l0 g_3 z<|br.at z)<|Rq z z z<|Wx z (fun az=>?_) (fun az=>?_)
 ·refine Wm z<|RM z z ?_
  have bs:=((h1.ag B).e h2).c G<|e_ (or0 (f_ lr) (q_<|zt' J h1.s):∀k∈[H.z],¬B k)
  have bt:=lt_ (lt_ h1.s h2.s) G.s;obtain ⟨_,a2,_,dY,cV⟩:=P_<|ifT b8 az;refine E z (fc call142 z<|h_Z (B:=B) dY ((aL.e h2).c G<|djs<|mm1 (Blk.lt hB1) h1.s) (zt' J bt) hBg (W.g bs) (Y.g bs) cT cU a0) ?_;rintro _ aM ⟨aj,rfl,_,dZ,e0,e1,e2⟩;refine Rm z<|Re z z z<|Re z z z<|E z (fa b_i) ?_
  rintro _ bu ⟨rfl,bv⟩;have aN:=bv.below;refine Ra z<|E0 (fs0 (cur':=[vI a2.at_,vI a2.code]) y_ z z (bv.blk:Blk bu aM.z [vI 0,vI 0]) z z z z) ?_
  rintro _ e3 ⟨e4,e5⟩;have aO:=e5.one;refine Wn<|Ws<|R z (lN (vs:=[vI a2.at_,vI a2.code]) a_2 y_ z z fid<|e4.row 0 2 z) ?_
  have bw:=mmr<|Blk.lt hB1
  refine E0 (fs0 (cur':=[vI a2.at_,vI a2.code]) y_ z z (((((h6.e h2).c G<|djs<|mmr h6.lt).c aj<|atp bw).e aN).c aO<|djs<|mm1 h6.lt<|lt_ (lt_ h2.s G.s) aj.s) z z z z) ?_;rintro _ e6 ⟨e7,e8⟩;have bx:=e8.one;refine Wn ?_;obtain rfl:=som cV;have bz:=lt_ bt aj.s;exact Wr<|a_ hr (n_ a_2 y_ z e7 z) ⟨(cM (cM (g_ (cM (cM (g_ (g_ (cr [g1] w0) h1:Chg (· ∈ [g1]) w0 H) h2:Chg (· ∈ [g1]) w0 O) G (mor h1.s:∀k∈[H.z],k∈[g1]∨w0.z<=k):Chg (· ∈ [g1]) w0 V) aj (io sr):Chg (· ∈ [g1]) w0 aM) aN:Chg (· ∈ [g1]) w0 bu) aO (mor bz:∀k∈[aM.z],k∈[g1]∨w0.z<=k):Chg (· ∈ [g1]) w0 e3) bx (mor lr:∀k∈[w0.z],k∈[g1]∨w0.z<=k):Chg (· ∈ [g1]) w0 e6),z,dZ,e0,e1,((e2.e aN).c aO<|djs<|mm1 (Blk.lt hB1) bz).c bx<|djs bw⟩
 have b9:=ifF b8 az;refine Wk<|Wm z<|R z (A_ z)<|Rf z h_S z ?_
 have bA:=mm1 (Blk.lt hB1) h1.s;have bB:=(aL.e h2).c G<|djs bA
 refine R z (l0 g_3 z<|bB.at z)<|R z (add_ z z)<|R z (A_ z)<|Rf z h_S z<|E0 (fs0 (cur':=[sl A0 N0 C0,sl A5 N5 C5,vI<|j_ x1.applied 1]) z_3 z z bB z z z z) ?_
 rintro _ I ⟨ha,e9⟩;have h3:=e9.one;refine Wn<|Wq<|Ws<|Rf z a_a z ?_
 have hb:=br.c h3<|atp bA
 refine R z (l0 g_3 z<|hb.at z)<|Wn<|Wb<|Ws<|Rq z z z<|Rw z<|Wc z (fun aA=>?_) (fun aA=>?_)
 ·refine Wm z<|R z (lN (vs:=vR xh ao np cq ar ns ct au nv cw ai nj ck) D_ l_ z z fid<|hb.row 0 8 z)<|Rm z ?_
  have bC:∀k∈[H.z],¬B k:=or0 (f_ lr)<|q_<|zt' J h1.s;have bD:=(((h1.ag B).e h2).c G<|e_ bC).c h3<|e_<|f_ hBg
  have ak:=((h2.ag B).c G<|e_ bC).c h3<|e_<|f_ hBg
  obtain ⟨bE,ea,cW⟩:=bdS<|ifT b9 aA;refine E z (fc call143 z<|W_w2y (B:=w0.z) ea (a_1<|lt_ (lt_ (lt_ h1.s h2.s) G.s) h3.s) (repS.mono (W.g bD) J) (repS.mono (Y.g bD) J) (iA _ _) (ha.row 0 3 z) (Blk.lt hB1) a7 a8 hz (repS.mono (a1.g ak) J) (repS.mono (a9.g ak) J) (repS.mono (aa.g ak) J) (repS.mono (he.g ak) J) a0) ?_;rintro _ eb ⟨aP,rfl,ec,ed⟩;have bF:=mmr<|Blk.lt hB1
  refine E0 (fs0 (cur':=[vI bE.at_,vI bE.code]) y_ z z ((((h6.e h2).c G<|djs<|mmr h6.lt).c h3<|atp bF).e aP) z z z z) ?_;rintro _ ee ⟨ef,eg⟩;have bG:=eg.one;refine Wn ?_;obtain rfl:=som cW;exact Wr<|rtO<|a_ hr (n_ a_2 y_ z ef z) ⟨(cM (g_ (cM (cM (g_ (g_ (cr [g1] w0) h1:Chg (· ∈ [g1]) w0 H) h2:Chg (· ∈ [g1]) w0 O) G (mor h1.s:∀k∈[H.z],k∈[g1]∨w0.z<=k):Chg (· ∈ [g1]) w0 V) h3 (io sr):Chg (· ∈ [g1]) w0 I) aP:Chg (· ∈ [g1]) w0 eb) bG (mor lr:∀k∈[w0.z],k∈[g1]∨w0.z<=k):Chg (· ∈ [g1]) w0 ee),z,ec,ed,iA _ _,(ha.e aP).c bG<|djs bF⟩
 have ba:=ifF b9 aA;refine Ws<|Rq z z z<|Rw z<|Wc z (fun aB=>?_) (fun aB=>?_)
 ·refine Wm z<|Rm z<|Rf z a_w z<|R z (l0 g_3 z<|hb.at z) ?_
  have bH:=(((h1.ag B).e h2).c G<|e_ (or0 (f_ lr) (q_<|zt' J h1.s):∀k∈[H.z],¬B k)).c h3<|e_<|f_ hBg
  obtain ⟨bI,eh,cX⟩:=bdS<|ifT ba aB;refine E z (fc call144 z<|g_J (B:=w0.z) eh (a_1<|lt_ (lt_ (lt_ h1.s h2.s) G.s) h3.s) (repS.mono (W.g bH) J) (repS.mono (Y.g bH) J) (iA _ _) (ha.row 0 3 z) (Blk.lt hB1) a0 hz) ?_;rintro _ ei ⟨aQ,rfl,ej,ek⟩;have bJ:=mmr<|Blk.lt hB1
  refine E0 (fs0 (cur':=[vI bI.at_,vI bI.code]) y_ z z ((((h6.e h2).c G<|djs<|mmr h6.lt).c h3<|atp bJ).e aQ) z z z z) ?_;rintro _ em ⟨en,eo⟩;have bK:=eo.one;refine Wn ?_;obtain rfl:=som cX;exact Wr<|rtO<|a_ hr (n_ a_2 y_ z en z) ⟨(cM (g_ (cM (cM (g_ (g_ (cr [g1] w0) h1:Chg (· ∈ [g1]) w0 H) h2:Chg (· ∈ [g1]) w0 O) G (mor h1.s:∀k∈[H.z],k∈[g1]∨w0.z<=k):Chg (· ∈ [g1]) w0 V) h3 (io sr):Chg (· ∈ [g1]) w0 I) aQ:Chg (· ∈ [g1]) w0 ei) bK (mor lr:∀k∈[w0.z],k∈[g1]∨w0.z<=k):Chg (· ∈ [g1]) w0 em),z,ej,ek,iA _ _,(ha.e aQ).c bK<|djs bJ⟩
 have bb:=ifF ba aB;refine Ws<|Rq z z z<|Rw z<|Wc z (fun aC=>?_) (fun aC=>?_)
 ·refine Wm z<|Rf z G_ z<|R z (l0 u_ z<|hb.at z) ?_
  obtain ⟨_,ep,cY⟩:=bdS<|ifT bb aC;have bL:∀k∈[H.z],¬B k:=or0 (f_ lr)<|q_<|zt' J h1.s;refine RX z (at_ (α:=Int) o_ z_3 z z z (he.g<|((h2.ag B).c G<|e_ bL).c h3<|e_<|f_ hBg) ep) ?_;rintro _ ⟨_,_,_,rfl,er,es,_⟩;obtain ⟨rfl,eu⟩:=J_ es;refine R z (l0 g_3 z<|er.at0 z)<|Rm z ?_
  have aR:=(((h1.ag B).e h2).c G<|e_ bL).c h3<|e_<|f_ hBg
  have aS:=lt_ (lt_ (lt_ h1.s h2.s) G.s) h3.s;obtain ⟨_,a3,_,ew,bc⟩:=P_ cY;refine E z (fc call142 z<|h_Z (B:=B) ew ha (zt' J aS) hBg (W.g aR) (Y.g aR) (iA _ _) eu a0) ?_;rintro _ a4 ⟨sf,rfl,ex,bM,ey,aT,bN⟩;refine Rm z<|Re z z z<|Re z z z<|E z (fa b_i) ?_
  rintro _ aU ⟨rfl,bO⟩;have hl:=bO.below;refine Ra z<|E0 (fs0 (cur':=[vI a3.at_,vI a3.code]) y_ z z (bO.blk:Blk aU a4.z [vI 0,vI 0]) z z z z) ?_
  rintro _ bQ ⟨aV,ez⟩;have hn:=ez.one;refine Wn<|Wq<|Ws<|Rf z c_P z<|R z (l0 g_3 z<|aV.at z)<|R z (nq z z)<|Wx z (fun aD=>?_) (fun aD=>?_)
  ·refine Ws<|R z (lN (vs:=[vI a3.at_,vI a3.code]) a_2 y_ z z fid<|aV.row 0 2 z) ?_
   have aW:=mmr<|Blk.lt hB1
   refine E0 (fs0 (cur':=[vI a3.at_,vI a3.code]) y_ z z ((((((h6.e h2).c G<|djs<|mmr h6.lt).c h3<|atp aW).c sf<|atp aW).e hl).c hn<|djs<|mm1 h6.lt<|lt_ (lt_ (lt_ h2.s G.s) h3.s) sf.s) z z z z) ?_;rintro _ eA ⟨eB,eC⟩;have bR:=eC.one;refine Wn ?_;obtain rfl:=som<|ifT bc aD;have bS:=lt_ aS sf.s;exact Wr<|rtO<|a_ hr (n_ a_2 y_ z eB z) ⟨(cM (cM (g_ (cM (cM (cM (g_ (g_ (cr [g1] w0) h1:Chg (· ∈ [g1]) w0 H) h2:Chg (· ∈ [g1]) w0 O) G (mor h1.s:∀k∈[H.z],k∈[g1]∨w0.z<=k):Chg (· ∈ [g1]) w0 V) h3 (io sr):Chg (· ∈ [g1]) w0 I) sf (io sr):Chg (· ∈ [g1]) w0 a4) hl:Chg (· ∈ [g1]) w0 aU) hn (mor bS:∀k∈[a4.z],k∈[g1]∨w0.z<=k):Chg (· ∈ [g1]) w0 bQ) bR (mor lr:∀k∈[w0.z],k∈[g1]∨w0.z<=k):Chg (· ∈ [g1]) w0 eA),z,bM,ey,aT,((bN.e hl).c hn<|djs<|mm1 (Blk.lt hB1) bS).c bR<|djs aW⟩
  refine Wk<|Wm z<|Rf z c_A z<|R z (l0 g_3 z<|aV.at z)<|Rm z ?_
  have al:=lt_ aS sf.s;have bT:=(bN.e hl).c hn<|djs<|mm1 (Blk.lt hB1) al
  have bU:=((aR.c sf<|e_<|f_ hBg).e hl).c hn<|e_ (or0 (f_ lr) (q_<|zt' J al):∀k∈[a4.z],¬B k)
  obtain ⟨bV,eD,cZ⟩:=bdS<|ifF bc aD;refine E z (fc call144 z<|g_J (B:=w0.z) eD (a_1<|lt_ (lt_ al hl.s) hn.s) (repS.mono (W.g bU) J) (repS.mono (Y.g bU) J) aT (bT.row 0 3 z) (Blk.lt hB1) bM ex) ?_;rintro _ eE ⟨aX,rfl,eF,eG⟩;have aY:=mmr<|Blk.lt hB1
  refine E0 (fs0 (cur':=[vI bV.at_,vI bV.code]) y_ z z (((((((h6.e h2).c G<|djs<|mmr h6.lt).c h3<|atp aY).c sf<|atp aY).e hl).c hn<|djs<|mm1 h6.lt<|lt_ (lt_ (lt_ h2.s G.s) h3.s) sf.s).e aX) z z z z) ?_;rintro _ eH ⟨eI,eJ⟩;have bW:=eJ.one;refine Wn ?_;obtain rfl:=som cZ;exact Wr<|rtO<|a_ hr (n_ a_2 y_ z eI z) ⟨(cM (g_ (cM (g_ (cM (cM (cM (g_ (g_ (cr [g1] w0) h1:Chg (· ∈ [g1]) w0 H) h2:Chg (· ∈ [g1]) w0 O) G (mor h1.s:∀k∈[H.z],k∈[g1]∨w0.z<=k):Chg (· ∈ [g1]) w0 V) h3 (io sr):Chg (· ∈ [g1]) w0 I) sf (io sr):Chg (· ∈ [g1]) w0 a4) hl:Chg (· ∈ [g1]) w0 aU) hn (mor al:∀k∈[a4.z],k∈[g1]∨w0.z<=k):Chg (· ∈ [g1]) w0 bQ) aX:Chg (· ∈ [g1]) w0 eE) bW (mor lr:∀k∈[w0.z],k∈[g1]∨w0.z<=k):Chg (· ∈ [g1]) w0 eH),z,eF,eG,aT,(bT.e aX).c bW<|djs aY⟩
 have be:=ifF bb aC;refine Ws<|Rq z z z<|Rw z<|Wc z (fun aE=>?_) (fun aE=>?_)
 ·refine Wm z<|R z (lN (vs:=vR xh ao np cq ar ns ct au nv cw ai nj ck) D_ l_ z z fid<|hb.row 0 8 z)<|Rm z ?_
  have bX:∀k∈[H.z],¬B k:=or0 (f_ lr)<|q_<|zt' J h1.s;have bY:=(((h1.ag B).e h2).c G<|e_ bX).c h3<|e_<|f_ hBg
  have am:=((h2.ag B).c G<|e_ bX).c h3<|e_<|f_ hBg
  obtain ⟨bZ,_,eK,d0⟩:=a_m<|ifT be aE;refine E z (fc call145 z<|dO.run (B:=B) eK ha (zt' J<|lt_ (lt_ (lt_ h1.s h2.s) G.s) h3.s) hBg (W.g bY) (Y.g bY) (iA _ _) a7 a8 hz (a1.g am) (a9.g am) (aa.g am) (he.g am) a0) ?_;rintro _ eL ⟨c0,rfl,eM,eN,eO,eP⟩;have aZ:=mmr<|Blk.lt hB1
  refine E0 (fs0 (cur':=[vI bZ.at_,vI bZ.code]) y_ z z ((((h6.e h2).c G<|djs<|mmr h6.lt).c h3<|atp aZ).c c0<|atp aZ) z z z z) ?_;rintro _ eQ ⟨eR,eS⟩;have c1:=eS.one;refine Wn ?_;obtain rfl:=som d0;exact Wr<|rtO<|a_ hr (n_ a_2 y_ z eR z) ⟨(cM (cM (cM (cM (g_ (g_ (cr [g1] w0) h1:Chg (· ∈ [g1]) w0 H) h2:Chg (· ∈ [g1]) w0 O) G (mor h1.s:∀k∈[H.z],k∈[g1]∨w0.z<=k):Chg (· ∈ [g1]) w0 V) h3 (io sr):Chg (· ∈ [g1]) w0 I) c0 (io sr):Chg (· ∈ [g1]) w0 eL) c1 (mor lr:∀k∈[w0.z],k∈[g1]∨w0.z<=k):Chg (· ∈ [g1]) w0 eQ),z,eM,eN,eO,eP.c c1<|djs aZ⟩
 have bf:=ifF be aE;refine Ws<|Rq z z z<|Rw z<|Wc z (fun aF=>?_) (fun aF=>?_)
 ·refine Wm z<|R z (bP (parts:=[(0,.tmp 88),(1,.const<|.int .i64 0)]) (cs:=[vI x3,vI 0]) c_j z z)<|E z (fa b_i) ?_
  rintro _ c2 ⟨rfl,c3⟩;have hx:=c3.below;refine E0 (fs0 (cur':=[vI x3,vI 0]) y_ z z (c3.blk:Blk c2 I.z [vI 0,vI 0]) z z z z) ?_;rintro _ L ⟨eT,eU⟩;have hy:=eU.one;refine Wn<|Wq<|Ws<|Rf z G_ z<|R z (l0 u_ z<|((hb.e hx).c hy<|djs<|mm1 bq.lt<|lt_ G.s h3.s).at z) ?_
  have c4:∀k∈[H.z],¬B k:=or0 (f_ lr)<|q_<|zt' J h1.s;have ab:=lt_ (lt_ (lt_ h1.s h2.s) G.s) h3.s;have an:∀k∈[I.z],¬B k:=or0 (f_ lr)<|q_<|zt' J ab;have c5:=((((h2.ag B).c G<|e_ c4).c h3<|e_<|f_ hBg).e hx).c hy<|e_ an
  refine R z (lnR o_ z<|he.g c5)<|Rm z<|Wn ?_
  obtain ⟨_,d1,bg⟩:=bdS<|ifT bf aF;refine Wf (σ:=Int×Int×Int) (ρ:=M_×Int) (fun (c6:Nat) s a w=>un3 (fun xm xc xd=>Sat 145 [(0,pt g1),(6,pt w0.z),(12,pt I.z),(91,sl ai nj ck),(92,vI (xh.kids.length:Int)),(93,vI ((c6:Nat):Int))] a/\Chg (· ∈ ([g1]++[I.z])) L w/\inI xm/\inI xc/\inI xd/\Blk w g1 [sl A0 N0 C0,sl A5 N5 C5,vI xm]/\Blk w I.z [vI xc,vI xd]) s) (fun s a w=>un3 (fun xm xc xd=>Sat 145 [(6,pt w0.z),(12,pt I.z)] a/\Chg (· ∈ ([g1]++[I.z])) L w/\inI xm/\inI xc/\inI xd/\Blk w g1 [sl A0 N0 C0,sl A5 N5 C5,vI xm]/\Blk w I.z [vI xc,vI xd]) s) (rQ prog fn<|Q21 w0 g1 B A0 N0 C0 A5 N5 C5 x1) d1 ?_ ?_ ?_ ?_ ?_
  ·exact fun _ q=>⟨q.k<|s6 z z z z z z,cr ([g1]++[I.z]) L,iA _ _,a0,ii z,(ha.e hx).c hy<|djs<|mm1 (Blk.lt hB1) ab,eT⟩
  ·rintro c6 ⟨xm,xc,xd⟩ _ c7 _ bh ⟨d2,ad,ae,af,ap,ah,a5⟩ d3;refine Wu ?_ d2;refine Ws<|Rl z z z<|Wn<|Wq<|Wc z (fun _=>?_) (fun hc=>(T_ bh hc).elim)
   refine Wk<|Wq<|Wb<|Ws ?_
   obtain ⟨_,eV,d4⟩:=bdS<|d_j d3;refine RX z (at_ (α:=Int) o_ z_3 z z z (he.g<|c5.c ad<|nmA (e_<|f_ hBg)<|e_ an) eV) ?_;rintro _ ⟨_,_,_,rfl,eW,eX,_⟩;obtain ⟨rfl,eY⟩:=J_ eX;refine R z (l0 g_3 z<|eW.at0 z)<|Rw z<|Wm z<|Rm z<|Rf z c_A z<|R z (l0 g_3 z<|a5.at z) ?_
   have c8:=((((((h1.ag B).e h2).c G<|e_ c4).c h3<|e_<|f_ hBg).e hx).c hy<|e_ an).c ad<|nmA (e_<|f_ hBg)<|e_ an
   obtain ⟨aq,eZ,f0,bi⟩:=a_m d4;refine E z (fc call123 z<|dN.run (B:=B) f0 ah (zt' J<|lt_ (lt_ (lt_ ab hx.s) hy.s) ad.s) hBg (W.g c8) (Y.g c8) ae eY af) ?_;rintro _ c9 ⟨b0,rfl,ca,cb,cc,cd⟩;have b1:=mm1 (Blk.lt hB1) ab;refine E0 (fs0 (cur':=[vI aq.at_,vI aq.code]) y_ z z (a5.c b0<|atp b1) z z z z) ?_;rintro _ ce ⟨b2,f1⟩;have av:=f1.one;refine Wn<|Ws<|Rf z c_P z<|R z (l0 g_3 z<|b2.at z)<|R z (nq z z)<|Wx z (fun aG=>?_) (fun aG=>?_)
   ·have f2:Chg (· ∈ ([g1]++[I.z])) L c7:=cM (cr ([g1]++[I.z]) L) ad<|aa_ (io<|c_8 sr)<|io<|b_N sr;exact We<|exO z (fun _ q=>c_F (som<|ifT bi aG).symm ⟨q.k<|s2 z z,(cM (cM f2 b0 (io<|c_8 sr):Chg (· ∈ ([g1]++[I.z])) L c9) av (io<|b_N sr):Chg (· ∈ ([g1]++[I.z])) L ce),cc,ca,cb,cd.c av<|djs b1,b2⟩)
   refine Wk<|Wg<|R z (inc_ bh (lt_ (repS.len he) C_) z z)<|Rm z<|Wl ?_
   exact fun _ q=>⟨(eZ,aq.at_,aq.code),(som<|ifF bi aG).symm,⟨q.k<|s6 z z z z z z,(cM (cM (cM (cr ([g1]++[I.z]) L) ad (aa_ (io<|c_8 sr)<|io<|b_N sr):Chg (· ∈ ([g1]++[I.z])) L c7) b0 (io<|c_8 sr):Chg (· ∈ ([g1]++[I.z])) L c9) av (io<|b_N sr):Chg (· ∈ ([g1]++[I.z])) L ce),cc,ca,cb,cd.c av<|djs b1,b2⟩⟩
  ·rintro ⟨xm,xc,xd⟩ _ f3 ⟨d5,f4,ae,af,ap,ah,a5⟩;refine Wu ?_ d5;refine Ws<|Rl z z z<|Wn<|Wq<|Wc z (fun hc=>(U_ hc).elim) (fun _=>?_)
   exact We<|fun _ q=>⟨rfl,⟨q.k<|s2 z z,(cM (cr ([g1]++[I.z]) L) f4 (aa_ (io<|c_8 sr)<|io<|b_N sr):Chg (· ∈ ([g1]++[I.z])) L f3),ae,af,ap,ah,a5⟩⟩
  ·rintro ⟨xm,xc,xd⟩ f5 f6 rfl ⟨_,cf,ae,af,ap,ah,a5⟩;have d6:=elL bg;revert f5;refine Wo<|Ws<|R z (lN (vs:=[vI xc,vI xd]) a_2 y_ z z fid<|a5.row 0 2 z) ?_
   have b3:=mmr<|Blk.lt hB1
   have cg:=mm1 h6.lt<|lt_ (lt_ h2.s G.s) h3.s
   refine E0 (fs0 (cur':=[vI xc,vI xd]) y_ z z ((((((h6.e h2).c G<|djs<|mmr h6.lt).c h3<|atp b3).e hx).c hy<|djs cg).c cf<|atp<|nmA b3<|ds cg) z z z z) ?_;rintro _ f7 ⟨f8,f9⟩;have ch:=f9.one;refine Wn ?_;obtain rfl:=som<|d_j d6;have ci:∀k∈[I.z],k∈[g1]∨w0.z<=k:=mor ab;exact Wr<|rtO<|a_ hr (n_ a_2 y_ z f8 z) ⟨(cM (cM (cM (g_ (cM (cM (g_ (g_ (cr [g1] w0) h1:Chg (· ∈ [g1]) w0 H) h2:Chg (· ∈ [g1]) w0 O) G (mor h1.s:∀k∈[H.z],k∈[g1]∨w0.z<=k):Chg (· ∈ [g1]) w0 V) h3 (io sr):Chg (· ∈ [g1]) w0 I) hx:Chg (· ∈ [g1]) w0 c2) hy ci:Chg (· ∈ [g1]) w0 L) cf (aa_ (io sr) ci):Chg (· ∈ [g1]) w0 f6) ch (mor lr:∀k∈[w0.z],k∈[g1]∨w0.z<=k):Chg (· ∈ [g1]) w0 f7),z,af,ap,ae,ah.c ch<|djs b3⟩
  rintro _ _ _ _ rfl ⟨rfl,cN⟩;have cO:=elR bg;obtain rfl:=som cO;exact ⟨cN,z⟩
 have bj:=ifF bf aF;refine Ws<|Rq z z z<|Rw z<|Wc z (fun aH=>?_) (fun aH=>?_)
 ·refine Wm z<|R z (lN (vs:=vR xh ao np cq ar ns ct au nv cw ai nj ck) D_ l_ z z fid<|hb.row 0 8 z)<|Rm z ?_
  have cj:∀k∈[H.z],¬B k:=or0 (f_ lr)<|q_<|zt' J h1.s;have cl:=(((h1.ag B).e h2).c G<|e_ cj).c h3<|e_<|f_ hBg
  have aw:=((h2.ag B).c G<|e_ cj).c h3<|e_<|f_ hBg
  obtain ⟨cm,_,d7,cP⟩:=a_m<|ifT bj aH;refine E z (fc call146 z<|dP.run (B:=B) d7 ha (zt' J<|lt_ (lt_ (lt_ h1.s h2.s) G.s) h3.s) hBg (W.g cl) (Y.g cl) (iA _ _) a7 a8 hz (a1.g aw) (a9.g aw) (aa.g aw) (he.g aw) a0) ?_;rintro _ d8 ⟨cn,rfl,d9,da,db,dc⟩;have b4:=mmr<|Blk.lt hB1
  refine E0 (fs0 (cur':=[vI cm.at_,vI cm.code]) y_ z z ((((h6.e h2).c G<|djs<|mmr h6.lt).c h3<|atp b4).c cn<|atp b4) z z z z) ?_;rintro _ dd ⟨de,df⟩;have co:=df.one;refine Wn ?_;obtain rfl:=som cP;exact Wr<|rtO<|a_ hr (n_ a_2 y_ z de z) ⟨(cM (cM (cM (cM (g_ (g_ (cr [g1] w0) h1:Chg (· ∈ [g1]) w0 H) h2:Chg (· ∈ [g1]) w0 O) G (mor h1.s:∀k∈[H.z],k∈[g1]∨w0.z<=k):Chg (· ∈ [g1]) w0 V) h3 (io sr):Chg (· ∈ [g1]) w0 I) cn (io sr):Chg (· ∈ [g1]) w0 d8) co (mor lr:∀k∈[w0.z],k∈[g1]∨w0.z<=k):Chg (· ∈ [g1]) w0 dd),z,d9,da,db,dc.c co<|djs b4⟩
 have bk:=ifF bj aH;refine Ws<|Rq z z z<|Rw z<|Wc z (fun aI=>?_) (fun aI=>?_)
 ·refine Wm z<|R z (lN (vs:=vR xh ao np cq ar ns ct au nv cw ai nj ck) D_ l_ z z fid<|hb.row 0 8 z)<|Rm z ?_
  have cp:∀k∈[H.z],¬B k:=or0 (f_ lr)<|q_<|zt' J h1.s;have cu:=(((h1.ag B).e h2).c G<|e_ cp).c h3<|e_<|f_ hBg
  have ax:=((h2.ag B).c G<|e_ cp).c h3<|e_<|f_ hBg
  obtain ⟨cv,_,dg,cQ⟩:=a_m<|ifT bk aI;refine E z (fc call147 z<|dS.run (B:=B) dg ha (zt' J<|lt_ (lt_ (lt_ h1.s h2.s) G.s) h3.s) hBg (W.g cu) (Y.g cu) (iA _ _) a7 a8 hz (a1.g ax) (a9.g ax) (aa.g ax) (he.g ax) a0) ?_;rintro _ dh ⟨cx,rfl,di,dj,dk,dl⟩;have b5:=mmr<|Blk.lt hB1
  refine E0 (fs0 (cur':=[vI cv.at_,vI cv.code]) y_ z z ((((h6.e h2).c G<|djs<|mmr h6.lt).c h3<|atp b5).c cx<|atp b5) z z z z) ?_;rintro _ dm ⟨dn,dp⟩;have cy:=dp.one;refine Wn ?_;obtain rfl:=som cQ;exact Wr<|rtO<|a_ hr (n_ a_2 y_ z dn z) ⟨(cM (cM (cM (cM (g_ (g_ (cr [g1] w0) h1:Chg (· ∈ [g1]) w0 H) h2:Chg (· ∈ [g1]) w0 O) G (mor h1.s:∀k∈[H.z],k∈[g1]∨w0.z<=k):Chg (· ∈ [g1]) w0 V) h3 (io sr):Chg (· ∈ [g1]) w0 I) cx (io sr):Chg (· ∈ [g1]) w0 dh) cy (mor lr:∀k∈[w0.z],k∈[g1]∨w0.z<=k):Chg (· ∈ [g1]) w0 dm),z,di,dj,dk,dl.c cy<|djs b5⟩
 have bm:=ifF bk aI;refine Ws<|Rq z z z<|Rw z<|Wc z (fun aJ=>?_) (fun aJ=>?_)
 ·refine Wm z<|R z (lN (vs:=vR xh ao np cq ar ns ct au nv cw ai nj ck) D_ l_ z z fid<|hb.row 0 8 z)<|Rm z ?_
  have cz:∀k∈[H.z],¬B k:=or0 (f_ lr)<|q_<|zt' J h1.s;have cA:=(((h1.ag B).e h2).c G<|e_ cz).c h3<|e_<|f_ hBg
  have ay:=((h2.ag B).c G<|e_ cz).c h3<|e_<|f_ hBg
  obtain ⟨cB,_,dq,cR⟩:=a_m<|ifT bm aJ;refine E z (fc call148 z<|dT.run (B:=B) dq ha (zt' J<|lt_ (lt_ (lt_ h1.s h2.s) G.s) h3.s) hBg (W.g cA) (Y.g cA) (iA _ _) a7 a8 hz (a1.g ay) (a9.g ay) (aa.g ay) (he.g ay) a0) ?_;rintro _ dr ⟨cC,rfl,dt,du,dv,dw⟩;have b6:=mmr<|Blk.lt hB1
  refine E0 (fs0 (cur':=[vI cB.at_,vI cB.code]) y_ z z ((((h6.e h2).c G<|djs<|mmr h6.lt).c h3<|atp b6).c cC<|atp b6) z z z z) ?_;rintro _ dx ⟨dy,dz⟩;have cD:=dz.one;refine Wn ?_;obtain rfl:=som cR;exact Wr<|rtO<|a_ hr (n_ a_2 y_ z dy z) ⟨(cM (cM (cM (cM (g_ (g_ (cr [g1] w0) h1:Chg (· ∈ [g1]) w0 H) h2:Chg (· ∈ [g1]) w0 O) G (mor h1.s:∀k∈[H.z],k∈[g1]∨w0.z<=k):Chg (· ∈ [g1]) w0 V) h3 (io sr):Chg (· ∈ [g1]) w0 I) cC (io sr):Chg (· ∈ [g1]) w0 dr) cD (mor lr:∀k∈[w0.z],k∈[g1]∨w0.z<=k):Chg (· ∈ [g1]) w0 dx),z,dt,du,dv,dw.c cD<|djs b6⟩
 refine Wk<|Wq (Wd (X:=noX) 0 (pl_ 17 [9]) mo (by kernel_rfl) fun cE sg _=>dM z z z<|dR z z (A_ z)<|dR z z (fd d_b z) ?_)
 have b7:=ha.e sg;refine dR z z (l0 O_ z<|b7.at z)<|dM z z z<|dR z z (fd a_T z)<|dR z z (l0 O_ z<|(hb.e sg).at z) ?_
 obtain ⟨_,dA,cS⟩:=bdS<|ifF bm aJ;have cF:∀k∈[H.z],¬B k:=or0 (f_ lr)<|q_<|zt' J h1.s;refine dRX z z (at_ (α:=UInt8) k_ z_5 z z z (a1.g<|(((h2.ag B).c G<|e_ cF).c h3<|e_<|f_ hBg).e sg) dA) ?_;rintro _ ⟨_,_,_,rfl,dB,dC,_⟩;obtain rfl:=u8 dC;refine dR z z (l0 g_5 z<|dB.at0 z) ?_;obtain ⟨_,cG,_,dD,bn⟩:=P_ cS;refine dE z z (fc call100 z<|W_w19 dD (zt' J<|lt_ (lt_ (lt_ (lt_ h1.s h2.s) G.s) h3.s) sg.s) (Y.g<|((((h1.ag B).e h2).c G<|e_ cF).c h3<|e_<|f_ hBg).e sg) a0) (.inr fun _ _ h=>H_<|h.1) ?_;rintro _ cH ⟨a6,_,_,_,_,rfl,_,dF,_,_⟩;refine dM z z z ?_
 iterate 3 refine dR z z (ext_ z z) ?_
 iterate 3 refine dQ z z z ?_
 refine pD<|Wo<|Wq<|Wm z<|R z (not_ z)<|Wx z (fun aK=>?_) (fun aK=>?_)
 ·refine Wm z<|R z (bP (parts:=[(0,.tmp 141),(1,.const<|.int .i64 1)]) (cs:=[vI x3,vI 1]) c_j z z) ?_
  have cI:=mmr<|Blk.lt hB1
  refine E0 (fs0 (cur':=[vI x3,vI 1]) y_ z z (((((h6.e h2).c G<|djs<|mmr h6.lt).c h3<|atp cI).e sg).e a6) z z z z) ?_;rintro _ dG ⟨dH,dI⟩;have cJ:=dI.one;refine Wn ?_;obtain rfl:=som<|ifT bn aK;exact Wr<|a_ hr (n_ a_2 y_ z dH z) ⟨(cM (g_ (g_ (cM (cM (g_ (g_ (cr [g1] w0) h1:Chg (· ∈ [g1]) w0 H) h2:Chg (· ∈ [g1]) w0 O) G (mor h1.s:∀k∈[H.z],k∈[g1]∨w0.z<=k):Chg (· ∈ [g1]) w0 V) h3 (io sr):Chg (· ∈ [g1]) w0 I) sg:Chg (· ∈ [g1]) w0 cE) a6:Chg (· ∈ [g1]) w0 cH) cJ (mor lr:∀k∈[w0.z],k∈[g1]∨w0.z<=k):Chg (· ∈ [g1]) w0 dG),z,a0,ii z,iA _ _,(b7.e a6).c cJ<|djs cI⟩
 refine Wk<|Wm z<|R z (bP (parts:=[(0,.tmp 143),(1,.const<|.int .i64 0)]) (cs:=[vI cG,vI 0]) c_j z z) ?_
 have cK:=mmr<|Blk.lt hB1
 refine E0 (fs0 (cur':=[vI cG,vI 0]) y_ z z (((((h6.e h2).c G<|djs<|mmr h6.lt).c h3<|atp cK).e sg).e a6) z z z z) ?_;rintro _ dJ ⟨dK,dL⟩;have cL:=dL.one;refine Wn ?_;obtain rfl:=som<|ifF bn aK;exact Wr<|a_ hr (n_ a_2 y_ z dK z) ⟨(cM (g_ (g_ (cM (cM (g_ (g_ (cr [g1] w0) h1:Chg (· ∈ [g1]) w0 H) h2:Chg (· ∈ [g1]) w0 O) G (mor h1.s:∀k∈[H.z],k∈[g1]∨w0.z<=k):Chg (· ∈ [g1]) w0 V) h3 (io sr):Chg (· ∈ [g1]) w0 I) sg:Chg (· ∈ [g1]) w0 cE) a6:Chg (· ∈ [g1]) w0 cH) cL (mor lr:∀k∈[w0.z],k∈[g1]∨w0.z<=k):Chg (· ∈ [g1]) w0 dJ),z,dF,ii z,iA _ _,(b7.e a6).c cL<|djs cK⟩
theorem T_w1a (ih:f_5 n):j_V (g_h n<|a_i n):=by
 obtain ⟨aP,_,_,_,_⟩:=ih
 constructor
 intro A0 A5 A2 A3 A1 A4 N0 C0 N5 C5 g1 N2 C2 N3 C3 N1 C1 N4 C4 B x1 x2 x3 res w0 hm hB1 W hBg a2 a3 aE bu bv bw bx bz bA a4 a5;unfold g_h at hm
 refine goG func145 z z z fun fn hr=>Ws<|E z (fb z) ?_
 rintro _ J ⟨rfl,ab⟩;have h6:=ab.below;have ad:Blk J w0.z (vR x2 A2 N2 C2 A3 N3 C3 A1 N1 C1 A4 N4 C4):=ab.blk;refine E z (fa b_i) ?_;rintro _ wr ⟨rfl,ae⟩;have he:=ae.below;have hn:Blk wr J.z [vI 0,vI 0]:=ae.blk;refine Wn<|Wm z<|Rf z G_ z ?_
 have af:=ad.e he;refine R z (l0 u_ z<|af.at z) ?_;obtain ⟨_,aQ,aF⟩:=bdS hm;have ho:=(h6.ag B).e he;refine RX z (at_ (α:=Int) o_ z_3 z z z (a4.g ho) aQ) ?_;rintro _ ⟨_,_,_,rfl,aR,aS,_⟩;obtain ⟨rfl,aT⟩:=J_ aS;refine R z (l0 g_3 z<|aR.at0 z)<|Rm z ?_
 have hj:=lt_ h6.s he.s;obtain ⟨ah,rs,_,aU,aG⟩:=P_ aF;refine E z (fc call142 z<|h_Z (B:=B) aU ((hB1.e h6).e he) (zt' W hj) hBg (a2.g ho) (a3.g ho) aE aT a5) ?_;rintro _ G ⟨I,rfl,aV,aW,aX,ai,aj⟩;refine Rm z<|Re z z z<|Re z z z<|E z (fa b_i) ?_
 rintro _ wu ⟨rfl,ak⟩;have O:=ak.below;refine Ra z<|E0 (fs0 (cur':=[vI rs.at_,vI rs.code]) y_ z z (ak.blk:Blk wu G.z [vI 0,vI 0]) z z z z) ?_
 rintro _ wg ⟨al,aY⟩;have V:=aY.one;refine Wn<|Wq<|Wq ?_
 obtain ⟨aZ,a6,a7⟩:=bdS aG;refine Wt (fun a w=>∃(xv:Bool),xv=aZ/\Sat 46 [(0,pt g1),(2,vI x3),(4,pt w0.z),(6,pt J.z),(7,vI ah),(8,pt G.z),(25,vB xv)] a/\Below wg.z wg w) ?_ ?_
 ·refine Wg<|Rf z c_P z<|R z (l0 g_3 z<|al.at z)<|Rq z z z<|Rm z ?_
  rcases bs (rs.code==0) with L | L
  ·exact Rh z L (mv z)<|Rh z L (a_3 z z)<|R z (pT z L z)<|Wl (fun _ q=>⟨decide<|40<ah,som<|ifT a6 L,q.k<|s7 z z z z z z z,br wg⟩)
  exact Nh z L<|Nh z L<|R z (pF z L z)<|Wl (fun _ q=>⟨false,som<|ifF a6 L,q.k<|s7 z z z z z z z,br wg⟩)
 rintro b0 H ⟨xv,rfl,_,s4⟩;revert b0;refine Wo<|Wc z (fun hcw=>?_) (fun hcw=>?_)
 ·refine Wm z<|R z (bP (parts:=[(0,.tmp 26),(1,.const<|.int .i64 6)]) (cs:=[vI x3,vI 6]) c_j z z) ?_
  have am:=mm1 (Blk.lt hB1) h6.s;refine E0 (fs0 (cur':=[vI x3,vI 6]) y_ z z ((((hn.c I<|atp am).e O).c V<|djs<|mm1 hn.lt I.s).e s4) z z z z) ?_;rintro _ b1 ⟨b2,b3⟩;have an:=b3.one;refine Wn ?_;obtain rfl:=som<|ifT a7 hcw;have ao:=lt_ hj I.s;exact Wr<|a_ hr (n_ a_2 y_ z b2 z) ⟨(cM (g_ (cM (g_ (cM (g_ (g_ (cr [g1] w0) h6:Chg (· ∈ [g1]) w0 J) he:Chg (· ∈ [g1]) w0 wr) I (io sr):Chg (· ∈ [g1]) w0 G) O:Chg (· ∈ [g1]) w0 wu) V (mor ao:∀k∈[G.z],k∈[g1]∨w0.z<=k):Chg (· ∈ [g1]) w0 wg) s4:Chg (· ∈ [g1]) w0 H) an (mor h6.s:∀k∈[J.z],k∈[g1]∨w0.z<=k):Chg (· ∈ [g1]) w0 b1),z,a5,ii z,ai,(((aj.e O).c V<|djs<|mm1 (Blk.lt hB1) ao).e s4).c an<|djs am⟩
 refine Wk<|Wq ?_
 obtain ⟨_,aH,a8⟩:=bdS<|ifF a7 hcw;refine d_W (σ:=Int×Int×Int×Int) (ρ:=M_×Int) (fun s a w=>un4 (fun xa xf xb x5=>Sat 46 [(0,pt g1),(4,pt w0.z),(6,pt J.z),(7,vI xa),(8,pt G.z)] a/\Chg (· ∈ ([g1]++[G.z])) H w/\inI xa/\inI xf/\inI xb/\inI x5/\Blk w g1 [sl A0 N0 C0,sl A5 N5 C5,vI xf]/\Blk w G.z [vI xb,vI x5]) s) (fun s a w=>un4 (fun xa xf xb x5=>Sat 46 [(6,pt J.z),(8,pt G.z)] a/\Chg (· ∈ ([g1]++[G.z])) H w/\inI xa/\inI xf/\inI xb/\inI x5/\Blk w g1 [sl A0 N0 C0,sl A5 N5 C5,vI xf]/\Blk w G.z [vI xb,vI x5]) s) (rQ prog fn<|Q21 w0 g1 B A0 N0 C0 A5 N5 C5 x1) aH ?_ ?_ ?_ ?_
 ·exact fun _ q=>⟨q.k<|s5 z z z z z,cr ([g1]++[G.z]) H,aV,ai,aW,aX,((aj.e O).c V<|djs<|mm1 (Blk.lt hB1)<|lt_ hj I.s).e s4,al.e s4⟩
 ·rintro ⟨xa,xf,xb,x5⟩ _ wh _ ⟨aI,sk,ap,hp,hq,hx,ht,hl⟩ aJ;refine Wu ?_ aI;refine Wq<|Wq ?_
  obtain ⟨b4,a9,aa⟩:=bdS<|un4S aJ;refine Wt (fun a w=>∃(xy:Bool),xy=b4/\Sat 46 [(0,pt g1),(4,pt w0.z),(6,pt J.z),(7,vI xa),(8,pt G.z),(34,vB xy)] a/\Below wh.z wh w) ?_ ?_
  ·refine Wg<|Rm z<|R z (a_3 z z)<|Rm z ?_
   rcases bs (decide<|0<xa) with hcc | hcc
   ·exact Rh z hcc (fd c_P z)<|Rh z hcc (l0 g_3 z<|hl.at z)<|Rh z hcc (eql z z)<|R z (pT z hcc z)<|Wl (fun _ q=>⟨x5==0,som<|ifT a9 hcc,q.k<|s6 z z z z z z,br wh⟩)
   iterate 3 refine Nh z hcc ?_
   exact R z (pF z hcc z)<|Wl (fun _ q=>⟨false,som<|ifF a9 hcc,q.k<|s6 z z z z z z,br wh⟩)
  rintro b5 aq ⟨xy,rfl,_,sd⟩;revert b5;refine Wo<|Wc z (fun hcz=>?_) (fun hcz=>?_)
  ·refine Wk<|Wq<|Wb (Wd (X:=noX) 384 (pl_ 9 [7,8]) mo (by kernel_rfl) fun b6 si _=>dM z z z<|dR z z (fd G_ z) ?_)
   have ar:=mmr<|Blk.lt hB1
   have au:=mm1 ad.lt<|lt_ he.s I.s
   refine dR z z (l0 u_ z<|(((((((af.c I<|atp ar).e O).c V<|djs au).e s4).c sk<|atp<|nmA ar<|ds au).e sd).e si).at z) ?_;obtain ⟨_,b7,aK⟩:=bdS<|ifT aa hcz;have Y:=lt_ hj I.s;have av:∀k∈[G.z],¬B k:=or0 (f_ lr)<|q_<|zt' W Y;have a0:=((((((ho.c I<|e_<|f_ hBg).e O).c V<|e_ av).e s4).c sk<|nmA (e_<|f_ hBg)<|e_ av).e sd).e si;refine dRX z z (at_ (α:=Int) o_ z_3 z z z (a4.g a0) b7) ?_;rintro _ ⟨_,_,_,rfl,b8,b9,_⟩;obtain ⟨rfl,ba⟩:=J_ b9;refine dR z z (l0 g_3 z<|b8.at0 z)<|dR z z (fd c_A z) ?_
   have aw:=(hl.e sd).e si;refine dR z z (l0 g_3 z<|aw.at z) ?_;obtain ⟨rm,bb,bc,aL⟩:=a_m aK;refine dE z z (fc call123 z<|aP.run (B:=B) bc ((ht.e sd).e si) (zt' W<|lt_ (lt_ (lt_ (lt_ (lt_ (lt_ Y O.s) V.s) s4.s) sk.s) sd.s) si.s) hBg (a2.g a0) (a3.g a0) hp ba hq) (.inl z) ?_;rintro _ be ⟨ax,rfl,bf,bg,bh,bi⟩;have ay:=mm1 (Blk.lt hB1) Y;refine dE0 z (fs0 (cur':=[vI rm.at_,vI rm.code]) y_ z z (aw.c ax<|atp ay) z z z z) (.inl z) ?_;rintro _ bj ⟨bk,bm⟩;have az:=bm.one;refine pD<|Wo<|Wg<|Rm z<|R z (sb_ z z)<|Ra z<|Wl ?_
   exact fun _ q=>⟨(K_ xa 1,bb,rm.at_,rm.code),(som aL).symm,⟨q.k<|s5 z z z z z,(cM (cM (g_ (g_ (cM (cr ([g1]++[G.z]) H) sk (aa_ (io<|c_8 sr)<|io<|b_N sr):Chg (· ∈ ([g1]++[G.z])) H wh) sd:Chg (· ∈ ([g1]++[G.z])) H aq) si:Chg (· ∈ ([g1]++[G.z])) H b6) ax (io<|c_8 sr):Chg (· ∈ ([g1]++[G.z])) H be) az (io<|b_N sr):Chg (· ∈ ([g1]++[G.z])) H bj),iS _ _,bh,bf,bg,bi.c az<|djs ay,bk⟩⟩
  exact We<|fun _ q=>c_F (som<|ifF aa hcz).symm ⟨q.k<|s2 z z,(g_ (cM (cr ([g1]++[G.z]) H) sk (aa_ (io<|c_8 sr)<|io<|b_N sr):Chg (· ∈ ([g1]++[G.z])) H wh) sd:Chg (· ∈ ([g1]++[G.z])) H aq),ap,hp,hq,hx,ht.e sd,hl.e sd⟩
 ·rintro ⟨xa,xf,xb,x5⟩ bn bo rfl ⟨_,aA,ap,hp,hq,hx,ht,hl⟩;have aM:=elL a8;revert bn;refine Wo<|Ws<|R z (lN (vs:=[vI xb,vI x5]) a_2 y_ z z fid<|hl.row 0 2 z) ?_
  have a1:=mm1 (Blk.lt hB1) h6.s;have aB:=mm1 hn.lt I.s;refine E0 (fs0 (cur':=[vI xb,vI x5]) y_ z z (((((hn.c I<|atp a1).e O).c V<|djs aB).e s4).c aA<|atp<|nmA a1<|ds aB) z z z z) ?_;rintro _ bp ⟨bq,bt⟩;have aC:=bt.one;refine Wn ?_;obtain rfl:=som<|un4S aM;have aD:∀k∈[G.z],k∈[g1]∨w0.z<=k:=mor<|lt_ hj I.s;exact Wr<|a_ hr (n_ a_2 y_ z bq z) ⟨(cM (cM (g_ (cM (g_ (cM (g_ (g_ (cr [g1] w0) h6:Chg (· ∈ [g1]) w0 J) he:Chg (· ∈ [g1]) w0 wr) I (io sr):Chg (· ∈ [g1]) w0 G) O:Chg (· ∈ [g1]) w0 wu) V aD:Chg (· ∈ [g1]) w0 wg) s4:Chg (· ∈ [g1]) w0 H) aA (aa_ (io sr) aD):Chg (· ∈ [g1]) w0 bo) aC (mor h6.s:∀k∈[J.z],k∈[g1]∨w0.z<=k):Chg (· ∈ [g1]) w0 bp),z,hq,hx,hp,ht.c aC<|djs a1⟩
 rintro _ _ _ _ rfl ⟨rfl,aN⟩;have aO:=elR a8;obtain rfl:=som aO;exact ⟨aN,z⟩
theorem T_w1b (ih:f_5 n):j_W (g_i n<|a_i n):=by
 obtain ⟨aq,_,_,_,_⟩:=ih
 constructor
 intro A0 A5 A2 A3 A1 A4 N0 C0 N5 C5 g1 N2 C2 N3 C3 N1 C1 N4 C4 B x1 x2 x3 res w0 hm hB1 V hBg W Y ae b2 b3 b4 b5 b6 O a0 a1;unfold g_i at hm
 refine goG func146 z z z fun fn hr=>Ws<|E z (fb z) ?_
 rintro _ H ⟨rfl,hq⟩;have h1:=hq.below;have ht:Blk H w0.z (vR x2 A2 N2 C2 A3 N3 C3 A1 N1 C1 A4 N4 C4):=hq.blk;refine E z (fa b_i) ?_;rintro _ wc ⟨rfl,hu⟩;have h6:=hu.below;have L:Blk wc H.z [vI 0,vI 0]:=hu.blk;refine Wn<|Wm z<|Rf z G_ z ?_
 have hv:=ht.e h6;refine R z (l0 u_ z<|hv.at z) ?_;obtain ⟨_,ar,af⟩:=bdS hm;have he:=(h1.ag B).e h6;refine RX z (at_ (α:=Int) o_ z_3 z z z (a0.g he) ar) ?_;rintro _ ⟨_,_,_,rfl,au,av,_⟩;obtain ⟨rfl,aw⟩:=J_ av;refine R z (l0 g_3 z<|au.at0 z)<|Rm z ?_
 have hg:=lt_ h1.s h6.s;obtain ⟨ax,rb,_,ay,hmr⟩:=P_ af;refine E z (fc call142 z<|h_Z (B:=B) ay ((hB1.e h1).e h6) (zt' V hg) hBg (W.g he) (Y.g he) ae aw a1) ?_;rintro _ I ⟨G,rfl,_,hw,az,hh,hi⟩;refine Rm z<|Re z z z<|Re z z z<|E z (fa b_i) ?_
 rintro _ wf ⟨rfl,hx⟩;have h2:=hx.below;refine Ra z<|E0 (fs0 (cur':=[vI rb.at_,vI rb.code]) y_ z z (hx.blk:Blk wf I.z [vI 0,vI 0]) z z z z) ?_
 rintro _ J ⟨hj,aA⟩;have h3:=aA.one;refine Wn<|Wq<|Ws<|Rf z c_P z<|R z (l0 g_3 z<|hj.at z)<|R z (nq z z)<|Wx z (fun hck=>?_) (fun hck=>?_)
 ·refine Ws<|R z (lN (vs:=[vI rb.at_,vI rb.code]) a_2 y_ z z fid<|hj.row 0 2 z) ?_
  have hy:=mm1 (Blk.lt hB1) h1.s;refine E0 (fs0 (cur':=[vI rb.at_,vI rb.code]) y_ z z (((L.c G<|atp hy).e h2).c h3<|djs<|mm1 L.lt G.s) z z z z) ?_;rintro _ aB ⟨aC,aD⟩;have hz:=aD.one;refine Wn ?_;obtain rfl:=som<|ifT hmr hck;have a3:=lt_ hg G.s;exact Wr<|a_ hr (n_ a_2 y_ z aC z) ⟨(cM (cM (g_ (cM (g_ (g_ (cr [g1] w0) h1:Chg (· ∈ [g1]) w0 H) h6:Chg (· ∈ [g1]) w0 wc) G (io sr):Chg (· ∈ [g1]) w0 I) h2:Chg (· ∈ [g1]) w0 wf) h3 (mor a3:∀k∈[I.z],k∈[g1]∨w0.z<=k):Chg (· ∈ [g1]) w0 J) hz (mor h1.s:∀k∈[H.z],k∈[g1]∨w0.z<=k):Chg (· ∈ [g1]) w0 aB),z,hw,az,hh,((hi.e h2).c h3<|djs<|mm1 (Blk.lt hB1) a3).c hz<|djs hy⟩
 refine Wk<|Wq<|Ws<|Rf z a_L z ?_
 have a4:=((hv.c G<|atp<|mmr<|Blk.lt hB1).e h2).c h3<|djs<|mm1 ht.lt<|lt_ h6.s G.s
 refine R z (l0 u_ z<|a4.at z) ?_;have hd:=lt_ hg G.s;have a5:=((he.c G<|e_<|f_ hBg).e h2).c h3<|e_ (or0 (f_ lr) (q_<|zt' V hd):∀k∈[I.z],¬B k)
 refine R z (lnR o_ z<|O.g a5)<|Rm z<|Wn ?_
 obtain ⟨_,ah,hms⟩:=bdS<|ifF hmr hck;refine Wf (σ:=Unit) (ρ:=M_×Int) (fun (a6:Nat)(_:Unit) a w=>Sat 49 [(0,pt g1),(2,vI x3),(4,pt w0.z),(6,pt H.z),(7,vI ax),(8,pt I.z),(26,sl A1 N1 C1),(27,vI (x2.tags.length:Int)),(28,vI ((a6:Nat):Int))] a/\Below J.z J w) (fun (_:Unit) a w=>Sat 49 [(2,vI x3),(6,pt H.z)] a/\Below J.z J w) (rQ prog fn<|Q21 w0 g1 B A0 N0 C0 A5 N5 C5 x1) ah ?_ ?_ ?_ ?_ ?_
 ·exact fun _ q=>⟨q.k<|s9 z z z z z z z z z,br J⟩
 ·rintro a6 _ _ aE _ hkl ⟨ai,s8⟩ aj;refine Wu ?_ ai;refine Ws<|Rl z z z<|Wn<|Wq<|Wc z (fun _=>?_) (fun hc=>(T_ hkl hc).elim)
  refine Wk<|Wq<|Wb<|Wm z ?_
  obtain ⟨_,aF,a2⟩:=bdS aj;have a7:=a5.e s8;refine RX z (at_ (α:=Int) o_ z_3 z z z (O.g a7) aF) ?_;rintro _ ⟨_,_,_,rfl,aG,aH,_⟩;obtain ⟨rfl,_⟩:=J_ aH;refine R z (l0 g_3 z<|aG.at0 z)<|Ra z<|Rw z<|Wm z<|Rm z<|Rq z z z<|Wx z (fun hcm=>?_) (fun hcm=>?_)
  ·refine Wq (Wd (X:=noX) 1536 (pl_ 11 [9,10]) mo (by kernel_rfl) fun aI sa _=>dM z z z<|dR z z (fd G_ z)<|dR z z (l0 u_ z<|((a4.e s8).e sa).at z)<|dM z z z<|dR z z (inc_ hkl (lt_ (repS.len O) C_) z z) ?_);obtain ⟨_,aJ,ak⟩:=bdS<|ifT a2 hcm;have hn:=a7.e sa;refine dRX z z (at_ (α:=Int) o_ z_3 z z z (a0.g hn) aJ) ?_;rintro _ ⟨_,_,_,rfl,aK,aL,_⟩;obtain ⟨rfl,aM⟩:=J_ aL;refine dR z z (l0 g_3 z<|aK.at0 z)<|dR z z (fd c_A z)<|dR z z (l0 g_3 z<|((hj.e s8).e sa).at z) ?_
   obtain ⟨a8,_,aN,al⟩:=a_m ak;refine dE z z (fc call123 z<|aq.run (B:=B) aN ((((hi.e h2).c h3<|djs<|mm1 (Blk.lt hB1) hd).e s8).e sa) (zt' V<|lt_ (lt_ (lt_ (lt_ hd h2.s) h3.s) s8.s) sa.s) hBg (W.g hn) (Y.g hn) hh aM hw) (.inl z) ?_;rintro _ aO ⟨a9,rfl,aP,aQ,aR,aS⟩;have ho:=mm1 (Blk.lt hB1) h1.s;refine dE0 z (fs0 (cur':=[vI a8.at_,vI a8.code]) y_ z z ((((((L.c G<|atp ho).e h2).c h3<|djs<|mm1 L.lt G.s).e s8).e sa).c a9<|atp ho) z z z z) (.inl z) ?_;rintro _ aT ⟨aU,aV⟩;have aa:=aV.one;refine pD<|Wo ?_
   exact Wr<|rtO<|qL (som al).symm<|a_ hr (n_ a_2 y_ z aU z) ⟨(cM (cM (g_ (g_ (cM (g_ (cM (g_ (g_ (cr [g1] w0) h1:Chg (· ∈ [g1]) w0 H) h6:Chg (· ∈ [g1]) w0 wc) G (io sr):Chg (· ∈ [g1]) w0 I) h2:Chg (· ∈ [g1]) w0 wf) h3 (mor hd:∀k∈[I.z],k∈[g1]∨w0.z<=k):Chg (· ∈ [g1]) w0 J) s8:Chg (· ∈ [g1]) w0 aE) sa:Chg (· ∈ [g1]) w0 aI) a9 (io sr):Chg (· ∈ [g1]) w0 aO) aa (mor h1.s:∀k∈[H.z],k∈[g1]∨w0.z<=k):Chg (· ∈ [g1]) w0 aT),z,aP,aQ,aR,aS.c aa<|djs ho⟩
  exact Wk<|Wg<|R z (inc_ hkl (lt_ (repS.len O) C_) z z)<|Rm z<|Wl (fun _ q=>⟨(),(som<|ifF a2 hcm).symm,⟨q.k<|s9 z z z z z z z z z,s8⟩⟩)
 ·rintro _ _ _ ⟨am,aW⟩;refine Wu ?_ am;refine Ws<|Rl z z z<|Wn<|Wq<|Wc z (fun hc=>(U_ hc).elim) (fun _=>?_)
  exact We<|fun _ q=>⟨rfl,⟨q.k<|s2 z z,aW⟩⟩
 ·rintro _ aX aY rfl ⟨_,sp⟩;have an:=elL hms;revert aX;refine Wo<|Wm z<|R z (bP (parts:=[(0,.tmp 47),(1,.const<|.int .i64 3)]) (cs:=[vI x3,vI 3]) c_j z z) ?_
  have ab:=mm1 (Blk.lt hB1) h1.s;refine E0 (fs0 (cur':=[vI x3,vI 3]) y_ z z ((((L.c G<|atp ab).e h2).c h3<|djs<|mm1 L.lt G.s).e sp) z z z z) ?_;rintro _ aZ ⟨b0,b1⟩;have ad:=b1.one;refine Wn ?_;obtain rfl:=som an;exact Wr<|a_ hr (n_ a_2 y_ z b0 z) ⟨(cM (g_ (cM (g_ (cM (g_ (g_ (cr [g1] w0) h1:Chg (· ∈ [g1]) w0 H) h6:Chg (· ∈ [g1]) w0 wc) G (io sr):Chg (· ∈ [g1]) w0 I) h2:Chg (· ∈ [g1]) w0 wf) h3 (mor hd:∀k∈[I.z],k∈[g1]∨w0.z<=k):Chg (· ∈ [g1]) w0 J) sp:Chg (· ∈ [g1]) w0 aY) ad (mor h1.s:∀k∈[H.z],k∈[g1]∨w0.z<=k):Chg (· ∈ [g1]) w0 aZ),z,a1,ii z,hh,(((hi.e h2).c h3<|djs<|mm1 (Blk.lt hB1) hd).e sp).c ad<|djs ab⟩
 rintro _ _ _ _ rfl ⟨rfl,ao⟩;have ap:=elR hms;obtain rfl:=som ap;exact ⟨ao,z⟩
theorem T_w1c (ih:f_5 n):j_X (g_j n<|a_i n):=by
 obtain ⟨af,_,_,_,_⟩:=ih
 constructor
 intro A0 A5 A2 A3 A1 A4 N0 C0 N5 C5 g1 N2 C2 N3 C3 N1 C1 N4 C4 B x1 x2 x3 res w0 hm hB1 V hBg a0 W Y aP aQ aR aS aT aU a9 a1;unfold g_j at hm
 refine goG func147 z z z fun fn hr=>Ws<|E z (fb z) ?_
 rintro _ J ⟨rfl,hq⟩;have h5:=hq.below;have ht:Blk J w0.z (vR x2 A2 N2 C2 A3 N3 C3 A1 N1 C1 A4 N4 C4):=hq.blk;refine E z (fa b_i) ?_;rintro _ we ⟨rfl,hu⟩;have L:=hu.below;have hc:Blk we J.z [vI 0,vI 0]:=hu.blk;refine Wn<|Wm z<|Rm z ?_
 have hf:=(hB1.e h5).e L;have hg:=(h5.ag B).e L;have hh:=lt_ h5.s L.s;obtain ⟨O,ah,aa⟩:=bdS hm;refine E z (fc call144 z<|g_J (B:=w0.z) ah (a_1 hh) (repS.mono (a0.g hg) V) (repS.mono (W.g hg) V) Y (hf.row 0 3 z) (Blk.lt hB1) a1<|ii z) ?_;rintro _ I ⟨G,rfl,hv,ai⟩;refine E z (fa b_i) ?_;rintro _ wi ⟨rfl,hw⟩;have h2:=hw.below;refine E0 (fs0 (cur':=[vI O.at_,vI O.code]) y_ z z (hw.blk:Blk wi I.z [vI 0,vI 0]) z z z z) ?_;rintro _ wa ⟨hj,aj⟩;have h3:=aj.one;refine Wn<|Wq<|Wb<|Wq ?_
 obtain ⟨ak,hur,hms⟩:=bdS aa;refine Wt (fun a w=>∃(xk:Bool),xk=ak/\Sat 45 [(0,pt g1),(2,vI x3),(4,pt w0.z),(6,pt J.z),(7,pt I.z),(11,vB xk)] a/\Below wa.z wa w) ?_ ?_
 ·refine Wg<|Rf z c_P z<|R z (l0 g_3 z<|hj.at z)<|R z (nq z z)<|Rm z ?_
  rcases bs (O.code != 0) with H | H
  ·iterate 8 refine Nh z H ?_
   exact R z (pT z H z)<|Ra z<|Wl (fun _ q=>⟨true,som<|ifT hur H,q.k<|s6 z z z z z z,br wa⟩)
  refine Rh z H (mv z)<|Rh z H (A_ z)<|Rh z H (fd d_b z) ?_
  have hx:=lt_ hh G.s;refine Rh z H (l0 O_ z<|(((hf.e G).e h2).c h3<|djs<|mm1 (Blk.lt hB1) hx).at z)<|Rh z H (mv z) ?_
  obtain ⟨al,am,ab⟩:=bdS<|ifF hur H;refine RXg z z H z (at_ (α:=UInt8) k_ z_5 z z z (W.g<|((hg.e G).e h2).c h3<|e_ (or0 (f_ lr) (q_<|zt' V hx):∀k∈[I.z],¬B k)) am) ?_;rintro _ ⟨_,_,_,rfl,an,ao,_⟩;obtain rfl:=u8 ao;exact Rh z H (l0 g_5 z<|an.at0 z)<|Rh z H (eql z z)<|R z (pF z H z)<|Ra z<|Wl (fun _ q=>⟨(byteI al)==(byteI (0:UInt8)),som ab,q.k<|s6 z z z z z z,br wa⟩)
 rintro ap wl ⟨xk,rfl,_,s4⟩;revert ap;refine Wo<|Wc z (fun hcm=>?_) (fun hcm=>?_)
 ·refine Ws<|R z (lN (vs:=[vI O.at_,vI O.code]) a_2 y_ z z fid<|(hj.e s4).row 0 2 z)<|E0 (fs0 (cur':=[vI O.at_,vI O.code]) y_ z z ((((hc.e G).e h2).c h3<|djs<|mm1 hc.lt G.s).e s4) z z z z) ?_
  rintro _ aq ⟨ar,au⟩;have hy:=au.one;refine Wn ?_;obtain rfl:=som<|ifT hms hcm;have hz:=lt_ hh G.s;exact Wr<|rtO<|a_ hr (n_ a_2 y_ z ar z) ⟨(cM (g_ (cM (g_ (g_ (g_ (g_ (cr [g1] w0) h5:Chg (· ∈ [g1]) w0 J) L:Chg (· ∈ [g1]) w0 we) G:Chg (· ∈ [g1]) w0 I) h2:Chg (· ∈ [g1]) w0 wi) h3 (mor hz:∀k∈[I.z],k∈[g1]∨w0.z<=k):Chg (· ∈ [g1]) w0 wa) s4:Chg (· ∈ [g1]) w0 wl) hy (mor h5.s:∀k∈[J.z],k∈[g1]∨w0.z<=k):Chg (· ∈ [g1]) w0 aq),z,hv,ai,Y,((((hf.e G).e h2).c h3<|djs<|mm1 (Blk.lt hB1) hz).e s4).c hy<|djs<|mm1 (Blk.lt hB1) h5.s⟩
 refine Wm z<|R z (A_ z)<|Rf z d_b z ?_
 have hd:=lt_ hh G.s;have hn:=(((hf.e G).e h2).c h3<|djs<|mm1 (Blk.lt hB1) hd).e s4;refine R z (l0 O_ z<|hn.at z)<|Rm z ?_
 obtain ⟨_,av,a2⟩:=bdS<|ifF hms hcm;have a3:=(((hg.e G).e h2).c h3<|e_ (or0 (f_ lr) (q_<|zt' V hd):∀k∈[I.z],¬B k)).e s4;refine RX z (at_ (α:=UInt8) k_ z_5 z z z (W.g a3) av) ?_;rintro _ ⟨_,_,_,rfl,aw,ax,_⟩;obtain rfl:=u8 ax;refine R z (l0 g_5 z<|aw.at0 z)<|R z (a_3 z z)<|Rw z<|Wc z (fun hco=>?_) (fun hco=>?_)
 ·refine Wm z<|R z (bP (parts:=[(0,.tmp 35),(1,.const<|.int .i64 4)]) (cs:=[vI x3,vI 4]) c_j z z)<|E0 (fs0 (cur':=[vI x3,vI 4]) y_ z z ((((hc.e G).e h2).c h3<|djs<|mm1 hc.lt G.s).e s4) z z z z) ?_
  rintro _ ay ⟨az,aA⟩;have a4:=aA.one;refine Wn ?_;obtain rfl:=som<|ifT a2 hco;exact Wr<|rtO<|a_ hr (n_ a_2 y_ z az z) ⟨(cM (g_ (cM (g_ (g_ (g_ (g_ (cr [g1] w0) h5:Chg (· ∈ [g1]) w0 J) L:Chg (· ∈ [g1]) w0 we) G:Chg (· ∈ [g1]) w0 I) h2:Chg (· ∈ [g1]) w0 wi) h3 (mor hd:∀k∈[I.z],k∈[g1]∨w0.z<=k):Chg (· ∈ [g1]) w0 wa) s4:Chg (· ∈ [g1]) w0 wl) a4 (mor h5.s:∀k∈[J.z],k∈[g1]∨w0.z<=k):Chg (· ∈ [g1]) w0 ay),z,a1,ii z,Y,hn.c a4<|djs<|mm1 (Blk.lt hB1) h5.s⟩
 refine Wk<|Wq (Wd (X:=noX) 384 (pl_ 9 [7,8]) mo (by kernel_rfl) fun aB sb _=>dM z z z<|dR z z (fd G_ z)<|dR z z (l0 u_ z<|((((((ht.e L).e G).e h2).c h3<|djs<|mm1 ht.lt<|lt_ L.s G.s).e s4).e sb).at z) ?_)
 obtain ⟨_,aC,ad⟩:=bdS<|ifF a2 hco;have hp:=a3.e sb;refine dRX z z (at_ (α:=Int) o_ z_3 z z z (a9.g hp) aC) ?_;rintro _ ⟨_,_,_,rfl,aD,aE,_⟩;obtain ⟨rfl,aF⟩:=J_ aE;refine dR z z (l0 g_3 z<|aD.at0 z)<|dR z z (fd c_A z)<|dR z z (l0 g_3 z<|((hj.e s4).e sb).at z) ?_
 obtain ⟨a5,_,aG,ae⟩:=a_m ad;refine dE z z (fc call123 z<|af.run (B:=B) aG (hn.e sb) (zt' V<|lt_ (lt_ (lt_ (lt_ hd h2.s) h3.s) s4.s) sb.s) hBg (a0.g hp) (W.g hp) Y aF hv) (.inl z) ?_;rintro _ aH ⟨a6,rfl,aI,aJ,aK,aL⟩;have a7:=mm1 (Blk.lt hB1) h5.s;refine dE0 z (fs0 (cur':=[vI a5.at_,vI a5.code]) y_ z z ((((((hc.e G).e h2).c h3<|djs<|mm1 hc.lt G.s).e s4).e sb).c a6<|atp a7) z z z z) (.inl z) ?_;rintro _ aM ⟨aN,aO⟩;have a8:=aO.one;refine pD<|Wo ?_
 obtain rfl:=som ae;exact Wr<|a_ hr (n_ a_2 y_ z aN z) ⟨(cM (cM (g_ (g_ (cM (g_ (g_ (g_ (g_ (cr [g1] w0) h5:Chg (· ∈ [g1]) w0 J) L:Chg (· ∈ [g1]) w0 we) G:Chg (· ∈ [g1]) w0 I) h2:Chg (· ∈ [g1]) w0 wi) h3 (mor hd:∀k∈[I.z],k∈[g1]∨w0.z<=k):Chg (· ∈ [g1]) w0 wa) s4:Chg (· ∈ [g1]) w0 wl) sb:Chg (· ∈ [g1]) w0 aB) a6 (io sr):Chg (· ∈ [g1]) w0 aH) a8 (mor h5.s:∀k∈[J.z],k∈[g1]∨w0.z<=k):Chg (· ∈ [g1]) w0 aM),z,aI,aJ,aK,aL.c a8<|djs a7⟩
theorem T_w1d (ih:f_5 n):j_Y (g_k n<|a_i n):=by
 obtain ⟨aw,_,_,_,_⟩:=ih
 constructor
 intro A0 A5 A2 A3 A1 A4 N0 C0 N5 C5 g1 N2 C2 N3 C3 N1 C1 N4 C4 B x1 x2 x3 res w0 hm hB1 L hBg V O am b2 b3 b4 b5 b6 b7 an ao;unfold g_k at hm
 refine goG func148 z z z fun fn hr=>Ws<|E z (fb z) ?_
 rintro _ I ⟨rfl,a1⟩;have h4:=a1.below;refine E z (fa b_i) ?_;rintro _ wj ⟨rfl,a2⟩;have hd:=a2.below;have ha:Blk wj I.z [vI 0,vI 0]:=a2.blk;refine Wn<|Wm z<|Rf z G_ z<|R z (l0 u_ z<|((a1.blk:Blk I w0.z (vR x2 A2 N2 C2 A3 N3 C3 A1 N1 C1 A4 N4 C4)).e hd).at z) ?_
 obtain ⟨_,ax,ap⟩:=bdS hm;have hk:=(h4.ag B).e hd;refine RX z (at_ (α:=Int) o_ z_3 z z z (an.g hk) ax) ?_;rintro _ ⟨_,_,_,rfl,ay,az,_⟩;obtain ⟨rfl,aA⟩:=J_ az;refine R z (l0 g_3 z<|ay.at0 z)<|Rm z ?_
 have hq:=lt_ h4.s hd.s;obtain ⟨rb,_,aB,W⟩:=a_m ap;refine E z (fc call123 z<|aw.run (B:=B) aB ((hB1.e h4).e hd) (zt' L hq) hBg (V.g hk) (O.g hk) am aA ao) ?_;rintro _ J ⟨s2,rfl,ht,aC,hl,a3⟩;refine E z (fa b_i) ?_;rintro _ wm ⟨rfl,a4⟩;have h5:=a4.below;have hu:Blk wm J.z [vI 0,vI 0]:=a4.blk;refine E0 (fs0 (cur':=[vI rb.at_,vI rb.code]) y_ z z hu z z z z) ?_;rintro _ wr ⟨hh,aD⟩;have h3:=aD.one;refine Wn<|Wq<|Ws<|Rf z c_P z<|R z (l0 g_3 z<|hh.at z)<|R z (nq z z)<|Wx z (fun hcs=>?_) (fun hcs=>?_)
 ·refine Ws<|R z (lN (vs:=[vI rb.at_,vI rb.code]) a_2 y_ z z fid<|hh.row 0 2 z) ?_
  have a5:=mm1 (Blk.lt hB1) h4.s;refine E0 (fs0 (cur':=[vI rb.at_,vI rb.code]) y_ z z (((ha.c s2<|atp a5).e h5).c h3<|djs<|mm1 ha.lt s2.s) z z z z) ?_;rintro _ aE ⟨aF,aG⟩;have a6:=aG.one;refine Wn ?_;obtain rfl:=som<|ifT W hcs;have a7:=lt_ hq s2.s;exact Wr<|a_ hr (n_ a_2 y_ z aF z) ⟨(cM (cM (g_ (cM (g_ (g_ (cr [g1] w0) h4:Chg (· ∈ [g1]) w0 I) hd:Chg (· ∈ [g1]) w0 wj) s2 (io sr):Chg (· ∈ [g1]) w0 J) h5:Chg (· ∈ [g1]) w0 wm) h3 (mor a7:∀k∈[J.z],k∈[g1]∨w0.z<=k):Chg (· ∈ [g1]) w0 wr) a6 (mor h4.s:∀k∈[I.z],k∈[g1]∨w0.z<=k):Chg (· ∈ [g1]) w0 aE),z,ht,aC,hl,((a3.e h5).c h3<|djs<|mm1 (Blk.lt hB1) a7).c a6<|djs a5⟩
 refine Wk<|Wm z<|Rf z c_A z<|R z (l0 g_3 z<|hh.at z) ?_
 have hi:=lt_ hq s2.s;have hn:=(a3.e h5).c h3<|djs<|mm1 (Blk.lt hB1) hi
 have hv:=((hk.c s2<|e_<|f_ hBg).e h5).c h3<|e_ (or0 (f_ lr) (q_<|zt' L hi):∀k∈[J.z],¬B k)
 have ho:=lt_ (lt_ hi h5.s) h3.s;obtain ⟨re,aH,aq⟩:=bdS<|ifF W hcs;refine E z (fc call144 z<|g_J (B:=w0.z) aH (a_1 ho) (repS.mono (V.g hv) L) (repS.mono (O.g hv) L) hl (hn.row 0 3 z) (Blk.lt hB1) ht<|ii z) ?_;rintro _ wf ⟨s1,rfl,aI,aJ⟩;refine E z (fa b_i) ?_;rintro _ ww ⟨rfl,a8⟩;have h6:=a8.below;refine E0 (fs0 (cur':=[vI re.at_,vI re.code]) y_ z z (a8.blk:Blk ww wf.z [vI 0,vI 0]) z z z z) ?_;rintro _ wp ⟨a9,aK⟩;have H:=aK.one;refine Wn<|Wq<|Wq ?_
 obtain ⟨aL,Y,a0⟩:=bdS aq;refine Wt (fun a w=>∃(xx:Bool),xx=aL/\Sat 52 [(6,pt I.z),(7,pt J.z),(8,pt wf.z),(47,vB xx)] a/\Below wp.z wp w) ?_ ?_
 ·refine Wd (X:=noX) 0 (pl_ 24 [21]) mo (by kernel_rfl) fun b8 sg _=>dR z z (fd c_P z)<|dR z z (l0 g_3 z<|(a9.e sg).at z)<|dR z z (eql z z)<|dM z z z ?_
  rcases bs (re.code==0) with G | G
  ·refine dRg z z z G z (mv z)<|dRg z z z G z (A_ z)<|dRg z z z G z (fd d_b z) ?_
   have hy:=lt_ ho s1.s;have aa:=(((hn.e s1).e h6).c H<|djs<|mm1 (Blk.lt hB1) hy).e sg;refine dRg z z z G z (l0 O_ z<|aa.at z)<|dRg z z z G z (fd c_A z) ?_
   have ab:=(((hh.e s1).e h6).c H<|djs<|mm1 hu.lt<|lt_ h3.s s1.s).e sg;refine dRg z z z G z (l0 g_3 z<|ab.at z) ?_;obtain ⟨aM,aN,ar⟩:=bdS<|ifT Y G;have ad:=O.g<|(((hv.e s1).e h6).c H<|e_ (or0 (f_ lr) (q_<|zt' L hy):∀k∈[wf.z],¬B k)).e sg
   refine b_M z z z G z (at_ (α:=UInt8) k_ z_5 z z z ad aN) ?_;rintro _ ⟨_,_,_,rfl,aO,aP,_⟩;obtain rfl:=u8 aP;refine dRg z z z G z (l0 g_5 z<|aO.at0 z)<|dRg z z z G z (b_J d_5 d_3 z)<|dRg z z z G z (mv z)<|dRg z z z G z (A_ z)<|dRg z z z G z (fd d_b z)<|dRg z z z G z (l0 O_ z<|aa.at z)<|dRg z z z G z (mv z)<|dRg z z z G z (fd c_A z)<|dRg z z z G z (l0 g_3 z<|ab.at z) ?_
   obtain ⟨_,aQ,au⟩:=bdS ar;refine b_M z z z G z (rX k_ z_5 z z ad z z aQ) ?_;rintro _ ⟨_,_,_,rfl,aR⟩;obtain ⟨aS,aT,av⟩:=bdS au;refine dEg z z z G z (fc call126 z<|W_w18 aT (zt' L<|lt_ (lt_ (lt_ hy h6.s) H.s) sg.s) aR) (.inr fun _ _ h=>H_<|h.1) ?_;rintro _ _ ⟨aU,rfl,_⟩;exact dRg z z z G z (nq z z)<|dR z z (pT z G z)<|pD (fun _ q=>⟨(byteI aM) != aS,som av,q.k<|s4 z z z z,bup sg aU⟩)
  iterate 17 refine dRn z z z G z ?_
  exact dEn z z z G z<|dRn z z z G z<|dR z z (pF z G z)<|pD (fun _ q=>⟨false,som<|ifF Y G,q.k<|s4 z z z z,sg⟩)
 rintro aV ae ⟨xx,rfl,_,sc⟩;revert aV;refine Wo<|Wc z (fun hcz=>?_) (fun hcz=>?_)
 ·refine Ws<|Rf z c_A z<|R z (l0 g_3 z<|((((hh.e s1).e h6).c H<|djs<|mm1 hu.lt<|lt_ h3.s s1.s).e sc).at z)<|R z (bP (parts:=[(0,.tmp 49),(1,.const<|.int .i64 5)]) (cs:=[vI rb.at_,vI 5]) c_j z z) ?_
  have af:=mm1 (Blk.lt hB1) h4.s;refine E0 (fs0 (cur':=[vI rb.at_,vI 5]) y_ z z (((((((ha.c s2<|atp af).e h5).c h3<|djs<|mm1 ha.lt s2.s).e s1).e h6).c H<|djs<|mm1 ha.lt<|lt_ (lt_ (lt_ s2.s h5.s) h3.s) s1.s).e sc) z z z z) ?_;rintro _ aW ⟨aX,aY⟩;have ah:=aY.one;refine Wn ?_;obtain rfl:=som<|ifT a0 hcz;have ai:=lt_ ho s1.s;exact Wr<|a_ hr (n_ a_2 y_ z aX z) ⟨(cM (g_ (cM (g_ (g_ (cM (g_ (cM (g_ (g_ (cr [g1] w0) h4:Chg (· ∈ [g1]) w0 I) hd:Chg (· ∈ [g1]) w0 wj) s2 (io sr):Chg (· ∈ [g1]) w0 J) h5:Chg (· ∈ [g1]) w0 wm) h3 (mor hi:∀k∈[J.z],k∈[g1]∨w0.z<=k):Chg (· ∈ [g1]) w0 wr) s1:Chg (· ∈ [g1]) w0 wf) h6:Chg (· ∈ [g1]) w0 ww) H (mor ai:∀k∈[wf.z],k∈[g1]∨w0.z<=k):Chg (· ∈ [g1]) w0 wp) sc:Chg (· ∈ [g1]) w0 ae) ah (mor h4.s:∀k∈[I.z],k∈[g1]∨w0.z<=k):Chg (· ∈ [g1]) w0 aW),z,ht,ii z,hl,((((hn.e s1).e h6).c H<|djs<|mm1 (Blk.lt hB1) ai).e sc).c ah<|djs af⟩
 refine Wk<|Ws<|R z (lN (vs:=[vI re.at_,vI re.code]) a_2 y_ z z fid<|(a9.e sc).row 0 2 z) ?_
 have aj:=mm1 (Blk.lt hB1) h4.s;refine E0 (fs0 (cur':=[vI re.at_,vI re.code]) y_ z z (((((((ha.c s2<|atp aj).e h5).c h3<|djs<|mm1 ha.lt s2.s).e s1).e h6).c H<|djs<|mm1 ha.lt<|lt_ (lt_ (lt_ s2.s h5.s) h3.s) s1.s).e sc) z z z z) ?_;rintro _ aZ ⟨b0,b1⟩;have ak:=b1.one;refine Wn ?_;obtain rfl:=som<|ifF a0 hcz;have al:=lt_ ho s1.s;exact Wr<|a_ hr (n_ a_2 y_ z b0 z) ⟨(cM (g_ (cM (g_ (g_ (cM (g_ (cM (g_ (g_ (cr [g1] w0) h4:Chg (· ∈ [g1]) w0 I) hd:Chg (· ∈ [g1]) w0 wj) s2 (io sr):Chg (· ∈ [g1]) w0 J) h5:Chg (· ∈ [g1]) w0 wm) h3 (mor hi:∀k∈[J.z],k∈[g1]∨w0.z<=k):Chg (· ∈ [g1]) w0 wr) s1:Chg (· ∈ [g1]) w0 wf) h6:Chg (· ∈ [g1]) w0 ww) H (mor al:∀k∈[wf.z],k∈[g1]∨w0.z<=k):Chg (· ∈ [g1]) w0 wp) sc:Chg (· ∈ [g1]) w0 ae) ak (mor h4.s:∀k∈[I.z],k∈[g1]∨w0.z<=k):Chg (· ∈ [g1]) w0 aZ),z,aI,aJ,hl,((((hn.e s1).e h6).c H<|djs<|mm1 (Blk.lt hB1) al).e sc).c ak<|djs aj⟩
theorem c_S:∀n,f_5 n
  | 0=>⟨⟨fun hm=>by intros;exact nomatch (show none=some _ from hm)⟩,⟨fun hm=>by intros;exact nomatch (show none=some _ from hm)⟩,⟨fun hm=>by intros;exact nomatch (show none=some _ from hm)⟩,⟨fun hm=>by intros;exact nomatch (show none=some _ from hm)⟩,⟨fun hm=>by intros;exact nomatch (show none=some _ from hm)⟩⟩
  | n+1=>⟨T_w03<|c_S n,T_w1a<|c_S n,T_w1b<|c_S n,T_w1c<|c_S n,T_w1d<|c_S n⟩
theorem W_w03:j_U (a_i n).impl_checker_value:=(c_S n).1
theorem W_w1a:j_V (a_i n).impl_checker_array:=(c_S n).2.1
theorem W_w1b:j_W (a_i n).impl_checker_choice:=(c_S n).2.2.1
theorem W_w1c:j_X (a_i n).impl_checker_option:=(c_S n).2.2.2.1
theorem W_w1d:j_Y (a_i n).impl_checker_checked:=(c_S n).2.2.2.2
def Q22 (w0:World)(B:Zone)(r:Int×Int)(v:Value)(w':World):Prop:=Bw w0 w'/\un2 (fun G H=>v = .tuple #[vI G,vI H]/\inI G/\inI H) r
theorem W_w2z {x1:d_}{x2:Int}{x3:List UInt8}{x4:Int}{res:Int×Int}(hm:g_l n x1 x2 x3 x4=some res)(J:B<=w0.z)(Y:repS w0 B (sl A0 N0 C0) x1.rules)(a0:inI x2)(a1:repS w0 B (sl A7 N7 C7) x3)(a2:inI x4):i_ prog 90 [(.agg #[sl A0 N0 C0]),vI x2,sl A7 N7 C7,vI x4] w0 (Q22 w0 B res):=by
 unfold g_l at hm
 refine goG func90 z z z fun fn hr=>Ws<|E z (fb z) ?_
 rintro _ O ⟨rfl,hb⟩;have h3:=hb.below;have hc:Blk O w0.z [sl A0 N0 C0]:=hb.blk;refine Ra z<|Rw z<|Wq<|Wq ?_
 obtain ⟨ur,hus,hmd⟩:=bdS hm;refine Wt (fun a w=>∃(V:Bool),V=ur/\Sat 43 [(1,vI x2),(2,sl A7 N7 C7),(3,vI x4),(4,pt w0.z),(30,vB V)] a/\Below O.z O w) ?_ ?_
 ·refine Wg<|R z (lN (vs:=[sl A0 N0 C0]) B_ z_ z z fid<|hc.row 0 1 z)<|Rm z ?_
  obtain ⟨rt,eu,hme⟩:=bdS hus;refine E z (fc call64 z<|j_S eu (zt' J h3.s) (Y.e h3) a0) ?_;rintro _ _ ⟨s4,rfl⟩;refine R z (not_ z)<|Rm z ?_
  rcases bs (!rt) with H | H
  ·exact Nh z H<|Nh z H<|R z (pT z H z)<|Rm z<|Nh z z<|Nh z z<|Nh z z<|Nh z z<|R z (pT z z z)<|Rm z<|Nh z z<|Nh z z<|Nh z z<|R z (pT z z z)<|Wl (fun _ q=>⟨true,som<|ifT hme H,q.k<|s5 z z z z z,s4⟩)
  have hmf:=ifF hme H;refine Rh z H (mv z)<|Rh z H (lss z z)<|R z (pF z H z)<|Rm z ?_
  rcases bs (decide<|x4<0) with G | G
  ·iterate 4 refine Nh z G ?_
   exact R z (pT z G z)<|Rm z<|Nh z z<|Nh z z<|Nh z z<|R z (pT z z z)<|Wl (fun _ q=>⟨true,som<|ifT hmf G,q.k<|s5 z z z z z,s4⟩)
  have hmg:=ifF hmf G;refine Rh z G (mv z)<|Rh z G (mv z) ?_
  have hh:=a1.g<|(h3.ag B).e s4
  refine Rh z G (lnR k_ z hh)<|Rh z G (a_3 z z)<|R z (pF z G z)<|Rm z ?_
  rcases bs (decide<|(x3.length:Int)<x4) with I | I
  ·iterate 3 refine Nh z I ?_
   exact R z (pT z I z)<|Wl (fun _ q=>⟨true,som<|ifT hmg I,q.k<|s5 z z z z z,s4⟩)
  exact Rh z I (mv z)<|Rh z I (lnR k_ z hh)<|Rh z I (a_3 z z)<|R z (pF z I z)<|Wl (fun _ q=>⟨decide<|400<(x3.length:Int),som<|ifF hmg I,q.k<|s5 z z z z z,s4⟩)
 rintro av wi ⟨V,rfl,_,s6⟩;revert av;refine Wo<|Wc z (fun L=>?_) (fun L=>?_)
 ·refine Ws<|Ra z<|Rw z ?_
  obtain rfl:=som<|ifT hmd L;exact Wr<|a_4 hr z z ⟨bup h3 s6,z,ii z,ii z⟩
 refine Wk<|Ws<|R z (lN (vs:=[sl A0 N0 C0]) B_ z_ z z fid<|(hc.e s6).row 0 1 z)<|Rm z<|R z (bP (parts:=[(0,.tmp 31),(1,.tmp 32)]) (cs:=[sl A0 N0 C0,sl A7 N7 C7,vI 0]) q_A z z)<|E z (fb z) ?_
 rintro _ ww ⟨rfl,hj⟩;have W:=hj.below;refine Rw z<|Wm z<|RM z z ?_
 have hk:=((h3.ag B).e s6).e W;have ha:=lt_ h3.s s6.s;have hl:=lt_ ha W.s;obtain ⟨rm,_,ez,a3⟩:=a_m<|ifF hmd L;refine E z (fc call123 z<|W_w03.run (B:=B) ez (hj.blk:Blk ww wi.z [sl A0 N0 C0,sl A7 N7 C7,vI 0]) (zt' J hl) (atp (or0 (f_ lr) (q_<|zt' J ha):∀k∈[wi.z],¬B k)) (Y.g hk) (a1.g hk) (ii z) a0 a2) ?_;rintro _ a4 ⟨sn,rfl,a5,a6,_,_⟩;refine E z (fa b_i) ?_;rintro _ a7 ⟨rfl,ho⟩;refine E0 (fs0 (cur':=[vI rm.at_,vI rm.code]) y_ z z (ho.blk:Blk a7 a4.z [vI 0,vI 0]) z z z z) ?_;rintro _ _ ⟨a8,a9⟩;refine Wn<|Wq (Wd (X:=noX) 0 (pl_ 6 []) mo (by kernel_rfl) fun aa sp _=>dR z z (fd c_A z) ?_)
 have hq:=a8.e sp;refine dR z z (l0 g_3 z<|hq.at z)<|dR z z (fd c_P z)<|dR z z (l0 g_3 z<|hq.at z)<|dQ z z z<|dQ z z z<|pD<|Wo ?_
 obtain rfl:=som a3;exact Wr<|a_4 hr z z ⟨bup (bM (bup (bM (bup (bup h3 s6) W) sn<|m1 ha) ho.below) a9.one<|m1<|lt_ hl sn.s) sp,z,a5,a6⟩
def Q23 (w0:World)(g1:Nat)(B:Zone)(A0:Option Addr)(N0 C0:Nat)(A5:Option Addr)(N5 C5:Nat)(x1:a_G)(r:Bool×Int)(v:Value)(w':World):Prop:=Chg (· ∈ [g1]) w0 w'/\un2 (fun H G=>(vB H)=v/\inI G/\Blk w' g1 [sl A0 N0 C0,sl A5 N5 C5,vI x1.rule,vI G]) r
theorem i_0 {x1:a_G}{g1:Nat}{x2:Int}{res:Bool×Int}(hm:c_z n x1 x2=some res)(hB1:Blk w0 g1 [sl A0 N0 C0,sl A5 N5 C5,vI x1.rule,vI x1.at_])(O:B<=w0.z)(hBg:¬B g1)(H:repS w0 B (sl A0 N0 C0) x1.d.rules)(I:repS w0 B (sl A5 N5 C5) x1.b)(a0:inI x1.rule)(J:inI x1.at_)(L:inI x2):i_ prog 63 [pt g1,vI x2] w0 (Q23 w0 g1 B A0 N0 C0 A5 N5 C5 x1 res):=by
 unfold c_z at hm
 refine goG func63 z z z fun fn hr=>Ws<|Rw z<|Wq (Wd (X:=noX) 0 (pl_ 19 [13]) mo (by kernel_rfl) fun W G _=>dM z z z<|dR z z (A_ z)<|dR z z (fd j_B z) ?_)
 have h1:=hB1.e G;refine dR z z (lN (vs:=[sl A0 N0 C0]) B_ z_ z z fid<|h1.row 0 1 z)<|dM z z z<|dM z z z<|dR z z (A_ z)<|dR z z (fd h_U z)<|dR z z (l0 O_ z<|h1.at z)<|dM z z z<|dR z z (A_ z)<|dR z z (fd c_Q z)<|dR z z (l0 g_3 z<|h1.at z) ?_
 obtain ⟨Y,_,e5,V⟩:=a_m hm;refine dE z z (fc call90 z<|W_w2z (B:=B) (x1:=(⟨x1.d.rules⟩:d_)) e5 (zt' O G.s) (H.e G) L (I.e G) J) (.inr fun _ _ h=>H_<|h.1) ?_;rintro _ w7 ⟨s2,rfl,h8,_⟩;refine dM z z z<|dR z z (ext_ z z)<|dR z z (ext_ z z)<|dQ z z z<|dQ z z z<|pD<|Wo<|Wm z<|Rm z<|R z (A_ z)<|Rf z c_Q z<|E0 (fs0 (cur':=[sl A0 N0 C0,sl A5 N5 C5,vI x1.rule,vI Y]) z_3 z z (h1.e s2) z z z z) ?_
 rintro _ w9 ⟨ha,sb⟩;refine Wn<|Wm z<|Rq z z z<|Rw z ?_
 obtain rfl:=som V;exact Wr<|a_ hr z ⟨(cM (g_ (g_ (cr [g1] w0) G:Chg (· ∈ [g1]) w0 W) s2:Chg (· ∈ [g1]) w0 w7) sb.one (io sr):Chg (· ∈ [g1]) w0 w9),z,h8,ha⟩
def Q24 (w0:World)(g1:Nat)(B:Zone)(A0:Option Addr)(N0 C0:Nat)(A5:Option Addr)(N5 C5:Nat)(x1:a_G)(r:Int×Bool×Int)(v:Value)(w':World):Prop:=Chg (· ∈ [g1]) w0 w'/\un3 (fun G I H=>v = .tuple #[vI G,vB I]/\inI G/\inI H/\Blk w' g1 [sl A0 N0 C0,sl A5 N5 C5,vI x1.rule,vI H]) r
theorem W_w1e {x1:a_G}{g1:Nat}{x2:Int}{res:Int×Bool×Int}(hm:e_V n x1 x2=some res)(hB1:Blk w0 g1 [sl A0 N0 C0,sl A5 N5 C5,vI x1.rule,vI x1.at_])(L:B<=w0.z)(hBg:¬B g1)(I:repS w0 B (sl A0 N0 C0) x1.d.rules)(J:repS w0 B (sl A5 N5 C5) x1.b)(a0:inI x1.rule)(a1:inI x1.at_)(a2:inI x2):i_ prog 119 [pt g1,vI x2] w0 (Q24 w0 g1 B A0 N0 C0 A5 N5 C5 x1 res):=by
 unfold e_V at hm
 refine goG func119 z z z fun fn hr=>Ws<|Ra z<|Rw z<|Wm z<|R z (A_ z)<|Rf z c_Q z<|R z (l0 g_3 z<|hB1.at z)<|Rw z<|Wq<|Wm z<|Rm z ?_
 obtain ⟨_,_,ea,O⟩:=a_m hm;refine E z (fc call63 z<|i_0 (B:=B) ea hB1 L hBg I J a0 a1 a2) ?_;rintro _ V ⟨G,rfl,h6,W⟩;refine R z (not_ z)<|Wx z (fun H=>?_) (fun H=>?_)
 ·refine Ws<|Ra z<|Rw z ?_
  obtain rfl:=som<|ifT O H;exact Wr<|a_4 hr z z ⟨(cM (cr [g1] w0) G (io sr):Chg (· ∈ [g1]) w0 V),z,ii z,h6,W⟩
 refine Wk<|Wq (Wd (X:=noX) 0 (pl_ 22 [19]) mo (by kernel_rfl) fun wc s1 _=>dM z z z<|dR z z (A_ z)<|dR z z (fd h_U z) ?_)
 have h2:=W.e s1;refine dR z z (l0 O_ z<|h2.at z)<|dM z z z<|dM z z z<|dR z z (A_ z)<|dR z z (fd c_Q z)<|dR z z (l0 g_3 z<|h2.at z) ?_
 obtain ⟨_,ed,hme⟩:=bdS<|ifF O H;have Y:=(G.agc B<|e_<|f_ hBg).e s1;refine dRX z z (rX k_ z_5 z z (J.g Y) z z ed) ?_;rintro _ ⟨_,_,_,rfl,hf⟩;refine dM z z z<|dR z z (A_ z)<|dR z z (fd j_B z)<|dR z z (fd a_5 z)<|dR z z (l0 a_9 z<|h2.at z)<|dM z z z ?_
 obtain ⟨_,eg,hmh⟩:=bdS hme;refine dRX z z (at_ (α:=b_) Z_ l_ z z z (I.g Y) eg) ?_;rintro _ ⟨_,_,_,rfl,hi,hj,_⟩;obtain ⟨_,_,_,_,_,_,_,_,_,_,_,_,rfl,_,_,_,_,_,_,_⟩:=a_u hj;refine dR z z (fd c_B z)<|dR z z (l0 g_4 z<|hi.at (j:=3) z) ?_
 obtain ⟨_,ek,hml⟩:=bdS hmh;refine dE z z (fc call125 z<|j_T ek (zt' L<|lt_ G.s s1.s) hf) (.inr fun _ _ h=>H_<|h.1) ?_;rintro _ wm ⟨s9,rfl,hn⟩;refine dQ z z z<|dQ z z z<|pD<|Wo ?_
 obtain rfl:=som hml;exact Wr<|a_4 hr z z ⟨(g_ (g_ (cM (cr [g1] w0) G (io sr):Chg (· ∈ [g1]) w0 V) s1:Chg (· ∈ [g1]) w0 wc) s9:Chg (· ∈ [g1]) w0 wm),z,hn,h6,h2.e s9⟩
def Q25 (w0:World)(g1:Nat)(B:Zone)(A0:Option Addr)(N0 C0:Nat)(A5:Option Addr)(N5 C5:Nat)(x1:a_G)(r:Bool×Int×Int)(v:Value)(w':World):Prop:=Chg (· ∈ [g1]) w0 w'/\un3 (fun I G H=>(vB I)=v/\inI G/\inI H/\Blk w' g1 [sl A0 N0 C0,sl A5 N5 C5,vI G,vI H]) r
theorem W_w30 {x1:a_G}{g1:Nat}{x2:b_}{x3:Str}{res:Bool×Int×Int}(hm:g_m n x1 x2 x3=some res)(hB1:Blk w0 g1 [sl A0 N0 C0,sl A5 N5 C5,vI x1.rule,vI x1.at_])(a0:B<=w0.z)(hBg:¬B g1)(a1:repS w0 B (sl A0 N0 C0) x1.d.rules)(a2:repS w0 B (sl A5 N5 C5) x1.b)(W:inI x1.rule)(a9:inI x1.at_)(aO:x2.name.b.length<=LEN)(aP:inI x2.kind)(aQ:inI x2.size)(aR:repS w0 B (sl A2 N2 C2) x2.bytes)(aS:repS w0 B (sl A3 N3 C3) x2.names)(aT:repS w0 B (sl A1 N1 C1) x2.tags)(Y:repS w0 B (sl A4 N4 C4) x2.kids)(aa:x3.b.length<=LEN):i_ prog 87 [pt g1,.agg #[Str.v x2.name,vI x2.kind,vI x2.size,vB x2.little,sl A2 N2 C2,sl A3 N3 C3,sl A1 N1 C1,sl A4 N4 C4],Str.v x3] w0 (Q25 w0 g1 B A0 N0 C0 A5 N5 C5 x1 res):=by
 unfold g_m at hm
 refine goG func87 z z z fun fn hr=>Ws<|E z (fb z) ?_
 rintro _ wb ⟨rfl,hn⟩;have V:=hn.below;refine Rw z<|n_s 0 z<|Wm z ?_
 obtain ⟨rm,an,ao,ab⟩:=a_m hm;refine E z (fc call117 z<|W_w15 ao (zt' a0 V.s) aa) ?_;rintro _ we ⟨s9,rfl,ap⟩;refine Rm z<|Re z z z<|Re z z z<|Ra z<|Rw z<|Wm z<|Rf z G_ z ?_
 have hf:=(hn.blk:Blk wb w0.z (vR x2 A2 N2 C2 A3 N3 C3 A1 N1 C1 A4 N4 C4)).e s9;refine R z (l0 u_ z<|hf.at z) ?_;obtain ⟨_,aq,ad⟩:=bdS ab;have ha:=(V.ag B).e s9;refine RX z (at_ (α:=Int) o_ z_3 z z z (Y.g ha) aq) ?_;rintro _ ⟨_,_,_,rfl,ar,au,_⟩;obtain ⟨rfl,av⟩:=J_ au;refine R z (l0 g_3 z<|ar.at0 z) ?_;have ho:=lt_ V.s s9.s;obtain ⟨rp,aw,_,ax,ae⟩:=P_ ad;refine E z (fc call119 z<|W_w1e (B:=B) ax ((hB1.e V).e s9) (zt' a0 ho) hBg (a1.g ha) (a2.g ha) W a9 av) ?_;rintro _ L ⟨s5,rfl,_,hq,ht⟩;refine Rm z<|Re z z z<|Re z z z<|Ra z<|Rw z<|Wq<|Wq ?_
 obtain ⟨ay,hur,hms⟩:=bdS ae;refine Wt (fun a w=>∃(xg:Bool),xg=ay/\Sat 58 [(0,pt g1),(4,pt w0.z),(7,vI rm),(39,vB xg)] a/\Below L.z L w) ?_ ?_
 ·refine Wg<|Rm z<|R z (not_ z)<|Rm z ?_
  rcases bs (!an) with H | H
  ·exact Nh z H<|Nh z H<|R z (pT z H z)<|Rm z<|Nh z z<|Nh z z<|R z (pT z z z)<|Rm z<|Nh z z<|Nh z z<|Nh z z<|R z (pT z z z)<|Wl (fun _ q=>⟨true,som<|ifT hur H,q.k<|s4 z z z z,br L⟩)
  have hmu:=ifF hur H;refine Rh z H (mv z)<|Rh z H (not_ z)<|R z (pF z H z)<|Rm z ?_
  rcases bs (!aw) with I | I
  ·exact Nh z I<|Nh z I<|R z (pT z I z)<|Rm z<|Nh z z<|Nh z z<|Nh z z<|R z (pT z z z)<|Wl (fun _ q=>⟨true,som<|ifT hmu I,q.k<|s4 z z z z,br L⟩)
  have hmv:=ifF hmu I;refine Rh z I (mv z)<|Rh z I (a_3 z z)<|R z (pF z I z)<|Rm z ?_
  rcases bs (decide<|40<rp) with J | J
  ·iterate 3 refine Nh z J ?_
   exact R z (pT z J z)<|Wl (fun _ q=>⟨true,som<|ifT hmv J,q.k<|s4 z z z z,br L⟩)
  exact Rh z J (mv z)<|Rh z J (mv z)<|Rh z J (b_m z z)<|R z (pF z J z)<|Wl (fun _ q=>⟨decide<|rp<=rm,som<|ifF hmv J,q.k<|s4 z z z z,br L⟩)
 rintro az O ⟨xg,rfl,_,G⟩;revert az;refine Wo<|Wc z (fun hch=>?_) (fun hch=>?_)
 ·refine Ws<|Rw z ?_
  obtain rfl:=som<|ifT hms hch;exact i_J<|a_ hr z ⟨(g_ (cM (g_ (g_ (cr [g1] w0) V:Chg (· ∈ [g1]) w0 wb) s9:Chg (· ∈ [g1]) w0 we) s5 (io sr):Chg (· ∈ [g1]) w0 L) G:Chg (· ∈ [g1]) w0 O),z,W,hq,ht.e G⟩
 refine Wk ?_;obtain ⟨_,af,ah⟩:=gotoS<|ifF hms hch;refine n_t (σ:=Int×Int) (ρ:=Bool×Int×Int) (fun s a w=>un2 (fun xc xd=>Sat 58 [(0,pt g1),(4,pt w0.z),(7,vI xc)] a/\Chg (· ∈ [g1]) O w/\inI xc/\inI xd/\Blk w g1 [sl A0 N0 C0,sl A5 N5 C5,vI x1.rule,vI xd]) s) (rQ prog fn<|Q25 w0 g1 B A0 N0 C0 A5 N5 C5 x1) af ?_ ?_ ?_
 ·exact fun _ q=>⟨q.k<|s3 z z z,cr [g1] O,ap,hq,ht.e G⟩
 ·rintro ⟨xc,xd⟩ _ wi _ ⟨ai,s7,_,hw,hx⟩ aj;have hmy:=a_I aj;refine Wu ?_ ai;refine Wq<|Wm z<|R z (a_3 z z)<|Wx z (fun hcj=>?_) (fun hcj=>?_)
  ·refine Wq<|Wm z<|Rf z G_ z ?_
   have hz:=mmr<|Blk.lt hB1
   refine R z (l0 u_ z<|(((hf.c s5<|atp hz).e G).c s7<|atp hz).at z) ?_;obtain ⟨_,aA,ak⟩:=bdS<|ifT hmy hcj;have hk:=((ha.c s5<|e_<|f_ hBg).e G).c s7<|e_<|f_ hBg
   refine RX z (at_ (α:=Int) o_ z_3 z z z (Y.g hk) aA) ?_;rintro _ ⟨_,_,_,rfl,aB,aC,_⟩;obtain ⟨rfl,aD⟩:=J_ aC;refine R z (l0 g_3 z<|aB.at0 z) ?_;obtain ⟨_,aE,aF,a3⟩:=a_m ak;refine E z (fc call63 z<|i_0 (B:=B) aF hx (zt' a0<|lt_ (lt_ (lt_ ho s5.s) G.s) s7.s) hBg (a1.g hk) (a2.g hk) W hw aD) ?_;rintro _ a4 ⟨a5,rfl,a6,a7⟩;refine R z (not_ z)<|Wx z (fun hcl=>?_) (fun hcl=>?_)
   ·refine Ws<|Rw z ?_
    exact i_J<|qL (som<|ifT a3 hcl).symm<|a_ hr z ⟨(cM (cM (g_ (cM (g_ (g_ (cr [g1] w0) V:Chg (· ∈ [g1]) w0 wb) s9:Chg (· ∈ [g1]) w0 we) s5 (io sr):Chg (· ∈ [g1]) w0 L) G:Chg (· ∈ [g1]) w0 O) s7 (io sr):Chg (· ∈ [g1]) w0 wi) a5 (io sr):Chg (· ∈ [g1]) w0 a4),z,W,a6,a7⟩
   refine Wk<|Wm z<|R z (sb_ z z)<|Rw z ?_
   exact n_u fun _ q=>⟨rfl,(K_ xc 1,aE),(som<|ifF a3 hcl).symm,⟨q.k<|s3 z z z,(cM (cM (cr [g1] O) s7 (io sr):Chg (· ∈ [g1]) O wi) a5 (io sr):Chg (· ∈ [g1]) O a4),iS _ _,a6,a7⟩⟩
  refine Wk<|Wm z<|Rf z G_ z ?_
  have a8:=mmr<|Blk.lt hB1
  refine R z (l0 u_ z<|(((hf.c s5<|atp a8).e G).c s7<|atp a8).at z) ?_;obtain ⟨aG,aH,al⟩:=bdS<|ifF hmy hcj;refine RX z (at_ (α:=Int) o_ z_3 z z z (Y.g<|((ha.c s5<|e_<|f_ hBg).e G).c s7<|e_<|f_ hBg) aH) ?_;rintro _ ⟨_,_,_,rfl,aI,aJ,_⟩;obtain ⟨rfl,aK⟩:=J_ aJ;refine R z (l0 g_3 z<|aI.at0 z)<|R z (A_ z)<|Rf z e_g z<|E0 (fs0 (cur':=[sl A0 N0 C0,sl A5 N5 C5,vI aG,vI xd]) z_3 z z hx z z z z) ?_
  rintro _ aL ⟨aM,aN⟩;refine Wn<|Ws<|Rw z ?_
  exact i_J<|qL (som al).symm<|a_ hr z ⟨(cM (cM (g_ (cM (g_ (g_ (cr [g1] w0) V:Chg (· ∈ [g1]) w0 wb) s9:Chg (· ∈ [g1]) w0 we) s5 (io sr):Chg (· ∈ [g1]) w0 L) G:Chg (· ∈ [g1]) w0 O) s7 (io sr):Chg (· ∈ [g1]) w0 wi) aN.one (io sr):Chg (· ∈ [g1]) w0 aL),z,aK,hw,aM⟩
 rintro _ _ _ ⟨rfl,am⟩;obtain rfl:=som ah;exact ⟨am,z⟩
theorem W_w31 {x1:a_G}{g1:Nat}{x2:b_}{x3:Str}{res:Bool×Int×Int}(hm:g_n n x1 x2 x3=some res)(hB1:Blk w0 g1 [sl A0 N0 C0,sl A5 N5 C5,vI x1.rule,vI x1.at_])(Y:B<=w0.z)(hBg:¬B g1)(a0:repS w0 B (sl A0 N0 C0) x1.d.rules)(a1:repS w0 B (sl A5 N5 C5) x1.b)(O:inI x1.rule)(a2:inI x1.at_)(aK:x2.name.b.length<=LEN)(aL:inI x2.kind)(aM:inI x2.size)(aN:repS w0 B (sl A2 N2 C2) x2.bytes)(V:repS w0 B (sl A3 N3 C3) x2.names)(aO:repS w0 B (sl A1 N1 C1) x2.tags)(W:repS w0 B (sl A4 N4 C4) x2.kids)(a3:x3.b.length<=LEN):i_ prog 88 [pt g1,.agg #[Str.v x2.name,vI x2.kind,vI x2.size,vB x2.little,sl A2 N2 C2,sl A3 N3 C3,sl A1 N1 C1,sl A4 N4 C4],Str.v x3] w0 (Q25 w0 g1 B A0 N0 C0 A5 N5 C5 x1 res):=by
 unfold g_n at hm
 refine goG func88 z z z fun fn hr=>Ws<|E z (fb z) ?_
 rintro _ H ⟨rfl,hh⟩;have h3:=hh.below;have ha:Blk H w0.z (vR x2 A2 N2 C2 A3 N3 C3 A1 N1 C1 A4 N4 C4):=hh.blk;refine Rw z<|Wq<|Ws<|Rf z b_y z<|R z (l0 a_A z<|ha.at z)<|R z (lnR R_ z<|V.e h3)<|Rm z<|Wn ?_
 obtain ⟨_,huv,hmi⟩:=bdS hm;refine Wf (σ:=Int) (ρ:=Bool×Int×Int) (fun (kb:Nat)(x4:Int) a w=>Sat 44 [(0,pt g1),(2,Str.v x3),(4,pt w0.z),(10,sl A3 N3 C3),(11,vI (x2.names.length:Int)),(12,vI ((kb:Nat):Int))] a/\Chg (· ∈ [g1]) H w/\inI x4/\Blk w g1 [sl A0 N0 C0,sl A5 N5 C5,vI x1.rule,vI x4]) (fun (x4:Int) a w=>Sat 44 [] a/\Chg (· ∈ [g1]) H w/\inI x4/\Blk w g1 [sl A0 N0 C0,sl A5 N5 C5,vI x1.rule,vI x4]) (rQ prog fn<|Q25 w0 g1 B A0 N0 C0 A5 N5 C5 x1) huv ?_ ?_ ?_ ?_ ?_
 ·exact fun _ q=>⟨q.k<|s6 z z z z z z,cr [g1] H,a2,hB1.e h3⟩
 ·rintro kb x4 _ I _ hkj ⟨hSw,s5,h6,J⟩ hmx;refine Wu ?_ hSw;refine Ws<|Rl z z z<|Wn<|Wq<|Wc z (fun _=>?_) (fun hc=>(T_ hkj hc).elim)
  refine Wk<|Wq<|Wb<|Wm z ?_
  obtain ⟨_,ey,hmk⟩:=bdS hmx;have hd:=(h3.ag B).c s5<|e_<|f_ hBg
  have hl:=V.g hd;refine RX z (at_ (α:=Str) R_ z_9 z z z hl ey) ?_;rintro _ ⟨_,_,_,rfl,hz,ae,_⟩;obtain ⟨rfl,_⟩:=a_U ae;refine R z (l0 g_9 z<|hz.at0 z)<|Ra z<|Rw z<|Wq<|Wm z<|Rm z<|R z (b_6 z z)<|Wx z (fun hcc=>?_) (fun hcc=>?_)
  ·refine Wm z<|Rf z G_ z<|R z (l0 u_ z<|(ha.c s5<|atp<|mmr<|Blk.lt hB1).at z)<|Rm z ?_
   obtain ⟨af,ah,a4⟩:=bdS<|ifT hmk hcc;refine RX z (at_ (α:=Int) o_ z_3 z z z (W.g hd) ah) ?_;rintro _ ⟨_,_,_,rfl,ai,aj,_⟩;obtain ⟨rfl,ak⟩:=J_ aj;refine R z (l0 g_3 z<|ai.at0 z)<|R z (A_ z)<|Rf z e_g z<|E0 (fs0 (cur':=[sl A0 N0 C0,sl A5 N5 C5,vI af,vI x4]) z_3 z z J z z z z) ?_
   rintro _ al ⟨am,an⟩;refine Wn<|Ws<|Rw z ?_
   exact Wr<|rtO<|qL (som a4).symm<|a_ hr z ⟨(cM (cM (g_ (cr [g1] w0) h3:Chg (· ∈ [g1]) w0 H) s5 (io sr):Chg (· ∈ [g1]) w0 I) an.one (io sr):Chg (· ∈ [g1]) w0 al),z,ak,h6,am⟩
  refine Wk<|Wq ?_
  obtain ⟨ao,a5,a6⟩:=bdS<|ifF hmk hcc;refine Wt (fun a w=>∃(xe:Bool)(L:Int),(xe,L)=ao/\Sat 44 [(0,pt g1),(2,Str.v x3),(4,pt w0.z),(10,sl A3 N3 C3),(11,vI (x2.names.length:Int)),(12,vI ((kb:Nat):Int)),(42,vB xe)] a/\Chg (· ∈ [g1]) I w/\inI L/\Blk w g1 [sl A0 N0 C0,sl A5 N5 C5,vI x1.rule,vI L]) ?_ ?_
  ·refine Wg<|Rf z b_y z ?_
   have hn:=ha.c s5<|atp<|mmr<|Blk.lt hB1
   refine R z (l0 a_A z<|hn.at z)<|Rm z ?_
   have ho:=lt_ h3.s s5.s;obtain ⟨ap,aq,hmm⟩:=bdS a5;refine E z (fc call120 z<|W_w16 aq (zt' Y ho) hl a3) ?_;rintro _ wp ⟨s8,rfl⟩;refine R z (not_ z)<|Rm z ?_
   rcases bs (!ap) with G | G
   ·iterate 8 refine Nh z G ?_
    refine R z (pT z G z)<|Wl ?_
    exact fun _ q=>⟨true,x4,som<|ifT hmm G,q.k<|s7 z z z z z z z,(g_ (cr [g1] I) s8:Chg (· ∈ [g1]) I wp),h6,J.e s8⟩
   refine Rh z G (mv z)<|Rh z G (fd G_ z)<|Rh z G (l0 u_ z<|(hn.e s8).at z)<|Rh z G (mv z) ?_
   obtain ⟨_,ar,a7⟩:=bdS<|ifF hmm G;have hf:=hd.e s8;refine RXg z z G z (at_ (α:=Int) o_ z_3 z z z (W.g hf) ar) ?_;rintro _ ⟨_,_,_,rfl,au,av,_⟩;obtain ⟨rfl,aw⟩:=J_ av;refine Rh z G (l0 g_3 z<|au.at0 z) ?_;obtain ⟨ax,ay,az,a8⟩:=a_m a7;refine Eg z z G z (fc call63 z<|i_0 (B:=B) az (J.e s8) (zt' Y<|lt_ ho s8.s) hBg (a0.g hf) (a1.g hf) O h6 aw) ?_;rintro _ aA ⟨aB,rfl,aC,aD⟩;refine Rh z G (not_ z)<|R z (pF z G z)<|Wl ?_
   exact fun _ q=>⟨!ax,ay,som a8,q.k<|s7 z z z z z z z,(cM (g_ (cr [g1] I) s8:Chg (· ∈ [g1]) I wp) aB (io sr):Chg (· ∈ [g1]) I aA),aC,aD⟩
  rintro aE wq ⟨xe,L,rfl,_,ss,ht,hu⟩;have hmr:=a_I a6;revert aE;refine Wo<|Wc z (fun hcg=>?_) (fun hcg=>?_)
  ·refine Ws<|Rw z ?_
   exact Wr<|rtO<|qL (som<|ifT hmr hcg).symm<|a_ hr z ⟨(cM (cM (g_ (cr [g1] w0) h3:Chg (· ∈ [g1]) w0 H) s5 (io sr):Chg (· ∈ [g1]) w0 I) ss (io sr):Chg (· ∈ [g1]) w0 wq),z,O,ht,hu⟩
  refine Wk<|Wg<|R z (inc_ hkj (lt_ (repS.len V) C_) z z)<|Rm z<|Wl ?_
  exact fun _ q=>⟨L,(som<|ifF hmr hcg).symm,⟨q.k<|s6 z z z z z z,(cM (cM (cr [g1] H) s5 (io sr):Chg (· ∈ [g1]) H I) ss (io sr):Chg (· ∈ [g1]) H wq),ht,hu⟩⟩
 ·rintro x4 _ aF ⟨a9,aG,h6,J⟩;refine Wu ?_ a9;refine Ws<|Rl z z z<|Wn<|Wq<|Wc z (fun hc=>(U_ hc).elim) (fun _=>?_)
  exact We<|fun _ q=>⟨rfl,⟨q.k sn,(cM (cr [g1] H) aG (io sr):Chg (· ∈ [g1]) H aF),h6,J⟩⟩
 ·rintro x4 aH aI rfl ⟨_,aJ,h6,J⟩;have aa:=elL hmi;revert aH;refine Wo<|Ws<|Rw z ?_
  obtain rfl:=som aa;exact Wr<|a_ hr z ⟨(cM (g_ (cr [g1] w0) h3:Chg (· ∈ [g1]) w0 H) aJ (io sr):Chg (· ∈ [g1]) w0 aI),z,O,h6,J⟩
 rintro _ _ _ _ rfl ⟨rfl,ab⟩;have ad:=elR hmi;obtain rfl:=som ad;exact ⟨ab,z⟩
theorem W_w32 {x1:Int}{x2:Int}{b2 o2:Nat}{res:Bool}(hm:h_N x1 x2=some res)(I:B<=w0.z)(G:inI x1)(H:inI x2)(hC2:I_ w0 b2 o2 [vI x2])(hC2b:B b2):i_ prog 122 [vI x1,(.pointer<|some ⟨b2,o2,none⟩)] w0 (Q7 w0 B res):=by
 unfold h_N at hm
 refine goG func122 z z z fun fn hr=>Ws<|Rw z<|Wm z<|R z (l0 g_3 z<|hC2.at0 z)<|Rq z z z<|Rw z ?_
 obtain rfl:=som hm;exact Wr<|a_ hr z ⟨br w0,z⟩
theorem W_w33 {x1:List Int}{J:Int}{H L:Nat}{res:Int}(hm:g_o x1 J=some res)(a2:B<=w0.z)(I:repS w0 B (sl A0 N0 C0) x1)(p2c0_0:inI J)(a1:I_ w0 H L [vI J])(a0:B H):i_ prog 121 [sl A0 N0 C0,(.func (.func 122) #[] #[(.pointer<|some ⟨H,L,none⟩)])] w0 (Q0 w0 B res):=by
 unfold g_o at hm
 refine goG func121 z z z fun fn hr=>Ws<|Rw z<|Wq<|Wm z<|R z (lnR o_ z I)<|Rm z<|Wn ?_
 obtain ⟨_,a3,W⟩:=bdS hm;refine Wf (σ:=Unit) (ρ:=Int) (fun (k4:Nat)(_:Unit) a w=>Sat 19 [(1,.func (.func 122) #[] #[(.pointer<|some ⟨H,L,none⟩)]),(7,sl A0 N0 C0),(8,vI (x1.length:Int)),(9,vI ((k4:Nat):Int))] a/\Below w0.z w0 w) (fun (_:Unit) a w=>Sat 19 [] a/\Below w0.z w0 w) (rQ prog fn<|Q0 w0 B) a3 ?_ ?_ ?_ ?_ ?_
 ·exact fun _ q=>⟨q.k<|s4 z z z z,br w0⟩
 ·rintro k4 _ _ _ _ O ⟨a4,G⟩ a5;refine Wu ?_ a4;refine Ws<|Rl z z z<|Wn<|Wq<|Wc z (fun _=>?_) (fun hc=>(T_ O hc).elim)
  refine Wk<|Wq<|Wb<|Wm z ?_
  obtain ⟨_,ea,hmb⟩:=bdS a5;refine RX z (at_ (α:=Int) o_ z_3 z z z (I.e G) ea) ?_;rintro _ ⟨_,_,_,rfl,hd,he,_⟩;obtain ⟨rfl,hf⟩:=J_ he;refine R z (l0 g_3 z<|hd.at0 z)<|Ra z<|Rw z<|Wm z<|Rm z ?_
  obtain ⟨_,ec,Y⟩:=bdS hmb;refine E z (d_h call122 z z<|W_w32 ec (zt' a2 G.s) hf p2c0_0 (a1.e G) a0) ?_;rintro _ _ ⟨s6,rfl⟩;refine Wx z (fun V=>?_) (fun V=>?_)
  ·exact Wm z<|Rw z<|Wr<|rtO<|qL (som<|ifT Y V).symm<|a_ hr z ⟨bup G s6,z,ic (Nat.le_of_lt O)<|lt_ (repS.len I) C_⟩
  exact Wk<|Wg<|R z (inc_ O (lt_ (repS.len I) C_) z z)<|Rm z<|Wl (fun _ q=>⟨(),(som<|ifF Y V).symm,⟨q.k<|s4 z z z z,bup G s6⟩⟩)
 ·rintro _ _ _ ⟨hSg,sh⟩;refine Wu ?_ hSg;refine Ws<|Rl z z z<|Wn<|Wq<|Wc z (fun hc=>(U_ hc).elim) (fun _=>?_)
  exact We<|fun _ q=>⟨rfl,⟨q.k sn,sh⟩⟩
 ·rintro _ ai _ rfl ⟨_,sj⟩;have hmk:=elL W;revert ai;refine Wo<|Ws<|Rw z ?_
  obtain rfl:=som hmk;exact Wr<|a_ hr z ⟨sj,z,ii z⟩
 rintro _ _ _ _ rfl ⟨rfl,hql⟩;have hmm:=elR W;obtain rfl:=som hmm;exact ⟨hql,z⟩
theorem W_w34 {x1:a_G}{g1:Nat}{x2:b_}{res:Bool×Int×Int}(hm:g_p n x1 x2=some res)(hB1:Blk w0 g1 [sl A0 N0 C0,sl A5 N5 C5,vI x1.rule,vI x1.at_])(L:B<=w0.z)(hBg:¬B g1)(W:repS w0 B (sl A0 N0 C0) x1.d.rules)(Y:repS w0 B (sl A5 N5 C5) x1.b)(O:inI x1.rule)(a0:inI x1.at_)(al:x2.name.b.length<=LEN)(am:inI x2.kind)(an:inI x2.size)(ao:repS w0 B (sl A2 N2 C2) x2.bytes)(ap:repS w0 B (sl A3 N3 C3) x2.names)(a1:repS w0 B (sl A1 N1 C1) x2.tags)(V:repS w0 B (sl A4 N4 C4) x2.kids):i_ prog 89 [pt g1,(.agg #[Str.v x2.name,vI x2.kind,vI x2.size,vB x2.little,sl A2 N2 C2,sl A3 N3 C3,sl A1 N1 C1,sl A4 N4 C4])] w0 (Q25 w0 g1 B A0 N0 C0 A5 N5 C5 x1 res):=by
 unfold g_p at hm
 refine goG func89 z z z fun fn hr=>Ws<|E z (fb z) ?_
 rintro _ wb ⟨rfl,hf⟩;have H:=hf.below;have hc:Blk wb w0.z (vR x2 A2 N2 C2 A3 N3 C3 A1 N1 C1 A4 N4 C4):=hf.blk;refine Rw z<|Wm z<|Rf z G_ z<|R z (l0 u_ z<|hc.at z) ?_
 obtain ⟨_,er,hms⟩:=bdS hm;refine RX z (at_ (α:=Int) o_ z_3 z z z (V.e H) er) ?_;rintro _ ⟨_,_,_,rfl,ht,hu,_⟩;obtain ⟨rfl,hv⟩:=J_ hu;refine R z (l0 g_3 z<|ht.at0 z) ?_;obtain ⟨rx,ry,rz,ew,a2⟩:=P_ hms;refine E z (fc call119 z<|W_w1e (B:=B) ew (hB1.e H) (zt' L H.s) hBg (W.e H) (Y.e H) O a0 hv) ?_;rintro _ I ⟨s5,rfl,a5,hg,hh⟩;refine Rm z<|Re z z z<|Re z z z<|E z (fa zero_3) ?_
 rintro _ wa ⟨rfl,hi⟩;have h2:=hi.below;have hj:Blk wa I.z [vI 0]:=hi.blk;refine E0 (fs0 (cur':=[vI rx]) z_3 z z hj z z z z) ?_;rintro _ wk ⟨a6,a7⟩;have h3:=a7.one;refine Rw z<|Ws<|Rf z a_L z ?_
 have hl:=((hc.c s5<|atp<|mmr<|Blk.lt hB1).e h2).c h3<|djs<|mm1 hc.lt s5.s
 refine R z (l0 u_ z<|hl.at z)<|R z (i_f z) ?_
 have h6:=lt_ H.s s5.s;have hn:=(((H.ag B).c s5<|e_<|f_ hBg).e h2).c h3<|e_ (or0 (f_ lr) (q_<|zt' L h6):∀k∈[I.z],¬B k)
 obtain ⟨rm,a8,a3⟩:=bdS a2;refine E z (fc call121 z<|W_w33 (B:=wa.z) a8 (a_1 h3.s) (repS.mono (a1.g hn)<|zt' L<|lt_ h6 h2.s) a5 (a6.row 0 1 z) hj.lt) ?_;rintro _ J ⟨s8,rfl,_⟩;refine Rw z<|Wq<|Wq ?_
 obtain ⟨a9,huo,hmp⟩:=bdS a3;refine Wt (fun a w=>∃(xd:Bool),xd=a9/\Sat 36 [(0,pt g1),(3,pt w0.z),(7,vI rm),(26,vB xd)] a/\Below J.z J w) ?_ ?_
 ·refine Wg<|Rm z<|R z (not_ z)<|Rm z ?_
  rcases bs (!ry) with G | G
  ·exact Nh z G<|Nh z G<|R z (pT z G z)<|Wl (fun _ q=>⟨true,som<|ifT huo G,q.k<|s4 z z z z,br J⟩)
  exact Rh z G (mv z)<|Rh z G (lss z z)<|R z (pF z G z)<|Wl (fun _ q=>⟨decide<|rm<0,som<|ifF huo G,q.k<|s4 z z z z,br J⟩)
 rintro aa wq ⟨xd,rfl,_,s9⟩;revert aa;refine Wo<|Wc z (fun hce=>?_) (fun hce=>?_)
 ·refine Ws<|Rw z ?_
  obtain rfl:=som<|ifT hmp hce;exact Wr<|a_ hr z ⟨(g_ (g_ (cM (g_ (cM (g_ (cr [g1] w0) H:Chg (· ∈ [g1]) w0 wb) s5 (io sr):Chg (· ∈ [g1]) w0 I) h2:Chg (· ∈ [g1]) w0 wa) h3 (mor h6:∀k∈[I.z],k∈[g1]∨w0.z<=k):Chg (· ∈ [g1]) w0 wk) s8:Chg (· ∈ [g1]) w0 J) s9:Chg (· ∈ [g1]) w0 wq),z,O,hg,(((hh.e h2).c h3<|djs<|mm1 (Blk.lt hB1) h6).e s8).e s9⟩
 refine Wk<|Wm z<|Rf z G_ z<|R z (l0 u_ z<|((hl.e s8).e s9).at z)<|Rm z<|R z (add_ z z) ?_
 obtain ⟨ab,ad,a4⟩:=bdS<|ifF hmp hce;refine RX z (at_ (α:=Int) o_ z_3 z z z (V.g<|(hn.e s8).e s9) ad) ?_;rintro _ ⟨_,_,_,rfl,ae,af,_⟩;obtain ⟨rfl,ah⟩:=J_ af;refine R z (l0 g_3 z<|ae.at0 z)<|R z (A_ z)<|Rf z e_g z<|E0 (fs0 (cur':=[sl A0 N0 C0,sl A5 N5 C5,vI ab,vI rz]) z_3 z z ((((hh.e h2).c h3<|djs<|mm1 (Blk.lt hB1) h6).e s8).e s9) z z z z) ?_
 rintro _ ai ⟨aj,ak⟩;refine Wn<|Ws<|Rw z ?_
 obtain rfl:=som a4;exact Wr<|a_ hr z ⟨(cM (g_ (g_ (cM (g_ (cM (g_ (cr [g1] w0) H:Chg (· ∈ [g1]) w0 wb) s5 (io sr):Chg (· ∈ [g1]) w0 I) h2:Chg (· ∈ [g1]) w0 wa) h3 (mor h6:∀k∈[I.z],k∈[g1]∨w0.z<=k):Chg (· ∈ [g1]) w0 wk) s8:Chg (· ∈ [g1]) w0 J) s9:Chg (· ∈ [g1]) w0 wq) ak.one (io sr):Chg (· ∈ [g1]) w0 ai),z,ah,hg,aj⟩
theorem W_w35 {x1:a_G}{g1:Nat}{x2:Str}{res:Bool×Int×Int}(hm:e_W n x1 x2=some res)(hB1:Blk w0 g1 [sl A0 N0 C0,sl A5 N5 C5,vI x1.rule,vI x1.at_])(V:B<=w0.z)(hBg:¬B g1)(a0:repS w0 B (sl A0 N0 C0) x1.d.rules)(a1:repS w0 B (sl A5 N5 C5) x1.b)(Y:inI x1.rule)(W:inI x1.at_)(au:x2.b.length<=LEN):i_ prog 62 [pt g1,Str.v x2] w0 (Q25 w0 g1 B A0 N0 C0 A5 N5 C5 x1 res):=by
 unfold e_W at hm
 refine goG func62 z z z fun fn hr=>Ws<|Rw z<|Wq (Wd (X:=noX) 4096 (pl_ 13 [11,12]) mo (by kernel_rfl) fun H G _=>dM z z z<|dR z z (A_ z)<|dR z z (fd j_B z)<|dR z z (fd a_5 z) ?_)
 have L:=hB1.e G;refine dR z z (l0 a_9 z<|L.at z)<|dM z z z<|dR z z (A_ z)<|dR z z (fd e_g z)<|dR z z (l0 g_3 z<|L.at z) ?_
 obtain ⟨xe,aZ,av⟩:=bdS hm;refine dRX z z (at_ (α:=b_) Z_ l_ z z z (a0.e G) aZ) ?_;rintro _ ⟨_,_,_,rfl,b0,b1,_⟩;obtain ⟨ah,ni,cj,ak,nl,cm,an,no,cp,aq,nr,cs,rfl,ab,ad,ae,af,ai,aj,hu⟩:=a_u b1;refine dR z z (lN (vs:=vR xe ah ni cj ak nl cm an no cp aq nr cs) D_ l_ z z fid b0)<|dE z z (fa b_H) (.inr fun _ _ h=>H_<|h.2.below) ?_
 rintro _ wg ⟨rfl,aF⟩;have h1:=aF.below;refine dE0 z (fs0 (cur':=vR xe ah ni cj ak nl cm an no cp aq nr cs) l_ z z (aF.blk:Blk wg H.z [(Str.v (⟨[]⟩:Str)),vI 0,vI 0,vB false,sl none 0 0,sl none 0 0,sl none 0 0,sl none 0 0]) z z z z) (.inl z) ?_;rintro _ O ⟨ha,b2⟩;have h2:=b2.one;refine pD<|Wo<|Wq<|Wb<|Ws<|Rf z a_a z<|R z (l0 g_3 z<|ha.at z)<|Rq z z z<|Rw z<|Wc z (fun a4=>?_) (fun a4=>?_)
 ·refine Wm z<|R z (lN (vs:=vR xe ah ni cj ak nl cm an no cp aq nr cs) D_ l_ z z fid<|ha.row 0 8 z)<|Rm z ?_
  have aG:∀k∈[H.z],¬B k:=or0 (f_ lr)<|q_<|zt' V G.s;have aH:=((G.ag B).e h1).c h2<|e_ aG
  have hv:=(h1.ag B).c h2<|e_ aG
  obtain ⟨_,_,_,b3,aQ⟩:=P_<|ifT av a4;refine E z (fc call87 z<|W_w30 (B:=B) b3 ((L.e h1).c h2<|djs<|mm1 (Blk.lt hB1) G.s) (zt' V<|lt_ (lt_ G.s h1.s) h2.s) hBg (a0.g aH) (a1.g aH) Y W ab ad ae (af.g hv) (ai.g hv) (aj.g hv) (hu.g hv) au) ?_;rintro _ b4 ⟨b5,rfl,b6,b7,b8⟩;refine Rw z ?_
  obtain rfl:=som aQ;exact Wr<|rtO<|a_ hr z ⟨(cM (cM (g_ (g_ (cr [g1] w0) G:Chg (· ∈ [g1]) w0 H) h1:Chg (· ∈ [g1]) w0 wg) h2 (mor G.s:∀k∈[H.z],k∈[g1]∨w0.z<=k):Chg (· ∈ [g1]) w0 O) b5 (io sr):Chg (· ∈ [g1]) w0 b4),z,b6,b7,b8⟩
 have aw:=ifF av a4;refine Ws<|Rf z a_a z<|R z (l0 g_3 z<|ha.at z)<|Rq z z z<|Rw z<|Wc z (fun a5=>?_) (fun a5=>?_)
 ·refine Wm z<|R z (lN (vs:=vR xe ah ni cj ak nl cm an no cp aq nr cs) D_ l_ z z fid<|ha.row 0 8 z)<|Rm z ?_
  have aI:∀k∈[H.z],¬B k:=or0 (f_ lr)<|q_<|zt' V G.s;have aJ:=((G.ag B).e h1).c h2<|e_ aI
  have hw:=(h1.ag B).c h2<|e_ aI
  obtain ⟨_,_,_,b9,aR⟩:=P_<|ifT aw a5;refine E z (fc call88 z<|W_w31 (B:=B) b9 ((L.e h1).c h2<|djs<|mm1 (Blk.lt hB1) G.s) (zt' V<|lt_ (lt_ G.s h1.s) h2.s) hBg (a0.g aJ) (a1.g aJ) Y W ab ad ae (af.g hw) (ai.g hw) (aj.g hw) (hu.g hw) au) ?_;rintro _ ba ⟨bb,rfl,bc,be,bf⟩;refine Rw z ?_
  obtain rfl:=som aR;exact Wr<|rtO<|a_ hr z ⟨(cM (cM (g_ (g_ (cr [g1] w0) G:Chg (· ∈ [g1]) w0 H) h1:Chg (· ∈ [g1]) w0 wg) h2 (mor G.s:∀k∈[H.z],k∈[g1]∨w0.z<=k):Chg (· ∈ [g1]) w0 O) bb (io sr):Chg (· ∈ [g1]) w0 ba),z,bc,be,bf⟩
 refine Wq ?_;obtain ⟨bg,ax,ay⟩:=bdS<|ifF aw a5;refine Wt (fun a w=>∃(al:Bool),al=bg/\Sat 97 [(0,pt g1),(1,Str.v x2),(5,pt H.z),(33,vB al)] a/\Below O.z O w) ?_ ?_
 ·refine Wg<|Rf z a_a z<|R z (l0 g_3 z<|ha.at z)<|Rq z z z<|Rm z ?_
  rcases bs (xe.kind==7) with hcb | hcb
  ·exact Rh z hcb (mv z)<|Rh z hcb (b_6 z z)<|R z (pT z hcb z)<|Ra z<|Wl (fun _ q=>⟨x2.b==(⟨[42]⟩:Str).b,som<|ifT ax hcb,q.k<|s4 z z z z,br O⟩)
  exact Nh z hcb<|Nh z hcb<|R z (pF z hcb z)<|Ra z<|Wl (fun _ q=>⟨false,som<|ifF ax hcb,q.k<|s4 z z z z,br O⟩)
 rintro bh wf ⟨al,rfl,_,s5⟩;revert bh;refine Wo<|Wc z (fun a6=>?_) (fun a6=>?_)
 ·refine Wm z<|R z (lN (vs:=vR xe ah ni cj ak nl cm an no cp aq nr cs) D_ l_ z z fid<|(ha.e s5).row 0 8 z) ?_
  have aK:∀k∈[H.z],¬B k:=or0 (f_ lr)<|q_<|zt' V G.s;have aL:=(((G.ag B).e h1).c h2<|e_ aK).e s5;have hx:=((h1.ag B).c h2<|e_ aK).e s5;obtain ⟨_,_,_,bi,aS⟩:=P_<|ifT ay a6;refine E z (fc call89 z<|W_w34 (B:=B) bi (((L.e h1).c h2<|djs<|mm1 (Blk.lt hB1) G.s).e s5) (zt' V<|lt_ (lt_ (lt_ G.s h1.s) h2.s) s5.s) hBg (a0.g aL) (a1.g aL) Y W ab ad ae (af.g hx) (ai.g hx) (aj.g hx)<|hu.g hx) ?_;rintro _ bj ⟨bk,rfl,bm,bn,bo⟩;refine Rw z ?_
  obtain rfl:=som aS;exact Wr<|rtO<|a_ hr z ⟨(cM (g_ (cM (g_ (g_ (cr [g1] w0) G:Chg (· ∈ [g1]) w0 H) h1:Chg (· ∈ [g1]) w0 wg) h2 (mor G.s:∀k∈[H.z],k∈[g1]∨w0.z<=k):Chg (· ∈ [g1]) w0 O) s5:Chg (· ∈ [g1]) w0 wf) bk (io sr):Chg (· ∈ [g1]) w0 bj),z,bm,bn,bo⟩
 refine Wq ?_;obtain ⟨bp,az,aT⟩:=bdS<|ifF ay a6;refine Wt (fun a w=>∃(am:Bool),am=bp/\Sat 97 [(0,pt g1),(1,Str.v x2),(5,pt H.z),(44,vB am)] a/\Below wf.z wf w) ?_ ?_
 ·refine Wg<|Rf z a_a z<|R z (l0 g_3 z<|(ha.e s5).at z)<|Rq z z z<|Rm z ?_
  rcases bs (xe.kind==8) with hcc | hcc
  ·exact Rh z hcc (mv z)<|Rh z hcc (b_6 z z)<|R z (pT z hcc z)<|Ra z<|Wl (fun _ q=>⟨x2.b==(⟨[63]⟩:Str).b,som<|ifT az hcc,q.k<|s4 z z z z,br wf⟩)
  exact Nh z hcc<|Nh z hcc<|R z (pF z hcc z)<|Ra z<|Wl (fun _ q=>⟨false,som<|ifF az hcc,q.k<|s4 z z z z,br wf⟩)
 rintro bq J ⟨am,rfl,_,s7⟩;revert bq;refine Wo ?_;obtain ⟨bt,aA,a7⟩:=bdS aT;refine Wt (fun a w=>∃(xt:Int),Sum.inl xt=bt/\Sat 97 [(0,pt g1),(5,pt H.z)] a/\Chg (· ∈ [g1]) J w/\inI xt/\Blk w g1 [sl A0 N0 C0,sl A5 N5 C5,vI x1.rule,vI xt]) ?_ ?_
 ·refine Wc z (fun a8=>?_)<|fun a8=>?_
  ·refine Wq<|Wq ?_
   obtain ⟨bu,aB,aC⟩:=bdS<|ifT aA a8;refine Wt (fun a w=>∃(ao:Bool),ao=bu/\Sat 97 [(0,pt g1),(5,pt H.z),(74,vB ao)] a/\Below J.z J w) ?_ ?_
   ·refine Wd (X:=noX) 0 (pl_ 23 []) mo (by kernel_rfl) fun bS sy _=>dM z z z<|dR z z (A_ z)<|dR z z (fd c_Q z) ?_
    have hz:=((((L.e h1).c h2<|djs<|mm1 (Blk.lt hB1) G.s).e s5).e s7).e sy;refine dR z z (l0 g_3 z<|hz.at z)<|dM z z z<|dR z z (A_ z)<|dR z z (fd h_U z)<|dR z z (l0 O_ z<|hz.at z) ?_
    have aM:=a1.g<|(((((G.ag B).e h1).c h2<|e_ (or0 (f_ lr) (q_<|zt' V G.s):∀k∈[H.z],¬B k)).e s5).e s7).e sy
    refine dR z z (lnR k_ z aM)<|dR z z (b_m z z)<|dM z z z ?_
    rcases bs (decide<|(x1.b.length:Int)<=x1.at_) with I | I
    ·iterate 11 refine dRn z z z I z ?_
     exact dR z z (pT z I z)<|pD (fun _ q=>⟨true,som<|ifT aB I,q.k<|s3 z z z,sy⟩)
    refine dRg z z z I z (mv z)<|dRg z z z I z (A_ z)<|dRg z z z I z (fd h_U z)<|dRg z z z I z (l0 O_ z<|hz.at z)<|dRg z z z I z (mv z)<|dRg z z z I z (A_ z)<|dRg z z z I z (fd c_Q z)<|dRg z z z I z (l0 g_3 z<|hz.at z) ?_
    obtain ⟨bv,bw,aU⟩:=bdS<|ifF aB I;refine b_M z z z I z (at_ (α:=UInt8) k_ z_5 z z z aM bw) ?_;rintro _ ⟨_,_,_,rfl,bx,bz,_⟩;obtain rfl:=u8 bz;exact dRg z z z I z (l0 g_5 z<|bx.at0 z)<|dRg z z z I z (nq z z)<|dR z z (pF z I z)<|pD (fun _ q=>⟨(byteI bv) != (byteI (1:UInt8)),som aU,q.k<|s3 z z z,sy⟩)
   rintro bA aN ⟨ao,rfl,_,a2⟩;revert bA;refine Wo<|Wc z (fun a9=>?_) (fun a9=>?_)
   ·refine Ws<|Rw z ?_
    obtain rfl:=som<|ifT aC a9;have aV:=elR a7;obtain rfl:=som aV;exact Wr<|rtO<|a_ hr z ⟨(g_ (g_ (g_ (cM (g_ (g_ (cr [g1] w0) G:Chg (· ∈ [g1]) w0 H) h1:Chg (· ∈ [g1]) w0 wg) h2 (mor G.s:∀k∈[H.z],k∈[g1]∨w0.z<=k):Chg (· ∈ [g1]) w0 O) s5:Chg (· ∈ [g1]) w0 wf) s7:Chg (· ∈ [g1]) w0 J) a2:Chg (· ∈ [g1]) w0 aN),z,Y,W,((((L.e h1).c h2<|djs<|mm1 (Blk.lt hB1) G.s).e s5).e s7).e a2⟩
   refine Wk<|Wg<|Rm z<|R z (A_ z)<|Rf z c_Q z ?_
   have aO:=((((L.e h1).c h2<|djs<|mm1 (Blk.lt hB1) G.s).e s5).e s7).e a2;refine R z (l0 g_3 z<|aO.at z)<|R z (add_ z z)<|R z (A_ z)<|Rf z c_Q z<|E0 (fs0 (cur':=[sl A0 N0 C0,sl A5 N5 C5,vI x1.rule,vI<|j_ x1.at_ 1]) z_3 z z aO z z z z) ?_
   rintro _ bB ⟨bC,bD⟩;refine Wl ?_;exact fun _ q=>⟨j_ x1.at_ 1,som<|ifF aC a9,q.k<|s2 z z,(cM (g_ (cr [g1] J) a2:Chg (· ∈ [g1]) J aN) bD.one (io sr):Chg (· ∈ [g1]) J bB),iA _ _,bC⟩
  refine Wq ?_;obtain ⟨bE,aD,aE⟩:=bdS<|ifF aA a8;refine Wt (fun a w=>∃(ap:Bool),ap=bE/\Sat 97 [(0,pt g1),(5,pt H.z),(82,vB ap)] a/\Below J.z J w) ?_ ?_
  ·refine Wg<|Rf z a_a z<|R z (l0 g_3 z<|((ha.e s5).e s7).at z)<|Rq z z z<|Rm z ?_
   rcases bs (xe.kind==9) with hcd | hcd
   ·exact Rh z hcd (mv z)<|Rh z hcd (b_6 z z)<|R z (pT z hcd z)<|Ra z<|Wl (fun _ q=>⟨x2.b==(⟨[43]⟩:Str).b,som<|ifT aD hcd,q.k<|s3 z z z,br J⟩)
   exact Nh z hcd<|Nh z hcd<|R z (pF z hcd z)<|Ra z<|Wl (fun _ q=>⟨false,som<|ifF aD hcd,q.k<|s3 z z z,br J⟩)
  rintro bF aP ⟨ap,rfl,_,a3⟩;revert bF;refine Wo<|Wc z (fun aa=>?_) (fun aa=>?_)
  ·refine a_f ?_;exact fun _ q=>⟨x1.at_,som<|ifT aE aa,q.k<|s2 z z,(g_ (cr [g1] J) a3:Chg (· ∈ [g1]) J aP),W,((((L.e h1).c h2<|djs<|mm1 (Blk.lt hB1) G.s).e s5).e s7).e a3⟩
  refine Ws<|Rw z ?_
  obtain rfl:=som<|ifF aE aa;have aW:=elR a7;obtain rfl:=som aW;exact Wr<|rtO<|a_ hr z ⟨(g_ (g_ (g_ (cM (g_ (g_ (cr [g1] w0) G:Chg (· ∈ [g1]) w0 H) h1:Chg (· ∈ [g1]) w0 wg) h2 (mor G.s:∀k∈[H.z],k∈[g1]∨w0.z<=k):Chg (· ∈ [g1]) w0 O) s5:Chg (· ∈ [g1]) w0 wf) s7:Chg (· ∈ [g1]) w0 J) a3:Chg (· ∈ [g1]) w0 aP),z,Y,W,((((L.e h1).c h2<|djs<|mm1 (Blk.lt hB1) G.s).e s5).e s7).e a3⟩
 rintro bG bH ⟨xt,rfl,_,ar,bI,bJ⟩;have aX:=elL a7;revert bG;refine Wo<|Wm z<|Rf z G_ z<|R z (l0 u_ z<|(((ha.e s5).e s7).c ar<|atp<|mm1 (Blk.lt hB1) G.s).at z) ?_
 obtain ⟨bK,bL,aY⟩:=bdS aX;refine RX z (at_ (α:=Int) o_ z_3 z z z (hu.g<|((((h1.ag B).c h2<|e_ (or0 (f_ lr) (q_<|zt' V G.s):∀k∈[H.z],¬B k)).e s5).e s7).c ar<|e_<|f_ hBg) bL) ?_;rintro _ ⟨_,_,_,rfl,bM,bN,_⟩;obtain ⟨rfl,bO⟩:=J_ bN;refine R z (l0 g_3 z<|bM.at0 z)<|R z (A_ z)<|Rf z e_g z<|E0 (fs0 (cur':=[sl A0 N0 C0,sl A5 N5 C5,vI bK,vI xt]) z_3 z z bJ z z z z) ?_
 rintro _ bP ⟨bQ,bR⟩;refine Wn<|Ws<|Rw z ?_
 obtain rfl:=som aY;exact Wr<|a_ hr z ⟨(cM (cM (g_ (g_ (cM (g_ (g_ (cr [g1] w0) G:Chg (· ∈ [g1]) w0 H) h1:Chg (· ∈ [g1]) w0 wg) h2 (mor G.s:∀k∈[H.z],k∈[g1]∨w0.z<=k):Chg (· ∈ [g1]) w0 O) s5:Chg (· ∈ [g1]) w0 wf) s7:Chg (· ∈ [g1]) w0 J) ar (io sr):Chg (· ∈ [g1]) w0 bH) bR.one (io sr):Chg (· ∈ [g1]) w0 bP),z,bO,bI,bQ⟩
theorem W_w36 {x1:d_}{x2:List UInt8}{x3:Str}{res:a_p×Bool}(hm:g_q n x1 x2 x3=some res)(O:B<=w0.z)(V:repS w0 B (sl A0 N0 C0) x1.rules)(W:repS w0 B (sl A6 N6 C6) x2)(Y:x3.b.length<=LEN):i_ prog 28 [(.agg #[sl A0 N0 C0]),sl A6 N6 C6,Str.v x3] w0 (Q15 w0 B res):=by
 unfold g_q at hm
 refine goG func28 z z z fun fn hr=>Ws<|E z (fb z) ?_
 rintro _ wj ⟨rfl,hz⟩;have h3:=hz.below;have a7:Blk wj w0.z [sl A0 N0 C0]:=hz.blk;refine E z (fa g_G) ?_;rintro _ aI ⟨rfl,a8⟩;have L:=a8.below;have hd:Blk aI wj.z [(Str.v (⟨[]⟩:Str)),vI 0,vI 0,vI 0]:=a8.blk;refine Rw z<|Wm z ?_
 have hn:=lt_ h3.s L.s;obtain ⟨aJ,aK,aL,ay⟩:=a_m hm;refine E z (fc call59 z<|W_w2s aL (zt' O hn) Y) ?_;rintro _ wo ⟨G,a9,aa,ab,_,rfl,hk,_,_⟩;refine Rm z<|Re z z z<|Re z z z<|Ra z<|Rw z<|Wq<|Wq ?_
 obtain ⟨aM,a0,a1⟩:=bdS ay;refine Wt (fun a w=>∃(xp:Bool),xp=aM/\Sat 73 [(1,sl A6 N6 C6),(2,Str.v x3),(3,pt w0.z),(6,pt wj.z),(8,sl a9 aa ab),(30,vB xp)] a/\Below wo.z wo w) ?_ ?_
 ·refine Wg<|Rm z<|R z (not_ z)<|Rm z ?_
  rcases bs (!aK) with hca | hca
  ·iterate 3 refine Nh z hca ?_
   exact R z (pT z hca z)<|Rm z<|Nh z z<|Nh z z<|Nh z z<|R z (pT z z z)<|Wl (fun _ q=>⟨true,som<|ifT a0 hca,q.k<|s6 z z z z z z,br wo⟩)
  refine Rh z hca (lN (vs:=[sl A0 N0 C0]) B_ z_ z z fid<|((a7.e L).e G).row 0 1 z) ?_;have ad:=((h3.ag B).e L).e G;obtain ⟨aN,aO,a2⟩:=bdS<|ifF a0 hca;refine Eg z z hca z (fc call60 z<|W_w17 aO (zt' O<|lt_ hn G.s)<|V.g ad) ?_;rintro _ _ ⟨sq,rfl⟩;refine Rh z hca (not_ z)<|R z (pF z hca z)<|Rm z ?_
  rcases bs (!aN) with hcb | hcb
  ·iterate 3 refine Nh z hcb ?_
   exact R z (pT z hcb z)<|Wl (fun _ q=>⟨true,som<|ifT a2 hcb,q.k<|s6 z z z z z z,sq⟩)
  exact Rh z hcb (mv z)<|Rh z hcb (lnR k_ z<|W.g<|ad.e sq)<|Rh z hcb (a_3 z z)<|R z (pF z hcb z)<|Wl (fun _ q=>⟨decide<|400<(x2.length:Int),som<|ifF a2 hcb,q.k<|s6 z z z z z z,sq⟩)
 rintro aP _ ⟨xp,rfl,_,s1⟩;revert aP;refine Wo<|Wc z (fun hcr=>?_) (fun hcr=>?_)
 ·refine Ws<|R z (bP (parts:=[]) (cs:=[(Str.v (⟨[]⟩:Str)),vI 0,vI 0,vI 0]) d_L z z)<|E0 (fs0 (cur':=[(Str.v (⟨[]⟩:Str)),vI 0,vI 0,vI 0]) b_a z z ((hd.e G).e s1) z z z z) ?_
  rintro _ _ ⟨aQ,aR⟩;refine Rw z ?_
  obtain rfl:=som<|ifT a1 hcr;exact Wr<|a_4 hr (n_ d_K b_a z aQ z) z ⟨bM (bup (bup (bup h3 L) G) s1) aR.one<|m1 h3.s,z,lb z,ii z,ii z,ii z⟩
 refine Wk<|Wq (Wd (X:=noX) 0 (pl_ 7 [3,5]) mo (by kernel_rfl) fun bj s5 _=>?_)
 have ae:=(((a7.e L).e G).e s1).e s5;refine dR z z (lN (vs:=[sl A0 N0 C0]) B_ z_ z z fid<|ae.row 0 1 z)<|dM z z z<|dR z z (lN (vs:=[sl A0 N0 C0]) B_ z_ z z fid<|ae.row 0 1 z) ?_
 have ht:=((((h3.ag B).e L).e G).e s1).e s5;have hu:=lt_ (lt_ (lt_ hn G.s) s1.s) s5.s;obtain ⟨af,aS,az⟩:=bdS<|ifF a1 hcr;refine dE z z (fc call61 z<|W_w2x aS (zt' O hu)<|V.g ht) (.inr fun _ _ h=>H_<|h.1) ?_;rintro _ H ⟨s4,rfl,aT⟩;refine dR z z (bP (parts:=[(0,.tmp 32),(1,.tmp 33),(2,.tmp 35)]) (cs:=[sl A0 N0 C0,sl A6 N6 C6,vI af,vI 0]) q_B z z)<|dE z z (fb z) (.inr fun _ _ h=>H_<|h.2.below) ?_
 rintro _ wc ⟨rfl,ah⟩;have h6:=ah.below;refine dQ z z z<|pD<|Wo<|Wq<|Wm z ?_
 have ai:=(((hk.e s1).e s5).e s4).e h6;refine R z (lnR R_ z<|or_ ai<|c_.lt hk)<|Rm z<|Wn ?_
 obtain ⟨_,aA,a3⟩:=bdS az;refine Wf (σ:=Int×Int) (ρ:=a_p×Bool) (fun (aj:Nat) s a w=>un2 (fun I J=>Sat 73 [(2,Str.v x3),(6,pt wj.z),(10,pt H.z),(38,sl a9 aa ab),(39,vI (aJ.length:Int)),(40,vI ((aj:Nat):Int))] a/\Chg (· ∈ [H.z]) wc w/\inI I/\inI J/\Blk w H.z [sl A0 N0 C0,sl A6 N6 C6,vI I,vI J]) s) (fun s a w=>un2 (fun I J=>Sat 73 [(2,Str.v x3),(6,pt wj.z),(10,pt H.z)] a/\Chg (· ∈ [H.z]) wc w/\inI I/\inI J/\Blk w H.z [sl A0 N0 C0,sl A6 N6 C6,vI I,vI J]) s) (rQ prog fn<|Q15 w0 B) aA ?_ ?_ ?_ ?_ ?_
 ·exact fun _ q=>⟨q.k<|s6 z z z z z z,cr [H.z] wc,aT,ii z,(ah.blk:Blk wc H.z [sl A0 N0 C0,sl A6 N6 C6,vI af,vI 0])⟩
 ·rintro aj ⟨I,J⟩ _ aU _ a4 ⟨aB,sg,he,hh,hf⟩ aC;refine Wu ?_ aB;refine Ws<|Rl z z z<|Wn<|Wq<|Wc z (fun _=>?_) (fun hc=>(T_ a4 hc).elim)
  refine Wk<|Wq<|Wb<|Ws ?_
  obtain ⟨_,aV,aD⟩:=bdS<|a_I aC;refine RX z (at_ (α:=Str) R_ z_9 z z z (or_ (ai.c sg<|ds<|mno (c_.lt hk)<|lt_ (lt_ s1.s s5.s) s4.s)<|c_.lt hk) aV) ?_;rintro _ ⟨_,_,_,rfl,aW,aX,_⟩;obtain ⟨rfl,aY⟩:=a_U aX;refine R z (l0 g_9 z<|aW.at0 z)<|Rw z<|Wm z<|Rm z ?_
  have hv:=lt_ hu s4.s;have ak:∀k∈[H.z],¬B k:=or0 (f_ lr)<|q_<|zt' O hv;have al:=((ht.e s4).e h6).c sg<|e_ ak
  obtain ⟨_,aZ,b0,b1,a5⟩:=P_ aD;refine E z (fc call62 z<|W_w35 (B:=B) b1 hf (zt' O<|lt_ (lt_ hv h6.s) sg.s) (atp ak) (V.g al) (W.g al) he hh aY) ?_;rintro _ b2 ⟨ss,rfl,b3,b4,b5⟩;refine R z (not_ z)<|Wx z (fun hcw=>?_) (fun hcw=>?_)
  ·refine Ws<|R z (bP (parts:=[]) (cs:=[(Str.v (⟨[]⟩:Str)),vI 0,vI 0,vI 0]) d_L z z) ?_
   have am:=mm1 hd.lt<|lt_ (lt_ (lt_ G.s s1.s) s5.s) s4.s
   refine E0 (fs0 (cur':=[(Str.v (⟨[]⟩:Str)),vI 0,vI 0,vI 0]) b_a z z (((((((hd.e G).e s1).e s5).e s4).e h6).c sg<|djs am).c ss<|djs am) z z z z) ?_;rintro _ _ ⟨b6,b7⟩;refine Rw z ?_
   have an:=m1 hv;exact Wr<|rtO<|qL (som<|ifT a5 hcw).symm<|a_4 hr (n_ d_K b_a z b6 z) z ⟨bM (bM (bM (bup (bup (bup (bup (bup (bup h3 L) G) s1) s5) s4) h6) sg an) ss an) b7.one<|m1 h3.s,z,lb z,ii z,ii z,ii z⟩
  refine Wk<|Wg<|R z (inc_ a4 (lt_ (c_.len hk) C_) z z)<|Rm z<|Wl ?_
  exact fun _ q=>⟨(aZ,b0),(som<|ifF a5 hcw).symm,⟨q.k<|s6 z z z z z z,(cM (cM (cr [H.z] wc) sg (io sr):Chg (· ∈ [H.z]) wc aU) ss (io sr):Chg (· ∈ [H.z]) wc b2),b3,b4,b5⟩⟩
 ·rintro ⟨I,J⟩ _ b8 ⟨aE,b9,he,hh,hf⟩;refine Wu ?_ aE;refine Ws<|Rl z z z<|Wn<|Wq<|Wc z (fun hc=>(U_ hc).elim) (fun _=>?_)
  exact We<|fun _ q=>⟨rfl,⟨q.k<|s3 z z z,(cM (cr [H.z] wc) b9 (io sr):Chg (· ∈ [H.z]) wc b8),he,hh,hf⟩⟩
 ·rintro ⟨I,J⟩ ba _ rfl ⟨_,si,he,hh,hf⟩;have aF:=elL a3;revert ba;refine Wo<|Wm z<|R z (A_ z)<|Rf z c_Q z<|R z (l0 g_3 z<|hf.at z)<|Rw z<|Wq<|Wm z<|Rm z<|R z (A_ z)<|Rf z e_g z<|R z (l0 g_3 z<|hf.at z) ?_
  have hl:=lt_ hu s4.s;have ao:∀k∈[H.z],¬B k:=or0 (f_ lr)<|q_<|zt' O hl;have ap:=((ht.e s4).e h6).c si<|e_ ao
  obtain ⟨_,aq,bb,a6⟩:=a_m<|a_I aF;refine E z (fc call63 z<|i_0 (B:=B) bb hf (zt' O<|lt_ (lt_ hl h6.s) si.s) (atp ao) (V.g ap) (W.g ap) he hh he) ?_;rintro _ _ ⟨sm,rfl,bc,be⟩;refine R z (not_ z)<|Wx z (fun hcx=>?_) (fun hcx=>?_)
  ·refine Ws<|R z (bP (parts:=[]) (cs:=[(Str.v (⟨[]⟩:Str)),vI 0,vI 0,vI 0]) d_L z z) ?_
   have ar:=mm1 hd.lt<|lt_ (lt_ (lt_ G.s s1.s) s5.s) s4.s
   refine E0 (fs0 (cur':=[(Str.v (⟨[]⟩:Str)),vI 0,vI 0,vI 0]) b_a z z (((((((hd.e G).e s1).e s5).e s4).e h6).c si<|djs ar).c sm<|djs ar) z z z z) ?_;rintro _ _ ⟨bf,bg⟩;refine Rw z ?_
   obtain rfl:=som<|ifT a6 hcx;have au:=m1 hl;exact Wr<|a_4 hr (n_ d_K b_a z bf z) z ⟨bM (bM (bM (bup (bup (bup (bup (bup (bup h3 L) G) s1) s5) s4) h6) si au) sm au) bg.one<|m1 h3.s,z,lb z,ii z,ii z,ii z⟩
  refine Wk<|Wq (Wd (X:=noX) 2048 (pl_ 13 [11]) mo (by kernel_rfl) fun bk sy _=>dM z z z<|dM z z z<|dR z z (A_ z)<|dR z z (fd e_g z) ?_)
  have av:=be.e sy;refine dR z z (l0 g_3 z<|av.at z)<|dM z z z<|dM z z z<|dR z z (A_ z)<|dR z z (fd c_Q z)<|dR z z (l0 g_3 z<|av.at z)<|dR z z (bP (parts:=[(0,.tmp 62),(1,.tmp 66),(2,.tmp 67),(3,.tmp 71)]) (cs:=[Str.v x3,vI I,vI J,vI aq]) d_L z z) ?_
  have aw:=mm1 hd.lt<|lt_ (lt_ (lt_ G.s s1.s) s5.s) s4.s
  refine dE0 z (fs0 (cur':=[Str.v x3,vI I,vI J,vI aq]) b_a z z ((((((((hd.e G).e s1).e s5).e s4).e h6).c si<|djs aw).c sm<|djs aw).e sy) z z z z) (.inl z) ?_;rintro _ _ ⟨bh,bi⟩;refine dQ z z z<|pD<|Wo ?_
  obtain rfl:=som<|ifF a6 hcx;have ax:=m1 hl;exact Wr<|a_4 hr (n_ d_K b_a z bh z) z ⟨bM (bup (bM (bM (bup (bup (bup (bup (bup (bup h3 L) G) s1) s5) s4) h6) si ax) sm ax) sy) bi.one<|m1 h3.s,z,Y,he,hh,bc⟩
 rintro _ _ _ _ rfl ⟨rfl,aG⟩;have aH:=elR a3;obtain rfl:=som aH;exact ⟨aG,z⟩
def Q26 (w0:World)(B:Zone)(r:(Option<|Int×Int))(v:Value)(w':World):Prop:=Bw w0 w'/\(fun G=>∃(v1:Value)(S1:List Nat),v1=v/\a_n 105 w' S1 v1 G/\(∀k∈S1,w0.z<=k)) r
theorem d_O {x1:Int}{x2:Int}{res:(Option<|Int×Int)}(hm:b_x x1 x2=some res)(L:B<=w0.z)(H:inI x1)(I:inI x2):i_ prog 101 [vI x1,vI x2] w0 (Q26 w0 B res):=by
 unfold b_x at hm
 refine goG func101 z z z fun fn hr=>Ws<|Rw z<|Wm z<|Rm z<|R z (bP (parts:=[(0,.tmp 5),(1,.tmp 6)]) (cs:=[vI x1,vI x2]) q_r z z)<|E z (fb z) ?_
 rintro _ J ⟨rfl,G⟩;refine R z (c_H d_105 (fun _ h=>by cases h) z)<|Rw z ?_
 obtain rfl:=som hm;exact Wr<|a_ hr z ⟨G.below,.iface 105<|pt w0.z,[w0.z],z,n_k (G.blk:Blk J w0.z [vI x1,vI x2]) H I z,f_ lr⟩
def Q27 (w0:World)(B:Zone)(r:(List UInt8)×(Option<|Int×Int))(v:Value)(w':World):Prop:=Bw w0 w'/\un2 (fun J L=>∃(G:Option Addr)(H I:Nat)(v2:Value)(S2:List Nat),v = .tuple #[sl G H I,v2]/\repS w' w'.z (sl G H I) J/\a_n 105 w' S2 v2 L/\(∀k∈S2,w0.z<=k)) r
theorem i_1 {x1:a_g}{b1 o1:Nat}{x2:Int}{x3:Int}{res:(List UInt8)×(Option<|Int×Int)}(hm:d_I x1 x2 x3=some res)(I:B<=w0.z)(a0:repS w0 B (sl A0 N0 C0) x1.d.rules)(H:repS w0 B (sl A5 N5 C5) x1.b)(hC1:I_ w0 b1 o1 [sl A0 N0 C0,sl A5 N5 C5])(hC1b:B b1)(J:inI x2)(a1:inI x3):i_ prog 124 [(.pointer<|some ⟨b1,o1,none⟩),vI x2,vI x3] w0 (Q27 w0 B res):=by
 unfold d_I at hm
 refine goG func124 z z z fun fn hr=>Ws<|Ra z<|Rw z<|Wq<|Wm z<|Rm z<|R z (A_ z)<|Rf z f_3 z<|R z (l0 O_ z<|hC1.at (j:=1) z)<|R z (lnR k_ z H)<|Rm z<|R z (sb_ z z)<|R z (a_3 z z)<|Wx z (fun G=>?_) (fun G=>?_)
 ·refine Wm z ?_
  obtain ⟨_,V,L⟩:=bdS<|ifT hm G;refine E z (fc call101 z<|d_O (B:=B) V I J<|ii z) ?_;rintro _ _ ⟨s1,v4,W,rfl,h6,Y⟩;refine Ra z<|Rw z ?_
  obtain rfl:=som L;exact Wr<|a_4 hr z z ⟨s1,none,0,0,v4,W,z,repS.mono (or_ onL an_)<|a_1 s1.s,h6,Y⟩
 refine Wk<|Wm z<|R z (A_ z)<|Rf z f_3 z<|R z (l0 O_ z<|hC1.at (j:=1) z)<|RM z z<|Rm z<|R z (add_ z z) ?_
 obtain ⟨_,e8,O⟩:=bdS<|ifF hm G;refine RX z (rX k_ z_5 z z H z z e8) ?_;rintro _ ⟨aa,nb,cc,rfl,hd⟩;refine Ra z<|Rw z ?_
 obtain rfl:=som O;exact Wr<|a_4 hr z z ⟨br w0,aa,nb,cc,.nilIface,([]:List Nat),z,repS.mono hd I,d_m,an_⟩
def Q28 (w0:World)(B:Zone)(r:Int×Int×(Option<|Int×Int))(v:Value)(w':World):Prop:=Bw w0 w'/\un3 (fun G H I=>∃(v1:Value)(S1:List Nat),v = .tuple #[vI G,vI H,v1]/\inI G/\inI H/\a_n 105 w' S1 v1 I/\(∀k∈S1,w0.z<=k)) r
theorem i_2 {x1:a_g}{b1 o1:Nat}{x2:Int}{x3:Int}{res:Int×Int×(Option<|Int×Int)}(hm:d_J x1 x2 x3=some res)(L:B<=w0.z)(I:repS w0 B (sl A0 N0 C0) x1.d.rules)(a0:repS w0 B (sl A5 N5 C5) x1.b)(hC1:I_ w0 b1 o1 [sl A0 N0 C0,sl A5 N5 C5])(hC1b:B b1)(ab:inI x2)(J:inI x3):i_ prog 92 [(.pointer<|some ⟨b1,o1,none⟩),vI x2,vI x3] w0 (Q28 w0 B res):=by
 unfold d_J at hm
 refine goG func92 z z z fun fn hr=>Ws<|RA z z<|Rw z<|Wm z<|R z (A_ z)<|Rf z m_b z<|Rf z a_5 z<|R z (l0 a_9 z<|hC1.at (j:=0) z)<|Rm z ?_
 obtain ⟨x5,eq,hmr⟩:=bdS hm;refine RX z (at_ (α:=b_) Z_ l_ z z z I eq) ?_;rintro _ ⟨_,_,_,rfl,ht,hu,_⟩;obtain ⟨O,V,W,Y,na,cb,ac,nd,ce,af,ng,ch,rfl,_,_,hv,_,_,_,_⟩:=a_u hu;refine R z (lN (vs:=vR x5 O V W Y na cb ac nd ce af ng ch) D_ l_ z z fid ht)<|E z (fa b_H) ?_
 rintro _ ws ⟨rfl,hi⟩;have G:=hi.below;refine E0 (fs0 (cur':=vR x5 O V W Y na cb ac nd ce af ng ch) l_ z z (hi.blk:Blk ws w0.z [(Str.v (⟨[]⟩:Str)),vI 0,vI 0,vB false,sl none 0 0,sl none 0 0,sl none 0 0,sl none 0 0]) z z z z) ?_;rintro _ _ ⟨hj,sx⟩;have h1:=sx.one;refine Wn<|Wm z<|Rm z<|Rf z a_w z<|R z (l0 g_3 z<|hj.at z) ?_
 have hk:∀k∈[w0.z],¬B k:=or0 (f_ lr)<|q_ L;have hl:=(G.ag B).c h1<|e_ hk
 have hn:=lt_ G.s h1.s;obtain ⟨_,_,ey,hmm⟩:=a_m hmr;refine E z (fc call124 z<|i_1 ey (zt' L hn) (I.g hl) (a0.g hl) ((hC1.e G).c h1<|(e_ hk) _ hC1b) hC1b J hv) ?_;rintro _ wz ⟨s3,_,_,_,a2,a3,rfl,a4,ho,a5⟩;refine Rm z<|Re z z z<|Re z z z<|Ra z<|Rw z<|Wq<|Wm z<|R z (c_W d_d z z ho)<|Wx z (fun H=>?_) (fun H=>?_)
 ·refine Wm z<|Rm z<|RA z z<|Rw z ?_
  obtain rfl:=som<|ifT hmm H;exact Wr<|x_ hr z z z ⟨bup (bM G h1<|f_ lr) s3,a2,a3,z,ii z,J,ho,w_ a5 hn⟩
 refine Wk<|Wq (Wd (X:=noX) 0 (.rd 0<|.rd 1<|.rd 2<|.rd 4<|.rd 5<|.rd 6<|.rd 7<|.ef 3<|.rd 8<|.rd 9<|.rd 10 .done) mo (by kernel_rfl) fun ad s2 _=>dM z z z<|dR z z (fd c_B z) ?_)
 have hp:=(hj.e s3).e s2;refine dR z z (l0 g_4 z<|hp.at z)<|dM z z z<|dR z z (fd a_w z)<|dR z z (l0 g_3 z<|hp.at z)<|dR z z (add_ z z) ?_
 obtain ⟨_,a7,a1⟩:=bdS<|ifF hmm H;refine dE z z (fc call125 z<|j_T (B:=wz.z) a7 (a_1 s2.s)<|a4.e s2) (.inr fun _ _ h=>H_<|h.1) ?_;rintro _ _ ⟨a8,rfl,aa⟩
 iterate 3 refine dQ z z z ?_
 refine pD<|Wo ?_
 obtain rfl:=som a1;exact Wr<|x_ hr z z z ⟨bup (bup (bup (bM G h1<|f_ lr) s3) s2) a8,.nilIface,([]:List Nat),z,aa,iA _ _,d_m,an_⟩
def Q29 (w0:World)(B:Zone)(r:Int×(Option<|Int×Int))(v:Value)(w':World):Prop:=Bw w0 w'/\un2 (fun G H=>∃(v1:Value)(S1:List Nat),v = .tuple #[vI G,v1]/\inI G/\a_n 105 w' S1 v1 H/\(∀k∈S1,w0.z<=k)) r
theorem W_w37 {x1:a_g}{b1 o1:Nat}{x2:b_}{x3:Int}{res:Int×(Option<|Int×Int)}(hm:g_r x1 x2 x3=some res)(V:B<=w0.z)(ad:repS w0 B (sl A0 N0 C0) x1.d.rules)(a0:repS w0 B (sl A5 N5 C5) x1.b)(hC1:I_ w0 b1 o1 [sl A0 N0 C0,sl A5 N5 C5])(hC1b:B b1)(ae:x2.name.b.length<=LEN)(af:inI x2.kind)(ah:inI x2.size)(I:repS w0 B (sl A2 N2 C2) x2.bytes)(ai:repS w0 B (sl A3 N3 C3) x2.names)(aj:repS w0 B (sl A1 N1 C1) x2.tags)(ak:repS w0 B (sl A4 N4 C4) x2.kids)(J:inI x3):i_ prog 93 [(.pointer<|some ⟨b1,o1,none⟩),.agg #[Str.v x2.name,vI x2.kind,vI x2.size,vB x2.little,sl A2 N2 C2,sl A3 N3 C3,sl A1 N1 C1,sl A4 N4 C4],vI x3] w0 (Q29 w0 B res):=by
 unfold g_r at hm
 refine goG func93 z z z fun fn hr=>Ws<|E z (fb z) ?_
 rintro _ H ⟨rfl,h6⟩;have G:=h6.below;have Y:Blk H w0.z (vR x2 A2 N2 C2 A3 N3 C3 A1 N1 C1 A4 N4 C4):=h6.blk;refine Ra z<|Rw z<|Wq<|Ws<|Rf z a_T z<|R z (l0 O_ z<|Y.at z)<|R z (lnR k_ z<|I.e G)<|Rm z<|Wn ?_
 obtain ⟨_,hui,W⟩:=bdS hm;refine Wf (σ:=Unit) (ρ:=Int×(Option<|Int×Int)) (fun (k9:Nat)(_:Unit) a w=>Sat 52 [(0,.pointer<|some ⟨b1,o1,none⟩),(2,vI x3),(4,pt w0.z),(11,sl A2 N2 C2),(12,vI (x2.bytes.length:Int)),(13,vI ((k9:Nat):Int))] a/\Below H.z H w) (fun (_:Unit) a w=>Sat 52 [(2,vI x3),(4,pt w0.z)] a/\Below H.z H w) (rQ prog fn<|Q29 w0 B) hui ?_ ?_ ?_ ?_ ?_
 ·exact fun _ q=>⟨q.k<|s6 z z z z z z,br H⟩
 ·rintro k9 _ _ _ _ hka ⟨hSj,s1⟩ hmk;refine Wu ?_ hSj;refine Ws<|Rl z z z<|Wn<|Wq<|Wc z (fun _=>?_) (fun hc=>(T_ hka hc).elim)
  refine Wk<|Wq<|Wb<|Wm z ?_
  obtain ⟨_,el,hmb⟩:=bdS hmk;have hd:=(G.ag B).e s1;refine RX z (at_ (α:=UInt8) k_ z_5 z z z (I.g hd) el) ?_;rintro _ ⟨_,_,_,rfl,hn,ho,_⟩;obtain rfl:=u8 ho;refine R z (l0 g_5 z<|hn.at0 z)<|Ra z<|Rw z<|Wq<|Wm z<|Rm z<|R z (add_ z z)<|Rm z<|R z (A_ z)<|Rf z f_3 z ?_
  have he:=(hC1.e G).e s1;refine R z (l0 O_ z<|he.at (j:=1) z) ?_;have hf:=a0.g hd;refine R z (lnR k_ z hf)<|R z (b_m z z)<|Wx z (fun L=>?_) (fun L=>?_)
  ·refine Wm z<|Rm z ?_
   have hg:=lt_ G.s s1.s;obtain ⟨_,em,hmp⟩:=bdS<|ifT hmb L;refine E z (fc call101 z<|d_O em (zt' V hg) J<|ii z) ?_;rintro _ _ ⟨sq,vr,Ss,rfl,ht,hu⟩;exact Ra z<|Rw z<|Wr<|rtO<|qL (som hmp).symm<|a_4 hr z z ⟨bup (bup G s1) sq,vr,Ss,z,J,ht,w_ hu hg⟩
  refine Wk<|Wm z<|R z (A_ z)<|Rf z f_3 z<|R z (l0 O_ z<|he.at (j:=1) z)<|RM z z<|R z (add_ z z) ?_
  obtain ⟨_,ev,hmc⟩:=bdS<|ifF hmb L;refine RX z (at_ (α:=UInt8) k_ z_5 z z z hf ev) ?_;rintro _ ⟨_,_,_,rfl,hw,hx,_⟩;obtain rfl:=u8 hx;refine R z (l0 g_5 z<|hw.at0 z)<|Rm z<|R z (nq z z)<|Wx z (fun O=>?_) (fun O=>?_)
  ·refine Wm z<|RM z z<|R z (add_ z z) ?_
   have hh:=lt_ G.s s1.s;obtain ⟨_,ey,hmz⟩:=bdS<|ifT hmc O;refine E z (fc call101 z<|d_O ey (zt' V hh) (iA _ _)<|ii z) ?_;rintro _ _ ⟨a5,a6,a7,rfl,a8,a9⟩;exact Ra z<|Rw z<|Wr<|rtO<|qL (som hmz).symm<|a_4 hr z z ⟨bup (bup G s1) a5,a6,a7,z,J,a8,w_ a9 hh⟩
  exact Wk<|Wg<|R z (inc_ hka (lt_ (repS.len I) C_) z z)<|Rm z<|Wl (fun _ q=>⟨(),(som<|ifF hmc O).symm,⟨q.k<|s6 z z z z z z,s1⟩⟩)
 ·rintro _ _ _ ⟨a1,aa⟩;refine Wu ?_ a1;refine Ws<|Rl z z z<|Wn<|Wq<|Wc z (fun hc=>(U_ hc).elim) (fun _=>?_)
  exact We<|fun _ q=>⟨rfl,⟨q.k<|s2 z z,aa⟩⟩
 ·rintro _ ab _ rfl ⟨_,s5⟩;have a2:=elL W;revert ab;refine Wo<|Wm z<|Rf z a_T z<|R z (l0 O_ z<|(Y.e s5).at z)<|R z (lnR k_ z<|I.g<|(G.ag B).e s5)<|R z (add_ z z)<|Ra z<|Rw z ?_
  obtain rfl:=som a2;exact Wr<|a_4 hr z z ⟨bup G s5,.nilIface,([]:List Nat),z,iA _ _,d_m,an_⟩
 rintro _ _ _ _ rfl ⟨rfl,a3⟩;have a4:=elR W;obtain rfl:=som a4;exact ⟨a3,z⟩
def Q30 (w0:World)(B:Zone)(r:Val×Int×(Option<|Int×Int))(v:Value)(w':World):Prop:=Bw w0 w'/\un3 (fun G H W=>∃(I:Option Addr)(J L:Nat)(S1:List Nat)(a2:Option Addr)(O V:Nat)(S2:List Nat)(v3:Value)(S3:List Nat),v = .tuple #[(.agg #[vI G.number,sl I J L,sl a2 O V]),vI H,v3]/\inI G.number/\c_ w' S1 (sl I J L) G.bytes/\c_ w' S2 (sl a2 O V) G.items/\inI H/\a_n 105 w' S3 v3 W/\(∀k∈S3,w0.z<=k)/\(S1++S2).Nodup/\(∀k∈(S1++S2),w0.z<=k)) r
theorem W_w1f {x1:a_g}{b1 o1:Nat}{x2:Int}{x3:Int}{res:Val×Int×(Option<|Int×Int)}(hm:e_X x1 x2 x3=some res)(a2:B<=w0.z)(Y:repS w0 B (sl A0 N0 C0) x1.d.rules)(a0:repS w0 B (sl A5 N5 C5) x1.b)(hC1:I_ w0 b1 o1 [sl A0 N0 C0,sl A5 N5 C5])(hC1b:B b1)(O:inI x2)(a1:inI x3):i_ prog 94 [(.pointer<|some ⟨b1,o1,none⟩),vI x2,vI x3] w0 (Q30 w0 B res):=by
 unfold e_X at hm
 refine goG func94 z z z fun fn hr=>Ws<|E z (fa a_l) ?_
 rintro _ wk ⟨rfl,W⟩;have G:=W.below;have h2:Blk wk w0.z [vI 0,sl none 0 0,sl none 0 0]:=W.blk;refine Ra z<|Rw z<|Wm z<|RM z z ?_
 obtain ⟨_,_,el,V⟩:=a_m hm;refine E z (fc call124 z<|i_1 el (zt' a2 G.s) (Y.e G) (a0.e G) (hC1.e G) hC1b O a1) ?_;rintro _ _ ⟨s1,_,_,_,vm,Sn,rfl,ho,ha,hb⟩;refine Rm z<|Re z z z<|Re z z z<|Ra z<|Rw z<|Wq<|Wm z<|R z (c_W d_d z z ha)<|Wx z (fun H=>?_) (fun H=>?_)
 ·refine Ws<|R z (bP (parts:=[]) (cs:=[vI 0,sl none 0 0,sl none 0 0]) Y_ z z)<|RM z z<|E0 (fs0 (cur':=[vI 0,sl none 0 0,sl none 0 0]) h_ z z (h2.e s1) z z z z) ?_
  rintro _ _ ⟨hp,sq⟩;have hc:=sq.one;refine Ra z<|Rw z ?_
  obtain rfl:=som<|ifT V H;exact Wr<|x_ hr (n_ t_ h_ z hp z) z z ⟨bM (bup G s1) hc<|f_ lr,none,0,0,[],none,0,0,[],vm,Sn,z,ii z,onL,onL,O,ha.c hc<|s_ hb h2.lt lr,w_ hb G.s,nd0,al0⟩
 refine Wk<|Ws<|E z (f0 (α:=UInt8) b_q) ?_
 rintro _ _ ⟨_,_,_,rfl,s3,ht⟩;refine Rm z ?_;obtain ⟨_,er,hms⟩:=bdS<|ifF V H;refine E z (fN (α:=UInt8) b_q er z z ht b_l<|ho.e s3) ?_;rintro _ _ ⟨Sd,I,J,L,rfl,se,hu,hv,hf⟩;refine R z (bP (parts:=[(1,.tmp 25)]) (cs:=[vI 0,sl I J L,sl none 0 0]) Y_ z z)<|RM z z<|R z (add_ z z) ?_
 have hg:=mm1 h2.lt s1.s;refine E0 (fs0 (cur':=[vI 0,sl I J L,sl none 0 0]) h_ z z (((h2.e s1).e s3).c se<|djs hg) z z z z) ?_;rintro _ _ ⟨hw,sx⟩;have hh:=sx.one;refine Ra z<|Rw z ?_
 obtain rfl:=som hms;have hi:=lt_ G.s s1.s;have hj:=m1 hi;exact Wr<|x_ hr (n_ t_ h_ z hw z) z z ⟨bM (bM (bup (bup G s1) s3) se hj) hh<|f_ lr,I,J,L,Sd,none,0,0,[],.nilIface,([]:List Nat),z,ii z,hu.c hh (or1 hf hg (a_V (f_ h2.lt)<|lt_ s1.s s3.s):∀k∈Sd,k∉[w0.z]),onL,iA _ _,d_m,an_,na_ hv a_q<|nmN _,aa_ (c_i hf hj<|lt_ hi s3.s) an_⟩
def Q31 (w0:World)(B:Zone)(S2_1:List Nat)(S2_2:List Nat)(r:Val×Int×(Option<|Int×Int))(v:Value)(w':World):Prop:=Chg (· ∈ (S2_1++S2_2)) w0 w'/\un3 (fun G H W=>∃(I:Option Addr)(J L:Nat)(S1:List Nat)(a2:Option Addr)(O V:Nat)(S2:List Nat)(v3:Value)(S3:List Nat),v = .tuple #[(.agg #[vI G.number,sl I J L,sl a2 O V]),vI H,v3]/\inI G.number/\c_ w' S1 (sl I J L) G.bytes/\c_ w' S2 (sl a2 O V) G.items/\inI H/\a_n 105 w' S3 v3 W/\(∀k∈S3,w0.z<=k)/\(S1++S2).Nodup/\(∀k∈(S1++S2),k∈(S2_1++S2_2)∨w0.z<=k)) r
structure j_Z (f:a_g->Int->Int->Option (Val×Int×(Option<|Int×Int))):Prop where
  run:∀{A0 A5:Option Addr}{N0 C0 N5 C5 b1 o1:Nat}{B:Zone}{x1:a_g}{x2:Int}{x3:Int}{res:Val×Int×(Option<|Int×Int)}{w0:World}(hm:f x1 x2 x3=some res)(hBw:B<=w0.z)(p1_0:repS w0 B (sl A0 N0 C0) x1.d.rules)(p1_1:repS w0 B (sl A5 N5 C5) x1.b)(hC1:I_ w0 b1 o1 [sl A0 N0 C0,sl A5 N5 C5])(hC1b:B b1)(p2_0:inI x2)(p3_0:inI x3),i_ prog 65 [(.pointer<|some ⟨b1,o1,none⟩),vI x2,vI x3] w0<|Q30 w0 B res
structure k_0 (f:a_g->b_->Int->Option (Val×Int×(Option<|Int×Int))):Prop where
  run:∀{A0 A5 A2 A3 A1 A4:Option Addr}{N0 C0 N5 C5 b1 o1 N2 C2 N3 C3 N1 C1 N4 C4:Nat}{B:Zone}{x1:a_g}{x2:b_}{x3:Int}{res:Val×Int×(Option<|Int×Int)}{w0:World}(hm:f x1 x2 x3=some res)(hBw:B<=w0.z)(p1_0:repS w0 B (sl A0 N0 C0) x1.d.rules)(p1_1:repS w0 B (sl A5 N5 C5) x1.b)(hC1:I_ w0 b1 o1 [sl A0 N0 C0,sl A5 N5 C5])(hC1b:B b1)(p2_0:x2.name.b.length<=LEN)(p2_1:inI x2.kind)(p2_2:inI x2.size)(p2_4:repS w0 B (sl A2 N2 C2) x2.bytes)(p2_5:repS w0 B (sl A3 N3 C3) x2.names)(p2_6:repS w0 B (sl A1 N1 C1) x2.tags)(p2_7:repS w0 B (sl A4 N4 C4) x2.kids)(p3_0:inI x3),i_ prog 95 [(.pointer<|some ⟨b1,o1,none⟩),.agg #[Str.v x2.name,vI x2.kind,vI x2.size,vB x2.little,sl A2 N2 C2,sl A3 N3 C3,sl A1 N1 C1,sl A4 N4 C4],vI x3] w0<|Q30 w0 B res
structure k_1 (f:a_g->Val->(List Int)->Int->Option (Val×Int×(Option<|Int×Int))):Prop where
  run:∀{A0 A5 AE AG A7:Option Addr}{N0 C0 N5 C5 b1 o1 NE CE NG CG N7 C7:Nat}{S2_1 S2_2:List Nat}{B:Zone}{x1:a_g}{x2:Val}{x3:List Int}{x4:Int}{res:Val×Int×(Option<|Int×Int)}{w0:World}(hm:f x1 x2 x3 x4=some res)(hBw:B<=w0.z)(p1_0:repS w0 B (sl A0 N0 C0) x1.d.rules)(p1_1:repS w0 B (sl A5 N5 C5) x1.b)(hC1:I_ w0 b1 o1 [sl A0 N0 C0,sl A5 N5 C5])(hC1b:B b1)(p2_0:inI x2.number)(p2_1:c_ w0 S2_1 (sl AE NE CE) x2.bytes)(p2_1n:S2_1.Nodup)(p2_1g:∀k∈S2_1,¬B k)(p2_2:c_ w0 S2_2 (sl AG NG CG) x2.items)(p2_2n:S2_2.Nodup)(p2_2g:∀k∈S2_2,¬B k)(p2_2d1:∀k∈S2_2,k∉S2_1)(p3_0:repS w0 B (sl A7 N7 C7) x3)(p4_0:inI x4),i_ prog 96 [(.pointer<|some ⟨b1,o1,none⟩),.agg #[vI x2.number,sl AE NE CE,sl AG NG CG],sl A7 N7 C7,vI x4] w0<|Q31 w0 B S2_1 S2_2 res
structure k_2 (f:a_g->b_->Int->Option (Val×Int×(Option<|Int×Int))):Prop where
  run:∀{A0 A5 A2 A3 A1 A4:Option Addr}{N0 C0 N5 C5 b1 o1 N2 C2 N3 C3 N1 C1 N4 C4:Nat}{B:Zone}{x1:a_g}{x2:b_}{x3:Int}{res:Val×Int×(Option<|Int×Int)}{w0:World}(hm:f x1 x2 x3=some res)(hBw:B<=w0.z)(p1_0:repS w0 B (sl A0 N0 C0) x1.d.rules)(p1_1:repS w0 B (sl A5 N5 C5) x1.b)(hC1:I_ w0 b1 o1 [sl A0 N0 C0,sl A5 N5 C5])(hC1b:B b1)(p2_0:x2.name.b.length<=LEN)(p2_1:inI x2.kind)(p2_2:inI x2.size)(p2_4:repS w0 B (sl A2 N2 C2) x2.bytes)(p2_5:repS w0 B (sl A3 N3 C3) x2.names)(p2_6:repS w0 B (sl A1 N1 C1) x2.tags)(p2_7:repS w0 B (sl A4 N4 C4) x2.kids)(p3_0:inI x3),i_ prog 97 [(.pointer<|some ⟨b1,o1,none⟩),.agg #[Str.v x2.name,vI x2.kind,vI x2.size,vB x2.little,sl A2 N2 C2,sl A3 N3 C3,sl A1 N1 C1,sl A4 N4 C4],vI x3] w0<|Q30 w0 B res
structure k_3 (f:a_g->b_->Int->Option (Val×Int×(Option<|Int×Int))):Prop where
  run:∀{A0 A5 A2 A3 A1 A4:Option Addr}{N0 C0 N5 C5 b1 o1 N2 C2 N3 C3 N1 C1 N4 C4:Nat}{B:Zone}{x1:a_g}{x2:b_}{x3:Int}{res:Val×Int×(Option<|Int×Int)}{w0:World}(hm:f x1 x2 x3=some res)(hBw:B<=w0.z)(p1_0:repS w0 B (sl A0 N0 C0) x1.d.rules)(p1_1:repS w0 B (sl A5 N5 C5) x1.b)(hC1:I_ w0 b1 o1 [sl A0 N0 C0,sl A5 N5 C5])(hC1b:B b1)(p2_0:x2.name.b.length<=LEN)(p2_1:inI x2.kind)(p2_2:inI x2.size)(p2_4:repS w0 B (sl A2 N2 C2) x2.bytes)(p2_5:repS w0 B (sl A3 N3 C3) x2.names)(p2_6:repS w0 B (sl A1 N1 C1) x2.tags)(p2_7:repS w0 B (sl A4 N4 C4) x2.kids)(p3_0:inI x3),i_ prog 98 [(.pointer<|some ⟨b1,o1,none⟩),.agg #[Str.v x2.name,vI x2.kind,vI x2.size,vB x2.little,sl A2 N2 C2,sl A3 N3 C3,sl A1 N1 C1,sl A4 N4 C4],vI x3] w0<|Q30 w0 B res
structure k_4 (f:a_g->b_->Int->Option (Val×Int×(Option<|Int×Int))):Prop where
  run:∀{A0 A5 A2 A3 A1 A4:Option Addr}{N0 C0 N5 C5 b1 o1 N2 C2 N3 C3 N1 C1 N4 C4:Nat}{B:Zone}{x1:a_g}{x2:b_}{x3:Int}{res:Val×Int×(Option<|Int×Int)}{w0:World}(hm:f x1 x2 x3=some res)(hBw:B<=w0.z)(p1_0:repS w0 B (sl A0 N0 C0) x1.d.rules)(p1_1:repS w0 B (sl A5 N5 C5) x1.b)(hC1:I_ w0 b1 o1 [sl A0 N0 C0,sl A5 N5 C5])(hC1b:B b1)(p2_0:x2.name.b.length<=LEN)(p2_1:inI x2.kind)(p2_2:inI x2.size)(p2_4:repS w0 B (sl A2 N2 C2) x2.bytes)(p2_5:repS w0 B (sl A3 N3 C3) x2.names)(p2_6:repS w0 B (sl A1 N1 C1) x2.tags)(p2_7:repS w0 B (sl A4 N4 C4) x2.kids)(p3_0:inI x3),i_ prog 99 [(.pointer<|some ⟨b1,o1,none⟩),.agg #[Str.v x2.name,vI x2.kind,vI x2.size,vB x2.little,sl A2 N2 C2,sl A3 N3 C3,sl A1 N1 C1,sl A4 N4 C4],vI x3] w0<|Q30 w0 B res
abbrev e_j (n:Nat):Prop:=j_Z (a_0 n).impl_fileReader_value/\k_0 (a_0 n).impl_fileReader_array/\k_1 (a_0 n).impl_fileReader_items/\k_2 (a_0 n).impl_fileReader_choice/\k_3 (a_0 n).impl_fileReader_option/\k_4 (a_0 n).impl_fileReader_checked
theorem T_w02 (ih:e_j n):j_Z (g_s n<|a_0 n):=by
 obtain ⟨_,d5,d6,d7,d8,d9⟩:=ih
 constructor
 intro A0 A5 N0 C0 N5 C5 b1 o1 B x1 x2 x3 res w0 hm H L O hC1 hC1b cS I;unfold g_s at hm
 refine goG func65 z z z fun fn hr=>Ws<|E z (fa a_l) ?_
 rintro _ J ⟨rfl,bh⟩;have h2:=bh.below;have h3:Blk J w0.z [vI 0,sl none 0 0,sl none 0 0]:=bh.blk;refine Ra z<|Rw z<|Wm z<|R z (A_ z)<|Rf z m_b z<|Rf z a_5 z ?_
 have h5:=hC1.e h2;refine R z (l0 a_9 z<|h5.at (j:=0) z)<|Rm z ?_
 obtain ⟨W,da,b5⟩:=bdS hm;refine RX z (at_ (α:=b_) Z_ l_ z z z (L.e h2) da) ?_;rintro _ ⟨_,_,_,rfl,db,dc,_⟩;obtain ⟨aa,nb,cc,ad,ne,cf,ah,ng,ci,aj,nk,cl,rfl,hq,ht,ho,hp,hu,hv,hn⟩:=a_u dc;refine R z (lN (vs:=vR W aa nb cc ad ne cf ah ng ci aj nk cl) D_ l_ z z fid db)<|E z (fa b_H) ?_
 rintro _ dd ⟨rfl,bi⟩;have G:=bi.below;refine E0 (fs0 (cur':=vR W aa nb cc ad ne cf ah ng ci aj nk cl) l_ z z (bi.blk:Blk dd J.z [(Str.v (⟨[]⟩:Str)),vI 0,vI 0,vB false,sl none 0 0,sl none 0 0,sl none 0 0,sl none 0 0]) z z z z) ?_;rintro _ _ ⟨V,de⟩;have h1:=de.one;refine Wn<|Wq<|Ws<|Rf z a_a z<|R z (l0 g_3 z<|V.at z)<|Wn<|Wb<|Ws<|Rq z z z<|Rw z<|Wc z (fun hcr=>?_) (fun hcr=>?_)
 ·refine Wm z<|RM z z ?_
  have bj:∀k∈[J.z],¬B k:=or0 (f_ lr)<|q_<|zt' H h2.s;have bk:=((h2.ag B).e G).c h1<|e_ bj
  have bm:=lt_ (lt_ h2.s G.s) h1.s;obtain ⟨bn,_,_,df,cT⟩:=P_<|ifT b5 hcr;refine E z (fc call92 z<|i_2 df (zt' H bm) (L.g bk) (O.g bk) ((h5.e G).c h1<|(e_ bj) _ hC1b) hC1b cS I) ?_;rintro _ _ ⟨bo,dg,dh,rfl,di,dj,dk,bp⟩;refine Rm z ?_
  iterate 3 refine Re z z z ?_
  refine RA z z<|Rw z<|Wm z<|R z (bP (parts:=[(0,.tmp 41)]) (cs:=[vI bn,sl none 0 0,sl none 0 0]) Y_ z z)<|RM z z<|E0 (fs0 (cur':=[vI bn,sl none 0 0,sl none 0 0]) h_ z z (((h3.e G).c h1<|djs<|mmr h3.lt).e bo) z z z z) ?_
  rintro _ _ ⟨dl,dm⟩;have bq:=dm.one;refine Ra z<|Rw z ?_
  obtain rfl:=som cT;exact Wr<|rtO<|x_ hr (n_ t_ h_ z dl z) z z ⟨bM (bup (bM (bup h2 G) h1<|m1 h2.s) bo) bq<|f_ lr,none,0,0,[],none,0,0,[],dg,dh,z,di,onL,onL,dj,dk.c bq<|s_ bp h3.lt<|lt_ G.s h1.s,w_ bp bm,nd0,al0⟩
 have b6:=ifF b5 hcr;refine Ws<|Rq z z z<|Rw z<|Wc z (fun hcs=>?_) (fun hcs=>?_)
 ·refine Wm z<|R z (lN (vs:=vR W aa nb cc ad ne cf ah ng ci aj nk cl) D_ l_ z z fid<|V.row 0 8 z)<|Rm z ?_
  have aC:∀k∈[J.z],¬B k:=or0 (f_ lr)<|q_<|zt' H h2.s;have br:=((h2.ag B).e G).c h1<|e_ aC
  have hw:=(G.ag B).c h1<|e_ aC
  have bs:=lt_ (lt_ h2.s G.s) h1.s;obtain ⟨_,_,dn,cU⟩:=a_m<|ifT b6 hcs;refine E z (fc call93 z<|W_w37 dn (zt' H bs) (L.g br) (O.g br) ((h5.e G).c h1<|(e_ aC) _ hC1b) hC1b hq ht ho (hp.g hw) (hu.g hw) (hv.g hw) (hn.g hw) I) ?_;rintro _ _ ⟨bt,dp,dq,rfl,dr,ds,bu⟩;refine Rm z<|Re z z z<|Re z z z<|Ra z<|Rw z<|Ws<|R z (bP (parts:=[]) (cs:=[vI 0,sl none 0 0,sl none 0 0]) Y_ z z)<|RM z z<|E0 (fs0 (cur':=[vI 0,sl none 0 0,sl none 0 0]) h_ z z (((h3.e G).c h1<|djs<|mmr h3.lt).e bt) z z z z) ?_
  rintro _ _ ⟨dt,du⟩;have bv:=du.one;refine Ra z<|Rw z ?_
  obtain rfl:=som cU;exact Wr<|rtO<|x_ hr (n_ t_ h_ z dt z) z z ⟨bM (bup (bM (bup h2 G) h1<|m1 h2.s) bt) bv<|f_ lr,none,0,0,[],none,0,0,[],dp,dq,z,ii z,onL,onL,dr,ds.c bv<|s_ bu h3.lt<|lt_ G.s h1.s,w_ bu bs,nd0,al0⟩
 have b7:=ifF b6 hcs;refine Ws<|Rq z z z<|Rw z<|Wc z (fun ar=>?_) (fun ar=>?_)
 ·refine Wm z<|Rm z<|Rf z a_w z<|R z (l0 g_3 z<|V.at z) ?_
  have bw:∀k∈[J.z],¬B k:=or0 (f_ lr)<|q_<|zt' H h2.s;have bx:=((h2.ag B).e G).c h1<|e_ bw
  have hx:=lt_ (lt_ h2.s G.s) h1.s;obtain ⟨dv,_,_,dw,cV⟩:=P_<|ifT b7 ar;refine E z (fc call94 z<|W_w1f dw (zt' H hx) (L.g bx) (O.g bx) ((h5.e G).c h1<|(e_ bw) _ hC1b) hC1b I ho) ?_;rintro _ _ ⟨bz,bA,bB,bC,dx,bD,bE,bF,dy,dz,dA,rfl,dB,dC,dD,dF,dG,bG,aD,hy⟩
  iterate 3 refine Re z z z ?_
  refine E0 (fs0 (cur':=[vI dv.number,sl bA bB bC,sl bD bE bF]) h_ z z (((h3.e G).c h1<|djs<|mmr h3.lt).e bz) z z z z) ?_;rintro _ _ ⟨dH,dI⟩;have hz:=dI.one;refine Ra z<|Rw z ?_
  obtain rfl:=som cV;have aE:=lt_ G.s h1.s;exact Wr<|rtO<|x_ hr (n_ t_ h_ z dH z) z z ⟨bM (bup (bM (bup h2 G) h1<|m1 h2.s) bz) hz<|f_ lr,bA,bB,bC,dx,bD,bE,bF,dy,dz,dA,z,dB,dC.c hz<|s_ (al_ hy) h3.lt aE,dD.c hz<|s_ (ar_ hy) h3.lt aE,dF,dG.c hz<|s_ bG h3.lt aE,w_ bG hx,na_ (nl_ aD) (nr_ aD)<|nj aD,aa_ (w_ (al_ hy) hx)<|w_ (ar_ hy) hx⟩
 have b8:=ifF b7 ar;refine Ws<|Rq z z z<|Rw z<|Wc z (fun au=>?_) (fun au=>?_)
 ·refine Wm z<|Rf z G_ z<|R z (l0 u_ z<|V.at z) ?_
  obtain ⟨_,dJ,cW⟩:=bdS<|ifT b8 au;have aF:∀k∈[J.z],¬B k:=or0 (f_ lr)<|q_<|zt' H h2.s;refine RX z (at_ (α:=Int) o_ z_3 z z z (hn.g<|(G.ag B).c h1<|e_ aF) dJ) ?_;rintro _ ⟨_,_,_,rfl,dK,dL,_⟩;obtain ⟨rfl,dN⟩:=J_ dL;refine R z (l0 g_3 z<|dK.at0 z)<|Rm z ?_
  have bH:=(h5.e G).c h1<|(e_ aF) _ hC1b
  have aG:=((h2.ag B).e G).c h1<|e_ aF
  have aH:=lt_ (lt_ h2.s G.s) h1.s;obtain ⟨_,_,_,dO,b9⟩:=P_ cW;refine E z (fc call92 z<|i_2 dO (zt' H aH) (L.g aG) (O.g aG) bH hC1b dN I) ?_;rintro _ _ ⟨s8,dP,dS,rfl,dT,dU,bI,bJ⟩;refine Rm z ?_
  iterate 3 refine Re z z z ?_
  refine RA z z<|Rw z<|Wq<|Wm z<|R z (c_W d_d z z bI)<|Wx z (fun av=>?_) (fun av=>?_)
  ·refine Ws<|R z (bP (parts:=[]) (cs:=[vI 0,sl none 0 0,sl none 0 0]) Y_ z z)<|RM z z<|E0 (fs0 (cur':=[vI 0,sl none 0 0,sl none 0 0]) h_ z z (((h3.e G).c h1<|djs<|mmr h3.lt).e s8) z z z z) ?_
   rintro _ _ ⟨dV,dW⟩;have bK:=dW.one;refine Ra z<|Rw z ?_
   obtain rfl:=som<|ifT b9 av;exact Wr<|rtO<|x_ hr (n_ t_ h_ z dV z) z z ⟨bM (bup (bM (bup h2 G) h1<|m1 h2.s) s8) bK<|f_ lr,none,0,0,[],none,0,0,[],dP,dS,z,ii z,onL,onL,I,bI.c bK<|s_ bJ h3.lt<|lt_ G.s h1.s,w_ bJ aH,nd0,al0⟩
  refine Wk<|Wm z<|RM z z ?_
  have bL:=aG.e s8;have Y:=lt_ aH s8.s;obtain ⟨dX,_,_,dY,cX⟩:=P_<|ifF b9 av;refine E z (fc call94 z<|W_w1f dY (zt' H Y) (L.g bL) (O.g bL) (bH.e s8) hC1b dU dT) ?_;rintro _ _ ⟨bN,bO,bQ,bR,dZ,bS,bT,bU,e0,e1,e2,rfl,e3,e4,e5,e6,e7,bV,aI,a0⟩
  iterate 3 refine Re z z z ?_
  refine E0 (fs0 (cur':=[vI dX.number,sl bO bQ bR,sl bS bT bU]) h_ z z ((((h3.e G).c h1<|djs<|mmr h3.lt).e s8).e bN) z z z z) ?_;rintro _ _ ⟨e8,e9⟩;have a1:=e9.one;refine Ra z<|Rw z ?_
  obtain rfl:=som cX;have aJ:=lt_ (lt_ G.s h1.s) s8.s;exact Wr<|rtO<|x_ hr (n_ t_ h_ z e8 z) z z ⟨bM (bup (bup (bM (bup h2 G) h1<|m1 h2.s) s8) bN) a1<|f_ lr,bO,bQ,bR,dZ,bS,bT,bU,e0,e1,e2,z,e3,e4.c a1<|s_ (al_ a0) h3.lt aJ,e5.c a1<|s_ (ar_ a0) h3.lt aJ,e6,e7.c a1<|s_ bV h3.lt aJ,w_ bV Y,na_ (nl_ aI) (nr_ aI)<|nj aI,aa_ (w_ (al_ a0) Y)<|w_ (ar_ a0) Y⟩
 have ba:=ifF b8 au;refine Ws<|Rq z z z<|Rw z<|Wc z (fun aw=>?_) (fun aw=>?_)
 ·refine Wm z<|R z (lN (vs:=vR W aa nb cc ad ne cf ah ng ci aj nk cl) D_ l_ z z fid<|V.row 0 8 z)<|Rm z ?_
  have aK:∀k∈[J.z],¬B k:=or0 (f_ lr)<|q_<|zt' H h2.s;have bW:=((h2.ag B).e G).c h1<|e_ aK
  have a2:=(G.ag B).c h1<|e_ aK
  have a3:=lt_ (lt_ h2.s G.s) h1.s;obtain ⟨ea,_,_,eb,cY⟩:=P_<|ifT ba aw;refine E z (fc call95 z<|d5.run eb (zt' H a3) (L.g bW) (O.g bW) ((h5.e G).c h1<|(e_ aK) _ hC1b) hC1b hq ht ho (hp.g a2) (hu.g a2) (hv.g a2) (hn.g a2) I) ?_;rintro _ _ ⟨bX,bY,bZ,c0,ec,c1,c2,c3,ed,ee,ef,rfl,eg,eh,ei,ej,ek,c4,aL,a4⟩
  iterate 3 refine Re z z z ?_
  refine E0 (fs0 (cur':=[vI ea.number,sl bY bZ c0,sl c1 c2 c3]) h_ z z (((h3.e G).c h1<|djs<|mmr h3.lt).e bX) z z z z) ?_;rintro _ _ ⟨em,en⟩;have a5:=en.one;refine Ra z<|Rw z ?_
  obtain rfl:=som cY;have aM:=lt_ G.s h1.s;exact Wr<|rtO<|x_ hr (n_ t_ h_ z em z) z z ⟨bM (bup (bM (bup h2 G) h1<|m1 h2.s) bX) a5<|f_ lr,bY,bZ,c0,ec,c1,c2,c3,ed,ee,ef,z,eg,eh.c a5<|s_ (al_ a4) h3.lt aM,ei.c a5<|s_ (ar_ a4) h3.lt aM,ej,ek.c a5<|s_ c4 h3.lt aM,w_ c4 a3,na_ (nl_ aL) (nr_ aL)<|nj aL,aa_ (w_ (al_ a4) a3)<|w_ (ar_ a4) a3⟩
 have bb:=ifF ba aw;refine Ws<|Rq z z z<|Rw z<|Wc z (fun ax=>?_) (fun ax=>?_)
 ·refine Wm z<|R z (bP (parts:=[]) (cs:=[vI 0,sl none 0 0,sl none 0 0]) Y_ z z)<|Rf z G_ z<|R z (l0 u_ z<|V.at z)<|Rm z ?_
  have aN:∀k∈[J.z],¬B k:=or0 (f_ lr)<|q_<|zt' H h2.s;have c5:=((h2.ag B).e G).c h1<|e_ aN
  have a6:=lt_ (lt_ h2.s G.s) h1.s;obtain ⟨eo,_,_,ep,cZ⟩:=P_<|ifT bb ax;refine E z (fc call96 z<|d6.run (B:=B) (x2:=(⟨0,([]:List UInt8),([]:List Val)⟩:Val)) ep (zt' H a6) (L.g c5) (O.g c5) ((h5.e G).c h1<|(e_ aN) _ hC1b) hC1b (ii z) onL a_q an_ onL a_q an_ an_ (hn.g<|(G.ag B).c h1<|e_ aN) I) ?_;rintro _ _ ⟨c6,c7,c8,c9,ca,cb,cd,ce,cg,er,es,rfl,eu,ew,ex,ey,ez,ch,aO,a7⟩
  iterate 3 refine Re z z z ?_
  refine E0 (fs0 (cur':=[vI eo.number,sl c7 c8 c9,sl cb cd ce]) h_ z z (((h3.e G).c h1<|djs<|mmr h3.lt).c c6<|atp<|nmA (nmN _)<|nmN _) z z z z) ?_;rintro _ _ ⟨eA,eB⟩;have a8:=eB.one;refine Ra z<|Rw z ?_
  obtain rfl:=som cZ;have aP:=lt_ G.s h1.s;exact Wr<|rtO<|x_ hr (n_ t_ h_ z eA z) z z ⟨bM (bM (bM (bup h2 G) h1<|m1 h2.s) c6 al0) a8<|f_ lr,c7,c8,c9,ca,cb,cd,ce,cg,er,es,z,eu,ew.c a8 (or1 (al_ a7) al0 (a_V (f_ h3.lt) aP):∀k∈ca,k∉[w0.z]),ex.c a8 (or1 (ar_ a7) al0 (a_V (f_ h3.lt) aP):∀k∈cg,k∉[w0.z]),ey,ez.c a8<|s_ ch h3.lt aP,w_ ch a6,na_ (nl_ aO) (nr_ aO)<|nj aO,aa_ (c_i (al_ a7) al0 a6)<|c_i (ar_ a7) al0 a6⟩
 have bc:=ifF bb ax;refine Ws<|Rq z z z<|Rw z<|Wc z (fun ay=>?_) (fun ay=>?_)
 ·refine Wm z<|R z (lN (vs:=vR W aa nb cc ad ne cf ah ng ci aj nk cl) D_ l_ z z fid<|V.row 0 8 z)<|Rm z ?_
  have aQ:∀k∈[J.z],¬B k:=or0 (f_ lr)<|q_<|zt' H h2.s;have cj:=((h2.ag B).e G).c h1<|e_ aQ
  have a9:=(G.ag B).c h1<|e_ aQ
  have ab:=lt_ (lt_ h2.s G.s) h1.s;obtain ⟨eC,_,_,eD,d0⟩:=P_<|ifT bc ay;refine E z (fc call97 z<|d7.run eD (zt' H ab) (L.g cj) (O.g cj) ((h5.e G).c h1<|(e_ aQ) _ hC1b) hC1b hq ht ho (hp.g a9) (hu.g a9) (hv.g a9) (hn.g a9) I) ?_;rintro _ _ ⟨ck,cm,cn,co,eE,cp,cq,cr,eF,eG,eH,rfl,eI,eJ,eK,eL,eM,ct,aR,ae⟩
  iterate 3 refine Re z z z ?_
  refine E0 (fs0 (cur':=[vI eC.number,sl cm cn co,sl cp cq cr]) h_ z z (((h3.e G).c h1<|djs<|mmr h3.lt).e ck) z z z z) ?_;rintro _ _ ⟨eN,eO⟩;have af:=eO.one;refine Ra z<|Rw z ?_
  obtain rfl:=som d0;have aS:=lt_ G.s h1.s;exact Wr<|rtO<|x_ hr (n_ t_ h_ z eN z) z z ⟨bM (bup (bM (bup h2 G) h1<|m1 h2.s) ck) af<|f_ lr,cm,cn,co,eE,cp,cq,cr,eF,eG,eH,z,eI,eJ.c af<|s_ (al_ ae) h3.lt aS,eK.c af<|s_ (ar_ ae) h3.lt aS,eL,eM.c af<|s_ ct h3.lt aS,w_ ct ab,na_ (nl_ aR) (nr_ aR)<|nj aR,aa_ (w_ (al_ ae) ab)<|w_ (ar_ ae) ab⟩
 have be:=ifF bc ay;refine Ws<|Rq z z z<|Rw z<|Wc z (fun az=>?_) (fun az=>?_)
 ·refine Wm z<|R z (lN (vs:=vR W aa nb cc ad ne cf ah ng ci aj nk cl) D_ l_ z z fid<|V.row 0 8 z)<|Rm z ?_
  have aT:∀k∈[J.z],¬B k:=or0 (f_ lr)<|q_<|zt' H h2.s;have cu:=((h2.ag B).e G).c h1<|e_ aT
  have ai:=(G.ag B).c h1<|e_ aT
  have ak:=lt_ (lt_ h2.s G.s) h1.s;obtain ⟨eP,_,_,eQ,d1⟩:=P_<|ifT be az;refine E z (fc call98 z<|d8.run eQ (zt' H ak) (L.g cu) (O.g cu) ((h5.e G).c h1<|(e_ aT) _ hC1b) hC1b hq ht ho (hp.g ai) (hu.g ai) (hv.g ai) (hn.g ai) I) ?_;rintro _ _ ⟨cv,cw,cx,cy,eR,cz,cA,cB,eS,eT,eU,rfl,eV,eW,eX,eY,eZ,cC,aU,al⟩
  iterate 3 refine Re z z z ?_
  refine E0 (fs0 (cur':=[vI eP.number,sl cw cx cy,sl cz cA cB]) h_ z z (((h3.e G).c h1<|djs<|mmr h3.lt).e cv) z z z z) ?_;rintro _ _ ⟨f0,f1⟩;have am:=f1.one;refine Ra z<|Rw z ?_
  obtain rfl:=som d1;have aV:=lt_ G.s h1.s;exact Wr<|rtO<|x_ hr (n_ t_ h_ z f0 z) z z ⟨bM (bup (bM (bup h2 G) h1<|m1 h2.s) cv) am<|f_ lr,cw,cx,cy,eR,cz,cA,cB,eS,eT,eU,z,eV,eW.c am<|s_ (al_ al) h3.lt aV,eX.c am<|s_ (ar_ al) h3.lt aV,eY,eZ.c am<|s_ cC h3.lt aV,w_ cC ak,na_ (nl_ aU) (nr_ aU)<|nj aU,aa_ (w_ (al_ al) ak)<|w_ (ar_ al) ak⟩
 have bf:=ifF be az;refine Ws<|Rq z z z<|Rw z<|Wc z (fun aA=>?_) (fun aA=>?_)
 ·refine Wm z<|R z (lN (vs:=vR W aa nb cc ad ne cf ah ng ci aj nk cl) D_ l_ z z fid<|V.row 0 8 z)<|Rm z ?_
  have aW:∀k∈[J.z],¬B k:=or0 (f_ lr)<|q_<|zt' H h2.s;have cD:=((h2.ag B).e G).c h1<|e_ aW
  have an:=(G.ag B).c h1<|e_ aW
  have ao:=lt_ (lt_ h2.s G.s) h1.s;obtain ⟨f2,_,_,f3,d2⟩:=P_<|ifT bf aA;refine E z (fc call99 z<|d9.run f3 (zt' H ao) (L.g cD) (O.g cD) ((h5.e G).c h1<|(e_ aW) _ hC1b) hC1b hq ht ho (hp.g an) (hu.g an) (hv.g an) (hn.g an) I) ?_;rintro _ _ ⟨cE,cF,cG,cH,f4,cI,cJ,cK,f5,f6,f7,rfl,f8,f9,fb,fe,ff,cL,aX,ap⟩
  iterate 3 refine Re z z z ?_
  refine E0 (fs0 (cur':=[vI f2.number,sl cF cG cH,sl cI cJ cK]) h_ z z (((h3.e G).c h1<|djs<|mmr h3.lt).e cE) z z z z) ?_;rintro _ _ ⟨fg,fh⟩;have aq:=fh.one;refine Ra z<|Rw z ?_
  obtain rfl:=som d2;have aY:=lt_ G.s h1.s;exact Wr<|rtO<|x_ hr (n_ t_ h_ z fg z) z z ⟨bM (bup (bM (bup h2 G) h1<|m1 h2.s) cE) aq<|f_ lr,cF,cG,cH,f4,cI,cJ,cK,f5,f6,f7,z,f8,f9.c aq<|s_ (al_ ap) h3.lt aY,fb.c aq<|s_ (ar_ ap) h3.lt aY,fe,ff.c aq<|s_ cL h3.lt aY,w_ cL ao,na_ (nl_ aX) (nr_ aX)<|nj aX,aa_ (w_ (al_ ap) ao)<|w_ (ar_ ap) ao⟩
 refine Wk<|Wq (Wd (X:=noX) 0 (pl_ 17 [9]) mo (by kernel_rfl) fun fz s6 _=>dM z z z<|dR z z (A_ z)<|dR z z (fd f_3 z) ?_)
 have aZ:∀k∈[J.z],¬B k:=or0 (f_ lr)<|q_<|zt' H h2.s;refine dR z z (l0 O_ z<|(((h5.e G).c h1<|(e_ aZ) _ hC1b).e s6).at (j:=1) z)<|dM z z z<|dR z z (fd a_T z)<|dR z z (l0 O_ z<|(V.e s6).at z) ?_
 obtain ⟨_,fi,d3⟩:=bdS<|ifF bf aA;refine dRX z z (at_ (α:=UInt8) k_ z_5 z z z (hp.g<|((G.ag B).c h1<|e_ aZ).e s6) fi) ?_;rintro _ ⟨_,_,_,rfl,fj,fk,_⟩;obtain rfl:=u8 fk;refine dR z z (l0 g_5 z<|fj.at0 z) ?_;have b0:=lt_ (lt_ (lt_ h2.s G.s) h1.s) s6.s;obtain ⟨_,_,_,fl,bg⟩:=P_ d3;refine dE z z (fc call100 z<|W_w19 fl (zt' H b0) (O.g<|(((h2.ag B).e G).c h1<|e_ aZ).e s6) I) (.inr fun _ _ h=>H_<|h.1) ?_;rintro _ _ ⟨sm,b2,b3,b4,fm,rfl,fo,fp,fq,cM⟩;refine dM z z z ?_
 iterate 3 refine dR z z (ext_ z z) ?_
 iterate 3 refine dQ z z z ?_
 refine pD<|Wo<|Wq<|Wm z<|R z (not_ z)<|Wx z (fun aB=>?_) (fun aB=>?_)
 ·refine Ws<|R z (bP (parts:=[]) (cs:=[vI 0,sl none 0 0,sl none 0 0]) Y_ z z)<|RM z z ?_
  have cN:=lt_ b0 sm.s;obtain ⟨_,fr,d4⟩:=bdS<|ifT bg aB;refine E z (fc call101 z<|d_O fr (zt' H cN) I<|ii z) ?_;rintro _ _ ⟨cO,fs,ft,rfl,fu,cP⟩;refine E0 (fs0 (cur':=[vI 0,sl none 0 0,sl none 0 0]) h_ z z (((((h3.e G).c h1<|djs<|mmr h3.lt).e s6).e sm).e cO) z z z z) ?_;rintro _ _ ⟨fv,fw⟩;have cQ:=fw.one;refine Ra z<|Rw z ?_
  obtain rfl:=som d4;exact Wr<|x_ hr (n_ t_ h_ z fv z) z z ⟨bM (bup (bup (bup (bM (bup h2 G) h1<|m1 h2.s) s6) sm) cO) cQ<|f_ lr,none,0,0,[],none,0,0,[],fs,ft,z,ii z,onL,onL,I,fu.c cQ<|s_ cP h3.lt<|lt_ (lt_ (lt_ G.s h1.s) s6.s) sm.s,w_ cP cN,nd0,al0⟩
 refine Wk<|Wm z<|R z (bP (parts:=[(1,.tmp 159)]) (cs:=[vI 0,sl b2 b3 b4,sl none 0 0]) Y_ z z)<|Rm z<|E0 (fs0 (cur':=[vI 0,sl b2 b3 b4,sl none 0 0]) h_ z z ((((h3.e G).c h1<|djs<|mmr h3.lt).e s6).e sm) z z z z) ?_
 rintro _ _ ⟨fx,fy⟩;have cR:=fy.one;refine Ra z<|Rw z ?_
 obtain rfl:=som<|ifF bg aB;exact Wr<|x_ hr (n_ t_ h_ z fx z) z z ⟨bM (bup (bup (bM (bup h2 G) h1<|m1 h2.s) s6) sm) cR<|f_ lr,b2,b3,b4,fm,none,0,0,[],.nilIface,([]:List Nat),z,ii z,fo.c cR<|s_ cM h3.lt<|lt_ (lt_ G.s h1.s) s6.s,onL,fp,d_m,an_,na_ fq a_q<|nmN _,aa_ (w_ cM b0) an_⟩
end Go.Vw
