
import Derived.Test.YtelphaiofendpaaGreatDoorVwHW2
set_option linter.unusedVariables false
namespace Go.Vw
open Go.RowKit Dat Go.Proofs
open Go.Proofs.Tryz
open Go.Vw renaming b_g->Wq,b_J->Wg,WC.of_KC->Wo,b_h->Wl,d_e->Wc,e_8->Wr,g_Z->Wu,i_D->pT,i_E->pF,h_2->fd,c_J->l1,j_7->lN,c_h->mv,d_Q->asg,g_N->lnR,f_F->lss,h_5->eql,h_3->ext_,i_G->bP,h_4->add_,g_J->inc_,e_Y->not_,g_O->at_,f_o->fc,c_3->fs,f_n->fb,e_K->fa,i_x->sr,i_B->cr,i_C->cM,d_G->bM,i_q->iS,i_p->iA,g_I->br,c_c->oA,i_t->bs,ltge->lg,inor->io,h_6->nq,j_8->lnT,j_9->sb_,i_v->ar_,i_u->al_,i_w->ds,j_N->m1,i_z->nr_,i_y->nl_,g_L->aa_,d_F->an_,e_9->Wb,g_K->u8,i_m->pD,g_v->We,i_r->Wt,g_D->fS,g_r->or_,j_5->Wf,i_L->qL,i_l->Wd,i_H->fN,g_M->na_,i_A->nj,f_v->f0,i_F->rX,i_I->tl_,i_J->ic
variable {A0:Option Addr}{N0 C0:Nat}{B:Zone}{w0:World}{n:Nat}{A6:Option Addr}{N6 C6:Nat}{AB:Option Addr}{AA:Option Addr}{AC:Option Addr}{AD:Option Addr}{NB CB:Nat}{NA CA:Nat}{NC CC:Nat}{ND CD:Nat}{A2:Option Addr}{A3:Option Addr}{A1:Option Addr}{A5:Option Addr}{N2 C2:Nat}{N3 C3:Nat}{N1 C1:Nat}{N5 C5:Nat}{A7:Option Addr}{A8:Option Addr}{N7 C7:Nat}{N8 C8:Nat}{AE:Option Addr}{AF:Option Addr}{NE CE:Nat}{NF CF:Nat}{A9:Option Addr}{N9 C9:Nat}{A4:Option Addr}{N4 C4:Nat}
theorem W_w1q {x1:Bt}{res:Int}(hm:g_g x1=some res)(W:B<=w0.z)(G:repS w0 B (sl A0 N0 C0) x1):l_ prog 146 [sl A0 N0 C0] w0 (Q9 w0 B res):=by
 unfold g_g at hm
 refine goG func146 z z z λfn hr=>Ws<|Rw z<|Ws<|Rw z<|Wq<|Wm z<|R z (lnR n_ z G)<|Rm z<|Wn ?_
 obtain ⟨_,J,H⟩:=bdS hm;refine Wf (σ:=Int) (ρ:=Int) (λ(k3:Nat)(x0:Int) a w=>Sat 19 [(3,vI x0),(6,sl A0 N0 C0),(7,vI (x1.length:Int)),(8,vI ((k3:Nat):Int))] a/\Below w0.z w0 w/\inI x0) (λ(x0:Int) a w=>Sat 19 [(3,vI x0)] a/\Below w0.z w0 w/\inI x0) (rQ prog fn<|Q9 w0 B) J ?_ ?_ ?_ ?_ ?_
 .exact λ_ q=>⟨q.k<|s4 z z z z,br w0,ii z⟩
 .rintro k3 x0 _ _ _ I ⟨L,s5,h1⟩ O;refine Wu ?_ L;refine Ws<|Rl z z z<|Wn<|Wq<|Wc z (λ_=>?_) (λhc=>(a_6 I hc).elim)
  refine Wk<|Wq<|Wb<|Ws ?_
  obtain ⟨V,ea,hmb⟩:=bdS O;refine RX z (at_ (α:=UInt8) n_ z_5 z z z (G.e s5) ea) ?_;rintro _ ⟨_,_,_,rfl,hd,he,_⟩;obtain rfl:=u8 he;exact R z (l0 g_5 z<|hd.at0 z)<|Rw z<|Wg<|RM z z<|R z (b_W d_5 d_3 z)<|R z (add_ z z)<|Rw z<|Wg<|R z (inc_ I (lt_ (repS.len G) M_) z z)<|Rm z<|Wl (λ_ q=>⟨i_ x0<|byteI V,(som hmb).symm,⟨q.k<|s4 z z z z,s5,iA _ _⟩⟩)
 .rintro x0 _ _ ⟨hSc,sf,h1⟩;refine Wu ?_ hSc;refine Ws<|Rl z z z<|Wn<|Wq<|Wc z (λhc=>(a_7 hc).elim) (λ_=>?_)
  exact We<|λ_ q=>⟨rfl,⟨q.k<|s1 z,sf,h1⟩⟩
 .rintro x0 ag _ rfl ⟨_,sh,h1⟩;have hmi:=elL H;revert ag;refine Wo<|Wm z<|R z (f_E z z (by decide))<|Rw z ?_
  obtain rfl:=som hmi;exact Wr<|e_ hr z ⟨sh,z,g_H h1⟩
 rintro _ _ _ _ rfl ⟨rfl,hqj⟩;have hmk:=elR H;obtain rfl:=som hmk;exact ⟨hqj,z⟩
theorem W_w1r {x1:Bt}{x2:Int}{x3:UInt8}{res:Bt×Int×Bool}(hm:g_h n x1 x2 x3=some res)(aq:B<=w0.z)(Y:repS w0 B (sl A0 N0 C0) x1)(a0:inI x2):l_ prog 127 [sl A0 N0 C0,vI x2,vU<|byteI x3] w0 (Q16 w0 B res):=by
 unfold g_h at hm
 refine goG func127 z z z λfn hr=>Ws<|RA z z<|Rw z<|Ws<|E z (f0 (α:=UInt8) a_2) ?_
 rintro _ wg ⟨aj,nk,cl,rfl,s8,hv⟩;refine Rw z<|Wq<|Wq ?_
 obtain ⟨ar,huw,hmx⟩:=bdS hm;refine Wt (λa w=>∃(xm:Bool),xm=ar/\Sat 58 [(0,sl A0 N0 C0),(1,vI x2),(2,vU<|byteI x3),(9,sl aj nk cl),(19,vB xm)] a/\Below wg.z wg w) ?_ ?_
 .refine Wg<|Rm z<|Rl z z z<|Rm z ?_
  rcases bs (decide<|x2<0) with I | I
  .iterate 4 refine Nh z I ?_
   exact R z (pT z I z)<|Wl (λ_ q=>⟨true,som<|ifT huw I,q.k<|s5 z z z z z,br wg⟩)
  exact Rh z I (mv z)<|Rh z I (mv z)<|Rh z I (lnR n_ z<|Y.e s8)<|Rh z I (a_g z z)<|R z (pF z I z)<|Wl (λ_ q=>⟨decide<|(x1.length:Int)<x2,som<|ifF huw I,q.k<|s5 z z z z z,br wg⟩)
 rintro au G ⟨xm,rfl,_,s6⟩;revert au;refine Wo<|Wc z (λhcn=>?_) (λhcn=>?_)
 .refine Wm z<|Rm z<|RA z z<|Rw z ?_
  obtain rfl:=som<|ifT hmx hcn;exact Wr<|I_ hr z z z ⟨bup s8 s6,aj,nk,cl,[w0.z],z,hv.e s6,a0,a_y,c_ lr⟩
 refine Wk<|Wq<|Wm z<|Rw z ?_
 obtain ⟨_,ad,hmy⟩:=bdS<|ifF hmx hcn;refine c_f (σ:=Bt×Int) (ρ:=Bt×Int×Bool) (λs a w=>un2 (λxb V=>∃J L O H,Sat 58 [(0,sl A0 N0 C0),(1,vI x2),(2,vU<|byteI x3),(9,sl J L O),(10,vI V)] a/\Cg [w0.z] G w/\a_ w H (sl J L O) xb/\H.Nodup/\(∀k∈H,k∈[w0.z]∨G.z<=k)/\inI V) s) (λs a w=>un2 (λxb V=>∃J L O H,Sat 58 [(1,vI x2)] a/\Cg [w0.z] G w/\a_ w H (sl J L O) xb/\H.Nodup/\(∀k∈H,k∈[w0.z]∨G.z<=k)/\inI V) s) (rQ prog fn<|Q16 w0 B) ad ?_ ?_ ?_ ?_
 .exact λ_ q=>⟨aj,nk,cl,[w0.z],q.k<|s5 z z z z z,cr [w0.z] G,hv.e s6,a_y,io sr,a0⟩
 .rintro ⟨xb,V⟩ _ W _ ⟨J,L,O,H,ae,sa,hc,hd,he,ho⟩ af;have hmz:=a_O af;refine Wu ?_ ae;refine Wq<|Wm z<|Rm z ?_
  have a6:=((s8.ag B).e s6).c sa<|b_ (or0 (c_ lr) (k_ aq):∀k∈[w0.z],¬B k)
  have hh:=Y.g a6;refine R z (lnR n_ z hh)<|Rl z z z<|Wx z (λhcp=>?_) (λhcp=>?_)
  .refine Wk<|Wq<|Wb<|Wq<|Wm z<|Rm z ?_
   obtain ⟨_,av,a1⟩:=bdS<|ifT hmz hcp;refine RX z (at_ (α:=UInt8) n_ z_5 z z z hh av) ?_;rintro _ ⟨_,_,_,rfl,aw,ax,_⟩;obtain rfl:=u8 ax;refine R z (l0 g_5 z<|aw.at0 z)<|Rm z<|Rq z z z<|Wx z (λhcq=>?_) (λhcq=>?_)
   .refine Wm z<|Rm z<|R z (add_ z z)<|RA z z<|Rw z ?_
    exact Wr<|rtO<|qL (som<|ifT a1 hcq).symm<|I_ hr z z z ⟨bM (bup s8 s6) sa<|c_ lr,J,L,O,H,z,hc,iA _ _,hd,(or1 he (c_ lr) (b_o<|lt_ s8.s s6.s):∀k∈H,w0.z<=k)⟩
   refine Wk<|Wq<|Wm z<|Rm z ?_
   obtain ⟨_,ay,ah⟩:=bdS<|ifF a1 hcq;refine RX z (at_ (α:=UInt8) n_ z_5 z z z hh ay) ?_;rintro _ ⟨_,_,_,rfl,az,aA,_⟩;obtain rfl:=u8 aA;refine R z (l0 g_5 z<|az.at0 z)<|Rq z z z<|Wn ?_
   obtain ⟨aB,a2,a4⟩:=bdS ah;refine Wt (λa w=>∃(xf:Int),Sum.inl xf=aB/\Sat 58 [(0,sl A0 N0 C0),(1,vI x2),(2,vU<|byteI x3),(9,sl J L O),(10,vI xf)] a/\Below W.z W w/\inI xf) ?_ ?_
   .refine Wc z (λhcr=>?_)<|λhcr=>?_
    .have a5:=ifT a2 hcr;refine Wm z<|R z (add_ z z)<|Rw z<|Wm z<|Rm z<|R z (lnR n_ z hh)<|Rq z z z<|Wx z (λhcs=>?_) (λhcs=>?_)
     .obtain rfl:=som<|ifT a5 hcs;have ai:=elR a4;exact We<|exO z (λ_ q=>b_N (som ai).symm ⟨J,L,O,H,q.k<|s1 z,(cM (cr [w0.z] G) sa (io sr):Cg [w0.z] G W),hc,hd,(or1 he (io sr) (B_ lr):∀k∈H,k∈[w0.z]∨G.z<=k),iA _ _⟩)
     exact a_k<|λ_ q=>⟨i_ V 1,som<|ifF a5 hcs,q.k<|s5 z z z z z,br W,iA _ _⟩
    exact a_k<|λ_ q=>⟨V,som<|ifF a2 hcr,q.k<|s5 z z z z z,br W,ho⟩
   rintro aC a7 ⟨xf,rfl,_,si,_⟩;have ak:=elL a4;revert aC;refine Wo<|Wg<|RM z z<|Rm z ?_
   obtain ⟨aD,aE,al⟩:=bdS ak;refine RX z (at_ (α:=UInt8) n_ z_5 z z z (Y.g<|a6.e si) aE) ?_;rintro _ ⟨_,_,_,rfl,aF,aG,_⟩;obtain rfl:=u8 aG;refine R z (l0 g_5 z<|aF.at0 z)<|E z (fS [(.tmp 53)] a_2 z z z (a_e z) (lb z)<|lb z) ?_
   rintro _ a8 ⟨rfl,ht⟩;have hu:=ht.below;have aY:=a_J ht b_n;obtain ⟨aH,aI,am⟩:=bdS al;refine E z (a_X (α:=UInt8) a_2 aI z z ((hc.e si).e hu) hd (ht.blk:Blk a8 a7.z [vU (byteI aD)]) b_n an_ G_) ?_;rintro _ aJ ⟨a9,aK,aL,aM,rfl,aN,aO,aP,aQ⟩;refine Rw z<|Wg<|Rm z<|R z (add_ z z)<|Ra z<|Wl ?_
   have aa:∀k∈H,k∈[w0.z]∨G.z<=k:=or1 he (io sr)<|B_ lr;exact λ_ q=>⟨(aH,i_ xf 1),(som am).symm,⟨aK,aL,aM,a9,q.k<|s5 z z z z z,(cM (f_ (f_ (cM (cr [w0.z] G) sa (io sr):Cg [w0.z] G W) si:Cg [w0.z] G a7) hu:Cg [w0.z] G a8) aN aa:Cg [w0.z] G aJ),aO,aP,(or2 aQ aa an_ (B_<|lt_ (lt_ sa.s si.s) hu.s):∀k∈a9,k∈[w0.z]∨G.z<=k),iA _ _⟩⟩
  exact We<|λ_ q=>b_N (som<|ifF hmz hcp).symm ⟨J,L,O,H,q.k<|s1 z,(cM (cr [w0.z] G) sa (io sr):Cg [w0.z] G W),hc,hd,(or1 he (io sr) (B_ lr):∀k∈H,k∈[w0.z]∨G.z<=k),ho⟩
 .rintro ⟨xb,V⟩ aR aS rfl ⟨J,L,O,H,_,ab,hc,hd,he,ho⟩;have an:=elL hmy;revert aR;refine Wo<|Ws<|E z (f0 (α:=UInt8) a_2) ?_
  rintro _ _ ⟨aT,aU,aV,rfl,aW,aX⟩;refine Rm z<|RA z z<|Rw z ?_
  obtain rfl:=som<|a_O an;exact Wr<|I_ hr z z z ⟨bup (bM (bup s8 s6) ab<|c_ lr) aW,aT,aU,aV,[aS.z],z,aX,a0,a_y,m1<|lt_ (lt_ s8.s s6.s) ab.s⟩
 rintro _ _ _ _ rfl ⟨rfl,ao⟩;have ap:=elR hmy;obtain rfl:=som ap;exact ⟨ao,z⟩
def Q26 (w0:World)(g1:Nat)(B:Zone)(A0:Option Addr)(N0 C0:Nat)(A4:Option Addr)(N4 C4:Nat)(x1:a_d)(r:Z_×Int)(v:Value)(w':World):Prop:=Cg [g1] w0 w'/\un2 (λG H=>(.agg #[vI G.at_,vI G.code])=v/\inI G.at_/\inI G.code/\inI H/\Blk w' g1 [sl A0 N0 C0,sl A4 N4 C4,vI H]) r
structure k_A (f:a_d->Int->Int->Option (Z_×Int)):Prop where
  run:∀{A0 A4:Option Addr}{N0 C0 N4 C4 g1:Nat}{B:Zone}{x1:a_d}{x2:Int}{x3:Int}{res:Z_×Int}{w0:World}(hm:f x1 x2 x3=some res)(hB1:Blk w0 g1 [sl A0 N0 C0,sl A4 N4 C4,vI x1.applied])(hBw:B<=w0.z)(hBg:¬B g1)(p1_0:repS w0 B (sl A0 N0 C0) x1.d.rules)(p1_1:repS w0 B (sl A4 N4 C4) x1.b)(p1_2:inI x1.applied)(p2_0:inI x2)(p3_0:inI x3),l_ prog 97 [pt g1,vI x2,vI x3] w0<|Q26 w0 g1 B A0 N0 C0 A4 N4 C4 x1 res
structure k_B (f:a_d->g_->Int->Option (Z_×Int)):Prop where
  run:∀{A0 A4 A2 A3 A1 A5:Option Addr}{N0 C0 N4 C4 g1 N2 C2 N3 C3 N1 C1 N5 C5:Nat}{B:Zone}{x1:a_d}{x2:g_}{x3:Int}{res:Z_×Int}{w0:World}(hm:f x1 x2 x3=some res)(hB1:Blk w0 g1 [sl A0 N0 C0,sl A4 N4 C4,vI x1.applied])(hBw:B<=w0.z)(hBg:¬B g1)(p1_0:repS w0 B (sl A0 N0 C0) x1.d.rules)(p1_1:repS w0 B (sl A4 N4 C4) x1.b)(p1_2:inI x1.applied)(p2_0:x2.name.b.length<=LEN)(p2_1:inI x2.kind)(p2_2:inI x2.size)(p2_4:repS w0 B (sl A2 N2 C2) x2.bytes)(p2_5:repS w0 B (sl A3 N3 C3) x2.names)(p2_6:repS w0 B (sl A1 N1 C1) x2.tags)(p2_7:repS w0 B (sl A5 N5 C5) x2.kids)(p3_0:inI x3),l_ prog 123 [pt g1,.agg #[Str.v x2.name,vI x2.kind,vI x2.size,vB x2.little,sl A2 N2 C2,sl A3 N3 C3,sl A1 N1 C1,sl A5 N5 C5],vI x3] w0<|Q26 w0 g1 B A0 N0 C0 A4 N4 C4 x1 res
structure k_C (f:a_d->g_->Int->Option (Z_×Int)):Prop where
  run:∀{A0 A4 A2 A3 A1 A5:Option Addr}{N0 C0 N4 C4 g1 N2 C2 N3 C3 N1 C1 N5 C5:Nat}{B:Zone}{x1:a_d}{x2:g_}{x3:Int}{res:Z_×Int}{w0:World}(hm:f x1 x2 x3=some res)(hB1:Blk w0 g1 [sl A0 N0 C0,sl A4 N4 C4,vI x1.applied])(hBw:B<=w0.z)(hBg:¬B g1)(p1_0:repS w0 B (sl A0 N0 C0) x1.d.rules)(p1_1:repS w0 B (sl A4 N4 C4) x1.b)(p1_2:inI x1.applied)(p2_0:x2.name.b.length<=LEN)(p2_1:inI x2.kind)(p2_2:inI x2.size)(p2_4:repS w0 B (sl A2 N2 C2) x2.bytes)(p2_5:repS w0 B (sl A3 N3 C3) x2.names)(p2_6:repS w0 B (sl A1 N1 C1) x2.tags)(p2_7:repS w0 B (sl A5 N5 C5) x2.kids)(p3_0:inI x3),l_ prog 124 [pt g1,.agg #[Str.v x2.name,vI x2.kind,vI x2.size,vB x2.little,sl A2 N2 C2,sl A3 N3 C3,sl A1 N1 C1,sl A5 N5 C5],vI x3] w0<|Q26 w0 g1 B A0 N0 C0 A4 N4 C4 x1 res
structure k_D (f:a_d->g_->Int->Option (Z_×Int)):Prop where
  run:∀{A0 A4 A2 A3 A1 A5:Option Addr}{N0 C0 N4 C4 g1 N2 C2 N3 C3 N1 C1 N5 C5:Nat}{B:Zone}{x1:a_d}{x2:g_}{x3:Int}{res:Z_×Int}{w0:World}(hm:f x1 x2 x3=some res)(hB1:Blk w0 g1 [sl A0 N0 C0,sl A4 N4 C4,vI x1.applied])(hBw:B<=w0.z)(hBg:¬B g1)(p1_0:repS w0 B (sl A0 N0 C0) x1.d.rules)(p1_1:repS w0 B (sl A4 N4 C4) x1.b)(p1_2:inI x1.applied)(p2_0:x2.name.b.length<=LEN)(p2_1:inI x2.kind)(p2_2:inI x2.size)(p2_4:repS w0 B (sl A2 N2 C2) x2.bytes)(p2_5:repS w0 B (sl A3 N3 C3) x2.names)(p2_6:repS w0 B (sl A1 N1 C1) x2.tags)(p2_7:repS w0 B (sl A5 N5 C5) x2.kids)(p3_0:inI x3),l_ prog 125 [pt g1,.agg #[Str.v x2.name,vI x2.kind,vI x2.size,vB x2.little,sl A2 N2 C2,sl A3 N3 C3,sl A1 N1 C1,sl A5 N5 C5],vI x3] w0<|Q26 w0 g1 B A0 N0 C0 A4 N4 C4 x1 res
structure k_E (f:a_d->g_->Int->Option (Z_×Int)):Prop where
  run:∀{A0 A4 A2 A3 A1 A5:Option Addr}{N0 C0 N4 C4 g1 N2 C2 N3 C3 N1 C1 N5 C5:Nat}{B:Zone}{x1:a_d}{x2:g_}{x3:Int}{res:Z_×Int}{w0:World}(hm:f x1 x2 x3=some res)(hB1:Blk w0 g1 [sl A0 N0 C0,sl A4 N4 C4,vI x1.applied])(hBw:B<=w0.z)(hBg:¬B g1)(p1_0:repS w0 B (sl A0 N0 C0) x1.d.rules)(p1_1:repS w0 B (sl A4 N4 C4) x1.b)(p1_2:inI x1.applied)(p2_0:x2.name.b.length<=LEN)(p2_1:inI x2.kind)(p2_2:inI x2.size)(p2_4:repS w0 B (sl A2 N2 C2) x2.bytes)(p2_5:repS w0 B (sl A3 N3 C3) x2.names)(p2_6:repS w0 B (sl A1 N1 C1) x2.tags)(p2_7:repS w0 B (sl A5 N5 C5) x2.kids)(p3_0:inI x3),l_ prog 126 [pt g1,.agg #[Str.v x2.name,vI x2.kind,vI x2.size,vB x2.little,sl A2 N2 C2,sl A3 N3 C3,sl A1 N1 C1,sl A5 N5 C5],vI x3] w0<|Q26 w0 g1 B A0 N0 C0 A4 N4 C4 x1 res
abbrev f_C (n:Nat):Prop:=k_A (a_G n).impl_checker_value/\k_B (a_G n).impl_checker_array/\k_C (a_G n).impl_checker_choice/\k_D (a_G n).impl_checker_option/\k_E (a_G n).impl_checker_checked
theorem T_w04 (ih:f_C n):k_A (h_P n<|a_G n):=by
 obtain ⟨dN,dO,dP,dS,dT⟩:=ih
 constructor
 intro A0 A4 N0 C0 N4 C4 g1 B x1 x2 x3 res w0 hm hB1 J hBg W Y cT cU a0;unfold h_P at hm
 refine goG func97 z z z λfn hr=>Ws<|E z (fa b_O) ?_
 rintro _ H ⟨rfl,bo⟩;have h1:=bo.below;have h6:Blk H w0.z [vI 0,vI 0]:=bo.blk;refine Wn<|Wm z<|R z (C_ z)<|Rf z m_r z<|Rf z a_3 z ?_
 have aL:=hB1.e h1;refine R z (l0 a_8 z<|aL.at z)<|Rm z ?_
 obtain ⟨xh,dU,b8⟩:=bdS hm;refine RX z (at_ (α:=g_) a_a o_ z z z (W.e h1) dU) ?_;rintro _ ⟨_,_,_,rfl,dV,dW,_⟩;obtain ⟨ao,np,cq,ar,ns,ct,au,nv,cw,ai,nj,ck,rfl,a7,a8,hz,a1,a9,aa,he⟩:=a_D dW;refine R z (lN (vs:=vR xh ao np cq ar ns ct au nv cw ai nj ck) L_ o_ z z fid dV)<|E z (fa b_P) ?_
 rintro _ O ⟨rfl,bp⟩;have h2:=bp.below;have bq:Blk O H.z [(Str.v (⟨[]⟩:Str)),vI 0,vI 0,vB false,sN,sN,sN,sN]:=bp.blk;refine E0 (fs0 (cur':=vR xh ao np cq ar ns ct au nv cw ai nj ck) o_ z z bq z z z z) ?_;rintro _ V ⟨br,dX⟩;have G:=dX.one;refine Wn<|Wq<|Ws<|Rf z a_u z<|R z (l0 g_3 z<|br.at z)<|Rq z z z<|Wx z (λaz=>?_) (λaz=>?_)
 .refine Wm z<|RM z z ?_
  have bs:=((h1.ag B).e h2).c G<|b_ (or0 (c_ lr) (k_<|zt' J h1.s):∀k∈[H.z],¬B k)
  have bt:=lt_ (lt_ h1.s h2.s) G.s;obtain ⟨_,a2,_,dY,cV⟩:=w_<|ifT b8 az;refine E z (fc call120 z<|i_X (B:=B) dY ((aL.e h2).c G<|djs<|mm1 (Blk.lt hB1) h1.s) (zt' J bt) hBg (W.g bs) (Y.g bs) cT cU a0) ?_;rintro _ aM ⟨aj,rfl,_,dZ,e0,e1,e2⟩;refine Rm z<|Re z z z<|Re z z z<|E z (fa b_O) ?_
  rintro _ bu ⟨rfl,bv⟩;have aN:=bv.below;refine Ra z<|E0 (fs0 (cur':=[vI a2.at_,vI a2.code]) K_ z z (bv.blk:Blk bu aM.z [vI 0,vI 0]) z z z z) ?_
  rintro _ e3 ⟨e4,e5⟩;have aO:=e5.one;refine Wn<|Ws<|R z (lN (vs:=[vI a2.at_,vI a2.code]) a_m K_ z z fid<|e4.row 0 2 z) ?_
  have bw:=mmr<|Blk.lt hB1
  refine E0 (fs0 (cur':=[vI a2.at_,vI a2.code]) K_ z z (((((h6.e h2).c G<|djs<|mmr h6.lt).c aj<|atp bw).e aN).c aO<|djs<|mm1 h6.lt<|lt_ (lt_ h2.s G.s) aj.s) z z z z) ?_;rintro _ e6 ⟨e7,e8⟩;have bx:=e8.one;refine Wn ?_;obtain rfl:=som cV;have bz:=lt_ bt aj.s;exact Wr<|e_ hr (s_ a_m K_ z e7 z) ⟨(cM (cM (f_ (cM (cM (f_ (f_ (cr [g1] w0) h1:Cg [g1] w0 H) h2:Cg [g1] w0 O) G (mor h1.s:∀k∈[H.z],k∈[g1]∨w0.z<=k):Cg [g1] w0 V) aj (io sr):Cg [g1] w0 aM) aN:Cg [g1] w0 bu) aO (mor bz:∀k∈[aM.z],k∈[g1]∨w0.z<=k):Cg [g1] w0 e3) bx (mor lr:∀k∈[w0.z],k∈[g1]∨w0.z<=k):Cg [g1] w0 e6),z,dZ,e0,e1,((e2.e aN).c aO<|djs<|mm1 (Blk.lt hB1) bz).c bx<|djs bw⟩
 have b9:=ifF b8 az;refine Wk<|Wm z<|R z (C_ z)<|Rf z i_O z ?_
 have bA:=mm1 (Blk.lt hB1) h1.s;have bB:=(aL.e h2).c G<|djs bA
 refine R z (l0 g_3 z<|bB.at z)<|R z (add_ z z)<|R z (C_ z)<|Rf z i_O z<|E0 (fs0 (cur':=[sl A0 N0 C0,sl A4 N4 C4,vI<|i_ x1.applied 1]) z_3 z z bB z z z z) ?_
 rintro _ I ⟨ha,e9⟩;have h3:=e9.one;refine Wn<|Wq<|Ws<|Rf z a_u z ?_
 have hb:=br.c h3<|atp bA
 refine R z (l0 g_3 z<|hb.at z)<|Wn<|Wb<|Ws<|Rq z z z<|Rw z<|Wc z (λaA=>?_) (λaA=>?_)
 .refine Wm z<|R z (lN (vs:=vR xh ao np cq ar ns ct au nv cw ai nj ck) L_ o_ z z fid<|hb.row 0 8 z)<|Rm z ?_
  have bC:∀k∈[H.z],¬B k:=or0 (c_ lr)<|k_<|zt' J h1.s;have bD:=(((h1.ag B).e h2).c G<|b_ bC).c h3<|b_<|c_ hBg
  have ak:=((h2.ag B).c G<|b_ bC).c h3<|b_<|c_ hBg
  obtain ⟨bE,ea,cW⟩:=bdS<|ifT b9 aA;refine E z (fc call121 z<|W_w35 (B:=w0.z) ea (a_0<|lt_ (lt_ (lt_ h1.s h2.s) G.s) h3.s) (repS.mono (W.g bD) J) (repS.mono (Y.g bD) J) (iA _ _) (ha.row 0 3 z) (Blk.lt hB1) a7 a8 hz (repS.mono (a1.g ak) J) (repS.mono (a9.g ak) J) (repS.mono (aa.g ak) J) (repS.mono (he.g ak) J) a0) ?_;rintro _ eb ⟨aP,rfl,ec,ed⟩;have bF:=mmr<|Blk.lt hB1
  refine E0 (fs0 (cur':=[vI bE.at_,vI bE.code]) K_ z z ((((h6.e h2).c G<|djs<|mmr h6.lt).c h3<|atp bF).e aP) z z z z) ?_;rintro _ ee ⟨ef,eg⟩;have bG:=eg.one;refine Wn ?_;obtain rfl:=som cW;exact Wr<|rtO<|e_ hr (s_ a_m K_ z ef z) ⟨(cM (f_ (cM (cM (f_ (f_ (cr [g1] w0) h1:Cg [g1] w0 H) h2:Cg [g1] w0 O) G (mor h1.s:∀k∈[H.z],k∈[g1]∨w0.z<=k):Cg [g1] w0 V) h3 (io sr):Cg [g1] w0 I) aP:Cg [g1] w0 eb) bG (mor lr:∀k∈[w0.z],k∈[g1]∨w0.z<=k):Cg [g1] w0 ee),z,ec,ed,iA _ _,(ha.e aP).c bG<|djs bF⟩
 have ba:=ifF b9 aA;refine Ws<|Rq z z z<|Rw z<|Wc z (λaB=>?_) (λaB=>?_)
 .refine Wm z<|Rm z<|Rf z a_F z<|R z (l0 g_3 z<|hb.at z) ?_
  have bH:=(((h1.ag B).e h2).c G<|b_ (or0 (c_ lr) (k_<|zt' J h1.s):∀k∈[H.z],¬B k)).c h3<|b_<|c_ hBg
  obtain ⟨bI,eh,cX⟩:=bdS<|ifT ba aB;refine E z (fc call122 z<|g_X (B:=w0.z) eh (a_0<|lt_ (lt_ (lt_ h1.s h2.s) G.s) h3.s) (repS.mono (W.g bH) J) (repS.mono (Y.g bH) J) (iA _ _) (ha.row 0 3 z) (Blk.lt hB1) a0 hz) ?_;rintro _ ei ⟨aQ,rfl,ej,ek⟩;have bJ:=mmr<|Blk.lt hB1
  refine E0 (fs0 (cur':=[vI bI.at_,vI bI.code]) K_ z z ((((h6.e h2).c G<|djs<|mmr h6.lt).c h3<|atp bJ).e aQ) z z z z) ?_;rintro _ em ⟨en,eo⟩;have bK:=eo.one;refine Wn ?_;obtain rfl:=som cX;exact Wr<|rtO<|e_ hr (s_ a_m K_ z en z) ⟨(cM (f_ (cM (cM (f_ (f_ (cr [g1] w0) h1:Cg [g1] w0 H) h2:Cg [g1] w0 O) G (mor h1.s:∀k∈[H.z],k∈[g1]∨w0.z<=k):Cg [g1] w0 V) h3 (io sr):Cg [g1] w0 I) aQ:Cg [g1] w0 ei) bK (mor lr:∀k∈[w0.z],k∈[g1]∨w0.z<=k):Cg [g1] w0 em),z,ej,ek,iA _ _,(ha.e aQ).c bK<|djs bJ⟩
 have bb:=ifF ba aB;refine Ws<|Rq z z z<|Rw z<|Wc z (λaC=>?_) (λaC=>?_)
 .refine Wm z<|Rf z J_ z<|R z (l0 A_ z<|hb.at z) ?_
  obtain ⟨_,ep,cY⟩:=bdS<|ifT bb aC;have bL:∀k∈[H.z],¬B k:=or0 (c_ lr)<|k_<|zt' J h1.s;refine RX z (at_ (α:=Int) v_ z_3 z z z (he.g<|((h2.ag B).c G<|b_ bL).c h3<|b_<|c_ hBg) ep) ?_;rintro _ ⟨_,_,_,rfl,eq,er,_⟩;obtain ⟨rfl,es⟩:=O_ er;refine R z (l0 g_3 z<|eq.at0 z)<|Rm z ?_
  have aR:=(((h1.ag B).e h2).c G<|b_ bL).c h3<|b_<|c_ hBg
  have aS:=lt_ (lt_ (lt_ h1.s h2.s) G.s) h3.s;obtain ⟨_,a3,_,eu,bc⟩:=w_ cY;refine E z (fc call120 z<|i_X (B:=B) eu ha (zt' J aS) hBg (W.g aR) (Y.g aR) (iA _ _) es a0) ?_;rintro _ a4 ⟨sf,rfl,ew,bM,ex,aT,bN⟩;refine Rm z<|Re z z z<|Re z z z<|E z (fa b_O) ?_
  rintro _ aU ⟨rfl,bO⟩;have hl:=bO.below;refine Ra z<|E0 (fs0 (cur':=[vI a3.at_,vI a3.code]) K_ z z (bO.blk:Blk aU a4.z [vI 0,vI 0]) z z z z) ?_
  rintro _ bQ ⟨aV,ey⟩;have hn:=ey.one;refine Wn<|Wq<|Ws<|Rf z d_j z<|R z (l0 g_3 z<|aV.at z)<|R z (nq z z)<|Wx z (λaD=>?_) (λaD=>?_)
  .refine Ws<|R z (lN (vs:=[vI a3.at_,vI a3.code]) a_m K_ z z fid<|aV.row 0 2 z) ?_
   have aW:=mmr<|Blk.lt hB1
   refine E0 (fs0 (cur':=[vI a3.at_,vI a3.code]) K_ z z ((((((h6.e h2).c G<|djs<|mmr h6.lt).c h3<|atp aW).c sf<|atp aW).e hl).c hn<|djs<|mm1 h6.lt<|lt_ (lt_ (lt_ h2.s G.s) h3.s) sf.s) z z z z) ?_;rintro _ ez ⟨eA,eB⟩;have bR:=eB.one;refine Wn ?_;obtain rfl:=som<|ifT bc aD;have bS:=lt_ aS sf.s;exact Wr<|rtO<|e_ hr (s_ a_m K_ z eA z) ⟨(cM (cM (f_ (cM (cM (cM (f_ (f_ (cr [g1] w0) h1:Cg [g1] w0 H) h2:Cg [g1] w0 O) G (mor h1.s:∀k∈[H.z],k∈[g1]∨w0.z<=k):Cg [g1] w0 V) h3 (io sr):Cg [g1] w0 I) sf (io sr):Cg [g1] w0 a4) hl:Cg [g1] w0 aU) hn (mor bS:∀k∈[a4.z],k∈[g1]∨w0.z<=k):Cg [g1] w0 bQ) bR (mor lr:∀k∈[w0.z],k∈[g1]∨w0.z<=k):Cg [g1] w0 ez),z,bM,ex,aT,((bN.e hl).c hn<|djs<|mm1 (Blk.lt hB1) bS).c bR<|djs aW⟩
  refine Wk<|Wm z<|Rf z c_U z<|R z (l0 g_3 z<|aV.at z)<|Rm z ?_
  have al:=lt_ aS sf.s;have bT:=(bN.e hl).c hn<|djs<|mm1 (Blk.lt hB1) al
  have bU:=((aR.c sf<|b_<|c_ hBg).e hl).c hn<|b_ (or0 (c_ lr) (k_<|zt' J al):∀k∈[a4.z],¬B k)
  obtain ⟨bV,eC,cZ⟩:=bdS<|ifF bc aD;refine E z (fc call122 z<|g_X (B:=w0.z) eC (a_0<|lt_ (lt_ al hl.s) hn.s) (repS.mono (W.g bU) J) (repS.mono (Y.g bU) J) aT (bT.row 0 3 z) (Blk.lt hB1) bM ew) ?_;rintro _ eD ⟨aX,rfl,eE,eF⟩;have aY:=mmr<|Blk.lt hB1
  refine E0 (fs0 (cur':=[vI bV.at_,vI bV.code]) K_ z z (((((((h6.e h2).c G<|djs<|mmr h6.lt).c h3<|atp aY).c sf<|atp aY).e hl).c hn<|djs<|mm1 h6.lt<|lt_ (lt_ (lt_ h2.s G.s) h3.s) sf.s).e aX) z z z z) ?_;rintro _ eG ⟨eH,eI⟩;have bW:=eI.one;refine Wn ?_;obtain rfl:=som cZ;exact Wr<|rtO<|e_ hr (s_ a_m K_ z eH z) ⟨(cM (f_ (cM (f_ (cM (cM (cM (f_ (f_ (cr [g1] w0) h1:Cg [g1] w0 H) h2:Cg [g1] w0 O) G (mor h1.s:∀k∈[H.z],k∈[g1]∨w0.z<=k):Cg [g1] w0 V) h3 (io sr):Cg [g1] w0 I) sf (io sr):Cg [g1] w0 a4) hl:Cg [g1] w0 aU) hn (mor al:∀k∈[a4.z],k∈[g1]∨w0.z<=k):Cg [g1] w0 bQ) aX:Cg [g1] w0 eD) bW (mor lr:∀k∈[w0.z],k∈[g1]∨w0.z<=k):Cg [g1] w0 eG),z,eE,eF,aT,(bT.e aX).c bW<|djs aY⟩
 have be:=ifF bb aC;refine Ws<|Rq z z z<|Rw z<|Wc z (λaE=>?_) (λaE=>?_)
 .refine Wm z<|R z (lN (vs:=vR xh ao np cq ar ns ct au nv cw ai nj ck) L_ o_ z z fid<|hb.row 0 8 z)<|Rm z ?_
  have bX:∀k∈[H.z],¬B k:=or0 (c_ lr)<|k_<|zt' J h1.s;have bY:=(((h1.ag B).e h2).c G<|b_ bX).c h3<|b_<|c_ hBg
  have am:=((h2.ag B).c G<|b_ bX).c h3<|b_<|c_ hBg
  obtain ⟨bZ,_,eJ,d0⟩:=a_r<|ifT be aE;refine E z (fc call123 z<|dO.run (B:=B) eJ ha (zt' J<|lt_ (lt_ (lt_ h1.s h2.s) G.s) h3.s) hBg (W.g bY) (Y.g bY) (iA _ _) a7 a8 hz (a1.g am) (a9.g am) (aa.g am) (he.g am) a0) ?_;rintro _ eK ⟨c0,rfl,eL,eM,eN,eO⟩;have aZ:=mmr<|Blk.lt hB1
  refine E0 (fs0 (cur':=[vI bZ.at_,vI bZ.code]) K_ z z ((((h6.e h2).c G<|djs<|mmr h6.lt).c h3<|atp aZ).c c0<|atp aZ) z z z z) ?_;rintro _ eP ⟨eQ,eR⟩;have c1:=eR.one;refine Wn ?_;obtain rfl:=som d0;exact Wr<|rtO<|e_ hr (s_ a_m K_ z eQ z) ⟨(cM (cM (cM (cM (f_ (f_ (cr [g1] w0) h1:Cg [g1] w0 H) h2:Cg [g1] w0 O) G (mor h1.s:∀k∈[H.z],k∈[g1]∨w0.z<=k):Cg [g1] w0 V) h3 (io sr):Cg [g1] w0 I) c0 (io sr):Cg [g1] w0 eK) c1 (mor lr:∀k∈[w0.z],k∈[g1]∨w0.z<=k):Cg [g1] w0 eP),z,eL,eM,eN,eO.c c1<|djs aZ⟩
 have bf:=ifF be aE;refine Ws<|Rq z z z<|Rw z<|Wc z (λaF=>?_) (λaF=>?_)
 .refine Wm z<|R z (bP (parts:=[(0,.tmp 88),(1,.const<|.int .i64 0)]) (cs:=[vI x3,vI 0]) c_F z z)<|E z (fa b_O) ?_
  rintro _ c2 ⟨rfl,c3⟩;have hx:=c3.below;refine E0 (fs0 (cur':=[vI x3,vI 0]) K_ z z (c3.blk:Blk c2 I.z [vI 0,vI 0]) z z z z) ?_;rintro _ L ⟨eS,eT⟩;have hy:=eT.one;refine Wn<|Wq<|Ws<|Rf z J_ z<|R z (l0 A_ z<|((hb.e hx).c hy<|djs<|mm1 bq.lt<|lt_ G.s h3.s).at z) ?_
  have c4:∀k∈[H.z],¬B k:=or0 (c_ lr)<|k_<|zt' J h1.s;have ab:=lt_ (lt_ (lt_ h1.s h2.s) G.s) h3.s;have an:∀k∈[I.z],¬B k:=or0 (c_ lr)<|k_<|zt' J ab;have c5:=((((h2.ag B).c G<|b_ c4).c h3<|b_<|c_ hBg).e hx).c hy<|b_ an
  refine R z (lnR v_ z<|he.g c5)<|Rm z<|Wn ?_
  obtain ⟨_,d1,bg⟩:=bdS<|ifT bf aF;refine Wf (σ:=Int×Int×Int) (ρ:=Z_×Int) (λ(c6:Nat) s a w=>un3 (λxm xc xd=>Sat 145 [(0,pt g1),(6,pt w0.z),(12,pt I.z),(91,sl ai nj ck),(92,vI (xh.kids.length:Int)),(93,vI ((c6:Nat):Int))] a/\Chg (· ∈ ([g1]++[I.z])) L w/\inI xm/\inI xc/\inI xd/\Blk w g1 [sl A0 N0 C0,sl A4 N4 C4,vI xm]/\Blk w I.z [vI xc,vI xd]) s) (λs a w=>un3 (λxm xc xd=>Sat 145 [(6,pt w0.z),(12,pt I.z)] a/\Chg (· ∈ ([g1]++[I.z])) L w/\inI xm/\inI xc/\inI xd/\Blk w g1 [sl A0 N0 C0,sl A4 N4 C4,vI xm]/\Blk w I.z [vI xc,vI xd]) s) (rQ prog fn<|Q26 w0 g1 B A0 N0 C0 A4 N4 C4 x1) d1 ?_ ?_ ?_ ?_ ?_
  .exact λ_ q=>⟨q.k<|s6 z z z z z z,cr ([g1]++[I.z]) L,iA _ _,a0,ii z,(ha.e hx).c hy<|djs<|mm1 (Blk.lt hB1) ab,eS⟩
  .rintro c6 ⟨xm,xc,xd⟩ _ c7 _ bh ⟨d2,ad,ae,af,ap,ah,a5⟩ d3;refine Wu ?_ d2;refine Ws<|Rl z z z<|Wn<|Wq<|Wc z (λ_=>?_) (λhc=>(a_6 bh hc).elim)
   refine Wk<|Wq<|Wb<|Ws ?_
   obtain ⟨_,eU,d4⟩:=bdS<|b_s d3;refine RX z (at_ (α:=Int) v_ z_3 z z z (he.g<|c5.c ad<|nmA (b_<|c_ hBg)<|b_ an) eU) ?_;rintro _ ⟨_,_,_,rfl,eV,eW,_⟩;obtain ⟨rfl,eX⟩:=O_ eW;refine R z (l0 g_3 z<|eV.at0 z)<|Rw z<|Wm z<|Rm z<|Rf z c_U z<|R z (l0 g_3 z<|a5.at z) ?_
   have c8:=((((((h1.ag B).e h2).c G<|b_ c4).c h3<|b_<|c_ hBg).e hx).c hy<|b_ an).c ad<|nmA (b_<|c_ hBg)<|b_ an
   obtain ⟨aq,eY,eZ,bi⟩:=a_r d4;refine E z (fc call97 z<|dN.run (B:=B) eZ ah (zt' J<|lt_ (lt_ (lt_ ab hx.s) hy.s) ad.s) hBg (W.g c8) (Y.g c8) ae eX af) ?_;rintro _ c9 ⟨b0,rfl,ca,cb,cc,cd⟩;have b1:=mm1 (Blk.lt hB1) ab;refine E0 (fs0 (cur':=[vI aq.at_,vI aq.code]) K_ z z (a5.c b0<|atp b1) z z z z) ?_;rintro _ ce ⟨b2,f0⟩;have av:=f0.one;refine Wn<|Ws<|Rf z d_j z<|R z (l0 g_3 z<|b2.at z)<|R z (nq z z)<|Wx z (λaG=>?_) (λaG=>?_)
   .have f1:Chg (· ∈ ([g1]++[I.z])) L c7:=cM (cr ([g1]++[I.z]) L) ad<|aa_ (io<|D_ sr)<|io<|F_ sr;exact We<|exO z (λ_ q=>b_N (som<|ifT bi aG).symm ⟨q.k<|s2 z z,(cM (cM f1 b0 (io<|D_ sr):Chg (· ∈ ([g1]++[I.z])) L c9) av (io<|F_ sr):Chg (· ∈ ([g1]++[I.z])) L ce),cc,ca,cb,cd.c av<|djs b1,b2⟩)
   refine Wk<|Wg<|R z (inc_ bh (lt_ (repS.len he) M_) z z)<|Rm z<|Wl ?_
   exact λ_ q=>⟨(eY,aq.at_,aq.code),(som<|ifF bi aG).symm,⟨q.k<|s6 z z z z z z,(cM (cM (cM (cr ([g1]++[I.z]) L) ad (aa_ (io<|D_ sr)<|io<|F_ sr):Chg (· ∈ ([g1]++[I.z])) L c7) b0 (io<|D_ sr):Chg (· ∈ ([g1]++[I.z])) L c9) av (io<|F_ sr):Chg (· ∈ ([g1]++[I.z])) L ce),cc,ca,cb,cd.c av<|djs b1,b2⟩⟩
  .rintro ⟨xm,xc,xd⟩ _ f2 ⟨d5,f3,ae,af,ap,ah,a5⟩;refine Wu ?_ d5;refine Ws<|Rl z z z<|Wn<|Wq<|Wc z (λhc=>(a_7 hc).elim) (λ_=>?_)
   exact We<|λ_ q=>⟨rfl,⟨q.k<|s2 z z,(cM (cr ([g1]++[I.z]) L) f3 (aa_ (io<|D_ sr)<|io<|F_ sr):Chg (· ∈ ([g1]++[I.z])) L f2),ae,af,ap,ah,a5⟩⟩
  .rintro ⟨xm,xc,xd⟩ f4 f5 rfl ⟨_,cf,ae,af,ap,ah,a5⟩;have d6:=elL bg;revert f4;refine Wo<|Ws<|R z (lN (vs:=[vI xc,vI xd]) a_m K_ z z fid<|a5.row 0 2 z) ?_
   have b3:=mmr<|Blk.lt hB1
   have cg:=mm1 h6.lt<|lt_ (lt_ h2.s G.s) h3.s
   refine E0 (fs0 (cur':=[vI xc,vI xd]) K_ z z ((((((h6.e h2).c G<|djs<|mmr h6.lt).c h3<|atp b3).e hx).c hy<|djs cg).c cf<|atp<|nmA b3<|ds cg) z z z z) ?_;rintro _ f6 ⟨f7,f8⟩;have ch:=f8.one;refine Wn ?_;obtain rfl:=som<|b_s d6;have ci:∀k∈[I.z],k∈[g1]∨w0.z<=k:=mor ab;exact Wr<|rtO<|e_ hr (s_ a_m K_ z f7 z) ⟨(cM (cM (cM (f_ (cM (cM (f_ (f_ (cr [g1] w0) h1:Cg [g1] w0 H) h2:Cg [g1] w0 O) G (mor h1.s:∀k∈[H.z],k∈[g1]∨w0.z<=k):Cg [g1] w0 V) h3 (io sr):Cg [g1] w0 I) hx:Cg [g1] w0 c2) hy ci:Cg [g1] w0 L) cf (aa_ (io sr) ci):Cg [g1] w0 f5) ch (mor lr:∀k∈[w0.z],k∈[g1]∨w0.z<=k):Cg [g1] w0 f6),z,af,ap,ae,ah.c ch<|djs b3⟩
  rintro _ _ _ _ rfl ⟨rfl,cN⟩;have cO:=elR bg;obtain rfl:=som cO;exact ⟨cN,z⟩
 have bj:=ifF bf aF;refine Ws<|Rq z z z<|Rw z<|Wc z (λaH=>?_) (λaH=>?_)
 .refine Wm z<|R z (lN (vs:=vR xh ao np cq ar ns ct au nv cw ai nj ck) L_ o_ z z fid<|hb.row 0 8 z)<|Rm z ?_
  have cj:∀k∈[H.z],¬B k:=or0 (c_ lr)<|k_<|zt' J h1.s;have cl:=(((h1.ag B).e h2).c G<|b_ cj).c h3<|b_<|c_ hBg
  have aw:=((h2.ag B).c G<|b_ cj).c h3<|b_<|c_ hBg
  obtain ⟨cm,_,d7,cP⟩:=a_r<|ifT bj aH;refine E z (fc call124 z<|dP.run (B:=B) d7 ha (zt' J<|lt_ (lt_ (lt_ h1.s h2.s) G.s) h3.s) hBg (W.g cl) (Y.g cl) (iA _ _) a7 a8 hz (a1.g aw) (a9.g aw) (aa.g aw) (he.g aw) a0) ?_;rintro _ d8 ⟨cn,rfl,d9,da,db,dc⟩;have b4:=mmr<|Blk.lt hB1
  refine E0 (fs0 (cur':=[vI cm.at_,vI cm.code]) K_ z z ((((h6.e h2).c G<|djs<|mmr h6.lt).c h3<|atp b4).c cn<|atp b4) z z z z) ?_;rintro _ dd ⟨de,df⟩;have co:=df.one;refine Wn ?_;obtain rfl:=som cP;exact Wr<|rtO<|e_ hr (s_ a_m K_ z de z) ⟨(cM (cM (cM (cM (f_ (f_ (cr [g1] w0) h1:Cg [g1] w0 H) h2:Cg [g1] w0 O) G (mor h1.s:∀k∈[H.z],k∈[g1]∨w0.z<=k):Cg [g1] w0 V) h3 (io sr):Cg [g1] w0 I) cn (io sr):Cg [g1] w0 d8) co (mor lr:∀k∈[w0.z],k∈[g1]∨w0.z<=k):Cg [g1] w0 dd),z,d9,da,db,dc.c co<|djs b4⟩
 have bk:=ifF bj aH;refine Ws<|Rq z z z<|Rw z<|Wc z (λaI=>?_) (λaI=>?_)
 .refine Wm z<|R z (lN (vs:=vR xh ao np cq ar ns ct au nv cw ai nj ck) L_ o_ z z fid<|hb.row 0 8 z)<|Rm z ?_
  have cp:∀k∈[H.z],¬B k:=or0 (c_ lr)<|k_<|zt' J h1.s;have cu:=(((h1.ag B).e h2).c G<|b_ cp).c h3<|b_<|c_ hBg
  have ax:=((h2.ag B).c G<|b_ cp).c h3<|b_<|c_ hBg
  obtain ⟨cv,_,dg,cQ⟩:=a_r<|ifT bk aI;refine E z (fc call125 z<|dS.run (B:=B) dg ha (zt' J<|lt_ (lt_ (lt_ h1.s h2.s) G.s) h3.s) hBg (W.g cu) (Y.g cu) (iA _ _) a7 a8 hz (a1.g ax) (a9.g ax) (aa.g ax) (he.g ax) a0) ?_;rintro _ dh ⟨cx,rfl,di,dj,dk,dl⟩;have b5:=mmr<|Blk.lt hB1
  refine E0 (fs0 (cur':=[vI cv.at_,vI cv.code]) K_ z z ((((h6.e h2).c G<|djs<|mmr h6.lt).c h3<|atp b5).c cx<|atp b5) z z z z) ?_;rintro _ dm ⟨dn,dp⟩;have cy:=dp.one;refine Wn ?_;obtain rfl:=som cQ;exact Wr<|rtO<|e_ hr (s_ a_m K_ z dn z) ⟨(cM (cM (cM (cM (f_ (f_ (cr [g1] w0) h1:Cg [g1] w0 H) h2:Cg [g1] w0 O) G (mor h1.s:∀k∈[H.z],k∈[g1]∨w0.z<=k):Cg [g1] w0 V) h3 (io sr):Cg [g1] w0 I) cx (io sr):Cg [g1] w0 dh) cy (mor lr:∀k∈[w0.z],k∈[g1]∨w0.z<=k):Cg [g1] w0 dm),z,di,dj,dk,dl.c cy<|djs b5⟩
 have bm:=ifF bk aI;refine Ws<|Rq z z z<|Rw z<|Wc z (λaJ=>?_) (λaJ=>?_)
 .refine Wm z<|R z (lN (vs:=vR xh ao np cq ar ns ct au nv cw ai nj ck) L_ o_ z z fid<|hb.row 0 8 z)<|Rm z ?_
  have cz:∀k∈[H.z],¬B k:=or0 (c_ lr)<|k_<|zt' J h1.s;have cA:=(((h1.ag B).e h2).c G<|b_ cz).c h3<|b_<|c_ hBg
  have ay:=((h2.ag B).c G<|b_ cz).c h3<|b_<|c_ hBg
  obtain ⟨cB,_,dq,cR⟩:=a_r<|ifT bm aJ;refine E z (fc call126 z<|dT.run (B:=B) dq ha (zt' J<|lt_ (lt_ (lt_ h1.s h2.s) G.s) h3.s) hBg (W.g cA) (Y.g cA) (iA _ _) a7 a8 hz (a1.g ay) (a9.g ay) (aa.g ay) (he.g ay) a0) ?_;rintro _ dr ⟨cC,rfl,dt,du,dv,dw⟩;have b6:=mmr<|Blk.lt hB1
  refine E0 (fs0 (cur':=[vI cB.at_,vI cB.code]) K_ z z ((((h6.e h2).c G<|djs<|mmr h6.lt).c h3<|atp b6).c cC<|atp b6) z z z z) ?_;rintro _ dx ⟨dy,dz⟩;have cD:=dz.one;refine Wn ?_;obtain rfl:=som cR;exact Wr<|rtO<|e_ hr (s_ a_m K_ z dy z) ⟨(cM (cM (cM (cM (f_ (f_ (cr [g1] w0) h1:Cg [g1] w0 H) h2:Cg [g1] w0 O) G (mor h1.s:∀k∈[H.z],k∈[g1]∨w0.z<=k):Cg [g1] w0 V) h3 (io sr):Cg [g1] w0 I) cC (io sr):Cg [g1] w0 dr) cD (mor lr:∀k∈[w0.z],k∈[g1]∨w0.z<=k):Cg [g1] w0 dx),z,dt,du,dv,dw.c cD<|djs b6⟩
 refine Wk<|Wq (Wd (X:=noX) 0 (pl_ 17 [9]) mo (by kernel_rfl) λcE sg _=>dM z z z<|dR z z (C_ z)<|dR z z (fd d_J z) ?_)
 have b7:=ha.e sg;refine dR z z (l0 R_ z<|b7.at z)<|dM z z z<|dR z z (fd b_6 z)<|dR z z (l0 R_ z<|(hb.e sg).at z) ?_
 obtain ⟨_,dA,cS⟩:=bdS<|ifF bm aJ;have cF:∀k∈[H.z],¬B k:=or0 (c_ lr)<|k_<|zt' J h1.s;refine dRX z z (at_ (α:=UInt8) n_ z_5 z z z (a1.g<|(((h2.ag B).c G<|b_ cF).c h3<|b_<|c_ hBg).e sg) dA) ?_;rintro _ ⟨_,_,_,rfl,dB,dC,_⟩;obtain rfl:=u8 dC;refine dR z z (l0 g_5 z<|dB.at0 z) ?_;obtain ⟨_,cG,_,dD,bn⟩:=w_ cS;refine dE z z (fc call127 z<|W_w1r dD (zt' J<|lt_ (lt_ (lt_ (lt_ h1.s h2.s) G.s) h3.s) sg.s) (Y.g<|((((h1.ag B).e h2).c G<|b_ cF).c h3<|b_<|c_ hBg).e sg) a0) (.inr λ_ _ h=>p_<|h.1) ?_;rintro _ cH ⟨a6,_,_,_,_,rfl,_,dF,_,_⟩;refine dM z z z ?_
 iterate 3 refine dR z z (ext_ z z) ?_
 iterate 3 refine dQ z z z ?_
 refine pD<|Wo<|Wq<|Wm z<|R z (not_ z)<|Wx z (λaK=>?_) (λaK=>?_)
 .refine Wm z<|R z (bP (parts:=[(0,.tmp 141),(1,.const<|.int .i64 1)]) (cs:=[vI x3,vI 1]) c_F z z) ?_
  have cI:=mmr<|Blk.lt hB1
  refine E0 (fs0 (cur':=[vI x3,vI 1]) K_ z z (((((h6.e h2).c G<|djs<|mmr h6.lt).c h3<|atp cI).e sg).e a6) z z z z) ?_;rintro _ dG ⟨dH,dI⟩;have cJ:=dI.one;refine Wn ?_;obtain rfl:=som<|ifT bn aK;exact Wr<|e_ hr (s_ a_m K_ z dH z) ⟨(cM (f_ (f_ (cM (cM (f_ (f_ (cr [g1] w0) h1:Cg [g1] w0 H) h2:Cg [g1] w0 O) G (mor h1.s:∀k∈[H.z],k∈[g1]∨w0.z<=k):Cg [g1] w0 V) h3 (io sr):Cg [g1] w0 I) sg:Cg [g1] w0 cE) a6:Cg [g1] w0 cH) cJ (mor lr:∀k∈[w0.z],k∈[g1]∨w0.z<=k):Cg [g1] w0 dG),z,a0,ii z,iA _ _,(b7.e a6).c cJ<|djs cI⟩
 refine Wk<|Wm z<|R z (bP (parts:=[(0,.tmp 143),(1,.const<|.int .i64 0)]) (cs:=[vI cG,vI 0]) c_F z z) ?_
 have cK:=mmr<|Blk.lt hB1
 refine E0 (fs0 (cur':=[vI cG,vI 0]) K_ z z (((((h6.e h2).c G<|djs<|mmr h6.lt).c h3<|atp cK).e sg).e a6) z z z z) ?_;rintro _ dJ ⟨dK,dL⟩;have cL:=dL.one;refine Wn ?_;obtain rfl:=som<|ifF bn aK;exact Wr<|e_ hr (s_ a_m K_ z dK z) ⟨(cM (f_ (f_ (cM (cM (f_ (f_ (cr [g1] w0) h1:Cg [g1] w0 H) h2:Cg [g1] w0 O) G (mor h1.s:∀k∈[H.z],k∈[g1]∨w0.z<=k):Cg [g1] w0 V) h3 (io sr):Cg [g1] w0 I) sg:Cg [g1] w0 cE) a6:Cg [g1] w0 cH) cL (mor lr:∀k∈[w0.z],k∈[g1]∨w0.z<=k):Cg [g1] w0 dJ),z,dF,ii z,iA _ _,(b7.e a6).c cL<|djs cK⟩
theorem T_w1s (ih:f_C n):k_B (h_Q n<|a_G n):=by
 obtain ⟨aP,_,_,_,_⟩:=ih
 constructor
 intro A0 A4 A2 A3 A1 A5 N0 C0 N4 C4 g1 N2 C2 N3 C3 N1 C1 N5 C5 B x1 x2 x3 res w0 hm hB1 W hBg a2 a3 aE bu bv bw bx bz bA a4 a5;unfold h_Q at hm
 refine goG func123 z z z λfn hr=>Ws<|E z (fb z) ?_
 rintro _ J ⟨rfl,ab⟩;have h6:=ab.below;have ad:Blk J w0.z (vR x2 A2 N2 C2 A3 N3 C3 A1 N1 C1 A5 N5 C5):=ab.blk;refine E z (fa b_O) ?_;rintro _ wr ⟨rfl,ae⟩;have he:=ae.below;have hn:Blk wr J.z [vI 0,vI 0]:=ae.blk;refine Wn<|Wm z<|Rf z J_ z ?_
 have af:=ad.e he;refine R z (l0 A_ z<|af.at z) ?_;obtain ⟨_,aQ,aF⟩:=bdS hm;have ho:=(h6.ag B).e he;refine RX z (at_ (α:=Int) v_ z_3 z z z (a4.g ho) aQ) ?_;rintro _ ⟨_,_,_,rfl,aR,aS,_⟩;obtain ⟨rfl,aT⟩:=O_ aS;refine R z (l0 g_3 z<|aR.at0 z)<|Rm z ?_
 have hj:=lt_ h6.s he.s;obtain ⟨ah,rs,_,aU,aG⟩:=w_ aF;refine E z (fc call120 z<|i_X (B:=B) aU ((hB1.e h6).e he) (zt' W hj) hBg (a2.g ho) (a3.g ho) aE aT a5) ?_;rintro _ G ⟨I,rfl,aV,aW,aX,ai,aj⟩;refine Rm z<|Re z z z<|Re z z z<|E z (fa b_O) ?_
 rintro _ wu ⟨rfl,ak⟩;have O:=ak.below;refine Ra z<|E0 (fs0 (cur':=[vI rs.at_,vI rs.code]) K_ z z (ak.blk:Blk wu G.z [vI 0,vI 0]) z z z z) ?_
 rintro _ wg ⟨al,aY⟩;have V:=aY.one;refine Wn<|Wq<|Wq ?_
 obtain ⟨aZ,a6,a7⟩:=bdS aG;refine Wt (λa w=>∃(xv:Bool),xv=aZ/\Sat 46 [(0,pt g1),(2,vI x3),(4,pt w0.z),(6,pt J.z),(7,vI ah),(8,pt G.z),(25,vB xv)] a/\Below wg.z wg w) ?_ ?_
 .refine Wg<|Rf z d_j z<|R z (l0 g_3 z<|al.at z)<|Rq z z z<|Rm z ?_
  rcases bs (rs.code==0) with L | L
  .exact Rh z L (mv z)<|Rh z L (a_g z z)<|R z (pT z L z)<|Wl (λ_ q=>⟨decide<|40<ah,som<|ifT a6 L,q.k<|s7 z z z z z z z,br wg⟩)
  exact Nh z L<|Nh z L<|R z (pF z L z)<|Wl (λ_ q=>⟨false,som<|ifF a6 L,q.k<|s7 z z z z z z z,br wg⟩)
 rintro b0 H ⟨xv,rfl,_,s4⟩;revert b0;refine Wo<|Wc z (λhcw=>?_) (λhcw=>?_)
 .refine Wm z<|R z (bP (parts:=[(0,.tmp 26),(1,.const<|.int .i64 6)]) (cs:=[vI x3,vI 6]) c_F z z) ?_
  have am:=mm1 (Blk.lt hB1) h6.s;refine E0 (fs0 (cur':=[vI x3,vI 6]) K_ z z ((((hn.c I<|atp am).e O).c V<|djs<|mm1 hn.lt I.s).e s4) z z z z) ?_;rintro _ b1 ⟨b2,b3⟩;have an:=b3.one;refine Wn ?_;obtain rfl:=som<|ifT a7 hcw;have ao:=lt_ hj I.s;exact Wr<|e_ hr (s_ a_m K_ z b2 z) ⟨(cM (f_ (cM (f_ (cM (f_ (f_ (cr [g1] w0) h6:Cg [g1] w0 J) he:Cg [g1] w0 wr) I (io sr):Cg [g1] w0 G) O:Cg [g1] w0 wu) V (mor ao:∀k∈[G.z],k∈[g1]∨w0.z<=k):Cg [g1] w0 wg) s4:Cg [g1] w0 H) an (mor h6.s:∀k∈[J.z],k∈[g1]∨w0.z<=k):Cg [g1] w0 b1),z,a5,ii z,ai,(((aj.e O).c V<|djs<|mm1 (Blk.lt hB1) ao).e s4).c an<|djs am⟩
 refine Wk<|Wq ?_
 obtain ⟨_,aH,a8⟩:=bdS<|ifF a7 hcw;refine c_f (σ:=Int×Int×Int×Int) (ρ:=Z_×Int) (λs a w=>un4 (λxa xf xb x5=>Sat 46 [(0,pt g1),(4,pt w0.z),(6,pt J.z),(7,vI xa),(8,pt G.z)] a/\Chg (· ∈ ([g1]++[G.z])) H w/\inI xa/\inI xf/\inI xb/\inI x5/\Blk w g1 [sl A0 N0 C0,sl A4 N4 C4,vI xf]/\Blk w G.z [vI xb,vI x5]) s) (λs a w=>un4 (λxa xf xb x5=>Sat 46 [(6,pt J.z),(8,pt G.z)] a/\Chg (· ∈ ([g1]++[G.z])) H w/\inI xa/\inI xf/\inI xb/\inI x5/\Blk w g1 [sl A0 N0 C0,sl A4 N4 C4,vI xf]/\Blk w G.z [vI xb,vI x5]) s) (rQ prog fn<|Q26 w0 g1 B A0 N0 C0 A4 N4 C4 x1) aH ?_ ?_ ?_ ?_
 .exact λ_ q=>⟨q.k<|s5 z z z z z,cr ([g1]++[G.z]) H,aV,ai,aW,aX,((aj.e O).c V<|djs<|mm1 (Blk.lt hB1)<|lt_ hj I.s).e s4,al.e s4⟩
 .rintro ⟨xa,xf,xb,x5⟩ _ wh _ ⟨aI,sk,ap,hp,hq,hx,ht,hl⟩ aJ;refine Wu ?_ aI;refine Wq<|Wq ?_
  obtain ⟨b4,a9,aa⟩:=bdS<|c_u aJ;refine Wt (λa w=>∃(xy:Bool),xy=b4/\Sat 46 [(0,pt g1),(4,pt w0.z),(6,pt J.z),(7,vI xa),(8,pt G.z),(34,vB xy)] a/\Below wh.z wh w) ?_ ?_
  .refine Wg<|Rm z<|R z (a_g z z)<|Rm z ?_
   rcases bs (decide<|0<xa) with hcc | hcc
   .exact Rh z hcc (fd d_j z)<|Rh z hcc (l0 g_3 z<|hl.at z)<|Rh z hcc (eql z z)<|R z (pT z hcc z)<|Wl (λ_ q=>⟨x5==0,som<|ifT a9 hcc,q.k<|s6 z z z z z z,br wh⟩)
   iterate 3 refine Nh z hcc ?_
   exact R z (pF z hcc z)<|Wl (λ_ q=>⟨false,som<|ifF a9 hcc,q.k<|s6 z z z z z z,br wh⟩)
  rintro b5 aq ⟨xy,rfl,_,sd⟩;revert b5;refine Wo<|Wc z (λhcz=>?_) (λhcz=>?_)
  .refine Wk<|Wq<|Wb (Wd (X:=noX) 384 (pl_ 9 [7,8]) mo (by kernel_rfl) λb6 si _=>dM z z z<|dR z z (fd J_ z) ?_)
   have ar:=mmr<|Blk.lt hB1
   have au:=mm1 ad.lt<|lt_ he.s I.s
   refine dR z z (l0 A_ z<|(((((((af.c I<|atp ar).e O).c V<|djs au).e s4).c sk<|atp<|nmA ar<|ds au).e sd).e si).at z) ?_;obtain ⟨_,b7,aK⟩:=bdS<|ifT aa hcz;have Y:=lt_ hj I.s;have av:∀k∈[G.z],¬B k:=or0 (c_ lr)<|k_<|zt' W Y;have a0:=((((((ho.c I<|b_<|c_ hBg).e O).c V<|b_ av).e s4).c sk<|nmA (b_<|c_ hBg)<|b_ av).e sd).e si;refine dRX z z (at_ (α:=Int) v_ z_3 z z z (a4.g a0) b7) ?_;rintro _ ⟨_,_,_,rfl,b8,b9,_⟩;obtain ⟨rfl,ba⟩:=O_ b9;refine dR z z (l0 g_3 z<|b8.at0 z)<|dR z z (fd c_U z) ?_
   have aw:=(hl.e sd).e si;refine dR z z (l0 g_3 z<|aw.at z) ?_;obtain ⟨rm,bb,bc,aL⟩:=a_r aK;refine dE z z (fc call97 z<|aP.run (B:=B) bc ((ht.e sd).e si) (zt' W<|lt_ (lt_ (lt_ (lt_ (lt_ (lt_ Y O.s) V.s) s4.s) sk.s) sd.s) si.s) hBg (a2.g a0) (a3.g a0) hp ba hq) (.inl z) ?_;rintro _ be ⟨ax,rfl,bf,bg,bh,bi⟩;have ay:=mm1 (Blk.lt hB1) Y;refine dE0 z (fs0 (cur':=[vI rm.at_,vI rm.code]) K_ z z (aw.c ax<|atp ay) z z z z) (.inl z) ?_;rintro _ bj ⟨bk,bm⟩;have az:=bm.one;refine pD<|Wo<|Wg<|Rm z<|R z (sb_ z z)<|Ra z<|Wl ?_
   exact λ_ q=>⟨(Q_ xa 1,bb,rm.at_,rm.code),(som aL).symm,⟨q.k<|s5 z z z z z,(cM (cM (f_ (f_ (cM (cr ([g1]++[G.z]) H) sk (aa_ (io<|D_ sr)<|io<|F_ sr):Chg (· ∈ ([g1]++[G.z])) H wh) sd:Chg (· ∈ ([g1]++[G.z])) H aq) si:Chg (· ∈ ([g1]++[G.z])) H b6) ax (io<|D_ sr):Chg (· ∈ ([g1]++[G.z])) H be) az (io<|F_ sr):Chg (· ∈ ([g1]++[G.z])) H bj),iS _ _,bh,bf,bg,bi.c az<|djs ay,bk⟩⟩
  exact We<|λ_ q=>b_N (som<|ifF aa hcz).symm ⟨q.k<|s2 z z,(f_ (cM (cr ([g1]++[G.z]) H) sk (aa_ (io<|D_ sr)<|io<|F_ sr):Chg (· ∈ ([g1]++[G.z])) H wh) sd:Chg (· ∈ ([g1]++[G.z])) H aq),ap,hp,hq,hx,ht.e sd,hl.e sd⟩
 .rintro ⟨xa,xf,xb,x5⟩ bn bo rfl ⟨_,aA,ap,hp,hq,hx,ht,hl⟩;have aM:=elL a8;revert bn;refine Wo<|Ws<|R z (lN (vs:=[vI xb,vI x5]) a_m K_ z z fid<|hl.row 0 2 z) ?_
  have a1:=mm1 (Blk.lt hB1) h6.s;have aB:=mm1 hn.lt I.s;refine E0 (fs0 (cur':=[vI xb,vI x5]) K_ z z (((((hn.c I<|atp a1).e O).c V<|djs aB).e s4).c aA<|atp<|nmA a1<|ds aB) z z z z) ?_;rintro _ bp ⟨bq,bt⟩;have aC:=bt.one;refine Wn ?_;obtain rfl:=som<|c_u aM;have aD:∀k∈[G.z],k∈[g1]∨w0.z<=k:=mor<|lt_ hj I.s;exact Wr<|e_ hr (s_ a_m K_ z bq z) ⟨(cM (cM (f_ (cM (f_ (cM (f_ (f_ (cr [g1] w0) h6:Cg [g1] w0 J) he:Cg [g1] w0 wr) I (io sr):Cg [g1] w0 G) O:Cg [g1] w0 wu) V aD:Cg [g1] w0 wg) s4:Cg [g1] w0 H) aA (aa_ (io sr) aD):Cg [g1] w0 bo) aC (mor h6.s:∀k∈[J.z],k∈[g1]∨w0.z<=k):Cg [g1] w0 bp),z,hq,hx,hp,ht.c aC<|djs a1⟩
 rintro _ _ _ _ rfl ⟨rfl,aN⟩;have aO:=elR a8;obtain rfl:=som aO;exact ⟨aN,z⟩
theorem T_w1t (ih:f_C n):k_C (h_R n<|a_G n):=by
 obtain ⟨aq,_,_,_,_⟩:=ih
 constructor
 intro A0 A4 A2 A3 A1 A5 N0 C0 N4 C4 g1 N2 C2 N3 C3 N1 C1 N5 C5 B x1 x2 x3 res w0 hm hB1 V hBg W Y ae b2 b3 b4 b5 b6 O a0 a1;unfold h_R at hm
 refine goG func124 z z z λfn hr=>Ws<|E z (fb z) ?_
 rintro _ H ⟨rfl,hq⟩;have h1:=hq.below;have ht:Blk H w0.z (vR x2 A2 N2 C2 A3 N3 C3 A1 N1 C1 A5 N5 C5):=hq.blk;refine E z (fa b_O) ?_;rintro _ wc ⟨rfl,hu⟩;have h6:=hu.below;have L:Blk wc H.z [vI 0,vI 0]:=hu.blk;refine Wn<|Wm z<|Rf z J_ z ?_
 have hv:=ht.e h6;refine R z (l0 A_ z<|hv.at z) ?_;obtain ⟨_,ar,af⟩:=bdS hm;have he:=(h1.ag B).e h6;refine RX z (at_ (α:=Int) v_ z_3 z z z (a0.g he) ar) ?_;rintro _ ⟨_,_,_,rfl,au,av,_⟩;obtain ⟨rfl,aw⟩:=O_ av;refine R z (l0 g_3 z<|au.at0 z)<|Rm z ?_
 have hg:=lt_ h1.s h6.s;obtain ⟨ax,rb,_,ay,hmr⟩:=w_ af;refine E z (fc call120 z<|i_X (B:=B) ay ((hB1.e h1).e h6) (zt' V hg) hBg (W.g he) (Y.g he) ae aw a1) ?_;rintro _ I ⟨G,rfl,_,hw,az,hh,hi⟩;refine Rm z<|Re z z z<|Re z z z<|E z (fa b_O) ?_
 rintro _ wf ⟨rfl,hx⟩;have h2:=hx.below;refine Ra z<|E0 (fs0 (cur':=[vI rb.at_,vI rb.code]) K_ z z (hx.blk:Blk wf I.z [vI 0,vI 0]) z z z z) ?_
 rintro _ J ⟨hj,aA⟩;have h3:=aA.one;refine Wn<|Wq<|Ws<|Rf z d_j z<|R z (l0 g_3 z<|hj.at z)<|R z (nq z z)<|Wx z (λhck=>?_) (λhck=>?_)
 .refine Ws<|R z (lN (vs:=[vI rb.at_,vI rb.code]) a_m K_ z z fid<|hj.row 0 2 z) ?_
  have hy:=mm1 (Blk.lt hB1) h1.s;refine E0 (fs0 (cur':=[vI rb.at_,vI rb.code]) K_ z z (((L.c G<|atp hy).e h2).c h3<|djs<|mm1 L.lt G.s) z z z z) ?_;rintro _ aB ⟨aC,aD⟩;have hz:=aD.one;refine Wn ?_;obtain rfl:=som<|ifT hmr hck;have a3:=lt_ hg G.s;exact Wr<|e_ hr (s_ a_m K_ z aC z) ⟨(cM (cM (f_ (cM (f_ (f_ (cr [g1] w0) h1:Cg [g1] w0 H) h6:Cg [g1] w0 wc) G (io sr):Cg [g1] w0 I) h2:Cg [g1] w0 wf) h3 (mor a3:∀k∈[I.z],k∈[g1]∨w0.z<=k):Cg [g1] w0 J) hz (mor h1.s:∀k∈[H.z],k∈[g1]∨w0.z<=k):Cg [g1] w0 aB),z,hw,az,hh,((hi.e h2).c h3<|djs<|mm1 (Blk.lt hB1) a3).c hz<|djs hy⟩
 refine Wk<|Wq<|Ws<|Rf z b_1 z ?_
 have a4:=((hv.c G<|atp<|mmr<|Blk.lt hB1).e h2).c h3<|djs<|mm1 ht.lt<|lt_ h6.s G.s
 refine R z (l0 A_ z<|a4.at z) ?_;have hd:=lt_ hg G.s;have a5:=((he.c G<|b_<|c_ hBg).e h2).c h3<|b_ (or0 (c_ lr) (k_<|zt' V hd):∀k∈[I.z],¬B k)
 refine R z (lnR v_ z<|O.g a5)<|Rm z<|Wn ?_
 obtain ⟨_,ah,hms⟩:=bdS<|ifF hmr hck;refine Wf (σ:=Unit) (ρ:=Z_×Int) (λ(a6:Nat)(_:Unit) a w=>Sat 49 [(0,pt g1),(2,vI x3),(4,pt w0.z),(6,pt H.z),(7,vI ax),(8,pt I.z),(26,sl A1 N1 C1),(27,vI (x2.tags.length:Int)),(28,vI ((a6:Nat):Int))] a/\Below J.z J w) (λ(_:Unit) a w=>Sat 49 [(2,vI x3),(6,pt H.z)] a/\Below J.z J w) (rQ prog fn<|Q26 w0 g1 B A0 N0 C0 A4 N4 C4 x1) ah ?_ ?_ ?_ ?_ ?_
 .exact λ_ q=>⟨q.k<|s9 z z z z z z z z z,br J⟩
 .rintro a6 _ _ aE _ hkl ⟨ai,s8⟩ aj;refine Wu ?_ ai;refine Ws<|Rl z z z<|Wn<|Wq<|Wc z (λ_=>?_) (λhc=>(a_6 hkl hc).elim)
  refine Wk<|Wq<|Wb<|Wm z ?_
  obtain ⟨_,aF,a2⟩:=bdS aj;have a7:=a5.e s8;refine RX z (at_ (α:=Int) v_ z_3 z z z (O.g a7) aF) ?_;rintro _ ⟨_,_,_,rfl,aG,aH,_⟩;obtain ⟨rfl,_⟩:=O_ aH;refine R z (l0 g_3 z<|aG.at0 z)<|Ra z<|Rw z<|Wm z<|Rm z<|Rq z z z<|Wx z (λhcm=>?_) (λhcm=>?_)
  .refine Wq (Wd (X:=noX) 1536 (pl_ 11 [9,10]) mo (by kernel_rfl) λaI sa _=>dM z z z<|dR z z (fd J_ z)<|dR z z (l0 A_ z<|((a4.e s8).e sa).at z)<|dM z z z<|dR z z (inc_ hkl (lt_ (repS.len O) M_) z z) ?_);obtain ⟨_,aJ,ak⟩:=bdS<|ifT a2 hcm;have hn:=a7.e sa;refine dRX z z (at_ (α:=Int) v_ z_3 z z z (a0.g hn) aJ) ?_;rintro _ ⟨_,_,_,rfl,aK,aL,_⟩;obtain ⟨rfl,aM⟩:=O_ aL;refine dR z z (l0 g_3 z<|aK.at0 z)<|dR z z (fd c_U z)<|dR z z (l0 g_3 z<|((hj.e s8).e sa).at z) ?_
   obtain ⟨a8,_,aN,al⟩:=a_r ak;refine dE z z (fc call97 z<|aq.run (B:=B) aN ((((hi.e h2).c h3<|djs<|mm1 (Blk.lt hB1) hd).e s8).e sa) (zt' V<|lt_ (lt_ (lt_ (lt_ hd h2.s) h3.s) s8.s) sa.s) hBg (W.g hn) (Y.g hn) hh aM hw) (.inl z) ?_;rintro _ aO ⟨a9,rfl,aP,aQ,aR,aS⟩;have ho:=mm1 (Blk.lt hB1) h1.s;refine dE0 z (fs0 (cur':=[vI a8.at_,vI a8.code]) K_ z z ((((((L.c G<|atp ho).e h2).c h3<|djs<|mm1 L.lt G.s).e s8).e sa).c a9<|atp ho) z z z z) (.inl z) ?_;rintro _ aT ⟨aU,aV⟩;have aa:=aV.one;refine pD<|Wo ?_
   exact Wr<|rtO<|qL (som al).symm<|e_ hr (s_ a_m K_ z aU z) ⟨(cM (cM (f_ (f_ (cM (f_ (cM (f_ (f_ (cr [g1] w0) h1:Cg [g1] w0 H) h6:Cg [g1] w0 wc) G (io sr):Cg [g1] w0 I) h2:Cg [g1] w0 wf) h3 (mor hd:∀k∈[I.z],k∈[g1]∨w0.z<=k):Cg [g1] w0 J) s8:Cg [g1] w0 aE) sa:Cg [g1] w0 aI) a9 (io sr):Cg [g1] w0 aO) aa (mor h1.s:∀k∈[H.z],k∈[g1]∨w0.z<=k):Cg [g1] w0 aT),z,aP,aQ,aR,aS.c aa<|djs ho⟩
  exact Wk<|Wg<|R z (inc_ hkl (lt_ (repS.len O) M_) z z)<|Rm z<|Wl (λ_ q=>⟨(),(som<|ifF a2 hcm).symm,⟨q.k<|s9 z z z z z z z z z,s8⟩⟩)
 .rintro _ _ _ ⟨am,aW⟩;refine Wu ?_ am;refine Ws<|Rl z z z<|Wn<|Wq<|Wc z (λhc=>(a_7 hc).elim) (λ_=>?_)
  exact We<|λ_ q=>⟨rfl,⟨q.k<|s2 z z,aW⟩⟩
 .rintro _ aX aY rfl ⟨_,sp⟩;have an:=elL hms;revert aX;refine Wo<|Wm z<|R z (bP (parts:=[(0,.tmp 47),(1,.const<|.int .i64 3)]) (cs:=[vI x3,vI 3]) c_F z z) ?_
  have ab:=mm1 (Blk.lt hB1) h1.s;refine E0 (fs0 (cur':=[vI x3,vI 3]) K_ z z ((((L.c G<|atp ab).e h2).c h3<|djs<|mm1 L.lt G.s).e sp) z z z z) ?_;rintro _ aZ ⟨b0,b1⟩;have ad:=b1.one;refine Wn ?_;obtain rfl:=som an;exact Wr<|e_ hr (s_ a_m K_ z b0 z) ⟨(cM (f_ (cM (f_ (cM (f_ (f_ (cr [g1] w0) h1:Cg [g1] w0 H) h6:Cg [g1] w0 wc) G (io sr):Cg [g1] w0 I) h2:Cg [g1] w0 wf) h3 (mor hd:∀k∈[I.z],k∈[g1]∨w0.z<=k):Cg [g1] w0 J) sp:Cg [g1] w0 aY) ad (mor h1.s:∀k∈[H.z],k∈[g1]∨w0.z<=k):Cg [g1] w0 aZ),z,a1,ii z,hh,(((hi.e h2).c h3<|djs<|mm1 (Blk.lt hB1) hd).e sp).c ad<|djs ab⟩
 rintro _ _ _ _ rfl ⟨rfl,ao⟩;have ap:=elR hms;obtain rfl:=som ap;exact ⟨ao,z⟩
theorem T_w1u (ih:f_C n):k_D (h_S n<|a_G n):=by
 obtain ⟨af,_,_,_,_⟩:=ih
 constructor
 intro A0 A4 A2 A3 A1 A5 N0 C0 N4 C4 g1 N2 C2 N3 C3 N1 C1 N5 C5 B x1 x2 x3 res w0 hm hB1 V hBg a0 W Y aP aQ aR aS aT aU a9 a1;unfold h_S at hm
 refine goG func125 z z z λfn hr=>Ws<|E z (fb z) ?_
 rintro _ J ⟨rfl,hq⟩;have h5:=hq.below;have ht:Blk J w0.z (vR x2 A2 N2 C2 A3 N3 C3 A1 N1 C1 A5 N5 C5):=hq.blk;refine E z (fa b_O) ?_;rintro _ we ⟨rfl,hu⟩;have L:=hu.below;have hc:Blk we J.z [vI 0,vI 0]:=hu.blk;refine Wn<|Wm z<|Rm z ?_
 have hf:=(hB1.e h5).e L;have hg:=(h5.ag B).e L;have hh:=lt_ h5.s L.s;obtain ⟨O,ah,aa⟩:=bdS hm;refine E z (fc call122 z<|g_X (B:=w0.z) ah (a_0 hh) (repS.mono (a0.g hg) V) (repS.mono (W.g hg) V) Y (hf.row 0 3 z) (Blk.lt hB1) a1<|ii z) ?_;rintro _ I ⟨G,rfl,hv,ai⟩;refine E z (fa b_O) ?_;rintro _ wi ⟨rfl,hw⟩;have h2:=hw.below;refine E0 (fs0 (cur':=[vI O.at_,vI O.code]) K_ z z (hw.blk:Blk wi I.z [vI 0,vI 0]) z z z z) ?_;rintro _ wa ⟨hj,aj⟩;have h3:=aj.one;refine Wn<|Wq<|Wb<|Wq ?_
 obtain ⟨ak,hur,hms⟩:=bdS aa;refine Wt (λa w=>∃(xk:Bool),xk=ak/\Sat 45 [(0,pt g1),(2,vI x3),(4,pt w0.z),(6,pt J.z),(7,pt I.z),(11,vB xk)] a/\Below wa.z wa w) ?_ ?_
 .refine Wg<|Rf z d_j z<|R z (l0 g_3 z<|hj.at z)<|R z (nq z z)<|Rm z ?_
  rcases bs (O.code != 0) with H | H
  .iterate 8 refine Nh z H ?_
   exact R z (pT z H z)<|Ra z<|Wl (λ_ q=>⟨true,som<|ifT hur H,q.k<|s6 z z z z z z,br wa⟩)
  refine Rh z H (mv z)<|Rh z H (C_ z)<|Rh z H (fd d_J z) ?_
  have hx:=lt_ hh G.s;refine Rh z H (l0 R_ z<|(((hf.e G).e h2).c h3<|djs<|mm1 (Blk.lt hB1) hx).at z)<|Rh z H (mv z) ?_
  obtain ⟨al,am,ab⟩:=bdS<|ifF hur H;refine RXg z z H z (at_ (α:=UInt8) n_ z_5 z z z (W.g<|((hg.e G).e h2).c h3<|b_ (or0 (c_ lr) (k_<|zt' V hx):∀k∈[I.z],¬B k)) am) ?_;rintro _ ⟨_,_,_,rfl,an,ao,_⟩;obtain rfl:=u8 ao;exact Rh z H (l0 g_5 z<|an.at0 z)<|Rh z H (eql z z)<|R z (pF z H z)<|Ra z<|Wl (λ_ q=>⟨(byteI al)==(byteI (0:UInt8)),som ab,q.k<|s6 z z z z z z,br wa⟩)
 rintro ap wl ⟨xk,rfl,_,s4⟩;revert ap;refine Wo<|Wc z (λhcm=>?_) (λhcm=>?_)
 .refine Ws<|R z (lN (vs:=[vI O.at_,vI O.code]) a_m K_ z z fid<|(hj.e s4).row 0 2 z)<|E0 (fs0 (cur':=[vI O.at_,vI O.code]) K_ z z ((((hc.e G).e h2).c h3<|djs<|mm1 hc.lt G.s).e s4) z z z z) ?_
  rintro _ aq ⟨ar,au⟩;have hy:=au.one;refine Wn ?_;obtain rfl:=som<|ifT hms hcm;have hz:=lt_ hh G.s;exact Wr<|rtO<|e_ hr (s_ a_m K_ z ar z) ⟨(cM (f_ (cM (f_ (f_ (f_ (f_ (cr [g1] w0) h5:Cg [g1] w0 J) L:Cg [g1] w0 we) G:Cg [g1] w0 I) h2:Cg [g1] w0 wi) h3 (mor hz:∀k∈[I.z],k∈[g1]∨w0.z<=k):Cg [g1] w0 wa) s4:Cg [g1] w0 wl) hy (mor h5.s:∀k∈[J.z],k∈[g1]∨w0.z<=k):Cg [g1] w0 aq),z,hv,ai,Y,((((hf.e G).e h2).c h3<|djs<|mm1 (Blk.lt hB1) hz).e s4).c hy<|djs<|mm1 (Blk.lt hB1) h5.s⟩
 refine Wm z<|R z (C_ z)<|Rf z d_J z ?_
 have hd:=lt_ hh G.s;have hn:=(((hf.e G).e h2).c h3<|djs<|mm1 (Blk.lt hB1) hd).e s4;refine R z (l0 R_ z<|hn.at z)<|Rm z ?_
 obtain ⟨_,av,a2⟩:=bdS<|ifF hms hcm;have a3:=(((hg.e G).e h2).c h3<|b_ (or0 (c_ lr) (k_<|zt' V hd):∀k∈[I.z],¬B k)).e s4;refine RX z (at_ (α:=UInt8) n_ z_5 z z z (W.g a3) av) ?_;rintro _ ⟨_,_,_,rfl,aw,ax,_⟩;obtain rfl:=u8 ax;refine R z (l0 g_5 z<|aw.at0 z)<|R z (a_g z z)<|Rw z<|Wc z (λhco=>?_) (λhco=>?_)
 .refine Wm z<|R z (bP (parts:=[(0,.tmp 35),(1,.const<|.int .i64 4)]) (cs:=[vI x3,vI 4]) c_F z z)<|E0 (fs0 (cur':=[vI x3,vI 4]) K_ z z ((((hc.e G).e h2).c h3<|djs<|mm1 hc.lt G.s).e s4) z z z z) ?_
  rintro _ ay ⟨az,aA⟩;have a4:=aA.one;refine Wn ?_;obtain rfl:=som<|ifT a2 hco;exact Wr<|rtO<|e_ hr (s_ a_m K_ z az z) ⟨(cM (f_ (cM (f_ (f_ (f_ (f_ (cr [g1] w0) h5:Cg [g1] w0 J) L:Cg [g1] w0 we) G:Cg [g1] w0 I) h2:Cg [g1] w0 wi) h3 (mor hd:∀k∈[I.z],k∈[g1]∨w0.z<=k):Cg [g1] w0 wa) s4:Cg [g1] w0 wl) a4 (mor h5.s:∀k∈[J.z],k∈[g1]∨w0.z<=k):Cg [g1] w0 ay),z,a1,ii z,Y,hn.c a4<|djs<|mm1 (Blk.lt hB1) h5.s⟩
 refine Wk<|Wq (Wd (X:=noX) 384 (pl_ 9 [7,8]) mo (by kernel_rfl) λaB sb _=>dM z z z<|dR z z (fd J_ z)<|dR z z (l0 A_ z<|((((((ht.e L).e G).e h2).c h3<|djs<|mm1 ht.lt<|lt_ L.s G.s).e s4).e sb).at z) ?_)
 obtain ⟨_,aC,ad⟩:=bdS<|ifF a2 hco;have hp:=a3.e sb;refine dRX z z (at_ (α:=Int) v_ z_3 z z z (a9.g hp) aC) ?_;rintro _ ⟨_,_,_,rfl,aD,aE,_⟩;obtain ⟨rfl,aF⟩:=O_ aE;refine dR z z (l0 g_3 z<|aD.at0 z)<|dR z z (fd c_U z)<|dR z z (l0 g_3 z<|((hj.e s4).e sb).at z) ?_
 obtain ⟨a5,_,aG,ae⟩:=a_r ad;refine dE z z (fc call97 z<|af.run (B:=B) aG (hn.e sb) (zt' V<|lt_ (lt_ (lt_ (lt_ hd h2.s) h3.s) s4.s) sb.s) hBg (a0.g hp) (W.g hp) Y aF hv) (.inl z) ?_;rintro _ aH ⟨a6,rfl,aI,aJ,aK,aL⟩;have a7:=mm1 (Blk.lt hB1) h5.s;refine dE0 z (fs0 (cur':=[vI a5.at_,vI a5.code]) K_ z z ((((((hc.e G).e h2).c h3<|djs<|mm1 hc.lt G.s).e s4).e sb).c a6<|atp a7) z z z z) (.inl z) ?_;rintro _ aM ⟨aN,aO⟩;have a8:=aO.one;refine pD<|Wo ?_
 obtain rfl:=som ae;exact Wr<|e_ hr (s_ a_m K_ z aN z) ⟨(cM (cM (f_ (f_ (cM (f_ (f_ (f_ (f_ (cr [g1] w0) h5:Cg [g1] w0 J) L:Cg [g1] w0 we) G:Cg [g1] w0 I) h2:Cg [g1] w0 wi) h3 (mor hd:∀k∈[I.z],k∈[g1]∨w0.z<=k):Cg [g1] w0 wa) s4:Cg [g1] w0 wl) sb:Cg [g1] w0 aB) a6 (io sr):Cg [g1] w0 aH) a8 (mor h5.s:∀k∈[J.z],k∈[g1]∨w0.z<=k):Cg [g1] w0 aM),z,aI,aJ,aK,aL.c a8<|djs a7⟩
theorem T_w1v (ih:f_C n):k_E (h_T n<|a_G n):=by
 obtain ⟨aw,_,_,_,_⟩:=ih
 constructor
 intro A0 A4 A2 A3 A1 A5 N0 C0 N4 C4 g1 N2 C2 N3 C3 N1 C1 N5 C5 B x1 x2 x3 res w0 hm hB1 L hBg V O am b2 b3 b4 b5 b6 b7 an ao;unfold h_T at hm
 refine goG func126 z z z λfn hr=>Ws<|E z (fb z) ?_
 rintro _ I ⟨rfl,a1⟩;have h4:=a1.below;refine E z (fa b_O) ?_;rintro _ wj ⟨rfl,a2⟩;have hd:=a2.below;have ha:Blk wj I.z [vI 0,vI 0]:=a2.blk;refine Wn<|Wm z<|Rf z J_ z<|R z (l0 A_ z<|((a1.blk:Blk I w0.z (vR x2 A2 N2 C2 A3 N3 C3 A1 N1 C1 A5 N5 C5)).e hd).at z) ?_
 obtain ⟨_,ax,ap⟩:=bdS hm;have hk:=(h4.ag B).e hd;refine RX z (at_ (α:=Int) v_ z_3 z z z (an.g hk) ax) ?_;rintro _ ⟨_,_,_,rfl,ay,az,_⟩;obtain ⟨rfl,aA⟩:=O_ az;refine R z (l0 g_3 z<|ay.at0 z)<|Rm z ?_
 have hq:=lt_ h4.s hd.s;obtain ⟨rb,_,aB,W⟩:=a_r ap;refine E z (fc call97 z<|aw.run (B:=B) aB ((hB1.e h4).e hd) (zt' L hq) hBg (V.g hk) (O.g hk) am aA ao) ?_;rintro _ J ⟨s2,rfl,ht,aC,hl,a3⟩;refine E z (fa b_O) ?_;rintro _ wm ⟨rfl,a4⟩;have h5:=a4.below;have hu:Blk wm J.z [vI 0,vI 0]:=a4.blk;refine E0 (fs0 (cur':=[vI rb.at_,vI rb.code]) K_ z z hu z z z z) ?_;rintro _ wr ⟨hh,aD⟩;have h3:=aD.one;refine Wn<|Wq<|Ws<|Rf z d_j z<|R z (l0 g_3 z<|hh.at z)<|R z (nq z z)<|Wx z (λhcs=>?_) (λhcs=>?_)
 .refine Ws<|R z (lN (vs:=[vI rb.at_,vI rb.code]) a_m K_ z z fid<|hh.row 0 2 z) ?_
  have a5:=mm1 (Blk.lt hB1) h4.s;refine E0 (fs0 (cur':=[vI rb.at_,vI rb.code]) K_ z z (((ha.c s2<|atp a5).e h5).c h3<|djs<|mm1 ha.lt s2.s) z z z z) ?_;rintro _ aE ⟨aF,aG⟩;have a6:=aG.one;refine Wn ?_;obtain rfl:=som<|ifT W hcs;have a7:=lt_ hq s2.s;exact Wr<|e_ hr (s_ a_m K_ z aF z) ⟨(cM (cM (f_ (cM (f_ (f_ (cr [g1] w0) h4:Cg [g1] w0 I) hd:Cg [g1] w0 wj) s2 (io sr):Cg [g1] w0 J) h5:Cg [g1] w0 wm) h3 (mor a7:∀k∈[J.z],k∈[g1]∨w0.z<=k):Cg [g1] w0 wr) a6 (mor h4.s:∀k∈[I.z],k∈[g1]∨w0.z<=k):Cg [g1] w0 aE),z,ht,aC,hl,((a3.e h5).c h3<|djs<|mm1 (Blk.lt hB1) a7).c a6<|djs a5⟩
 refine Wk<|Wm z<|Rf z c_U z<|R z (l0 g_3 z<|hh.at z) ?_
 have hi:=lt_ hq s2.s;have hn:=(a3.e h5).c h3<|djs<|mm1 (Blk.lt hB1) hi
 have hv:=((hk.c s2<|b_<|c_ hBg).e h5).c h3<|b_ (or0 (c_ lr) (k_<|zt' L hi):∀k∈[J.z],¬B k)
 have ho:=lt_ (lt_ hi h5.s) h3.s;obtain ⟨re,aH,aq⟩:=bdS<|ifF W hcs;refine E z (fc call122 z<|g_X (B:=w0.z) aH (a_0 ho) (repS.mono (V.g hv) L) (repS.mono (O.g hv) L) hl (hn.row 0 3 z) (Blk.lt hB1) ht<|ii z) ?_;rintro _ wf ⟨s1,rfl,aI,aJ⟩;refine E z (fa b_O) ?_;rintro _ ww ⟨rfl,a8⟩;have h6:=a8.below;refine E0 (fs0 (cur':=[vI re.at_,vI re.code]) K_ z z (a8.blk:Blk ww wf.z [vI 0,vI 0]) z z z z) ?_;rintro _ wp ⟨a9,aK⟩;have H:=aK.one;refine Wn<|Wq<|Wq ?_
 obtain ⟨aL,Y,a0⟩:=bdS aq;refine Wt (λa w=>∃(xx:Bool),xx=aL/\Sat 52 [(6,pt I.z),(7,pt J.z),(8,pt wf.z),(47,vB xx)] a/\Below wp.z wp w) ?_ ?_
 .refine Wd (X:=noX) 0 (pl_ 24 [21]) mo (by kernel_rfl) λb8 sg _=>dR z z (fd d_j z)<|dR z z (l0 g_3 z<|(a9.e sg).at z)<|dR z z (eql z z)<|dM z z z ?_
  rcases bs (re.code==0) with G | G
  .refine dRg z z z G z (mv z)<|dRg z z z G z (C_ z)<|dRg z z z G z (fd d_J z) ?_
   have hy:=lt_ ho s1.s;have aa:=(((hn.e s1).e h6).c H<|djs<|mm1 (Blk.lt hB1) hy).e sg;refine dRg z z z G z (l0 R_ z<|aa.at z)<|dRg z z z G z (fd c_U z) ?_
   have ab:=(((hh.e s1).e h6).c H<|djs<|mm1 hu.lt<|lt_ h3.s s1.s).e sg;refine dRg z z z G z (l0 g_3 z<|ab.at z) ?_;obtain ⟨aM,aN,ar⟩:=bdS<|ifT Y G;have ad:=O.g<|(((hv.e s1).e h6).c H<|b_ (or0 (c_ lr) (k_<|zt' L hy):∀k∈[wf.z],¬B k)).e sg
   refine b_L z z z G z (at_ (α:=UInt8) n_ z_5 z z z ad aN) ?_;rintro _ ⟨_,_,_,rfl,aO,aP,_⟩;obtain rfl:=u8 aP;refine dRg z z z G z (l0 g_5 z<|aO.at0 z)<|dRg z z z G z (b_W d_5 d_3 z)<|dRg z z z G z (mv z)<|dRg z z z G z (C_ z)<|dRg z z z G z (fd d_J z)<|dRg z z z G z (l0 R_ z<|aa.at z)<|dRg z z z G z (mv z)<|dRg z z z G z (fd c_U z)<|dRg z z z G z (l0 g_3 z<|ab.at z) ?_
   obtain ⟨_,aQ,au⟩:=bdS ar;refine b_L z z z G z (rX n_ z_5 z z ad z z aQ) ?_;rintro _ ⟨_,_,_,rfl,aR⟩;obtain ⟨aS,aT,av⟩:=bdS au;refine dEg z z z G z (fc call146 z<|W_w1q aT (zt' L<|lt_ (lt_ (lt_ hy h6.s) H.s) sg.s) aR) (.inr λ_ _ h=>p_<|h.1) ?_;rintro _ _ ⟨aU,rfl,_⟩;exact dRg z z z G z (nq z z)<|dR z z (pT z G z)<|pD (λ_ q=>⟨(byteI aM) != aS,som av,q.k<|s4 z z z z,bup sg aU⟩)
  iterate 17 refine dRn z z z G z ?_
  exact dEn z z z G z<|dRn z z z G z<|dR z z (pF z G z)<|pD (λ_ q=>⟨false,som<|ifF Y G,q.k<|s4 z z z z,sg⟩)
 rintro aV ae ⟨xx,rfl,_,sc⟩;revert aV;refine Wo<|Wc z (λhcz=>?_) (λhcz=>?_)
 .refine Ws<|Rf z c_U z<|R z (l0 g_3 z<|((((hh.e s1).e h6).c H<|djs<|mm1 hu.lt<|lt_ h3.s s1.s).e sc).at z)<|R z (bP (parts:=[(0,.tmp 49),(1,.const<|.int .i64 5)]) (cs:=[vI rb.at_,vI 5]) c_F z z) ?_
  have af:=mm1 (Blk.lt hB1) h4.s;refine E0 (fs0 (cur':=[vI rb.at_,vI 5]) K_ z z (((((((ha.c s2<|atp af).e h5).c h3<|djs<|mm1 ha.lt s2.s).e s1).e h6).c H<|djs<|mm1 ha.lt<|lt_ (lt_ (lt_ s2.s h5.s) h3.s) s1.s).e sc) z z z z) ?_;rintro _ aW ⟨aX,aY⟩;have ah:=aY.one;refine Wn ?_;obtain rfl:=som<|ifT a0 hcz;have ai:=lt_ ho s1.s;exact Wr<|e_ hr (s_ a_m K_ z aX z) ⟨(cM (f_ (cM (f_ (f_ (cM (f_ (cM (f_ (f_ (cr [g1] w0) h4:Cg [g1] w0 I) hd:Cg [g1] w0 wj) s2 (io sr):Cg [g1] w0 J) h5:Cg [g1] w0 wm) h3 (mor hi:∀k∈[J.z],k∈[g1]∨w0.z<=k):Cg [g1] w0 wr) s1:Cg [g1] w0 wf) h6:Cg [g1] w0 ww) H (mor ai:∀k∈[wf.z],k∈[g1]∨w0.z<=k):Cg [g1] w0 wp) sc:Cg [g1] w0 ae) ah (mor h4.s:∀k∈[I.z],k∈[g1]∨w0.z<=k):Cg [g1] w0 aW),z,ht,ii z,hl,((((hn.e s1).e h6).c H<|djs<|mm1 (Blk.lt hB1) ai).e sc).c ah<|djs af⟩
 refine Wk<|Ws<|R z (lN (vs:=[vI re.at_,vI re.code]) a_m K_ z z fid<|(a9.e sc).row 0 2 z) ?_
 have aj:=mm1 (Blk.lt hB1) h4.s;refine E0 (fs0 (cur':=[vI re.at_,vI re.code]) K_ z z (((((((ha.c s2<|atp aj).e h5).c h3<|djs<|mm1 ha.lt s2.s).e s1).e h6).c H<|djs<|mm1 ha.lt<|lt_ (lt_ (lt_ s2.s h5.s) h3.s) s1.s).e sc) z z z z) ?_;rintro _ aZ ⟨b0,b1⟩;have ak:=b1.one;refine Wn ?_;obtain rfl:=som<|ifF a0 hcz;have al:=lt_ ho s1.s;exact Wr<|e_ hr (s_ a_m K_ z b0 z) ⟨(cM (f_ (cM (f_ (f_ (cM (f_ (cM (f_ (f_ (cr [g1] w0) h4:Cg [g1] w0 I) hd:Cg [g1] w0 wj) s2 (io sr):Cg [g1] w0 J) h5:Cg [g1] w0 wm) h3 (mor hi:∀k∈[J.z],k∈[g1]∨w0.z<=k):Cg [g1] w0 wr) s1:Cg [g1] w0 wf) h6:Cg [g1] w0 ww) H (mor al:∀k∈[wf.z],k∈[g1]∨w0.z<=k):Cg [g1] w0 wp) sc:Cg [g1] w0 ae) ak (mor h4.s:∀k∈[I.z],k∈[g1]∨w0.z<=k):Cg [g1] w0 aZ),z,aI,aJ,hl,((((hn.e s1).e h6).c H<|djs<|mm1 (Blk.lt hB1) al).e sc).c ak<|djs aj⟩
theorem d_m:∀n,f_C n
  | 0=>⟨⟨λhm=>by intros;exact nomatch (show none=some _ from hm)⟩,⟨λhm=>by intros;exact nomatch (show none=some _ from hm)⟩,⟨λhm=>by intros;exact nomatch (show none=some _ from hm)⟩,⟨λhm=>by intros;exact nomatch (show none=some _ from hm)⟩,⟨λhm=>by intros;exact nomatch (show none=some _ from hm)⟩⟩
  | n+1=>⟨T_w04<|d_m n,T_w1s<|d_m n,T_w1t<|d_m n,T_w1u<|d_m n,T_w1v<|d_m n⟩
theorem W_w04:k_A (a_G n).impl_checker_value:=(d_m n).1
theorem W_w1s:k_B (a_G n).impl_checker_array:=(d_m n).2.1
theorem W_w1t:k_C (a_G n).impl_checker_choice:=(d_m n).2.2.1
theorem W_w1u:k_D (a_G n).impl_checker_option:=(d_m n).2.2.2.1
theorem W_w1v:k_E (a_G n).impl_checker_checked:=(d_m n).2.2.2.2
def Q27 (w0:World)(B:Zone)(r:Int×Int)(v:Value)(w':World):Prop:=Bw w0 w'/\un2 (λG H=>v = .tuple #[vI G,vI H]/\inI G/\inI H) r
theorem W_w36 {x1:d_}{x2:Int}{x3:Bt}{x4:Int}{res:Int×Int}(hm:h_U n x1 x2 x3 x4=some res)(J:B<=w0.z)(Y:repS w0 B (sl A0 N0 C0) x1.rules)(a0:inI x2)(a1:repS w0 B (sl A9 N9 C9) x3)(a2:inI x4):l_ prog 59 [(.agg #[sl A0 N0 C0]),vI x2,sl A9 N9 C9,vI x4] w0 (Q27 w0 B res):=by
 unfold h_U at hm
 refine goG func59 z z z λfn hr=>Ws<|E z (fb z) ?_
 rintro _ O ⟨rfl,hb⟩;have h3:=hb.below;have hc:Blk O w0.z [sl A0 N0 C0]:=hb.blk;refine Ra z<|Rw z<|Wq<|Wq ?_
 obtain ⟨ur,hus,hmd⟩:=bdS hm;refine Wt (λa w=>∃(V:Bool),V=ur/\Sat 43 [(1,vI x2),(2,sl A9 N9 C9),(3,vI x4),(4,pt w0.z),(30,vB V)] a/\Below O.z O w) ?_ ?_
 .refine Wg<|R z (lN (vs:=[sl A0 N0 C0]) t_ r_ z z fid<|hc.row 0 1 z)<|Rm z ?_
  obtain ⟨rt,eu,hme⟩:=bdS hus;refine E z (fc call96 z<|k_y eu (zt' J h3.s) (Y.e h3) a0) ?_;rintro _ _ ⟨s4,rfl⟩;refine R z (not_ z)<|Rm z ?_
  rcases bs (!rt) with H | H
  .exact Nh z H<|Nh z H<|R z (pT z H z)<|Rm z<|Nh z z<|Nh z z<|Nh z z<|Nh z z<|R z (pT z z z)<|Rm z<|Nh z z<|Nh z z<|Nh z z<|R z (pT z z z)<|Wl (λ_ q=>⟨true,som<|ifT hme H,q.k<|s5 z z z z z,s4⟩)
  have hmf:=ifF hme H;refine Rh z H (mv z)<|Rh z H (lss z z)<|R z (pF z H z)<|Rm z ?_
  rcases bs (decide<|x4<0) with G | G
  .iterate 4 refine Nh z G ?_
   exact R z (pT z G z)<|Rm z<|Nh z z<|Nh z z<|Nh z z<|R z (pT z z z)<|Wl (λ_ q=>⟨true,som<|ifT hmf G,q.k<|s5 z z z z z,s4⟩)
  have hmg:=ifF hmf G;refine Rh z G (mv z)<|Rh z G (mv z) ?_
  have hh:=a1.g<|(h3.ag B).e s4
  refine Rh z G (lnR n_ z hh)<|Rh z G (a_g z z)<|R z (pF z G z)<|Rm z ?_
  rcases bs (decide<|(x3.length:Int)<x4) with I | I
  .iterate 3 refine Nh z I ?_
   exact R z (pT z I z)<|Wl (λ_ q=>⟨true,som<|ifT hmg I,q.k<|s5 z z z z z,s4⟩)
  exact Rh z I (mv z)<|Rh z I (lnR n_ z hh)<|Rh z I (a_g z z)<|R z (pF z I z)<|Wl (λ_ q=>⟨decide<|400<(x3.length:Int),som<|ifF hmg I,q.k<|s5 z z z z z,s4⟩)
 rintro av wi ⟨V,rfl,_,s6⟩;revert av;refine Wo<|Wc z (λL=>?_) (λL=>?_)
 .refine Ws<|Ra z<|Rw z ?_
  obtain rfl:=som<|ifT hmd L;exact Wr<|a_l hr z z ⟨bup h3 s6,z,ii z,ii z⟩
 refine Wk<|Ws<|R z (lN (vs:=[sl A0 N0 C0]) t_ r_ z z fid<|(hc.e s6).row 0 1 z)<|Rm z<|R z (bP (parts:=[(0,.tmp 31),(1,.tmp 32)]) (cs:=[sl A0 N0 C0,sl A9 N9 C9,vI 0]) q_d z z)<|E z (fb z) ?_
 rintro _ ww ⟨rfl,hj⟩;have W:=hj.below;refine Rw z<|Wm z<|RM z z ?_
 have hk:=((h3.ag B).e s6).e W;have ha:=lt_ h3.s s6.s;have hl:=lt_ ha W.s;obtain ⟨rm,_,ez,a3⟩:=a_r<|ifF hmd L;refine E z (fc call97 z<|W_w04.run (B:=B) ez (hj.blk:Blk ww wi.z [sl A0 N0 C0,sl A9 N9 C9,vI 0]) (zt' J hl) (atp (or0 (c_ lr) (k_<|zt' J ha):∀k∈[wi.z],¬B k)) (Y.g hk) (a1.g hk) (ii z) a0 a2) ?_;rintro _ a4 ⟨sn,rfl,a5,a6,_,_⟩;refine E z (fa b_O) ?_;rintro _ a7 ⟨rfl,ho⟩;refine E0 (fs0 (cur':=[vI rm.at_,vI rm.code]) K_ z z (ho.blk:Blk a7 a4.z [vI 0,vI 0]) z z z z) ?_;rintro _ _ ⟨a8,a9⟩;refine Wn<|Wq (Wd (X:=noX) 0 (pl_ 6 []) mo (by kernel_rfl) λaa sp _=>dR z z (fd c_U z) ?_)
 have hq:=a8.e sp;refine dR z z (l0 g_3 z<|hq.at z)<|dR z z (fd d_j z)<|dR z z (l0 g_3 z<|hq.at z)<|dQ z z z<|dQ z z z<|pD<|Wo ?_
 obtain rfl:=som a3;exact Wr<|a_l hr z z ⟨bup (bM (bup (bM (bup (bup h3 s6) W) sn<|m1 ha) ho.below) a9.one<|m1<|lt_ hl sn.s) sp,z,a5,a6⟩
def Q28 (w0:World)(g1:Nat)(B:Zone)(A0:Option Addr)(N0 C0:Nat)(A4:Option Addr)(N4 C4:Nat)(x1:b_a)(r:Bool×Int)(v:Value)(w':World):Prop:=Cg [g1] w0 w'/\un2 (λH G=>(vB H)=v/\inI G/\Blk w' g1 [sl A0 N0 C0,sl A4 N4 C4,vI x1.rule,vI G]) r
theorem i_Y {x1:b_a}{g1:Nat}{x2:Int}{res:Bool×Int}(hm:d_c n x1 x2=some res)(hB1:Blk w0 g1 [sl A0 N0 C0,sl A4 N4 C4,vI x1.rule,vI x1.at_])(O:B<=w0.z)(hBg:¬B g1)(H:repS w0 B (sl A0 N0 C0) x1.d.rules)(I:repS w0 B (sl A4 N4 C4) x1.b)(a0:inI x1.rule)(J:inI x1.at_)(L:inI x2):l_ prog 26 [pt g1,vI x2] w0 (Q28 w0 g1 B A0 N0 C0 A4 N4 C4 x1 res):=by
 unfold d_c at hm
 refine goG func26 z z z λfn hr=>Ws<|Rw z<|Wq (Wd (X:=noX) 0 (pl_ 19 [13]) mo (by kernel_rfl) λW G _=>dM z z z<|dR z z (C_ z)<|dR z z (fd k_d z) ?_)
 have h1:=hB1.e G;refine dR z z (lN (vs:=[sl A0 N0 C0]) t_ r_ z z fid<|h1.row 0 1 z)<|dM z z z<|dM z z z<|dR z z (C_ z)<|dR z z (fd i_P z)<|dR z z (l0 R_ z<|h1.at z)<|dM z z z<|dR z z (C_ z)<|dR z z (fd d_k z)<|dR z z (l0 g_3 z<|h1.at z) ?_
 obtain ⟨Y,_,e5,V⟩:=a_r hm;refine dE z z (fc call59 z<|W_w36 (B:=B) (x1:=(⟨x1.d.rules⟩:d_)) e5 (zt' O G.s) (H.e G) L (I.e G) J) (.inr λ_ _ h=>p_<|h.1) ?_;rintro _ w7 ⟨s2,rfl,h8,_⟩;refine dM z z z<|dR z z (ext_ z z)<|dR z z (ext_ z z)<|dQ z z z<|dQ z z z<|pD<|Wo<|Wm z<|Rm z<|R z (C_ z)<|Rf z d_k z<|E0 (fs0 (cur':=[sl A0 N0 C0,sl A4 N4 C4,vI x1.rule,vI Y]) z_3 z z (h1.e s2) z z z z) ?_
 rintro _ w9 ⟨ha,sb⟩;refine Wn<|Wm z<|Rq z z z<|Rw z ?_
 obtain rfl:=som V;exact Wr<|e_ hr z ⟨(cM (f_ (f_ (cr [g1] w0) G:Cg [g1] w0 W) s2:Cg [g1] w0 w7) sb.one (io sr):Cg [g1] w0 w9),z,h8,ha⟩
def Q29 (w0:World)(g1:Nat)(B:Zone)(A0:Option Addr)(N0 C0:Nat)(A4:Option Addr)(N4 C4:Nat)(x1:b_a)(r:Int×Bool×Int)(v:Value)(w':World):Prop:=Cg [g1] w0 w'/\un3 (λG I H=>v = .tuple #[vI G,vB I]/\inI G/\inI H/\Blk w' g1 [sl A0 N0 C0,sl A4 N4 C4,vI x1.rule,vI H]) r
theorem W_w1w {x1:b_a}{g1:Nat}{x2:Int}{res:Int×Bool×Int}(hm:g_j n x1 x2=some res)(hB1:Blk w0 g1 [sl A0 N0 C0,sl A4 N4 C4,vI x1.rule,vI x1.at_])(L:B<=w0.z)(hBg:¬B g1)(I:repS w0 B (sl A0 N0 C0) x1.d.rules)(J:repS w0 B (sl A4 N4 C4) x1.b)(a0:inI x1.rule)(a1:inI x1.at_)(a2:inI x2):l_ prog 92 [pt g1,vI x2] w0 (Q29 w0 g1 B A0 N0 C0 A4 N4 C4 x1 res):=by
 unfold g_j at hm
 refine goG func92 z z z λfn hr=>Ws<|Ra z<|Rw z<|Wm z<|R z (C_ z)<|Rf z d_k z<|R z (l0 g_3 z<|hB1.at z)<|Rw z<|Wq<|Wm z<|Rm z ?_
 obtain ⟨_,_,ea,O⟩:=a_r hm;refine E z (fc call26 z<|i_Y (B:=B) ea hB1 L hBg I J a0 a1 a2) ?_;rintro _ V ⟨G,rfl,h6,W⟩;refine R z (not_ z)<|Wx z (λH=>?_) (λH=>?_)
 .refine Ws<|Ra z<|Rw z ?_
  obtain rfl:=som<|ifT O H;exact Wr<|a_l hr z z ⟨(cM (cr [g1] w0) G (io sr):Cg [g1] w0 V),z,ii z,h6,W⟩
 refine Wk<|Wq (Wd (X:=noX) 0 (pl_ 22 [19]) mo (by kernel_rfl) λwc s1 _=>dM z z z<|dR z z (C_ z)<|dR z z (fd i_P z) ?_)
 have h2:=W.e s1;refine dR z z (l0 R_ z<|h2.at z)<|dM z z z<|dM z z z<|dR z z (C_ z)<|dR z z (fd d_k z)<|dR z z (l0 g_3 z<|h2.at z) ?_
 obtain ⟨_,ed,hme⟩:=bdS<|ifF O H;have Y:=(G.agc B<|b_<|c_ hBg).e s1;refine dRX z z (rX n_ z_5 z z (J.g Y) z z ed) ?_;rintro _ ⟨_,_,_,rfl,hf⟩;refine dM z z z<|dR z z (C_ z)<|dR z z (fd k_d z)<|dR z z (fd a_3 z)<|dR z z (l0 a_8 z<|h2.at z)<|dM z z z ?_
 obtain ⟨_,eg,hmh⟩:=bdS hme;refine dRX z z (at_ (α:=g_) a_a o_ z z z (I.g Y) eg) ?_;rintro _ ⟨_,_,_,rfl,hi,hj,_⟩;obtain ⟨_,_,_,_,_,_,_,_,_,_,_,_,rfl,_,_,_,_,_,_,_⟩:=a_D hj;refine dR z z (fd c_V z)<|dR z z (l0 g_4 z<|hi.at (j:=3) z) ?_
 obtain ⟨_,ek,hml⟩:=bdS hmh;refine dE z z (fc call119 z<|k_z ek (zt' L<|lt_ G.s s1.s) hf) (.inr λ_ _ h=>p_<|h.1) ?_;rintro _ wm ⟨s9,rfl,hn⟩;refine dQ z z z<|dQ z z z<|pD<|Wo ?_
 obtain rfl:=som hml;exact Wr<|a_l hr z z ⟨(f_ (f_ (cM (cr [g1] w0) G (io sr):Cg [g1] w0 V) s1:Cg [g1] w0 wc) s9:Cg [g1] w0 wm),z,hn,h6,h2.e s9⟩
def Q30 (w0:World)(g1:Nat)(B:Zone)(A0:Option Addr)(N0 C0:Nat)(A4:Option Addr)(N4 C4:Nat)(x1:b_a)(r:Bool×Int×Int)(v:Value)(w':World):Prop:=Cg [g1] w0 w'/\un3 (λI G H=>(vB I)=v/\inI G/\inI H/\Blk w' g1 [sl A0 N0 C0,sl A4 N4 C4,vI G,vI H]) r
theorem W_w37 {x1:b_a}{g1:Nat}{x2:g_}{x3:Str}{res:Bool×Int×Int}(hm:h_V n x1 x2 x3=some res)(hB1:Blk w0 g1 [sl A0 N0 C0,sl A4 N4 C4,vI x1.rule,vI x1.at_])(a0:B<=w0.z)(hBg:¬B g1)(a1:repS w0 B (sl A0 N0 C0) x1.d.rules)(a2:repS w0 B (sl A4 N4 C4) x1.b)(W:inI x1.rule)(a9:inI x1.at_)(aO:x2.name.b.length<=LEN)(aP:inI x2.kind)(aQ:inI x2.size)(aR:repS w0 B (sl A2 N2 C2) x2.bytes)(aS:repS w0 B (sl A3 N3 C3) x2.names)(aT:repS w0 B (sl A1 N1 C1) x2.tags)(Y:repS w0 B (sl A5 N5 C5) x2.kids)(aa:x3.b.length<=LEN):l_ prog 56 [pt g1,.agg #[Str.v x2.name,vI x2.kind,vI x2.size,vB x2.little,sl A2 N2 C2,sl A3 N3 C3,sl A1 N1 C1,sl A5 N5 C5],Str.v x3] w0 (Q30 w0 g1 B A0 N0 C0 A4 N4 C4 x1 res):=by
 unfold h_V at hm
 refine goG func56 z z z λfn hr=>Ws<|E z (fb z) ?_
 rintro _ wb ⟨rfl,hn⟩;have V:=hn.below;refine Rw z<|p_C 0 z<|Wm z ?_
 obtain ⟨rm,an,ao,ab⟩:=a_r hm;refine E z (fc call89 z<|W_w1n ao (zt' a0 V.s) aa) ?_;rintro _ we ⟨s9,rfl,ap⟩;refine Rm z<|Re z z z<|Re z z z<|Ra z<|Rw z<|Wm z<|Rf z J_ z ?_
 have hf:=(hn.blk:Blk wb w0.z (vR x2 A2 N2 C2 A3 N3 C3 A1 N1 C1 A5 N5 C5)).e s9;refine R z (l0 A_ z<|hf.at z) ?_;obtain ⟨_,aq,ad⟩:=bdS ab;have ha:=(V.ag B).e s9;refine RX z (at_ (α:=Int) v_ z_3 z z z (Y.g ha) aq) ?_;rintro _ ⟨_,_,_,rfl,ar,au,_⟩;obtain ⟨rfl,av⟩:=O_ au;refine R z (l0 g_3 z<|ar.at0 z) ?_;have ho:=lt_ V.s s9.s;obtain ⟨rp,aw,_,ax,ae⟩:=w_ ad;refine E z (fc call92 z<|W_w1w (B:=B) ax ((hB1.e V).e s9) (zt' a0 ho) hBg (a1.g ha) (a2.g ha) W a9 av) ?_;rintro _ L ⟨s5,rfl,_,hq,ht⟩;refine Rm z<|Re z z z<|Re z z z<|Ra z<|Rw z<|Wq<|Wq ?_
 obtain ⟨ay,hur,hms⟩:=bdS ae;refine Wt (λa w=>∃(xg:Bool),xg=ay/\Sat 58 [(0,pt g1),(4,pt w0.z),(7,vI rm),(39,vB xg)] a/\Below L.z L w) ?_ ?_
 .refine Wg<|Rm z<|R z (not_ z)<|Rm z ?_
  rcases bs (!an) with H | H
  .exact Nh z H<|Nh z H<|R z (pT z H z)<|Rm z<|Nh z z<|Nh z z<|R z (pT z z z)<|Rm z<|Nh z z<|Nh z z<|Nh z z<|R z (pT z z z)<|Wl (λ_ q=>⟨true,som<|ifT hur H,q.k<|s4 z z z z,br L⟩)
  have hmu:=ifF hur H;refine Rh z H (mv z)<|Rh z H (not_ z)<|R z (pF z H z)<|Rm z ?_
  rcases bs (!aw) with I | I
  .exact Nh z I<|Nh z I<|R z (pT z I z)<|Rm z<|Nh z z<|Nh z z<|Nh z z<|R z (pT z z z)<|Wl (λ_ q=>⟨true,som<|ifT hmu I,q.k<|s4 z z z z,br L⟩)
  have hmv:=ifF hmu I;refine Rh z I (mv z)<|Rh z I (a_g z z)<|R z (pF z I z)<|Rm z ?_
  rcases bs (decide<|40<rp) with J | J
  .iterate 3 refine Nh z J ?_
   exact R z (pT z J z)<|Wl (λ_ q=>⟨true,som<|ifT hmv J,q.k<|s4 z z z z,br L⟩)
  exact Rh z J (mv z)<|Rh z J (mv z)<|Rh z J (b_R z z)<|R z (pF z J z)<|Wl (λ_ q=>⟨decide<|rp<=rm,som<|ifF hmv J,q.k<|s4 z z z z,br L⟩)
 rintro az O ⟨xg,rfl,_,G⟩;revert az;refine Wo<|Wc z (λhch=>?_) (λhch=>?_)
 .refine Ws<|Rw z ?_
  obtain rfl:=som<|ifT hms hch;exact k_b<|e_ hr z ⟨(f_ (cM (f_ (f_ (cr [g1] w0) V:Cg [g1] w0 wb) s9:Cg [g1] w0 we) s5 (io sr):Cg [g1] w0 L) G:Cg [g1] w0 O),z,W,hq,ht.e G⟩
 refine Wk ?_;obtain ⟨_,af,ah⟩:=gotoS<|ifF hms hch;refine p_D (σ:=Int×Int) (ρ:=Bool×Int×Int) (λs a w=>un2 (λxc xd=>Sat 58 [(0,pt g1),(4,pt w0.z),(7,vI xc)] a/\Cg [g1] O w/\inI xc/\inI xd/\Blk w g1 [sl A0 N0 C0,sl A4 N4 C4,vI x1.rule,vI xd]) s) (rQ prog fn<|Q30 w0 g1 B A0 N0 C0 A4 N4 C4 x1) af ?_ ?_ ?_
 .exact λ_ q=>⟨q.k<|s3 z z z,cr [g1] O,ap,hq,ht.e G⟩
 .rintro ⟨xc,xd⟩ _ wi _ ⟨ai,s7,_,hw,hx⟩ aj;have hmy:=a_O aj;refine Wu ?_ ai;refine Wq<|Wm z<|R z (a_g z z)<|Wx z (λhcj=>?_) (λhcj=>?_)
  .refine Wq<|Wm z<|Rf z J_ z ?_
   have hz:=mmr<|Blk.lt hB1
   refine R z (l0 A_ z<|(((hf.c s5<|atp hz).e G).c s7<|atp hz).at z) ?_;obtain ⟨_,aA,ak⟩:=bdS<|ifT hmy hcj;have hk:=((ha.c s5<|b_<|c_ hBg).e G).c s7<|b_<|c_ hBg
   refine RX z (at_ (α:=Int) v_ z_3 z z z (Y.g hk) aA) ?_;rintro _ ⟨_,_,_,rfl,aB,aC,_⟩;obtain ⟨rfl,aD⟩:=O_ aC;refine R z (l0 g_3 z<|aB.at0 z) ?_;obtain ⟨_,aE,aF,a3⟩:=a_r ak;refine E z (fc call26 z<|i_Y (B:=B) aF hx (zt' a0<|lt_ (lt_ (lt_ ho s5.s) G.s) s7.s) hBg (a1.g hk) (a2.g hk) W hw aD) ?_;rintro _ a4 ⟨a5,rfl,a6,a7⟩;refine R z (not_ z)<|Wx z (λhcl=>?_) (λhcl=>?_)
   .refine Ws<|Rw z ?_
    exact k_b<|qL (som<|ifT a3 hcl).symm<|e_ hr z ⟨(cM (cM (f_ (cM (f_ (f_ (cr [g1] w0) V:Cg [g1] w0 wb) s9:Cg [g1] w0 we) s5 (io sr):Cg [g1] w0 L) G:Cg [g1] w0 O) s7 (io sr):Cg [g1] w0 wi) a5 (io sr):Cg [g1] w0 a4),z,W,a6,a7⟩
   refine Wk<|Wm z<|R z (sb_ z z)<|Rw z ?_
   exact p_E λ_ q=>⟨rfl,(Q_ xc 1,aE),(som<|ifF a3 hcl).symm,⟨q.k<|s3 z z z,(cM (cM (cr [g1] O) s7 (io sr):Cg [g1] O wi) a5 (io sr):Cg [g1] O a4),iS _ _,a6,a7⟩⟩
  refine Wk<|Wm z<|Rf z J_ z ?_
  have a8:=mmr<|Blk.lt hB1
  refine R z (l0 A_ z<|(((hf.c s5<|atp a8).e G).c s7<|atp a8).at z) ?_;obtain ⟨aG,aH,al⟩:=bdS<|ifF hmy hcj;refine RX z (at_ (α:=Int) v_ z_3 z z z (Y.g<|((ha.c s5<|b_<|c_ hBg).e G).c s7<|b_<|c_ hBg) aH) ?_;rintro _ ⟨_,_,_,rfl,aI,aJ,_⟩;obtain ⟨rfl,aK⟩:=O_ aJ;refine R z (l0 g_3 z<|aI.at0 z)<|R z (C_ z)<|Rf z e_Q z<|E0 (fs0 (cur':=[sl A0 N0 C0,sl A4 N4 C4,vI aG,vI xd]) z_3 z z hx z z z z) ?_
  rintro _ aL ⟨aM,aN⟩;refine Wn<|Ws<|Rw z ?_
  exact k_b<|qL (som al).symm<|e_ hr z ⟨(cM (cM (f_ (cM (f_ (f_ (cr [g1] w0) V:Cg [g1] w0 wb) s9:Cg [g1] w0 we) s5 (io sr):Cg [g1] w0 L) G:Cg [g1] w0 O) s7 (io sr):Cg [g1] w0 wi) aN.one (io sr):Cg [g1] w0 aL),z,aK,hw,aM⟩
 rintro _ _ _ ⟨rfl,am⟩;obtain rfl:=som ah;exact ⟨am,z⟩
theorem W_w38 {x1:b_a}{g1:Nat}{x2:g_}{x3:Str}{res:Bool×Int×Int}(hm:h_W n x1 x2 x3=some res)(hB1:Blk w0 g1 [sl A0 N0 C0,sl A4 N4 C4,vI x1.rule,vI x1.at_])(Y:B<=w0.z)(hBg:¬B g1)(a0:repS w0 B (sl A0 N0 C0) x1.d.rules)(a1:repS w0 B (sl A4 N4 C4) x1.b)(O:inI x1.rule)(a2:inI x1.at_)(aK:x2.name.b.length<=LEN)(aL:inI x2.kind)(aM:inI x2.size)(aN:repS w0 B (sl A2 N2 C2) x2.bytes)(V:repS w0 B (sl A3 N3 C3) x2.names)(aO:repS w0 B (sl A1 N1 C1) x2.tags)(W:repS w0 B (sl A5 N5 C5) x2.kids)(a3:x3.b.length<=LEN):l_ prog 57 [pt g1,.agg #[Str.v x2.name,vI x2.kind,vI x2.size,vB x2.little,sl A2 N2 C2,sl A3 N3 C3,sl A1 N1 C1,sl A5 N5 C5],Str.v x3] w0 (Q30 w0 g1 B A0 N0 C0 A4 N4 C4 x1 res):=by
 unfold h_W at hm
 refine goG func57 z z z λfn hr=>Ws<|E z (fb z) ?_
 rintro _ H ⟨rfl,hh⟩;have h3:=hh.below;have ha:Blk H w0.z (vR x2 A2 N2 C2 A3 N3 C3 A1 N1 C1 A5 N5 C5):=hh.blk;refine Rw z<|Wq<|Ws<|Rf z c_e z<|R z (l0 b_i z<|ha.at z)<|R z (lnR a_n z<|V.e h3)<|Rm z<|Wn ?_
 obtain ⟨_,huv,hmi⟩:=bdS hm;refine Wf (σ:=Int) (ρ:=Bool×Int×Int) (λ(kb:Nat)(x4:Int) a w=>Sat 44 [(0,pt g1),(2,Str.v x3),(4,pt w0.z),(10,sl A3 N3 C3),(11,vI (x2.names.length:Int)),(12,vI ((kb:Nat):Int))] a/\Cg [g1] H w/\inI x4/\Blk w g1 [sl A0 N0 C0,sl A4 N4 C4,vI x1.rule,vI x4]) (λ(x4:Int) a w=>Sat 44 [] a/\Cg [g1] H w/\inI x4/\Blk w g1 [sl A0 N0 C0,sl A4 N4 C4,vI x1.rule,vI x4]) (rQ prog fn<|Q30 w0 g1 B A0 N0 C0 A4 N4 C4 x1) huv ?_ ?_ ?_ ?_ ?_
 .exact λ_ q=>⟨q.k<|s6 z z z z z z,cr [g1] H,a2,hB1.e h3⟩
 .rintro kb x4 _ I _ hkj ⟨hSw,s5,h6,J⟩ hmx;refine Wu ?_ hSw;refine Ws<|Rl z z z<|Wn<|Wq<|Wc z (λ_=>?_) (λhc=>(a_6 hkj hc).elim)
  refine Wk<|Wq<|Wb<|Wm z ?_
  obtain ⟨_,ey,hmk⟩:=bdS hmx;have hd:=(h3.ag B).c s5<|b_<|c_ hBg
  have hl:=V.g hd;refine RX z (at_ (α:=Str) a_n z_9 z z z hl ey) ?_;rintro _ ⟨_,_,_,rfl,hz,ae,_⟩;obtain ⟨rfl,_⟩:=b_K ae;refine R z (l0 g_9 z<|hz.at0 z)<|Ra z<|Rw z<|Wq<|Wm z<|Rm z<|R z (b_C z z)<|Wx z (λhcc=>?_) (λhcc=>?_)
  .refine Wm z<|Rf z J_ z<|R z (l0 A_ z<|(ha.c s5<|atp<|mmr<|Blk.lt hB1).at z)<|Rm z ?_
   obtain ⟨af,ah,a4⟩:=bdS<|ifT hmk hcc;refine RX z (at_ (α:=Int) v_ z_3 z z z (W.g hd) ah) ?_;rintro _ ⟨_,_,_,rfl,ai,aj,_⟩;obtain ⟨rfl,ak⟩:=O_ aj;refine R z (l0 g_3 z<|ai.at0 z)<|R z (C_ z)<|Rf z e_Q z<|E0 (fs0 (cur':=[sl A0 N0 C0,sl A4 N4 C4,vI af,vI x4]) z_3 z z J z z z z) ?_
   rintro _ al ⟨am,an⟩;refine Wn<|Ws<|Rw z ?_
   exact Wr<|rtO<|qL (som a4).symm<|e_ hr z ⟨(cM (cM (f_ (cr [g1] w0) h3:Cg [g1] w0 H) s5 (io sr):Cg [g1] w0 I) an.one (io sr):Cg [g1] w0 al),z,ak,h6,am⟩
  refine Wk<|Wq ?_
  obtain ⟨ao,a5,a6⟩:=bdS<|ifF hmk hcc;refine Wt (λa w=>∃(xe:Bool)(L:Int),(xe,L)=ao/\Sat 44 [(0,pt g1),(2,Str.v x3),(4,pt w0.z),(10,sl A3 N3 C3),(11,vI (x2.names.length:Int)),(12,vI ((kb:Nat):Int)),(42,vB xe)] a/\Cg [g1] I w/\inI L/\Blk w g1 [sl A0 N0 C0,sl A4 N4 C4,vI x1.rule,vI L]) ?_ ?_
  .refine Wg<|Rf z c_e z ?_
   have hn:=ha.c s5<|atp<|mmr<|Blk.lt hB1
   refine R z (l0 b_i z<|hn.at z)<|Rm z ?_
   have ho:=lt_ h3.s s5.s;obtain ⟨ap,aq,hmm⟩:=bdS a5;refine E z (fc call93 z<|W_w1o aq (zt' Y ho) hl a3) ?_;rintro _ wp ⟨s8,rfl⟩;refine R z (not_ z)<|Rm z ?_
   rcases bs (!ap) with G | G
   .iterate 8 refine Nh z G ?_
    refine R z (pT z G z)<|Wl ?_
    exact λ_ q=>⟨true,x4,som<|ifT hmm G,q.k<|s7 z z z z z z z,(f_ (cr [g1] I) s8:Cg [g1] I wp),h6,J.e s8⟩
   refine Rh z G (mv z)<|Rh z G (fd J_ z)<|Rh z G (l0 A_ z<|(hn.e s8).at z)<|Rh z G (mv z) ?_
   obtain ⟨_,ar,a7⟩:=bdS<|ifF hmm G;have hf:=hd.e s8;refine RXg z z G z (at_ (α:=Int) v_ z_3 z z z (W.g hf) ar) ?_;rintro _ ⟨_,_,_,rfl,au,av,_⟩;obtain ⟨rfl,aw⟩:=O_ av;refine Rh z G (l0 g_3 z<|au.at0 z) ?_;obtain ⟨ax,ay,az,a8⟩:=a_r a7;refine Eg z z G z (fc call26 z<|i_Y (B:=B) az (J.e s8) (zt' Y<|lt_ ho s8.s) hBg (a0.g hf) (a1.g hf) O h6 aw) ?_;rintro _ aA ⟨aB,rfl,aC,aD⟩;refine Rh z G (not_ z)<|R z (pF z G z)<|Wl ?_
   exact λ_ q=>⟨!ax,ay,som a8,q.k<|s7 z z z z z z z,(cM (f_ (cr [g1] I) s8:Cg [g1] I wp) aB (io sr):Cg [g1] I aA),aC,aD⟩
  rintro aE wq ⟨xe,L,rfl,_,ss,ht,hu⟩;have hmr:=a_O a6;revert aE;refine Wo<|Wc z (λhcg=>?_) (λhcg=>?_)
  .refine Ws<|Rw z ?_
   exact Wr<|rtO<|qL (som<|ifT hmr hcg).symm<|e_ hr z ⟨(cM (cM (f_ (cr [g1] w0) h3:Cg [g1] w0 H) s5 (io sr):Cg [g1] w0 I) ss (io sr):Cg [g1] w0 wq),z,O,ht,hu⟩
  refine Wk<|Wg<|R z (inc_ hkj (lt_ (repS.len V) M_) z z)<|Rm z<|Wl ?_
  exact λ_ q=>⟨L,(som<|ifF hmr hcg).symm,⟨q.k<|s6 z z z z z z,(cM (cM (cr [g1] H) s5 (io sr):Cg [g1] H I) ss (io sr):Cg [g1] H wq),ht,hu⟩⟩
 .rintro x4 _ aF ⟨a9,aG,h6,J⟩;refine Wu ?_ a9;refine Ws<|Rl z z z<|Wn<|Wq<|Wc z (λhc=>(a_7 hc).elim) (λ_=>?_)
  exact We<|λ_ q=>⟨rfl,⟨q.k sn,(cM (cr [g1] H) aG (io sr):Cg [g1] H aF),h6,J⟩⟩
 .rintro x4 aH aI rfl ⟨_,aJ,h6,J⟩;have aa:=elL hmi;revert aH;refine Wo<|Ws<|Rw z ?_
  obtain rfl:=som aa;exact Wr<|e_ hr z ⟨(cM (f_ (cr [g1] w0) h3:Cg [g1] w0 H) aJ (io sr):Cg [g1] w0 aI),z,O,h6,J⟩
 rintro _ _ _ _ rfl ⟨rfl,ab⟩;have ad:=elR hmi;obtain rfl:=som ad;exact ⟨ab,z⟩
theorem W_w39 {x1:Int}{x2:Int}{b2 o2:Nat}{res:Bool}(hm:j_P x1 x2=some res)(I:B<=w0.z)(G:inI x1)(H:inI x2)(hC2:T_ w0 b2 o2 [vI x2])(hC2b:B b2):l_ prog 95 [vI x1,(.pointer<|some ⟨b2,o2,none⟩)] w0 (Q0 w0 B res):=by
 unfold j_P at hm
 refine goG func95 z z z λfn hr=>Ws<|Rw z<|Wm z<|R z (l0 g_3 z<|hC2.at0 z)<|Rq z z z<|Rw z ?_
 obtain rfl:=som hm;exact Wr<|e_ hr z ⟨br w0,z⟩
theorem W_w3a {x1:List Int}{J:Int}{H L:Nat}{res:Int}(hm:h_X x1 J=some res)(a2:B<=w0.z)(I:repS w0 B (sl A0 N0 C0) x1)(p2c0_0:inI J)(a1:T_ w0 H L [vI J])(a0:B H):l_ prog 94 [sl A0 N0 C0,(.func (.func 95) #[] #[(.pointer<|some ⟨H,L,none⟩)])] w0 (Q9 w0 B res):=by
 unfold h_X at hm
 refine goG func94 z z z λfn hr=>Ws<|Rw z<|Wq<|Wm z<|R z (lnR v_ z I)<|Rm z<|Wn ?_
 obtain ⟨_,a3,W⟩:=bdS hm;refine Wf (σ:=Unit) (ρ:=Int) (λ(k4:Nat)(_:Unit) a w=>Sat 19 [(1,.func (.func 95) #[] #[(.pointer<|some ⟨H,L,none⟩)]),(7,sl A0 N0 C0),(8,vI (x1.length:Int)),(9,vI ((k4:Nat):Int))] a/\Below w0.z w0 w) (λ(_:Unit) a w=>Sat 19 [] a/\Below w0.z w0 w) (rQ prog fn<|Q9 w0 B) a3 ?_ ?_ ?_ ?_ ?_
 .exact λ_ q=>⟨q.k<|s4 z z z z,br w0⟩
 .rintro k4 _ _ _ _ O ⟨a4,G⟩ a5;refine Wu ?_ a4;refine Ws<|Rl z z z<|Wn<|Wq<|Wc z (λ_=>?_) (λhc=>(a_6 O hc).elim)
  refine Wk<|Wq<|Wb<|Wm z ?_
  obtain ⟨_,ea,hmb⟩:=bdS a5;refine RX z (at_ (α:=Int) v_ z_3 z z z (I.e G) ea) ?_;rintro _ ⟨_,_,_,rfl,hd,he,_⟩;obtain ⟨rfl,hf⟩:=O_ he;refine R z (l0 g_3 z<|hd.at0 z)<|Ra z<|Rw z<|Wm z<|Rm z ?_
  obtain ⟨_,ec,Y⟩:=bdS hmb;refine E z (e_d call95 z z<|W_w39 ec (zt' a2 G.s) hf p2c0_0 (a1.e G) a0) ?_;rintro _ _ ⟨s6,rfl⟩;refine Wx z (λV=>?_) (λV=>?_)
  .exact Wm z<|Rw z<|Wr<|rtO<|qL (som<|ifT Y V).symm<|e_ hr z ⟨bup G s6,z,ic (Nat.le_of_lt O)<|lt_ (repS.len I) M_⟩
  exact Wk<|Wg<|R z (inc_ O (lt_ (repS.len I) M_) z z)<|Rm z<|Wl (λ_ q=>⟨(),(som<|ifF Y V).symm,⟨q.k<|s4 z z z z,bup G s6⟩⟩)
 .rintro _ _ _ ⟨hSg,sh⟩;refine Wu ?_ hSg;refine Ws<|Rl z z z<|Wn<|Wq<|Wc z (λhc=>(a_7 hc).elim) (λ_=>?_)
  exact We<|λ_ q=>⟨rfl,⟨q.k sn,sh⟩⟩
 .rintro _ ai _ rfl ⟨_,sj⟩;have hmk:=elL W;revert ai;refine Wo<|Ws<|Rw z ?_
  obtain rfl:=som hmk;exact Wr<|e_ hr z ⟨sj,z,ii z⟩
 rintro _ _ _ _ rfl ⟨rfl,hql⟩;have hmm:=elR W;obtain rfl:=som hmm;exact ⟨hql,z⟩
theorem W_w3b {x1:b_a}{g1:Nat}{x2:g_}{res:Bool×Int×Int}(hm:h_Y n x1 x2=some res)(hB1:Blk w0 g1 [sl A0 N0 C0,sl A4 N4 C4,vI x1.rule,vI x1.at_])(L:B<=w0.z)(hBg:¬B g1)(W:repS w0 B (sl A0 N0 C0) x1.d.rules)(Y:repS w0 B (sl A4 N4 C4) x1.b)(O:inI x1.rule)(a0:inI x1.at_)(al:x2.name.b.length<=LEN)(am:inI x2.kind)(an:inI x2.size)(ao:repS w0 B (sl A2 N2 C2) x2.bytes)(ap:repS w0 B (sl A3 N3 C3) x2.names)(a1:repS w0 B (sl A1 N1 C1) x2.tags)(V:repS w0 B (sl A5 N5 C5) x2.kids):l_ prog 58 [pt g1,(.agg #[Str.v x2.name,vI x2.kind,vI x2.size,vB x2.little,sl A2 N2 C2,sl A3 N3 C3,sl A1 N1 C1,sl A5 N5 C5])] w0 (Q30 w0 g1 B A0 N0 C0 A4 N4 C4 x1 res):=by
 unfold h_Y at hm
 refine goG func58 z z z λfn hr=>Ws<|E z (fb z) ?_
 rintro _ wb ⟨rfl,hf⟩;have H:=hf.below;have hc:Blk wb w0.z (vR x2 A2 N2 C2 A3 N3 C3 A1 N1 C1 A5 N5 C5):=hf.blk;refine Rw z<|Wm z<|Rf z J_ z<|R z (l0 A_ z<|hc.at z) ?_
 obtain ⟨_,er,hms⟩:=bdS hm;refine RX z (at_ (α:=Int) v_ z_3 z z z (V.e H) er) ?_;rintro _ ⟨_,_,_,rfl,ht,hu,_⟩;obtain ⟨rfl,hv⟩:=O_ hu;refine R z (l0 g_3 z<|ht.at0 z) ?_;obtain ⟨rx,ry,rz,ew,a2⟩:=w_ hms;refine E z (fc call92 z<|W_w1w (B:=B) ew (hB1.e H) (zt' L H.s) hBg (W.e H) (Y.e H) O a0 hv) ?_;rintro _ I ⟨s5,rfl,a5,hg,hh⟩;refine Rm z<|Re z z z<|Re z z z<|E z (fa zero_3) ?_
 rintro _ wa ⟨rfl,hi⟩;have h2:=hi.below;have hj:Blk wa I.z [vI 0]:=hi.blk;refine E0 (fs0 (cur':=[vI rx]) z_3 z z hj z z z z) ?_;rintro _ wk ⟨a6,a7⟩;have h3:=a7.one;refine Rw z<|Ws<|Rf z b_1 z ?_
 have hl:=((hc.c s5<|atp<|mmr<|Blk.lt hB1).e h2).c h3<|djs<|mm1 hc.lt s5.s
 refine R z (l0 A_ z<|hl.at z)<|R z (k_2 z) ?_
 have h6:=lt_ H.s s5.s;have hn:=(((H.ag B).c s5<|b_<|c_ hBg).e h2).c h3<|b_ (or0 (c_ lr) (k_<|zt' L h6):∀k∈[I.z],¬B k)
 obtain ⟨rm,a8,a3⟩:=bdS a2;refine E z (fc call94 z<|W_w3a (B:=wa.z) a8 (a_0 h3.s) (repS.mono (a1.g hn)<|zt' L<|lt_ h6 h2.s) a5 (a6.row 0 1 z) hj.lt) ?_;rintro _ J ⟨s8,rfl,_⟩;refine Rw z<|Wq<|Wq ?_
 obtain ⟨a9,huo,hmp⟩:=bdS a3;refine Wt (λa w=>∃(xd:Bool),xd=a9/\Sat 36 [(0,pt g1),(3,pt w0.z),(7,vI rm),(26,vB xd)] a/\Below J.z J w) ?_ ?_
 .refine Wg<|Rm z<|R z (not_ z)<|Rm z ?_
  rcases bs (!ry) with G | G
  .exact Nh z G<|Nh z G<|R z (pT z G z)<|Wl (λ_ q=>⟨true,som<|ifT huo G,q.k<|s4 z z z z,br J⟩)
  exact Rh z G (mv z)<|Rh z G (lss z z)<|R z (pF z G z)<|Wl (λ_ q=>⟨decide<|rm<0,som<|ifF huo G,q.k<|s4 z z z z,br J⟩)
 rintro aa wq ⟨xd,rfl,_,s9⟩;revert aa;refine Wo<|Wc z (λhce=>?_) (λhce=>?_)
 .refine Ws<|Rw z ?_
  obtain rfl:=som<|ifT hmp hce;exact Wr<|e_ hr z ⟨(f_ (f_ (cM (f_ (cM (f_ (cr [g1] w0) H:Cg [g1] w0 wb) s5 (io sr):Cg [g1] w0 I) h2:Cg [g1] w0 wa) h3 (mor h6:∀k∈[I.z],k∈[g1]∨w0.z<=k):Cg [g1] w0 wk) s8:Cg [g1] w0 J) s9:Cg [g1] w0 wq),z,O,hg,(((hh.e h2).c h3<|djs<|mm1 (Blk.lt hB1) h6).e s8).e s9⟩
 refine Wk<|Wm z<|Rf z J_ z<|R z (l0 A_ z<|((hl.e s8).e s9).at z)<|Rm z<|R z (add_ z z) ?_
 obtain ⟨ab,ad,a4⟩:=bdS<|ifF hmp hce;refine RX z (at_ (α:=Int) v_ z_3 z z z (V.g<|(hn.e s8).e s9) ad) ?_;rintro _ ⟨_,_,_,rfl,ae,af,_⟩;obtain ⟨rfl,ah⟩:=O_ af;refine R z (l0 g_3 z<|ae.at0 z)<|R z (C_ z)<|Rf z e_Q z<|E0 (fs0 (cur':=[sl A0 N0 C0,sl A4 N4 C4,vI ab,vI rz]) z_3 z z ((((hh.e h2).c h3<|djs<|mm1 (Blk.lt hB1) h6).e s8).e s9) z z z z) ?_
 rintro _ ai ⟨aj,ak⟩;refine Wn<|Ws<|Rw z ?_
 obtain rfl:=som a4;exact Wr<|e_ hr z ⟨(cM (f_ (f_ (cM (f_ (cM (f_ (cr [g1] w0) H:Cg [g1] w0 wb) s5 (io sr):Cg [g1] w0 I) h2:Cg [g1] w0 wa) h3 (mor h6:∀k∈[I.z],k∈[g1]∨w0.z<=k):Cg [g1] w0 wk) s8:Cg [g1] w0 J) s9:Cg [g1] w0 wq) ak.one (io sr):Cg [g1] w0 ai),z,ah,hg,aj⟩
theorem W_w3c {x1:b_a}{g1:Nat}{x2:Str}{res:Bool×Int×Int}(hm:g_k n x1 x2=some res)(hB1:Blk w0 g1 [sl A0 N0 C0,sl A4 N4 C4,vI x1.rule,vI x1.at_])(V:B<=w0.z)(hBg:¬B g1)(a0:repS w0 B (sl A0 N0 C0) x1.d.rules)(a1:repS w0 B (sl A4 N4 C4) x1.b)(Y:inI x1.rule)(W:inI x1.at_)(au:x2.b.length<=LEN):l_ prog 25 [pt g1,Str.v x2] w0 (Q30 w0 g1 B A0 N0 C0 A4 N4 C4 x1 res):=by
 unfold g_k at hm
 refine goG func25 z z z λfn hr=>Ws<|Rw z<|Wq (Wd (X:=noX) 4096 (pl_ 13 [11,12]) mo (by kernel_rfl) λH G _=>dM z z z<|dR z z (C_ z)<|dR z z (fd k_d z)<|dR z z (fd a_3 z) ?_)
 have L:=hB1.e G;refine dR z z (l0 a_8 z<|L.at z)<|dM z z z<|dR z z (C_ z)<|dR z z (fd e_Q z)<|dR z z (l0 g_3 z<|L.at z) ?_
 obtain ⟨xe,aZ,av⟩:=bdS hm;refine dRX z z (at_ (α:=g_) a_a o_ z z z (a0.e G) aZ) ?_;rintro _ ⟨_,_,_,rfl,b0,b1,_⟩;obtain ⟨ah,ni,cj,ak,nl,cm,an,no,cp,aq,nr,cs,rfl,ab,ad,ae,af,ai,aj,hu⟩:=a_D b1;refine dR z z (lN (vs:=vR xe ah ni cj ak nl cm an no cp aq nr cs) L_ o_ z z fid b0)<|dE z z (fa b_P) (.inr λ_ _ h=>p_<|h.2.below) ?_
 rintro _ wg ⟨rfl,aF⟩;have h1:=aF.below;refine dE0 z (fs0 (cur':=vR xe ah ni cj ak nl cm an no cp aq nr cs) o_ z z (aF.blk:Blk wg H.z [(Str.v (⟨[]⟩:Str)),vI 0,vI 0,vB false,sN,sN,sN,sN]) z z z z) (.inl z) ?_;rintro _ O ⟨ha,b2⟩;have h2:=b2.one;refine pD<|Wo<|Wq<|Wb<|Ws<|Rf z a_u z<|R z (l0 g_3 z<|ha.at z)<|Rq z z z<|Rw z<|Wc z (λa4=>?_) (λa4=>?_)
 .refine Wm z<|R z (lN (vs:=vR xe ah ni cj ak nl cm an no cp aq nr cs) L_ o_ z z fid<|ha.row 0 8 z)<|Rm z ?_
  have aG:∀k∈[H.z],¬B k:=or0 (c_ lr)<|k_<|zt' V G.s;have aH:=((G.ag B).e h1).c h2<|b_ aG
  have hv:=(h1.ag B).c h2<|b_ aG
  obtain ⟨_,_,_,b3,aQ⟩:=w_<|ifT av a4;refine E z (fc call56 z<|W_w37 (B:=B) b3 ((L.e h1).c h2<|djs<|mm1 (Blk.lt hB1) G.s) (zt' V<|lt_ (lt_ G.s h1.s) h2.s) hBg (a0.g aH) (a1.g aH) Y W ab ad ae (af.g hv) (ai.g hv) (aj.g hv) (hu.g hv) au) ?_;rintro _ b4 ⟨b5,rfl,b6,b7,b8⟩;refine Rw z ?_
  obtain rfl:=som aQ;exact Wr<|rtO<|e_ hr z ⟨(cM (cM (f_ (f_ (cr [g1] w0) G:Cg [g1] w0 H) h1:Cg [g1] w0 wg) h2 (mor G.s:∀k∈[H.z],k∈[g1]∨w0.z<=k):Cg [g1] w0 O) b5 (io sr):Cg [g1] w0 b4),z,b6,b7,b8⟩
 have aw:=ifF av a4;refine Ws<|Rf z a_u z<|R z (l0 g_3 z<|ha.at z)<|Rq z z z<|Rw z<|Wc z (λa5=>?_) (λa5=>?_)
 .refine Wm z<|R z (lN (vs:=vR xe ah ni cj ak nl cm an no cp aq nr cs) L_ o_ z z fid<|ha.row 0 8 z)<|Rm z ?_
  have aI:∀k∈[H.z],¬B k:=or0 (c_ lr)<|k_<|zt' V G.s;have aJ:=((G.ag B).e h1).c h2<|b_ aI
  have hw:=(h1.ag B).c h2<|b_ aI
  obtain ⟨_,_,_,b9,aR⟩:=w_<|ifT aw a5;refine E z (fc call57 z<|W_w38 (B:=B) b9 ((L.e h1).c h2<|djs<|mm1 (Blk.lt hB1) G.s) (zt' V<|lt_ (lt_ G.s h1.s) h2.s) hBg (a0.g aJ) (a1.g aJ) Y W ab ad ae (af.g hw) (ai.g hw) (aj.g hw) (hu.g hw) au) ?_;rintro _ ba ⟨bb,rfl,bc,be,bf⟩;refine Rw z ?_
  obtain rfl:=som aR;exact Wr<|rtO<|e_ hr z ⟨(cM (cM (f_ (f_ (cr [g1] w0) G:Cg [g1] w0 H) h1:Cg [g1] w0 wg) h2 (mor G.s:∀k∈[H.z],k∈[g1]∨w0.z<=k):Cg [g1] w0 O) bb (io sr):Cg [g1] w0 ba),z,bc,be,bf⟩
 refine Wq ?_;obtain ⟨bg,ax,ay⟩:=bdS<|ifF aw a5;refine Wt (λa w=>∃(al:Bool),al=bg/\Sat 97 [(0,pt g1),(1,Str.v x2),(5,pt H.z),(33,vB al)] a/\Below O.z O w) ?_ ?_
 .refine Wg<|Rf z a_u z<|R z (l0 g_3 z<|ha.at z)<|Rq z z z<|Rm z ?_
  rcases bs (xe.kind==7) with hcb | hcb
  .exact Rh z hcb (mv z)<|Rh z hcb (b_C z z)<|R z (pT z hcb z)<|Ra z<|Wl (λ_ q=>⟨x2.b==(⟨[42]⟩:Str).b,som<|ifT ax hcb,q.k<|s4 z z z z,br O⟩)
  exact Nh z hcb<|Nh z hcb<|R z (pF z hcb z)<|Ra z<|Wl (λ_ q=>⟨false,som<|ifF ax hcb,q.k<|s4 z z z z,br O⟩)
 rintro bh wf ⟨al,rfl,_,s5⟩;revert bh;refine Wo<|Wc z (λa6=>?_) (λa6=>?_)
 .refine Wm z<|R z (lN (vs:=vR xe ah ni cj ak nl cm an no cp aq nr cs) L_ o_ z z fid<|(ha.e s5).row 0 8 z) ?_
  have aK:∀k∈[H.z],¬B k:=or0 (c_ lr)<|k_<|zt' V G.s;have aL:=(((G.ag B).e h1).c h2<|b_ aK).e s5;have hx:=((h1.ag B).c h2<|b_ aK).e s5;obtain ⟨_,_,_,bi,aS⟩:=w_<|ifT ay a6;refine E z (fc call58 z<|W_w3b (B:=B) bi (((L.e h1).c h2<|djs<|mm1 (Blk.lt hB1) G.s).e s5) (zt' V<|lt_ (lt_ (lt_ G.s h1.s) h2.s) s5.s) hBg (a0.g aL) (a1.g aL) Y W ab ad ae (af.g hx) (ai.g hx) (aj.g hx)<|hu.g hx) ?_;rintro _ bj ⟨bk,rfl,bm,bn,bo⟩;refine Rw z ?_
  obtain rfl:=som aS;exact Wr<|rtO<|e_ hr z ⟨(cM (f_ (cM (f_ (f_ (cr [g1] w0) G:Cg [g1] w0 H) h1:Cg [g1] w0 wg) h2 (mor G.s:∀k∈[H.z],k∈[g1]∨w0.z<=k):Cg [g1] w0 O) s5:Cg [g1] w0 wf) bk (io sr):Cg [g1] w0 bj),z,bm,bn,bo⟩
 refine Wq ?_;obtain ⟨bp,az,aT⟩:=bdS<|ifF ay a6;refine Wt (λa w=>∃(am:Bool),am=bp/\Sat 97 [(0,pt g1),(1,Str.v x2),(5,pt H.z),(44,vB am)] a/\Below wf.z wf w) ?_ ?_
 .refine Wg<|Rf z a_u z<|R z (l0 g_3 z<|(ha.e s5).at z)<|Rq z z z<|Rm z ?_
  rcases bs (xe.kind==8) with hcc | hcc
  .exact Rh z hcc (mv z)<|Rh z hcc (b_C z z)<|R z (pT z hcc z)<|Ra z<|Wl (λ_ q=>⟨x2.b==(⟨[63]⟩:Str).b,som<|ifT az hcc,q.k<|s4 z z z z,br wf⟩)
  exact Nh z hcc<|Nh z hcc<|R z (pF z hcc z)<|Ra z<|Wl (λ_ q=>⟨false,som<|ifF az hcc,q.k<|s4 z z z z,br wf⟩)
 rintro bq J ⟨am,rfl,_,s7⟩;revert bq;refine Wo ?_;obtain ⟨bt,aA,a7⟩:=bdS aT;refine Wt (λa w=>∃(xt:Int),Sum.inl xt=bt/\Sat 97 [(0,pt g1),(5,pt H.z)] a/\Cg [g1] J w/\inI xt/\Blk w g1 [sl A0 N0 C0,sl A4 N4 C4,vI x1.rule,vI xt]) ?_ ?_
 .refine Wc z (λa8=>?_)<|λa8=>?_
  .refine Wq<|Wq ?_
   obtain ⟨bu,aB,aC⟩:=bdS<|ifT aA a8;refine Wt (λa w=>∃(ao:Bool),ao=bu/\Sat 97 [(0,pt g1),(5,pt H.z),(74,vB ao)] a/\Below J.z J w) ?_ ?_
   .refine Wd (X:=noX) 0 (pl_ 23 []) mo (by kernel_rfl) λbS sy _=>dM z z z<|dR z z (C_ z)<|dR z z (fd d_k z) ?_
    have hz:=((((L.e h1).c h2<|djs<|mm1 (Blk.lt hB1) G.s).e s5).e s7).e sy;refine dR z z (l0 g_3 z<|hz.at z)<|dM z z z<|dR z z (C_ z)<|dR z z (fd i_P z)<|dR z z (l0 R_ z<|hz.at z) ?_
    have aM:=a1.g<|(((((G.ag B).e h1).c h2<|b_ (or0 (c_ lr) (k_<|zt' V G.s):∀k∈[H.z],¬B k)).e s5).e s7).e sy
    refine dR z z (lnR n_ z aM)<|dR z z (b_R z z)<|dM z z z ?_
    rcases bs (decide<|(x1.b.length:Int)<=x1.at_) with I | I
    .iterate 11 refine dRn z z z I z ?_
     exact dR z z (pT z I z)<|pD (λ_ q=>⟨true,som<|ifT aB I,q.k<|s3 z z z,sy⟩)
    refine dRg z z z I z (mv z)<|dRg z z z I z (C_ z)<|dRg z z z I z (fd i_P z)<|dRg z z z I z (l0 R_ z<|hz.at z)<|dRg z z z I z (mv z)<|dRg z z z I z (C_ z)<|dRg z z z I z (fd d_k z)<|dRg z z z I z (l0 g_3 z<|hz.at z) ?_
    obtain ⟨bv,bw,aU⟩:=bdS<|ifF aB I;refine b_L z z z I z (at_ (α:=UInt8) n_ z_5 z z z aM bw) ?_;rintro _ ⟨_,_,_,rfl,bx,bz,_⟩;obtain rfl:=u8 bz;exact dRg z z z I z (l0 g_5 z<|bx.at0 z)<|dRg z z z I z (nq z z)<|dR z z (pF z I z)<|pD (λ_ q=>⟨(byteI bv) != (byteI (1:UInt8)),som aU,q.k<|s3 z z z,sy⟩)
   rintro bA aN ⟨ao,rfl,_,a2⟩;revert bA;refine Wo<|Wc z (λa9=>?_) (λa9=>?_)
   .refine Ws<|Rw z ?_
    obtain rfl:=som<|ifT aC a9;have aV:=elR a7;obtain rfl:=som aV;exact Wr<|rtO<|e_ hr z ⟨(f_ (f_ (f_ (cM (f_ (f_ (cr [g1] w0) G:Cg [g1] w0 H) h1:Cg [g1] w0 wg) h2 (mor G.s:∀k∈[H.z],k∈[g1]∨w0.z<=k):Cg [g1] w0 O) s5:Cg [g1] w0 wf) s7:Cg [g1] w0 J) a2:Cg [g1] w0 aN),z,Y,W,((((L.e h1).c h2<|djs<|mm1 (Blk.lt hB1) G.s).e s5).e s7).e a2⟩
   refine Wk<|Wg<|Rm z<|R z (C_ z)<|Rf z d_k z ?_
   have aO:=((((L.e h1).c h2<|djs<|mm1 (Blk.lt hB1) G.s).e s5).e s7).e a2;refine R z (l0 g_3 z<|aO.at z)<|R z (add_ z z)<|R z (C_ z)<|Rf z d_k z<|E0 (fs0 (cur':=[sl A0 N0 C0,sl A4 N4 C4,vI x1.rule,vI<|i_ x1.at_ 1]) z_3 z z aO z z z z) ?_
   rintro _ bB ⟨bC,bD⟩;refine Wl ?_;exact λ_ q=>⟨i_ x1.at_ 1,som<|ifF aC a9,q.k<|s2 z z,(cM (f_ (cr [g1] J) a2:Cg [g1] J aN) bD.one (io sr):Cg [g1] J bB),iA _ _,bC⟩
  refine Wq ?_;obtain ⟨bE,aD,aE⟩:=bdS<|ifF aA a8;refine Wt (λa w=>∃(ap:Bool),ap=bE/\Sat 97 [(0,pt g1),(5,pt H.z),(82,vB ap)] a/\Below J.z J w) ?_ ?_
  .refine Wg<|Rf z a_u z<|R z (l0 g_3 z<|((ha.e s5).e s7).at z)<|Rq z z z<|Rm z ?_
   rcases bs (xe.kind==9) with hcd | hcd
   .exact Rh z hcd (mv z)<|Rh z hcd (b_C z z)<|R z (pT z hcd z)<|Ra z<|Wl (λ_ q=>⟨x2.b==(⟨[43]⟩:Str).b,som<|ifT aD hcd,q.k<|s3 z z z,br J⟩)
   exact Nh z hcd<|Nh z hcd<|R z (pF z hcd z)<|Ra z<|Wl (λ_ q=>⟨false,som<|ifF aD hcd,q.k<|s3 z z z,br J⟩)
  rintro bF aP ⟨ap,rfl,_,a3⟩;revert bF;refine Wo<|Wc z (λaa=>?_) (λaa=>?_)
  .refine a_k ?_;exact λ_ q=>⟨x1.at_,som<|ifT aE aa,q.k<|s2 z z,(f_ (cr [g1] J) a3:Cg [g1] J aP),W,((((L.e h1).c h2<|djs<|mm1 (Blk.lt hB1) G.s).e s5).e s7).e a3⟩
  refine Ws<|Rw z ?_
  obtain rfl:=som<|ifF aE aa;have aW:=elR a7;obtain rfl:=som aW;exact Wr<|rtO<|e_ hr z ⟨(f_ (f_ (f_ (cM (f_ (f_ (cr [g1] w0) G:Cg [g1] w0 H) h1:Cg [g1] w0 wg) h2 (mor G.s:∀k∈[H.z],k∈[g1]∨w0.z<=k):Cg [g1] w0 O) s5:Cg [g1] w0 wf) s7:Cg [g1] w0 J) a3:Cg [g1] w0 aP),z,Y,W,((((L.e h1).c h2<|djs<|mm1 (Blk.lt hB1) G.s).e s5).e s7).e a3⟩
 rintro bG bH ⟨xt,rfl,_,ar,bI,bJ⟩;have aX:=elL a7;revert bG;refine Wo<|Wm z<|Rf z J_ z<|R z (l0 A_ z<|(((ha.e s5).e s7).c ar<|atp<|mm1 (Blk.lt hB1) G.s).at z) ?_
 obtain ⟨bK,bL,aY⟩:=bdS aX;refine RX z (at_ (α:=Int) v_ z_3 z z z (hu.g<|((((h1.ag B).c h2<|b_ (or0 (c_ lr) (k_<|zt' V G.s):∀k∈[H.z],¬B k)).e s5).e s7).c ar<|b_<|c_ hBg) bL) ?_;rintro _ ⟨_,_,_,rfl,bM,bN,_⟩;obtain ⟨rfl,bO⟩:=O_ bN;refine R z (l0 g_3 z<|bM.at0 z)<|R z (C_ z)<|Rf z e_Q z<|E0 (fs0 (cur':=[sl A0 N0 C0,sl A4 N4 C4,vI bK,vI xt]) z_3 z z bJ z z z z) ?_
 rintro _ bP ⟨bQ,bR⟩;refine Wn<|Ws<|Rw z ?_
 obtain rfl:=som aY;exact Wr<|e_ hr z ⟨(cM (cM (f_ (f_ (cM (f_ (f_ (cr [g1] w0) G:Cg [g1] w0 H) h1:Cg [g1] w0 wg) h2 (mor G.s:∀k∈[H.z],k∈[g1]∨w0.z<=k):Cg [g1] w0 O) s5:Cg [g1] w0 wf) s7:Cg [g1] w0 J) ar (io sr):Cg [g1] w0 bH) bR.one (io sr):Cg [g1] w0 bP),z,bO,bI,bQ⟩
def Q31 (w0:World)(B:Zone)(r:y_×Bool)(v:Value)(w':World):Prop:=Bw w0 w'/\un2 (λG H=>v = .tuple #[(.agg #[Str.v G.path,vI G.rule,vI G.start,vI G.end_]),vB H]/\G.path.b.length<=LEN/\inI G.rule/\inI G.start/\inI G.end_) r
theorem k_F {x1:d_}{x2:Bt}{x3:Str}{res:y_×Bool}(hm:f_f n x1 x2 x3=some res)(O:B<=w0.z)(V:repS w0 B (sl A0 N0 C0) x1.rules)(W:repS w0 B (sl A6 N6 C6) x2)(Y:x3.b.length<=LEN):l_ prog 7 [(.agg #[sl A0 N0 C0]),sl A6 N6 C6,Str.v x3] w0 (Q31 w0 B res):=by
 unfold f_f at hm
 refine goG func7 z z z λfn hr=>Ws<|E z (fb z) ?_
 rintro _ wj ⟨rfl,hz⟩;have h3:=hz.below;have a7:Blk wj w0.z [sl A0 N0 C0]:=hz.blk;refine E z (fa i_S) ?_;rintro _ aI ⟨rfl,a8⟩;have L:=a8.below;have hd:Blk aI wj.z [(Str.v (⟨[]⟩:Str)),vI 0,vI 0,vI 0]:=a8.blk;refine Rw z<|Wm z ?_
 have hn:=lt_ h3.s L.s;obtain ⟨aJ,aK,aL,ay⟩:=a_r hm;refine E z (fc call22 z<|W_w2z aL (zt' O hn) Y) ?_;rintro _ wo ⟨G,a9,aa,ab,_,rfl,hk,_,_⟩;refine Rm z<|Re z z z<|Re z z z<|Ra z<|Rw z<|Wq<|Wq ?_
 obtain ⟨aM,a0,a1⟩:=bdS ay;refine Wt (λa w=>∃(xp:Bool),xp=aM/\Sat 73 [(1,sl A6 N6 C6),(2,Str.v x3),(3,pt w0.z),(6,pt wj.z),(8,sl a9 aa ab),(30,vB xp)] a/\Below wo.z wo w) ?_ ?_
 .refine Wg<|Rm z<|R z (not_ z)<|Rm z ?_
  rcases bs (!aK) with hca | hca
  .iterate 3 refine Nh z hca ?_
   exact R z (pT z hca z)<|Rm z<|Nh z z<|Nh z z<|Nh z z<|R z (pT z z z)<|Wl (λ_ q=>⟨true,som<|ifT a0 hca,q.k<|s6 z z z z z z,br wo⟩)
  refine Rh z hca (lN (vs:=[sl A0 N0 C0]) t_ r_ z z fid<|((a7.e L).e G).row 0 1 z) ?_;have ad:=((h3.ag B).e L).e G;obtain ⟨aN,aO,a2⟩:=bdS<|ifF a0 hca;refine Eg z z hca z (fc call23 z<|W_w1p aO (zt' O<|lt_ hn G.s)<|V.g ad) ?_;rintro _ _ ⟨sq,rfl⟩;refine Rh z hca (not_ z)<|R z (pF z hca z)<|Rm z ?_
  rcases bs (!aN) with hcb | hcb
  .iterate 3 refine Nh z hcb ?_
   exact R z (pT z hcb z)<|Wl (λ_ q=>⟨true,som<|ifT a2 hcb,q.k<|s6 z z z z z z,sq⟩)
  exact Rh z hcb (mv z)<|Rh z hcb (lnR n_ z<|W.g<|ad.e sq)<|Rh z hcb (a_g z z)<|R z (pF z hcb z)<|Wl (λ_ q=>⟨decide<|400<(x2.length:Int),som<|ifF a2 hcb,q.k<|s6 z z z z z z,sq⟩)
 rintro aP _ ⟨xp,rfl,_,s1⟩;revert aP;refine Wo<|Wc z (λhcr=>?_) (λhcr=>?_)
 .refine Ws<|R z (bP (parts:=[]) (cs:=[(Str.v (⟨[]⟩:Str)),vI 0,vI 0,vI 0]) g_R z z)<|E0 (fs0 (cur':=[(Str.v (⟨[]⟩:Str)),vI 0,vI 0,vI 0]) b_A z z ((hd.e G).e s1) z z z z) ?_
  rintro _ _ ⟨aQ,aR⟩;refine Rw z ?_
  obtain rfl:=som<|ifT a1 hcr;exact Wr<|a_l hr (s_ f_x b_A z aQ z) z ⟨bM (bup (bup (bup h3 L) G) s1) aR.one<|m1 h3.s,z,lb z,ii z,ii z,ii z⟩
 refine Wk<|Wq (Wd (X:=noX) 0 (pl_ 7 [3,5]) mo (by kernel_rfl) λbj s5 _=>?_)
 have ae:=(((a7.e L).e G).e s1).e s5;refine dR z z (lN (vs:=[sl A0 N0 C0]) t_ r_ z z fid<|ae.row 0 1 z)<|dM z z z<|dR z z (lN (vs:=[sl A0 N0 C0]) t_ r_ z z fid<|ae.row 0 1 z) ?_
 have ht:=((((h3.ag B).e L).e G).e s1).e s5;have hu:=lt_ (lt_ (lt_ hn G.s) s1.s) s5.s;obtain ⟨af,aS,az⟩:=bdS<|ifF a1 hcr;refine dE z z (fc call24 z<|W_w34 aS (zt' O hu)<|V.g ht) (.inr λ_ _ h=>p_<|h.1) ?_;rintro _ H ⟨s4,rfl,aT⟩;refine dR z z (bP (parts:=[(0,.tmp 32),(1,.tmp 33),(2,.tmp 35)]) (cs:=[sl A0 N0 C0,sl A6 N6 C6,vI af,vI 0]) q_p z z)<|dE z z (fb z) (.inr λ_ _ h=>p_<|h.2.below) ?_
 rintro _ wc ⟨rfl,ah⟩;have h6:=ah.below;refine dQ z z z<|pD<|Wo<|Wq<|Wm z ?_
 have ai:=(((hk.e s1).e s5).e s4).e h6;refine R z (lnR a_n z<|or_ ai<|a_.lt hk)<|Rm z<|Wn ?_
 obtain ⟨_,aA,a3⟩:=bdS az;refine Wf (σ:=Int×Int) (ρ:=y_×Bool) (λ(aj:Nat) s a w=>un2 (λI J=>Sat 73 [(2,Str.v x3),(6,pt wj.z),(10,pt H.z),(38,sl a9 aa ab),(39,vI (aJ.length:Int)),(40,vI ((aj:Nat):Int))] a/\Cg [H.z] wc w/\inI I/\inI J/\Blk w H.z [sl A0 N0 C0,sl A6 N6 C6,vI I,vI J]) s) (λs a w=>un2 (λI J=>Sat 73 [(2,Str.v x3),(6,pt wj.z),(10,pt H.z)] a/\Cg [H.z] wc w/\inI I/\inI J/\Blk w H.z [sl A0 N0 C0,sl A6 N6 C6,vI I,vI J]) s) (rQ prog fn<|Q31 w0 B) aA ?_ ?_ ?_ ?_ ?_
 .exact λ_ q=>⟨q.k<|s6 z z z z z z,cr [H.z] wc,aT,ii z,(ah.blk:Blk wc H.z [sl A0 N0 C0,sl A6 N6 C6,vI af,vI 0])⟩
 .rintro aj ⟨I,J⟩ _ aU _ a4 ⟨aB,sg,he,hh,hf⟩ aC;refine Wu ?_ aB;refine Ws<|Rl z z z<|Wn<|Wq<|Wc z (λ_=>?_) (λhc=>(a_6 a4 hc).elim)
  refine Wk<|Wq<|Wb<|Ws ?_
  obtain ⟨_,aV,aD⟩:=bdS<|a_O aC;refine RX z (at_ (α:=Str) a_n z_9 z z z (or_ (ai.c sg<|ds<|mno (a_.lt hk)<|lt_ (lt_ s1.s s5.s) s4.s)<|a_.lt hk) aV) ?_;rintro _ ⟨_,_,_,rfl,aW,aX,_⟩;obtain ⟨rfl,aY⟩:=b_K aX;refine R z (l0 g_9 z<|aW.at0 z)<|Rw z<|Wm z<|Rm z ?_
  have hv:=lt_ hu s4.s;have ak:∀k∈[H.z],¬B k:=or0 (c_ lr)<|k_<|zt' O hv;have al:=((ht.e s4).e h6).c sg<|b_ ak
  obtain ⟨_,aZ,b0,b1,a5⟩:=w_ aD;refine E z (fc call25 z<|W_w3c (B:=B) b1 hf (zt' O<|lt_ (lt_ hv h6.s) sg.s) (atp ak) (V.g al) (W.g al) he hh aY) ?_;rintro _ b2 ⟨ss,rfl,b3,b4,b5⟩;refine R z (not_ z)<|Wx z (λhcw=>?_) (λhcw=>?_)
  .refine Ws<|R z (bP (parts:=[]) (cs:=[(Str.v (⟨[]⟩:Str)),vI 0,vI 0,vI 0]) g_R z z) ?_
   have am:=mm1 hd.lt<|lt_ (lt_ (lt_ G.s s1.s) s5.s) s4.s
   refine E0 (fs0 (cur':=[(Str.v (⟨[]⟩:Str)),vI 0,vI 0,vI 0]) b_A z z (((((((hd.e G).e s1).e s5).e s4).e h6).c sg<|djs am).c ss<|djs am) z z z z) ?_;rintro _ _ ⟨b6,b7⟩;refine Rw z ?_
   have an:=m1 hv;exact Wr<|rtO<|qL (som<|ifT a5 hcw).symm<|a_l hr (s_ f_x b_A z b6 z) z ⟨bM (bM (bM (bup (bup (bup (bup (bup (bup h3 L) G) s1) s5) s4) h6) sg an) ss an) b7.one<|m1 h3.s,z,lb z,ii z,ii z,ii z⟩
  refine Wk<|Wg<|R z (inc_ a4 (lt_ (a_.len hk) M_) z z)<|Rm z<|Wl ?_
  exact λ_ q=>⟨(aZ,b0),(som<|ifF a5 hcw).symm,⟨q.k<|s6 z z z z z z,(cM (cM (cr [H.z] wc) sg (io sr):Cg [H.z] wc aU) ss (io sr):Cg [H.z] wc b2),b3,b4,b5⟩⟩
 .rintro ⟨I,J⟩ _ b8 ⟨aE,b9,he,hh,hf⟩;refine Wu ?_ aE;refine Ws<|Rl z z z<|Wn<|Wq<|Wc z (λhc=>(a_7 hc).elim) (λ_=>?_)
  exact We<|λ_ q=>⟨rfl,⟨q.k<|s3 z z z,(cM (cr [H.z] wc) b9 (io sr):Cg [H.z] wc b8),he,hh,hf⟩⟩
 .rintro ⟨I,J⟩ ba _ rfl ⟨_,si,he,hh,hf⟩;have aF:=elL a3;revert ba;refine Wo<|Wm z<|R z (C_ z)<|Rf z d_k z<|R z (l0 g_3 z<|hf.at z)<|Rw z<|Wq<|Wm z<|Rm z<|R z (C_ z)<|Rf z e_Q z<|R z (l0 g_3 z<|hf.at z) ?_
  have hl:=lt_ hu s4.s;have ao:∀k∈[H.z],¬B k:=or0 (c_ lr)<|k_<|zt' O hl;have ap:=((ht.e s4).e h6).c si<|b_ ao
  obtain ⟨_,aq,bb,a6⟩:=a_r<|a_O aF;refine E z (fc call26 z<|i_Y (B:=B) bb hf (zt' O<|lt_ (lt_ hl h6.s) si.s) (atp ao) (V.g ap) (W.g ap) he hh he) ?_;rintro _ _ ⟨sm,rfl,bc,be⟩;refine R z (not_ z)<|Wx z (λhcx=>?_) (λhcx=>?_)
  .refine Ws<|R z (bP (parts:=[]) (cs:=[(Str.v (⟨[]⟩:Str)),vI 0,vI 0,vI 0]) g_R z z) ?_
   have ar:=mm1 hd.lt<|lt_ (lt_ (lt_ G.s s1.s) s5.s) s4.s
   refine E0 (fs0 (cur':=[(Str.v (⟨[]⟩:Str)),vI 0,vI 0,vI 0]) b_A z z (((((((hd.e G).e s1).e s5).e s4).e h6).c si<|djs ar).c sm<|djs ar) z z z z) ?_;rintro _ _ ⟨bf,bg⟩;refine Rw z ?_
   obtain rfl:=som<|ifT a6 hcx;have au:=m1 hl;exact Wr<|a_l hr (s_ f_x b_A z bf z) z ⟨bM (bM (bM (bup (bup (bup (bup (bup (bup h3 L) G) s1) s5) s4) h6) si au) sm au) bg.one<|m1 h3.s,z,lb z,ii z,ii z,ii z⟩
  refine Wk<|Wq (Wd (X:=noX) 2048 (pl_ 13 [11]) mo (by kernel_rfl) λbk sy _=>dM z z z<|dM z z z<|dR z z (C_ z)<|dR z z (fd e_Q z) ?_)
  have av:=be.e sy;refine dR z z (l0 g_3 z<|av.at z)<|dM z z z<|dM z z z<|dR z z (C_ z)<|dR z z (fd d_k z)<|dR z z (l0 g_3 z<|av.at z)<|dR z z (bP (parts:=[(0,.tmp 62),(1,.tmp 66),(2,.tmp 67),(3,.tmp 71)]) (cs:=[Str.v x3,vI I,vI J,vI aq]) g_R z z) ?_
  have aw:=mm1 hd.lt<|lt_ (lt_ (lt_ G.s s1.s) s5.s) s4.s
  refine dE0 z (fs0 (cur':=[Str.v x3,vI I,vI J,vI aq]) b_A z z ((((((((hd.e G).e s1).e s5).e s4).e h6).c si<|djs aw).c sm<|djs aw).e sy) z z z z) (.inl z) ?_;rintro _ _ ⟨bh,bi⟩;refine dQ z z z<|pD<|Wo ?_
  obtain rfl:=som<|ifF a6 hcx;have ax:=m1 hl;exact Wr<|a_l hr (s_ f_x b_A z bh z) z ⟨bM (bup (bM (bM (bup (bup (bup (bup (bup (bup h3 L) G) s1) s5) s4) h6) si ax) sm ax) sy) bi.one<|m1 h3.s,z,Y,he,hh,bc⟩
 rintro _ _ _ _ rfl ⟨rfl,aG⟩;have aH:=elR a3;obtain rfl:=som aH;exact ⟨aG,z⟩
def Q32 (w0:World)(B:Zone)(r:(Option<|Int×Int))(v:Value)(w':World):Prop:=Bw w0 w'/\(λG=>∃(v1:Value)(S1:List Nat),v1=v/\a_R 142 w' S1 v1 G/\(∀k∈S1,w0.z<=k)) r
theorem e_l {x1:Int}{x2:Int}{res:(Option<|Int×Int)}(hm:c_a x1 x2=some res)(L:B<=w0.z)(H:inI x1)(I:inI x2):l_ prog 136 [vI x1,vI x2] w0 (Q32 w0 B res):=by
 unfold c_a at hm
 refine goG func136 z z z λfn hr=>Ws<|Rw z<|Wm z<|Rm z<|R z (bP (parts:=[(0,.tmp 5),(1,.tmp 6)]) (cs:=[vI x1,vI x2]) q_f z z)<|E z (fb z) ?_
 rintro _ J ⟨rfl,G⟩;refine R z (d_o d_142 (λ_ h=>by cases h) z)<|Rw z ?_
 obtain rfl:=som hm;exact Wr<|e_ hr z ⟨G.below,.iface 142<|pt w0.z,[w0.z],z,p_u (G.blk:Blk J w0.z [vI x1,vI x2]) H I z,c_ lr⟩
def Q33 (w0:World)(B:Zone)(r:Bt×(Option<|Int×Int))(v:Value)(w':World):Prop:=Bw w0 w'/\un2 (λJ L=>∃(G:Option Addr)(H I:Nat)(v2:Value)(S2:List Nat),v = .tuple #[sl G H I,v2]/\repS w' w'.z (sl G H I) J/\a_R 142 w' S2 v2 L/\(∀k∈S2,w0.z<=k)) r
theorem i_Z {x1:a_A}{b1 o1:Nat}{x2:Int}{x3:Int}{res:Bt×(Option<|Int×Int)}(hm:e_A x1 x2 x3=some res)(I:B<=w0.z)(a0:repS w0 B (sl A0 N0 C0) x1.d.rules)(H:repS w0 B (sl A4 N4 C4) x1.b)(hC1:T_ w0 b1 o1 [sl A0 N0 C0,sl A4 N4 C4])(hC1b:B b1)(J:inI x2)(a1:inI x3):l_ prog 147 [(.pointer<|some ⟨b1,o1,none⟩),vI x2,vI x3] w0 (Q33 w0 B res):=by
 unfold e_A at hm
 refine goG func147 z z z λfn hr=>Ws<|Ra z<|Rw z<|Wq<|Wm z<|Rm z<|R z (C_ z)<|Rf z f_y z<|R z (l0 R_ z<|hC1.at (j:=1) z)<|R z (lnR n_ z H)<|Rm z<|R z (sb_ z z)<|R z (a_g z z)<|Wx z (λG=>?_) (λG=>?_)
 .refine Wm z ?_
  obtain ⟨_,V,L⟩:=bdS<|ifT hm G;refine E z (fc call136 z<|e_l (B:=B) V I J<|ii z) ?_;rintro _ _ ⟨s1,v4,W,rfl,h6,Y⟩;refine Ra z<|Rw z ?_
  obtain rfl:=som L;exact Wr<|a_l hr z z ⟨s1,none,0,0,v4,W,z,repS.mono (or_ onL an_)<|a_0 s1.s,h6,Y⟩
 refine Wk<|Wm z<|R z (C_ z)<|Rf z f_y z<|R z (l0 R_ z<|hC1.at (j:=1) z)<|RM z z<|Rm z<|R z (add_ z z) ?_
 obtain ⟨_,e8,O⟩:=bdS<|ifF hm G;refine RX z (rX n_ z_5 z z H z z e8) ?_;rintro _ ⟨aa,nb,cc,rfl,hd⟩;refine Ra z<|Rw z ?_
 obtain rfl:=som O;exact Wr<|a_l hr z z ⟨br w0,aa,nb,cc,.nilIface,([]:List Nat),z,repS.mono hd I,e_i,an_⟩
def Q34 (w0:World)(B:Zone)(r:Int×Int×(Option<|Int×Int))(v:Value)(w':World):Prop:=Bw w0 w'/\un3 (λG H I=>∃(v1:Value)(S1:List Nat),v = .tuple #[vI G,vI H,v1]/\inI G/\inI H/\a_R 142 w' S1 v1 I/\(∀k∈S1,w0.z<=k)) r
theorem j_0 {x1:a_A}{b1 o1:Nat}{x2:Int}{x3:Int}{res:Int×Int×(Option<|Int×Int)}(hm:e_B x1 x2 x3=some res)(L:B<=w0.z)(I:repS w0 B (sl A0 N0 C0) x1.d.rules)(a0:repS w0 B (sl A4 N4 C4) x1.b)(hC1:T_ w0 b1 o1 [sl A0 N0 C0,sl A4 N4 C4])(hC1b:B b1)(ab:inI x2)(J:inI x3):l_ prog 128 [(.pointer<|some ⟨b1,o1,none⟩),vI x2,vI x3] w0 (Q34 w0 B res):=by
 unfold e_B at hm
 refine goG func128 z z z λfn hr=>Ws<|RA z z<|Rw z<|Wm z<|R z (C_ z)<|Rf z m_s z<|Rf z a_3 z<|R z (l0 a_8 z<|hC1.at (j:=0) z)<|Rm z ?_
 obtain ⟨x5,eq,hmr⟩:=bdS hm;refine RX z (at_ (α:=g_) a_a o_ z z z I eq) ?_;rintro _ ⟨_,_,_,rfl,ht,hu,_⟩;obtain ⟨O,V,W,Y,na,cb,ac,nd,ce,af,ng,ch,rfl,_,_,hv,_,_,_,_⟩:=a_D hu;refine R z (lN (vs:=vR x5 O V W Y na cb ac nd ce af ng ch) L_ o_ z z fid ht)<|E z (fa b_P) ?_
 rintro _ ws ⟨rfl,hi⟩;have G:=hi.below;refine E0 (fs0 (cur':=vR x5 O V W Y na cb ac nd ce af ng ch) o_ z z (hi.blk:Blk ws w0.z [(Str.v (⟨[]⟩:Str)),vI 0,vI 0,vB false,sN,sN,sN,sN]) z z z z) ?_;rintro _ _ ⟨hj,sx⟩;have h1:=sx.one;refine Wn<|Wm z<|Rm z<|Rf z a_F z<|R z (l0 g_3 z<|hj.at z) ?_
 have hk:∀k∈[w0.z],¬B k:=or0 (c_ lr)<|k_ L;have hl:=(G.ag B).c h1<|b_ hk
 have hn:=lt_ G.s h1.s;obtain ⟨_,_,ey,hmm⟩:=a_r hmr;refine E z (fc call147 z<|i_Z ey (zt' L hn) (I.g hl) (a0.g hl) ((hC1.e G).c h1<|(b_ hk) _ hC1b) hC1b J hv) ?_;rintro _ wz ⟨s3,_,_,_,a2,a3,rfl,a4,ho,a5⟩;refine Rm z<|Re z z z<|Re z z z<|Ra z<|Rw z<|Wq<|Wm z<|R z (d_H d_L z z ho)<|Wx z (λH=>?_) (λH=>?_)
 .refine Wm z<|Rm z<|RA z z<|Rw z ?_
  obtain rfl:=som<|ifT hmm H;exact Wr<|I_ hr z z z ⟨bup (bM G h1<|c_ lr) s3,a2,a3,z,ii z,J,ho,m_ a5 hn⟩
 refine Wk<|Wq (Wd (X:=noX) 0 (.rd 0<|.rd 1<|.rd 2<|.rd 4<|.rd 5<|.rd 6<|.rd 7<|.ef 3<|.rd 8<|.rd 9<|.rd 10 .done) mo (by kernel_rfl) λad s2 _=>dM z z z<|dR z z (fd c_V z) ?_)
 have hp:=(hj.e s3).e s2;refine dR z z (l0 g_4 z<|hp.at z)<|dM z z z<|dR z z (fd a_F z)<|dR z z (l0 g_3 z<|hp.at z)<|dR z z (add_ z z) ?_
 obtain ⟨_,a7,a1⟩:=bdS<|ifF hmm H;refine dE z z (fc call119 z<|k_z (B:=wz.z) a7 (a_0 s2.s)<|a4.e s2) (.inr λ_ _ h=>p_<|h.1) ?_;rintro _ _ ⟨a8,rfl,aa⟩
 iterate 3 refine dQ z z z ?_
 refine pD<|Wo ?_
 obtain rfl:=som a1;exact Wr<|I_ hr z z z ⟨bup (bup (bup (bM G h1<|c_ lr) s3) s2) a8,.nilIface,([]:List Nat),z,aa,iA _ _,e_i,an_⟩
def Q35 (w0:World)(B:Zone)(r:Int×(Option<|Int×Int))(v:Value)(w':World):Prop:=Bw w0 w'/\un2 (λG H=>∃(v1:Value)(S1:List Nat),v = .tuple #[vI G,v1]/\inI G/\a_R 142 w' S1 v1 H/\(∀k∈S1,w0.z<=k)) r
theorem W_w3d {x1:a_A}{b1 o1:Nat}{x2:g_}{x3:Int}{res:Int×(Option<|Int×Int)}(hm:h_Z x1 x2 x3=some res)(V:B<=w0.z)(ad:repS w0 B (sl A0 N0 C0) x1.d.rules)(a0:repS w0 B (sl A4 N4 C4) x1.b)(hC1:T_ w0 b1 o1 [sl A0 N0 C0,sl A4 N4 C4])(hC1b:B b1)(ae:x2.name.b.length<=LEN)(af:inI x2.kind)(ah:inI x2.size)(I:repS w0 B (sl A2 N2 C2) x2.bytes)(ai:repS w0 B (sl A3 N3 C3) x2.names)(aj:repS w0 B (sl A1 N1 C1) x2.tags)(ak:repS w0 B (sl A5 N5 C5) x2.kids)(J:inI x3):l_ prog 129 [(.pointer<|some ⟨b1,o1,none⟩),.agg #[Str.v x2.name,vI x2.kind,vI x2.size,vB x2.little,sl A2 N2 C2,sl A3 N3 C3,sl A1 N1 C1,sl A5 N5 C5],vI x3] w0 (Q35 w0 B res):=by
 unfold h_Z at hm
 refine goG func129 z z z λfn hr=>Ws<|E z (fb z) ?_
 rintro _ H ⟨rfl,h6⟩;have G:=h6.below;have Y:Blk H w0.z (vR x2 A2 N2 C2 A3 N3 C3 A1 N1 C1 A5 N5 C5):=h6.blk;refine Ra z<|Rw z<|Wq<|Ws<|Rf z b_6 z<|R z (l0 R_ z<|Y.at z)<|R z (lnR n_ z<|I.e G)<|Rm z<|Wn ?_
 obtain ⟨_,hui,W⟩:=bdS hm;refine Wf (σ:=Unit) (ρ:=Int×(Option<|Int×Int)) (λ(k9:Nat)(_:Unit) a w=>Sat 52 [(0,.pointer<|some ⟨b1,o1,none⟩),(2,vI x3),(4,pt w0.z),(11,sl A2 N2 C2),(12,vI (x2.bytes.length:Int)),(13,vI ((k9:Nat):Int))] a/\Below H.z H w) (λ(_:Unit) a w=>Sat 52 [(2,vI x3),(4,pt w0.z)] a/\Below H.z H w) (rQ prog fn<|Q35 w0 B) hui ?_ ?_ ?_ ?_ ?_
 .exact λ_ q=>⟨q.k<|s6 z z z z z z,br H⟩
 .rintro k9 _ _ _ _ hka ⟨hSj,s1⟩ hmk;refine Wu ?_ hSj;refine Ws<|Rl z z z<|Wn<|Wq<|Wc z (λ_=>?_) (λhc=>(a_6 hka hc).elim)
  refine Wk<|Wq<|Wb<|Wm z ?_
  obtain ⟨_,el,hmb⟩:=bdS hmk;have hd:=(G.ag B).e s1;refine RX z (at_ (α:=UInt8) n_ z_5 z z z (I.g hd) el) ?_;rintro _ ⟨_,_,_,rfl,hn,ho,_⟩;obtain rfl:=u8 ho;refine R z (l0 g_5 z<|hn.at0 z)<|Ra z<|Rw z<|Wq<|Wm z<|Rm z<|R z (add_ z z)<|Rm z<|R z (C_ z)<|Rf z f_y z ?_
  have he:=(hC1.e G).e s1;refine R z (l0 R_ z<|he.at (j:=1) z) ?_;have hf:=a0.g hd;refine R z (lnR n_ z hf)<|R z (b_R z z)<|Wx z (λL=>?_) (λL=>?_)
  .refine Wm z<|Rm z ?_
   have hg:=lt_ G.s s1.s;obtain ⟨_,em,hmp⟩:=bdS<|ifT hmb L;refine E z (fc call136 z<|e_l em (zt' V hg) J<|ii z) ?_;rintro _ _ ⟨sq,vr,Ss,rfl,ht,hu⟩;exact Ra z<|Rw z<|Wr<|rtO<|qL (som hmp).symm<|a_l hr z z ⟨bup (bup G s1) sq,vr,Ss,z,J,ht,m_ hu hg⟩
  refine Wk<|Wm z<|R z (C_ z)<|Rf z f_y z<|R z (l0 R_ z<|he.at (j:=1) z)<|RM z z<|R z (add_ z z) ?_
  obtain ⟨_,ev,hmc⟩:=bdS<|ifF hmb L;refine RX z (at_ (α:=UInt8) n_ z_5 z z z hf ev) ?_;rintro _ ⟨_,_,_,rfl,hw,hx,_⟩;obtain rfl:=u8 hx;refine R z (l0 g_5 z<|hw.at0 z)<|Rm z<|R z (nq z z)<|Wx z (λO=>?_) (λO=>?_)
  .refine Wm z<|RM z z<|R z (add_ z z) ?_
   have hh:=lt_ G.s s1.s;obtain ⟨_,ey,hmz⟩:=bdS<|ifT hmc O;refine E z (fc call136 z<|e_l ey (zt' V hh) (iA _ _)<|ii z) ?_;rintro _ _ ⟨a5,a6,a7,rfl,a8,a9⟩;exact Ra z<|Rw z<|Wr<|rtO<|qL (som hmz).symm<|a_l hr z z ⟨bup (bup G s1) a5,a6,a7,z,J,a8,m_ a9 hh⟩
  exact Wk<|Wg<|R z (inc_ hka (lt_ (repS.len I) M_) z z)<|Rm z<|Wl (λ_ q=>⟨(),(som<|ifF hmc O).symm,⟨q.k<|s6 z z z z z z,s1⟩⟩)
 .rintro _ _ _ ⟨a1,aa⟩;refine Wu ?_ a1;refine Ws<|Rl z z z<|Wn<|Wq<|Wc z (λhc=>(a_7 hc).elim) (λ_=>?_)
  exact We<|λ_ q=>⟨rfl,⟨q.k<|s2 z z,aa⟩⟩
 .rintro _ ab _ rfl ⟨_,s5⟩;have a2:=elL W;revert ab;refine Wo<|Wm z<|Rf z b_6 z<|R z (l0 R_ z<|(Y.e s5).at z)<|R z (lnR n_ z<|I.g<|(G.ag B).e s5)<|R z (add_ z z)<|Ra z<|Rw z ?_
  obtain rfl:=som a2;exact Wr<|a_l hr z z ⟨bup G s5,.nilIface,([]:List Nat),z,iA _ _,e_i,an_⟩
 rintro _ _ _ _ rfl ⟨rfl,a3⟩;have a4:=elR W;obtain rfl:=som a4;exact ⟨a3,z⟩
def Q36 (w0:World)(B:Zone)(r:Val×Int×(Option<|Int×Int))(v:Value)(w':World):Prop:=Bw w0 w'/\un3 (λG H W=>∃(I:Option Addr)(J L:Nat)(S1:List Nat)(a2:Option Addr)(O V:Nat)(S2:List Nat)(v3:Value)(S3:List Nat),v = .tuple #[(.agg #[vI G.number,sl I J L,sl a2 O V]),vI H,v3]/\inI G.number/\a_ w' S1 (sl I J L) G.bytes/\a_ w' S2 (sl a2 O V) G.items/\inI H/\a_R 142 w' S3 v3 W/\(∀k∈S3,w0.z<=k)/\(S1++S2).Nodup/\(∀k∈(S1++S2),w0.z<=k)) r
theorem W_w1x {x1:a_A}{b1 o1:Nat}{x2:Int}{x3:Int}{res:Val×Int×(Option<|Int×Int)}(hm:g_l x1 x2 x3=some res)(a2:B<=w0.z)(Y:repS w0 B (sl A0 N0 C0) x1.d.rules)(a0:repS w0 B (sl A4 N4 C4) x1.b)(hC1:T_ w0 b1 o1 [sl A0 N0 C0,sl A4 N4 C4])(hC1b:B b1)(O:inI x2)(a1:inI x3):l_ prog 130 [(.pointer<|some ⟨b1,o1,none⟩),vI x2,vI x3] w0 (Q36 w0 B res):=by
 unfold g_l at hm
 refine goG func130 z z z λfn hr=>Ws<|E z (fa a_4) ?_
 rintro _ wk ⟨rfl,W⟩;have G:=W.below;have h2:Blk wk w0.z [vI 0,sN,sN]:=W.blk;refine Ra z<|Rw z<|Wm z<|RM z z ?_
 obtain ⟨_,_,el,V⟩:=a_r hm;refine E z (fc call147 z<|i_Z el (zt' a2 G.s) (Y.e G) (a0.e G) (hC1.e G) hC1b O a1) ?_;rintro _ _ ⟨s1,_,_,_,vm,Sn,rfl,ho,ha,hb⟩;refine Rm z<|Re z z z<|Re z z z<|Ra z<|Rw z<|Wq<|Wm z<|R z (d_H d_L z z ha)<|Wx z (λH=>?_) (λH=>?_)
 .refine Ws<|R z (bP (parts:=[]) (cs:=[vI 0,sN,sN]) Y_ z z)<|RM z z<|E0 (fs0 (cur':=[vI 0,sN,sN]) h_ z z (h2.e s1) z z z z) ?_
  rintro _ _ ⟨hp,sq⟩;have hc:=sq.one;refine Ra z<|Rw z ?_
  obtain rfl:=som<|ifT V H;exact Wr<|I_ hr (s_ q_ h_ z hp z) z z ⟨bM (bup G s1) hc<|c_ lr,none,0,0,[],none,0,0,[],vm,Sn,z,ii z,onL,onL,O,ha.c hc<|j_ hb h2.lt lr,m_ hb G.s,nd0,al0⟩
 refine Wk<|Ws<|E z (f0 (α:=UInt8) a_2) ?_
 rintro _ _ ⟨_,_,_,rfl,s3,ht⟩;refine Rm z ?_;obtain ⟨_,er,hms⟩:=bdS<|ifF V H;refine E z (fN (α:=UInt8) a_2 er z z ht a_y<|ho.e s3) ?_;rintro _ _ ⟨Sd,I,J,L,rfl,se,hu,hv,hf⟩;refine R z (bP (parts:=[(1,.tmp 25)]) (cs:=[vI 0,sl I J L,sN]) Y_ z z)<|RM z z<|R z (add_ z z) ?_
 have hg:=mm1 h2.lt s1.s;refine E0 (fs0 (cur':=[vI 0,sl I J L,sN]) h_ z z (((h2.e s1).e s3).c se<|djs hg) z z z z) ?_;rintro _ _ ⟨hw,sx⟩;have hh:=sx.one;refine Ra z<|Rw z ?_
 obtain rfl:=som hms;have hi:=lt_ G.s s1.s;have hj:=m1 hi;exact Wr<|I_ hr (s_ q_ h_ z hw z) z z ⟨bM (bM (bup (bup G s1) s3) se hj) hh<|c_ lr,I,J,L,Sd,none,0,0,[],.nilIface,([]:List Nat),z,ii z,hu.c hh (or1 hf hg (U_ (c_ h2.lt)<|lt_ s1.s s3.s):∀k∈Sd,k∉[w0.z]),onL,iA _ _,e_i,an_,na_ hv G_<|nmN _,aa_ (a_s hf hj<|lt_ hi s3.s) an_⟩
def Q37 (w0:World)(B:Zone)(S2_1:List Nat)(S2_2:List Nat)(r:Val×Int×(Option<|Int×Int))(v:Value)(w':World):Prop:=Chg (· ∈ (S2_1++S2_2)) w0 w'/\un3 (λG H W=>∃(I:Option Addr)(J L:Nat)(S1:List Nat)(a2:Option Addr)(O V:Nat)(S2:List Nat)(v3:Value)(S3:List Nat),v = .tuple #[(.agg #[vI G.number,sl I J L,sl a2 O V]),vI H,v3]/\inI G.number/\a_ w' S1 (sl I J L) G.bytes/\a_ w' S2 (sl a2 O V) G.items/\inI H/\a_R 142 w' S3 v3 W/\(∀k∈S3,w0.z<=k)/\(S1++S2).Nodup/\(∀k∈(S1++S2),k∈(S2_1++S2_2)∨w0.z<=k)) r
structure k_G (f:a_A->Int->Int->Option (Val×Int×(Option<|Int×Int))):Prop where
  run:∀{A0 A4:Option Addr}{N0 C0 N4 C4 b1 o1:Nat}{B:Zone}{x1:a_A}{x2:Int}{x3:Int}{res:Val×Int×(Option<|Int×Int)}{w0:World}(hm:f x1 x2 x3=some res)(hBw:B<=w0.z)(p1_0:repS w0 B (sl A0 N0 C0) x1.d.rules)(p1_1:repS w0 B (sl A4 N4 C4) x1.b)(hC1:T_ w0 b1 o1 [sl A0 N0 C0,sl A4 N4 C4])(hC1b:B b1)(p2_0:inI x2)(p3_0:inI x3),l_ prog 98 [(.pointer<|some ⟨b1,o1,none⟩),vI x2,vI x3] w0<|Q36 w0 B res
structure k_H (f:a_A->g_->Int->Option (Val×Int×(Option<|Int×Int))):Prop where
  run:∀{A0 A4 A2 A3 A1 A5:Option Addr}{N0 C0 N4 C4 b1 o1 N2 C2 N3 C3 N1 C1 N5 C5:Nat}{B:Zone}{x1:a_A}{x2:g_}{x3:Int}{res:Val×Int×(Option<|Int×Int)}{w0:World}(hm:f x1 x2 x3=some res)(hBw:B<=w0.z)(p1_0:repS w0 B (sl A0 N0 C0) x1.d.rules)(p1_1:repS w0 B (sl A4 N4 C4) x1.b)(hC1:T_ w0 b1 o1 [sl A0 N0 C0,sl A4 N4 C4])(hC1b:B b1)(p2_0:x2.name.b.length<=LEN)(p2_1:inI x2.kind)(p2_2:inI x2.size)(p2_4:repS w0 B (sl A2 N2 C2) x2.bytes)(p2_5:repS w0 B (sl A3 N3 C3) x2.names)(p2_6:repS w0 B (sl A1 N1 C1) x2.tags)(p2_7:repS w0 B (sl A5 N5 C5) x2.kids)(p3_0:inI x3),l_ prog 131 [(.pointer<|some ⟨b1,o1,none⟩),.agg #[Str.v x2.name,vI x2.kind,vI x2.size,vB x2.little,sl A2 N2 C2,sl A3 N3 C3,sl A1 N1 C1,sl A5 N5 C5],vI x3] w0<|Q36 w0 B res
structure k_I (f:a_A->Val->(List Int)->Int->Option (Val×Int×(Option<|Int×Int))):Prop where
  run:∀{A0 A4 AE AF A9:Option Addr}{N0 C0 N4 C4 b1 o1 NE CE NF CF N9 C9:Nat}{S2_1 S2_2:List Nat}{B:Zone}{x1:a_A}{x2:Val}{x3:List Int}{x4:Int}{res:Val×Int×(Option<|Int×Int)}{w0:World}(hm:f x1 x2 x3 x4=some res)(hBw:B<=w0.z)(p1_0:repS w0 B (sl A0 N0 C0) x1.d.rules)(p1_1:repS w0 B (sl A4 N4 C4) x1.b)(hC1:T_ w0 b1 o1 [sl A0 N0 C0,sl A4 N4 C4])(hC1b:B b1)(p2_0:inI x2.number)(p2_1:a_ w0 S2_1 (sl AE NE CE) x2.bytes)(p2_1n:S2_1.Nodup)(p2_1g:∀k∈S2_1,¬B k)(p2_2:a_ w0 S2_2 (sl AF NF CF) x2.items)(p2_2n:S2_2.Nodup)(p2_2g:∀k∈S2_2,¬B k)(p2_2d1:∀k∈S2_2,k∉S2_1)(p3_0:repS w0 B (sl A9 N9 C9) x3)(p4_0:inI x4),l_ prog 132 [(.pointer<|some ⟨b1,o1,none⟩),.agg #[vI x2.number,sl AE NE CE,sl AF NF CF],sl A9 N9 C9,vI x4] w0<|Q37 w0 B S2_1 S2_2 res
structure k_J (f:a_A->g_->Int->Option (Val×Int×(Option<|Int×Int))):Prop where
  run:∀{A0 A4 A2 A3 A1 A5:Option Addr}{N0 C0 N4 C4 b1 o1 N2 C2 N3 C3 N1 C1 N5 C5:Nat}{B:Zone}{x1:a_A}{x2:g_}{x3:Int}{res:Val×Int×(Option<|Int×Int)}{w0:World}(hm:f x1 x2 x3=some res)(hBw:B<=w0.z)(p1_0:repS w0 B (sl A0 N0 C0) x1.d.rules)(p1_1:repS w0 B (sl A4 N4 C4) x1.b)(hC1:T_ w0 b1 o1 [sl A0 N0 C0,sl A4 N4 C4])(hC1b:B b1)(p2_0:x2.name.b.length<=LEN)(p2_1:inI x2.kind)(p2_2:inI x2.size)(p2_4:repS w0 B (sl A2 N2 C2) x2.bytes)(p2_5:repS w0 B (sl A3 N3 C3) x2.names)(p2_6:repS w0 B (sl A1 N1 C1) x2.tags)(p2_7:repS w0 B (sl A5 N5 C5) x2.kids)(p3_0:inI x3),l_ prog 133 [(.pointer<|some ⟨b1,o1,none⟩),.agg #[Str.v x2.name,vI x2.kind,vI x2.size,vB x2.little,sl A2 N2 C2,sl A3 N3 C3,sl A1 N1 C1,sl A5 N5 C5],vI x3] w0<|Q36 w0 B res
structure k_K (f:a_A->g_->Int->Option (Val×Int×(Option<|Int×Int))):Prop where
  run:∀{A0 A4 A2 A3 A1 A5:Option Addr}{N0 C0 N4 C4 b1 o1 N2 C2 N3 C3 N1 C1 N5 C5:Nat}{B:Zone}{x1:a_A}{x2:g_}{x3:Int}{res:Val×Int×(Option<|Int×Int)}{w0:World}(hm:f x1 x2 x3=some res)(hBw:B<=w0.z)(p1_0:repS w0 B (sl A0 N0 C0) x1.d.rules)(p1_1:repS w0 B (sl A4 N4 C4) x1.b)(hC1:T_ w0 b1 o1 [sl A0 N0 C0,sl A4 N4 C4])(hC1b:B b1)(p2_0:x2.name.b.length<=LEN)(p2_1:inI x2.kind)(p2_2:inI x2.size)(p2_4:repS w0 B (sl A2 N2 C2) x2.bytes)(p2_5:repS w0 B (sl A3 N3 C3) x2.names)(p2_6:repS w0 B (sl A1 N1 C1) x2.tags)(p2_7:repS w0 B (sl A5 N5 C5) x2.kids)(p3_0:inI x3),l_ prog 134 [(.pointer<|some ⟨b1,o1,none⟩),.agg #[Str.v x2.name,vI x2.kind,vI x2.size,vB x2.little,sl A2 N2 C2,sl A3 N3 C3,sl A1 N1 C1,sl A5 N5 C5],vI x3] w0<|Q36 w0 B res
structure k_L (f:a_A->g_->Int->Option (Val×Int×(Option<|Int×Int))):Prop where
  run:∀{A0 A4 A2 A3 A1 A5:Option Addr}{N0 C0 N4 C4 b1 o1 N2 C2 N3 C3 N1 C1 N5 C5:Nat}{B:Zone}{x1:a_A}{x2:g_}{x3:Int}{res:Val×Int×(Option<|Int×Int)}{w0:World}(hm:f x1 x2 x3=some res)(hBw:B<=w0.z)(p1_0:repS w0 B (sl A0 N0 C0) x1.d.rules)(p1_1:repS w0 B (sl A4 N4 C4) x1.b)(hC1:T_ w0 b1 o1 [sl A0 N0 C0,sl A4 N4 C4])(hC1b:B b1)(p2_0:x2.name.b.length<=LEN)(p2_1:inI x2.kind)(p2_2:inI x2.size)(p2_4:repS w0 B (sl A2 N2 C2) x2.bytes)(p2_5:repS w0 B (sl A3 N3 C3) x2.names)(p2_6:repS w0 B (sl A1 N1 C1) x2.tags)(p2_7:repS w0 B (sl A5 N5 C5) x2.kids)(p3_0:inI x3),l_ prog 135 [(.pointer<|some ⟨b1,o1,none⟩),.agg #[Str.v x2.name,vI x2.kind,vI x2.size,vB x2.little,sl A2 N2 C2,sl A3 N3 C3,sl A1 N1 C1,sl A5 N5 C5],vI x3] w0<|Q36 w0 B res
abbrev e_V (n:Nat):Prop:=k_G (a_j n).impl_fileReader_value/\k_H (a_j n).impl_fileReader_array/\k_I (a_j n).impl_fileReader_items/\k_J (a_j n).impl_fileReader_choice/\k_K (a_j n).impl_fileReader_option/\k_L (a_j n).impl_fileReader_checked
theorem T_w02 (ih:e_V n):k_G (i_0 n<|a_j n):=by
 obtain ⟨_,d5,d6,d7,d8,d9⟩:=ih
 constructor
 intro A0 A4 N0 C0 N4 C4 b1 o1 B x1 x2 x3 res w0 hm H L O hC1 hC1b cS I;unfold i_0 at hm
 refine goG func98 z z z λfn hr=>Ws<|E z (fa a_4) ?_
 rintro _ J ⟨rfl,bh⟩;have h2:=bh.below;have h3:Blk J w0.z [vI 0,sN,sN]:=bh.blk;refine Ra z<|Rw z<|Wm z<|R z (C_ z)<|Rf z m_s z<|Rf z a_3 z ?_
 have h5:=hC1.e h2;refine R z (l0 a_8 z<|h5.at (j:=0) z)<|Rm z ?_
 obtain ⟨W,da,b5⟩:=bdS hm;refine RX z (at_ (α:=g_) a_a o_ z z z (L.e h2) da) ?_;rintro _ ⟨_,_,_,rfl,db,dc,_⟩;obtain ⟨aa,nb,cc,ad,ne,cf,ah,ng,ci,aj,nk,cl,rfl,hq,ht,ho,hp,hu,hv,hn⟩:=a_D dc;refine R z (lN (vs:=vR W aa nb cc ad ne cf ah ng ci aj nk cl) L_ o_ z z fid db)<|E z (fa b_P) ?_
 rintro _ dd ⟨rfl,bi⟩;have G:=bi.below;refine E0 (fs0 (cur':=vR W aa nb cc ad ne cf ah ng ci aj nk cl) o_ z z (bi.blk:Blk dd J.z [(Str.v (⟨[]⟩:Str)),vI 0,vI 0,vB false,sN,sN,sN,sN]) z z z z) ?_;rintro _ _ ⟨V,de⟩;have h1:=de.one;refine Wn<|Wq<|Ws<|Rf z a_u z<|R z (l0 g_3 z<|V.at z)<|Wn<|Wb<|Ws<|Rq z z z<|Rw z<|Wc z (λhcr=>?_) (λhcr=>?_)
 .refine Wm z<|RM z z ?_
  have bj:∀k∈[J.z],¬B k:=or0 (c_ lr)<|k_<|zt' H h2.s;have bk:=((h2.ag B).e G).c h1<|b_ bj
  have bm:=lt_ (lt_ h2.s G.s) h1.s;obtain ⟨bn,_,_,df,cT⟩:=w_<|ifT b5 hcr;refine E z (fc call128 z<|j_0 df (zt' H bm) (L.g bk) (O.g bk) ((h5.e G).c h1<|(b_ bj) _ hC1b) hC1b cS I) ?_;rintro _ _ ⟨bo,dg,dh,rfl,di,dj,dk,bp⟩;refine Rm z ?_
  iterate 3 refine Re z z z ?_
  refine RA z z<|Rw z<|Wm z<|R z (bP (parts:=[(0,.tmp 41)]) (cs:=[vI bn,sN,sN]) Y_ z z)<|RM z z<|E0 (fs0 (cur':=[vI bn,sN,sN]) h_ z z (((h3.e G).c h1<|djs<|mmr h3.lt).e bo) z z z z) ?_
  rintro _ _ ⟨dl,dm⟩;have bq:=dm.one;refine Ra z<|Rw z ?_
  obtain rfl:=som cT;exact Wr<|rtO<|I_ hr (s_ q_ h_ z dl z) z z ⟨bM (bup (bM (bup h2 G) h1<|m1 h2.s) bo) bq<|c_ lr,none,0,0,[],none,0,0,[],dg,dh,z,di,onL,onL,dj,dk.c bq<|j_ bp h3.lt<|lt_ G.s h1.s,m_ bp bm,nd0,al0⟩
 have b6:=ifF b5 hcr;refine Ws<|Rq z z z<|Rw z<|Wc z (λhcs=>?_) (λhcs=>?_)
 .refine Wm z<|R z (lN (vs:=vR W aa nb cc ad ne cf ah ng ci aj nk cl) L_ o_ z z fid<|V.row 0 8 z)<|Rm z ?_
  have aC:∀k∈[J.z],¬B k:=or0 (c_ lr)<|k_<|zt' H h2.s;have br:=((h2.ag B).e G).c h1<|b_ aC
  have hw:=(G.ag B).c h1<|b_ aC
  have bs:=lt_ (lt_ h2.s G.s) h1.s;obtain ⟨_,_,dn,cU⟩:=a_r<|ifT b6 hcs;refine E z (fc call129 z<|W_w3d dn (zt' H bs) (L.g br) (O.g br) ((h5.e G).c h1<|(b_ aC) _ hC1b) hC1b hq ht ho (hp.g hw) (hu.g hw) (hv.g hw) (hn.g hw) I) ?_;rintro _ _ ⟨bt,dp,dq,rfl,dr,ds,bu⟩;refine Rm z<|Re z z z<|Re z z z<|Ra z<|Rw z<|Ws<|R z (bP (parts:=[]) (cs:=[vI 0,sN,sN]) Y_ z z)<|RM z z<|E0 (fs0 (cur':=[vI 0,sN,sN]) h_ z z (((h3.e G).c h1<|djs<|mmr h3.lt).e bt) z z z z) ?_
  rintro _ _ ⟨dt,du⟩;have bv:=du.one;refine Ra z<|Rw z ?_
  obtain rfl:=som cU;exact Wr<|rtO<|I_ hr (s_ q_ h_ z dt z) z z ⟨bM (bup (bM (bup h2 G) h1<|m1 h2.s) bt) bv<|c_ lr,none,0,0,[],none,0,0,[],dp,dq,z,ii z,onL,onL,dr,ds.c bv<|j_ bu h3.lt<|lt_ G.s h1.s,m_ bu bs,nd0,al0⟩
 have b7:=ifF b6 hcs;refine Ws<|Rq z z z<|Rw z<|Wc z (λar=>?_) (λar=>?_)
 .refine Wm z<|Rm z<|Rf z a_F z<|R z (l0 g_3 z<|V.at z) ?_
  have bw:∀k∈[J.z],¬B k:=or0 (c_ lr)<|k_<|zt' H h2.s;have bx:=((h2.ag B).e G).c h1<|b_ bw
  have hx:=lt_ (lt_ h2.s G.s) h1.s;obtain ⟨dv,_,_,dw,cV⟩:=w_<|ifT b7 ar;refine E z (fc call130 z<|W_w1x dw (zt' H hx) (L.g bx) (O.g bx) ((h5.e G).c h1<|(b_ bw) _ hC1b) hC1b I ho) ?_;rintro _ _ ⟨bz,bA,bB,bC,dx,bD,bE,bF,dy,dz,dA,rfl,dB,dC,dD,dF,dG,bG,aD,hy⟩
  iterate 3 refine Re z z z ?_
  refine E0 (fs0 (cur':=[vI dv.number,sl bA bB bC,sl bD bE bF]) h_ z z (((h3.e G).c h1<|djs<|mmr h3.lt).e bz) z z z z) ?_;rintro _ _ ⟨dH,dI⟩;have hz:=dI.one;refine Ra z<|Rw z ?_
  obtain rfl:=som cV;have aE:=lt_ G.s h1.s;exact Wr<|rtO<|I_ hr (s_ q_ h_ z dH z) z z ⟨bM (bup (bM (bup h2 G) h1<|m1 h2.s) bz) hz<|c_ lr,bA,bB,bC,dx,bD,bE,bF,dy,dz,dA,z,dB,dC.c hz<|j_ (al_ hy) h3.lt aE,dD.c hz<|j_ (ar_ hy) h3.lt aE,dF,dG.c hz<|j_ bG h3.lt aE,m_ bG hx,na_ (nl_ aD) (nr_ aD)<|nj aD,aa_ (m_ (al_ hy) hx)<|m_ (ar_ hy) hx⟩
 have b8:=ifF b7 ar;refine Ws<|Rq z z z<|Rw z<|Wc z (λau=>?_) (λau=>?_)
 .refine Wm z<|Rf z J_ z<|R z (l0 A_ z<|V.at z) ?_
  obtain ⟨_,dJ,cW⟩:=bdS<|ifT b8 au;have aF:∀k∈[J.z],¬B k:=or0 (c_ lr)<|k_<|zt' H h2.s;refine RX z (at_ (α:=Int) v_ z_3 z z z (hn.g<|(G.ag B).c h1<|b_ aF) dJ) ?_;rintro _ ⟨_,_,_,rfl,dK,dL,_⟩;obtain ⟨rfl,dN⟩:=O_ dL;refine R z (l0 g_3 z<|dK.at0 z)<|Rm z ?_
  have bH:=(h5.e G).c h1<|(b_ aF) _ hC1b
  have aG:=((h2.ag B).e G).c h1<|b_ aF
  have aH:=lt_ (lt_ h2.s G.s) h1.s;obtain ⟨_,_,_,dO,b9⟩:=w_ cW;refine E z (fc call128 z<|j_0 dO (zt' H aH) (L.g aG) (O.g aG) bH hC1b dN I) ?_;rintro _ _ ⟨s8,dP,dS,rfl,dT,dU,bI,bJ⟩;refine Rm z ?_
  iterate 3 refine Re z z z ?_
  refine RA z z<|Rw z<|Wq<|Wm z<|R z (d_H d_L z z bI)<|Wx z (λav=>?_) (λav=>?_)
  .refine Ws<|R z (bP (parts:=[]) (cs:=[vI 0,sN,sN]) Y_ z z)<|RM z z<|E0 (fs0 (cur':=[vI 0,sN,sN]) h_ z z (((h3.e G).c h1<|djs<|mmr h3.lt).e s8) z z z z) ?_
   rintro _ _ ⟨dV,dW⟩;have bK:=dW.one;refine Ra z<|Rw z ?_
   obtain rfl:=som<|ifT b9 av;exact Wr<|rtO<|I_ hr (s_ q_ h_ z dV z) z z ⟨bM (bup (bM (bup h2 G) h1<|m1 h2.s) s8) bK<|c_ lr,none,0,0,[],none,0,0,[],dP,dS,z,ii z,onL,onL,I,bI.c bK<|j_ bJ h3.lt<|lt_ G.s h1.s,m_ bJ aH,nd0,al0⟩
  refine Wk<|Wm z<|RM z z ?_
  have bL:=aG.e s8;have Y:=lt_ aH s8.s;obtain ⟨dX,_,_,dY,cX⟩:=w_<|ifF b9 av;refine E z (fc call130 z<|W_w1x dY (zt' H Y) (L.g bL) (O.g bL) (bH.e s8) hC1b dU dT) ?_;rintro _ _ ⟨bN,bO,bQ,bR,dZ,bS,bT,bU,e0,e1,e2,rfl,e3,e4,e5,e6,e7,bV,aI,a0⟩
  iterate 3 refine Re z z z ?_
  refine E0 (fs0 (cur':=[vI dX.number,sl bO bQ bR,sl bS bT bU]) h_ z z ((((h3.e G).c h1<|djs<|mmr h3.lt).e s8).e bN) z z z z) ?_;rintro _ _ ⟨e8,e9⟩;have a1:=e9.one;refine Ra z<|Rw z ?_
  obtain rfl:=som cX;have aJ:=lt_ (lt_ G.s h1.s) s8.s;exact Wr<|rtO<|I_ hr (s_ q_ h_ z e8 z) z z ⟨bM (bup (bup (bM (bup h2 G) h1<|m1 h2.s) s8) bN) a1<|c_ lr,bO,bQ,bR,dZ,bS,bT,bU,e0,e1,e2,z,e3,e4.c a1<|j_ (al_ a0) h3.lt aJ,e5.c a1<|j_ (ar_ a0) h3.lt aJ,e6,e7.c a1<|j_ bV h3.lt aJ,m_ bV Y,na_ (nl_ aI) (nr_ aI)<|nj aI,aa_ (m_ (al_ a0) Y)<|m_ (ar_ a0) Y⟩
 have ba:=ifF b8 au;refine Ws<|Rq z z z<|Rw z<|Wc z (λaw=>?_) (λaw=>?_)
 .refine Wm z<|R z (lN (vs:=vR W aa nb cc ad ne cf ah ng ci aj nk cl) L_ o_ z z fid<|V.row 0 8 z)<|Rm z ?_
  have aK:∀k∈[J.z],¬B k:=or0 (c_ lr)<|k_<|zt' H h2.s;have bW:=((h2.ag B).e G).c h1<|b_ aK
  have a2:=(G.ag B).c h1<|b_ aK
  have a3:=lt_ (lt_ h2.s G.s) h1.s;obtain ⟨ea,_,_,eb,cY⟩:=w_<|ifT ba aw;refine E z (fc call131 z<|d5.run eb (zt' H a3) (L.g bW) (O.g bW) ((h5.e G).c h1<|(b_ aK) _ hC1b) hC1b hq ht ho (hp.g a2) (hu.g a2) (hv.g a2) (hn.g a2) I) ?_;rintro _ _ ⟨bX,bY,bZ,c0,ec,c1,c2,c3,ed,ee,ef,rfl,eg,eh,ei,ej,ek,c4,aL,a4⟩
  iterate 3 refine Re z z z ?_
  refine E0 (fs0 (cur':=[vI ea.number,sl bY bZ c0,sl c1 c2 c3]) h_ z z (((h3.e G).c h1<|djs<|mmr h3.lt).e bX) z z z z) ?_;rintro _ _ ⟨em,en⟩;have a5:=en.one;refine Ra z<|Rw z ?_
  obtain rfl:=som cY;have aM:=lt_ G.s h1.s;exact Wr<|rtO<|I_ hr (s_ q_ h_ z em z) z z ⟨bM (bup (bM (bup h2 G) h1<|m1 h2.s) bX) a5<|c_ lr,bY,bZ,c0,ec,c1,c2,c3,ed,ee,ef,z,eg,eh.c a5<|j_ (al_ a4) h3.lt aM,ei.c a5<|j_ (ar_ a4) h3.lt aM,ej,ek.c a5<|j_ c4 h3.lt aM,m_ c4 a3,na_ (nl_ aL) (nr_ aL)<|nj aL,aa_ (m_ (al_ a4) a3)<|m_ (ar_ a4) a3⟩
 have bb:=ifF ba aw;refine Ws<|Rq z z z<|Rw z<|Wc z (λax=>?_) (λax=>?_)
 .refine Wm z<|R z (bP (parts:=[]) (cs:=[vI 0,sN,sN]) Y_ z z)<|Rf z J_ z<|R z (l0 A_ z<|V.at z)<|Rm z ?_
  have aN:∀k∈[J.z],¬B k:=or0 (c_ lr)<|k_<|zt' H h2.s;have c5:=((h2.ag B).e G).c h1<|b_ aN
  have a6:=lt_ (lt_ h2.s G.s) h1.s;obtain ⟨eo,_,_,ep,cZ⟩:=w_<|ifT bb ax;refine E z (fc call132 z<|d6.run (B:=B) (x2:=(⟨0,([]:Bt),([]:List Val)⟩:Val)) ep (zt' H a6) (L.g c5) (O.g c5) ((h5.e G).c h1<|(b_ aN) _ hC1b) hC1b (ii z) onL G_ an_ onL G_ an_ an_ (hn.g<|(G.ag B).c h1<|b_ aN) I) ?_;rintro _ _ ⟨c6,c7,c8,c9,ca,cb,cd,ce,cg,eq,er,rfl,es,eu,ew,ex,ey,ch,aO,a7⟩
  iterate 3 refine Re z z z ?_
  refine E0 (fs0 (cur':=[vI eo.number,sl c7 c8 c9,sl cb cd ce]) h_ z z (((h3.e G).c h1<|djs<|mmr h3.lt).c c6<|atp<|nmA (nmN _)<|nmN _) z z z z) ?_;rintro _ _ ⟨ez,eA⟩;have a8:=eA.one;refine Ra z<|Rw z ?_
  obtain rfl:=som cZ;have aP:=lt_ G.s h1.s;exact Wr<|rtO<|I_ hr (s_ q_ h_ z ez z) z z ⟨bM (bM (bM (bup h2 G) h1<|m1 h2.s) c6 al0) a8<|c_ lr,c7,c8,c9,ca,cb,cd,ce,cg,eq,er,z,es,eu.c a8 (or1 (al_ a7) al0 (U_ (c_ h3.lt) aP):∀k∈ca,k∉[w0.z]),ew.c a8 (or1 (ar_ a7) al0 (U_ (c_ h3.lt) aP):∀k∈cg,k∉[w0.z]),ex,ey.c a8<|j_ ch h3.lt aP,m_ ch a6,na_ (nl_ aO) (nr_ aO)<|nj aO,aa_ (a_s (al_ a7) al0 a6)<|a_s (ar_ a7) al0 a6⟩
 have bc:=ifF bb ax;refine Ws<|Rq z z z<|Rw z<|Wc z (λay=>?_) (λay=>?_)
 .refine Wm z<|R z (lN (vs:=vR W aa nb cc ad ne cf ah ng ci aj nk cl) L_ o_ z z fid<|V.row 0 8 z)<|Rm z ?_
  have aQ:∀k∈[J.z],¬B k:=or0 (c_ lr)<|k_<|zt' H h2.s;have cj:=((h2.ag B).e G).c h1<|b_ aQ
  have a9:=(G.ag B).c h1<|b_ aQ
  have ab:=lt_ (lt_ h2.s G.s) h1.s;obtain ⟨eB,_,_,eC,d0⟩:=w_<|ifT bc ay;refine E z (fc call133 z<|d7.run eC (zt' H ab) (L.g cj) (O.g cj) ((h5.e G).c h1<|(b_ aQ) _ hC1b) hC1b hq ht ho (hp.g a9) (hu.g a9) (hv.g a9) (hn.g a9) I) ?_;rintro _ _ ⟨ck,cm,cn,co,eD,cp,cq,cr,eE,eF,eG,rfl,eH,eI,eJ,eK,eL,ct,aR,ae⟩
  iterate 3 refine Re z z z ?_
  refine E0 (fs0 (cur':=[vI eB.number,sl cm cn co,sl cp cq cr]) h_ z z (((h3.e G).c h1<|djs<|mmr h3.lt).e ck) z z z z) ?_;rintro _ _ ⟨eM,eN⟩;have af:=eN.one;refine Ra z<|Rw z ?_
  obtain rfl:=som d0;have aS:=lt_ G.s h1.s;exact Wr<|rtO<|I_ hr (s_ q_ h_ z eM z) z z ⟨bM (bup (bM (bup h2 G) h1<|m1 h2.s) ck) af<|c_ lr,cm,cn,co,eD,cp,cq,cr,eE,eF,eG,z,eH,eI.c af<|j_ (al_ ae) h3.lt aS,eJ.c af<|j_ (ar_ ae) h3.lt aS,eK,eL.c af<|j_ ct h3.lt aS,m_ ct ab,na_ (nl_ aR) (nr_ aR)<|nj aR,aa_ (m_ (al_ ae) ab)<|m_ (ar_ ae) ab⟩
 have be:=ifF bc ay;refine Ws<|Rq z z z<|Rw z<|Wc z (λaz=>?_) (λaz=>?_)
 .refine Wm z<|R z (lN (vs:=vR W aa nb cc ad ne cf ah ng ci aj nk cl) L_ o_ z z fid<|V.row 0 8 z)<|Rm z ?_
  have aT:∀k∈[J.z],¬B k:=or0 (c_ lr)<|k_<|zt' H h2.s;have cu:=((h2.ag B).e G).c h1<|b_ aT
  have ai:=(G.ag B).c h1<|b_ aT
  have ak:=lt_ (lt_ h2.s G.s) h1.s;obtain ⟨eO,_,_,eP,d1⟩:=w_<|ifT be az;refine E z (fc call134 z<|d8.run eP (zt' H ak) (L.g cu) (O.g cu) ((h5.e G).c h1<|(b_ aT) _ hC1b) hC1b hq ht ho (hp.g ai) (hu.g ai) (hv.g ai) (hn.g ai) I) ?_;rintro _ _ ⟨cv,cw,cx,cy,eQ,cz,cA,cB,eR,eS,eT,rfl,eU,eV,eW,eX,eY,cC,aU,al⟩
  iterate 3 refine Re z z z ?_
  refine E0 (fs0 (cur':=[vI eO.number,sl cw cx cy,sl cz cA cB]) h_ z z (((h3.e G).c h1<|djs<|mmr h3.lt).e cv) z z z z) ?_;rintro _ _ ⟨eZ,f0⟩;have am:=f0.one;refine Ra z<|Rw z ?_
  obtain rfl:=som d1;have aV:=lt_ G.s h1.s;exact Wr<|rtO<|I_ hr (s_ q_ h_ z eZ z) z z ⟨bM (bup (bM (bup h2 G) h1<|m1 h2.s) cv) am<|c_ lr,cw,cx,cy,eQ,cz,cA,cB,eR,eS,eT,z,eU,eV.c am<|j_ (al_ al) h3.lt aV,eW.c am<|j_ (ar_ al) h3.lt aV,eX,eY.c am<|j_ cC h3.lt aV,m_ cC ak,na_ (nl_ aU) (nr_ aU)<|nj aU,aa_ (m_ (al_ al) ak)<|m_ (ar_ al) ak⟩
 have bf:=ifF be az;refine Ws<|Rq z z z<|Rw z<|Wc z (λaA=>?_) (λaA=>?_)
 .refine Wm z<|R z (lN (vs:=vR W aa nb cc ad ne cf ah ng ci aj nk cl) L_ o_ z z fid<|V.row 0 8 z)<|Rm z ?_
  have aW:∀k∈[J.z],¬B k:=or0 (c_ lr)<|k_<|zt' H h2.s;have cD:=((h2.ag B).e G).c h1<|b_ aW
  have an:=(G.ag B).c h1<|b_ aW
  have ao:=lt_ (lt_ h2.s G.s) h1.s;obtain ⟨f1,_,_,f2,d2⟩:=w_<|ifT bf aA;refine E z (fc call135 z<|d9.run f2 (zt' H ao) (L.g cD) (O.g cD) ((h5.e G).c h1<|(b_ aW) _ hC1b) hC1b hq ht ho (hp.g an) (hu.g an) (hv.g an) (hn.g an) I) ?_;rintro _ _ ⟨cE,cF,cG,cH,f3,cI,cJ,cK,f4,f5,f6,rfl,f7,f8,f9,fb,fe,cL,aX,ap⟩
  iterate 3 refine Re z z z ?_
  refine E0 (fs0 (cur':=[vI f1.number,sl cF cG cH,sl cI cJ cK]) h_ z z (((h3.e G).c h1<|djs<|mmr h3.lt).e cE) z z z z) ?_;rintro _ _ ⟨ff,fg⟩;have aq:=fg.one;refine Ra z<|Rw z ?_
  obtain rfl:=som d2;have aY:=lt_ G.s h1.s;exact Wr<|rtO<|I_ hr (s_ q_ h_ z ff z) z z ⟨bM (bup (bM (bup h2 G) h1<|m1 h2.s) cE) aq<|c_ lr,cF,cG,cH,f3,cI,cJ,cK,f4,f5,f6,z,f7,f8.c aq<|j_ (al_ ap) h3.lt aY,f9.c aq<|j_ (ar_ ap) h3.lt aY,fb,fe.c aq<|j_ cL h3.lt aY,m_ cL ao,na_ (nl_ aX) (nr_ aX)<|nj aX,aa_ (m_ (al_ ap) ao)<|m_ (ar_ ap) ao⟩
 refine Wk<|Wq (Wd (X:=noX) 0 (pl_ 17 [9]) mo (by kernel_rfl) λfy s6 _=>dM z z z<|dR z z (C_ z)<|dR z z (fd f_y z) ?_)
 have aZ:∀k∈[J.z],¬B k:=or0 (c_ lr)<|k_<|zt' H h2.s;refine dR z z (l0 R_ z<|(((h5.e G).c h1<|(b_ aZ) _ hC1b).e s6).at (j:=1) z)<|dM z z z<|dR z z (fd b_6 z)<|dR z z (l0 R_ z<|(V.e s6).at z) ?_
 obtain ⟨_,fh,d3⟩:=bdS<|ifF bf aA;refine dRX z z (at_ (α:=UInt8) n_ z_5 z z z (hp.g<|((G.ag B).c h1<|b_ aZ).e s6) fh) ?_;rintro _ ⟨_,_,_,rfl,fi,fj,_⟩;obtain rfl:=u8 fj;refine dR z z (l0 g_5 z<|fi.at0 z) ?_;have b0:=lt_ (lt_ (lt_ h2.s G.s) h1.s) s6.s;obtain ⟨_,_,_,fk,bg⟩:=w_ d3;refine dE z z (fc call127 z<|W_w1r fk (zt' H b0) (O.g<|(((h2.ag B).e G).c h1<|b_ aZ).e s6) I) (.inr λ_ _ h=>p_<|h.1) ?_;rintro _ _ ⟨sm,b2,b3,b4,fl,rfl,fm,fo,fp,cM⟩;refine dM z z z ?_
 iterate 3 refine dR z z (ext_ z z) ?_
 iterate 3 refine dQ z z z ?_
 refine pD<|Wo<|Wq<|Wm z<|R z (not_ z)<|Wx z (λaB=>?_) (λaB=>?_)
 .refine Ws<|R z (bP (parts:=[]) (cs:=[vI 0,sN,sN]) Y_ z z)<|RM z z ?_
  have cN:=lt_ b0 sm.s;obtain ⟨_,fq,d4⟩:=bdS<|ifT bg aB;refine E z (fc call136 z<|e_l fq (zt' H cN) I<|ii z) ?_;rintro _ _ ⟨cO,fr,fs,rfl,ft,cP⟩;refine E0 (fs0 (cur':=[vI 0,sN,sN]) h_ z z (((((h3.e G).c h1<|djs<|mmr h3.lt).e s6).e sm).e cO) z z z z) ?_;rintro _ _ ⟨fu,fv⟩;have cQ:=fv.one;refine Ra z<|Rw z ?_
  obtain rfl:=som d4;exact Wr<|I_ hr (s_ q_ h_ z fu z) z z ⟨bM (bup (bup (bup (bM (bup h2 G) h1<|m1 h2.s) s6) sm) cO) cQ<|c_ lr,none,0,0,[],none,0,0,[],fr,fs,z,ii z,onL,onL,I,ft.c cQ<|j_ cP h3.lt<|lt_ (lt_ (lt_ G.s h1.s) s6.s) sm.s,m_ cP cN,nd0,al0⟩
 refine Wk<|Wm z<|R z (bP (parts:=[(1,.tmp 159)]) (cs:=[vI 0,sl b2 b3 b4,sN]) Y_ z z)<|Rm z<|E0 (fs0 (cur':=[vI 0,sl b2 b3 b4,sN]) h_ z z ((((h3.e G).c h1<|djs<|mmr h3.lt).e s6).e sm) z z z z) ?_
 rintro _ _ ⟨fw,fx⟩;have cR:=fx.one;refine Ra z<|Rw z ?_
 obtain rfl:=som<|ifF bg aB;exact Wr<|I_ hr (s_ q_ h_ z fw z) z z ⟨bM (bup (bup (bM (bup h2 G) h1<|m1 h2.s) s6) sm) cR<|c_ lr,b2,b3,b4,fl,none,0,0,[],.nilIface,([]:List Nat),z,ii z,fm.c cR<|j_ cM h3.lt<|lt_ (lt_ G.s h1.s) s6.s,onL,fo,e_i,an_,na_ fp G_<|nmN _,aa_ (m_ cM b0) an_⟩
theorem T_w1y (ih:e_V n):k_H (i_1 n<|a_j n):=by
 obtain ⟨_,_,aJ,_,_,_⟩:=ih
 constructor
 intro A0 A4 A2 A3 A1 A5 N0 C0 N4 C4 b1 o1 N2 C2 N3 C3 N1 C1 N5 C5 B x1 x2 x3 res w0 hm O W Y hC1 hC1b bx bz bA bB bC bD a0 V;unfold i_1 at hm
 refine goG func131 z z z λfn hr=>Ws<|E z (fb z) ?_
 rintro _ J ⟨rfl,hw⟩;have h4:=hw.below;have hx:Blk J w0.z (vR x2 A2 N2 C2 A3 N3 C3 A1 N1 C1 A5 N5 C5):=hw.blk;refine E z (fa a_4) ?_;rintro _ aK ⟨rfl,hy⟩;have h6:=hy.below;have h5:Blk aK J.z [vI 0,sN,sN]:=hy.blk;refine Ra z<|Rw z<|Wm z<|Rf z J_ z ?_
 have hz:=hx.e h6;refine R z (l0 A_ z<|hz.at z) ?_;obtain ⟨_,aL,aw⟩:=bdS hm;have hd:=(h4.ag B).e h6;refine RX z (at_ (α:=Int) v_ z_3 z z z (a0.g hd) aL) ?_;rintro _ ⟨_,_,_,rfl,aM,aN,_⟩;obtain ⟨rfl,aO⟩:=O_ aN;refine R z (l0 g_3 z<|aM.at0 z)<|Rm z ?_
 have a4:=(hC1.e h4).e h6;have he:=lt_ h4.s h6.s;obtain ⟨_,rr,_,aP,hms⟩:=w_ aw;refine E z (fc call128 z<|j_0 aP (zt' O he) (W.g hd) (Y.g hd) a4 hC1b aO V) ?_;rintro _ H ⟨G,aQ,aR,rfl,_,aS,a5,a6⟩;refine Rm z ?_
 iterate 3 refine Re z z z ?_
 refine RA z z<|Rw z<|Wq<|Wm z<|R z (d_H d_L z z a5)<|Wx z (λhcm=>?_) (λhcm=>?_)
 .refine Ws<|R z (bP (parts:=[]) (cs:=[vI 0,sN,sN]) Y_ z z)<|RM z z<|E0 (fs0 (cur':=[vI 0,sN,sN]) h_ z z (h5.e G) z z z z) ?_
  rintro _ _ ⟨aT,aU⟩;have a7:=aU.one;refine Ra z<|Rw z ?_
  obtain rfl:=som<|ifT hms hcm;exact Wr<|I_ hr (s_ q_ h_ z aT z) z z ⟨bM (bup (bup h4 h6) G) a7<|m1 h4.s,none,0,0,[],none,0,0,[],aQ,aR,z,ii z,onL,onL,V,a5.c a7<|j_ a6 h5.lt lr,m_ a6 he,nd0,al0⟩
 have a1:=ifF hms hcm;refine Wk<|Wq<|Wm z<|R z (a_g z z)<|Wx z (λhco=>?_) (λhco=>?_)
 .refine Ws<|R z (bP (parts:=[]) (cs:=[vI 0,sN,sN]) Y_ z z)<|RM z z ?_
  have a8:=lt_ he G.s;obtain ⟨_,aV,ax⟩:=bdS<|ifT a1 hco;refine E z (fc call136 z<|e_l aV (zt' O a8) V<|ii z) ?_;rintro _ _ ⟨a9,aW,aX,rfl,aY,aa⟩;refine E0 (fs0 (cur':=[vI 0,sN,sN]) h_ z z ((h5.e G).e a9) z z z z) ?_;rintro _ _ ⟨aZ,b0⟩;have ab:=b0.one;refine Ra z<|Rw z ?_
  obtain rfl:=som ax;exact Wr<|I_ hr (s_ q_ h_ z aZ z) z z ⟨bM (bup (bup (bup h4 h6) G) a9) ab<|m1 h4.s,none,0,0,[],none,0,0,[],aW,aX,z,ii z,onL,onL,V,aY.c ab<|j_ aa h5.lt G.s,m_ aa a8,nd0,al0⟩
 refine Wk<|Wm z ?_
 obtain ⟨b2,b3,ay⟩:=bdS<|ifF a1 hco;refine E z (m_k (α:=Int) b_X (λ_=>b_y<|ii z) b3 z z) ?_;rintro _ I ⟨ac,nf,cg,rfl,s8,hp⟩;refine Rw z<|Wq<|Wm z<|R z (lnR v_ z<|a_.rep hp)<|Rm z<|Wn ?_
 obtain ⟨_,az,a2⟩:=bdS ay;refine Wf (σ:=List Int) (ρ:=Val×Int×(Option<|Int×Int)) (λ(ad:Nat)(L:List Int) a w=>∃(S3:List Nat),Sat 59 [(0,.pointer<|some ⟨b1,o1,none⟩),(4,pt w0.z),(6,pt J.z),(10,vI rr),(12,sl ac nf cg),(39,vI (b2.length:Int)),(40,vI ((ad:Nat):Int))] a/\Cg [H.z] I w/\a_ w S3 (sl ac nf cg) L/\S3.Nodup/\(∀k∈S3,k∈[H.z]∨I.z<=k)) (λ(L:List Int) a w=>∃(S3:List Nat),Sat 59 [(0,.pointer<|some ⟨b1,o1,none⟩),(6,pt J.z),(10,vI rr),(12,sl ac nf cg)] a/\Cg [H.z] I w/\a_ w S3 (sl ac nf cg) L/\S3.Nodup/\(∀k∈S3,k∈[H.z]∨I.z<=k)) (rQ prog fn<|Q36 w0 B) az ?_ ?_ ?_ ?_ ?_
 .exact λ_ q=>⟨[H.z],q.k<|s7 z z z z z z z,cr [H.z] I,hp,a_y,io sr⟩
 .rintro ad L _ b4 _ a3 ⟨S3,aA,sh,ha,hi,hj⟩ aB;refine Wu ?_ aA;refine Ws<|Rl z z z<|Wn<|Wq<|Wc z (λ_=>?_) (λhc=>(a_6 a3 hc).elim)
  refine Wk<|Wq<|Wb<|Wm z<|Rw z<|Wg<|RM z z<|Rf z J_ z<|R z (l0 A_ z<|(((hz.e G).e s8).c sh<|djs<|mm1 hx.lt<|lt_ h6.s G.s).at z) ?_
  obtain ⟨_,b5,aC⟩:=bdS aB;refine RX z (at_ (α:=Int) v_ z_3 z z z (a0.g<|((hd.e G).e s8).c sh<|b_ (or0 (c_ lr) (k_<|zt' O<|lt_ he G.s):∀k∈[H.z],¬B k)) b5) ?_;rintro _ ⟨_,_,_,rfl,b6,b7,_⟩;obtain ⟨rfl,b8⟩:=O_ b7;refine R z (l0 g_3 z<|b6.at0 z) ?_;obtain ⟨b9,ae,aD⟩:=bdS aC;refine RX z (m_i (α:=Int) v_ z_3 z z ha ae) ?_;rintro _ ⟨_,ba,rfl⟩;refine E0 (m_j (α:=Int) z_3 z ba z z z ae ha hi (b_y b8) an_ G_) ?_;rintro _ bb ⟨af,bc,be,bf,bg⟩;refine Wn<|Wg<|R z (inc_ a3 (lt_ (a_.len hp) M_) z z)<|Rm z<|Wl ?_
  have ah:∀k∈S3,k∈[H.z]∨I.z<=k:=or1 hj (io sr)<|B_ lr;exact λ_ q=>⟨b9,(som aD).symm,⟨af,q.k<|s7 z z z z z z z,(cM (cM (cr [H.z] I) sh (io sr):Cg [H.z] I b4) bc ah:Cg [H.z] I bb),be,bf,(or2 bg ah an_ (B_ sh.s):∀k∈af,k∈[H.z]∨I.z<=k)⟩⟩
 .rintro L _ bh ⟨S3,aE,bi,ha,hi,hj⟩;refine Wu ?_ aE;refine Ws<|Rl z z z<|Wn<|Wq<|Wc z (λhc=>(a_7 hc).elim) (λ_=>?_)
  exact We<|λ_ q=>⟨rfl,⟨S3,q.k<|s4 z z z z,(cM (cr [H.z] I) bi (io sr):Cg [H.z] I bh),ha,hi,(or1 hj (io sr) (B_ lr):∀k∈S3,k∈[H.z]∨I.z<=k)⟩⟩
 .rintro L bj bk rfl ⟨S3,_,sb,ha,hi,hj⟩;have aF:=elL a2;revert bj;refine Wo<|Wm z<|R z (bP (parts:=[]) (cs:=[vI 0,sN,sN]) Y_ z z)<|RM z z ?_
  have hq:=lt_ he G.s;have ai:∀k∈[H.z],¬B k:=or0 (c_ lr)<|k_<|zt' O hq;have aj:=((hd.e G).e s8).c sb<|b_ ai
  have hk:=lt_ (lt_ hq s8.s) sb.s;have ht:=zt' O hk;obtain ⟨bm,_,_,bn,aG⟩:=w_ aF;refine E z (fc call132 z<|aJ.run (B:=bk.z) (x2:=(⟨0,([]:Bt),([]:List Val)⟩:Val)) bn zr (repS.mono (W.g aj) ht) (repS.mono (Y.g aj) ht) (((a4.e G).e s8).c sb<|(b_ ai) _ hC1b) (zap' ht hC1b) (ii z) onL G_ (nbl an_) onL G_ (nbl an_) an_ (a_.rep ha) aS) ?_;rintro _ _ ⟨ak,al,am,an,ao,ap,aq,ar,au,bo,bp,rfl,bq,br,bs,bt,bu,av,hu,hl⟩
  iterate 3 refine Re z z z ?_
  refine E0 (fs0 (cur':=[vI bm.number,sl al am an,sl ap aq ar]) h_ z z ((((h5.e G).e s8).c sb<|djs<|mm1 h5.lt G.s).c ak<|atp<|nmA (nmN _)<|nmN _) z z z z) ?_;rintro _ _ ⟨bv,bw⟩;have hn:=bw.one;refine Ra z<|Rw z ?_
  obtain rfl:=som aG;have hv:=lt_ (lt_ G.s s8.s) sb.s;exact Wr<|I_ hr (s_ q_ h_ z bv z) z z ⟨bM (bM (bM (bup (bup (bup h4 h6) G) s8) sb<|m1 hq) ak al0) hn<|m1 h4.s,al,am,an,ao,ap,aq,ar,au,bo,bp,z,bq,br.c hn (or1 (al_ hl) al0 (U_ (c_ h5.lt) hv):∀k∈ao,k∉[J.z]),bs.c hn (or1 (ar_ hl) al0 (U_ (c_ h5.lt) hv):∀k∈au,k∉[J.z]),bt,bu.c hn<|j_ av h5.lt hv,m_ av hk,na_ (nl_ hu) (nr_ hu)<|nj hu,aa_ (a_s (al_ hl) al0 hk)<|a_s (ar_ hl) al0 hk⟩
 rintro _ _ _ _ rfl ⟨rfl,aH⟩;have aI:=elR a2;obtain rfl:=som aI;exact ⟨aH,z⟩
theorem T_w1z (ih:e_V n):k_I (i_2 n<|a_j n):=by
 obtain ⟨aY,_,_,_,_,_⟩:=ih
 constructor
 intro A0 A4 AE AF A9 N0 C0 N4 C4 b1 o1 NE CE NF CF N9 C9 S2_1 S2_2 B x1 x2 x3 x4 res w0 hm ae aL aM hC1 hC1b aN Y p2_1n p2_1g a0 p2_2n p2_2g p2_2d1 a1 aO;unfold i_2 at hm
 refine goG func132 z z z λfn hr=>Ws<|E z (fb z) ?_
 rintro _ wb ⟨rfl,af⟩;have h2:=af.below;have he:Blk wb w0.z [vI x2.number,sl AE NE CE,sl AF NF CF]:=af.blk;refine E z (fa a_4) ?_;rintro _ G ⟨rfl,ah⟩;have W:=ah.below;have hk:Blk G wb.z [vI 0,sN,sN]:=ah.blk;refine Ra z<|Rw z<|Wq<|Wm z ?_
 have ai:=(h2.ag B).e W;refine R z (lnR v_ z<|a1.g ai)<|Rm z<|Wn ?_
 obtain ⟨_,aP,aa⟩:=bdS hm;refine Wf (σ:=Int×(List Val)) (ρ:=Val×Int×(Option<|Int×Int)) (λ(aj:Nat) s a w=>un2 (λxc xh=>∃I J L H,Sat 45 [(0,.pointer<|some ⟨b1,o1,none⟩),(3,vI xc),(5,pt w0.z),(8,pt wb.z),(16,sl A9 N9 C9),(17,vI (x3.length:Int)),(18,vI ((aj:Nat):Int))] a/\Chg (· ∈ (S2_2++[w0.z])) G w/\inI xc/\a_ w H (sl I J L) xh/\H.Nodup/\(∀k∈H,k∈S2_2∨G.z<=k)/\Blk w w0.z [vI x2.number,sl AE NE CE,sl I J L]) s) (λs a w=>un2 (λxc xh=>∃I J L H,Sat 45 [(3,vI xc),(5,pt w0.z),(8,pt wb.z)] a/\Chg (· ∈ (S2_2++[w0.z])) G w/\inI xc/\a_ w H (sl I J L) xh/\H.Nodup/\(∀k∈H,k∈S2_2∨G.z<=k)/\Blk w w0.z [vI x2.number,sl AE NE CE,sl I J L]) s) (rQ prog fn<|Q37 w0 B S2_1 S2_2) aP ?_ ?_ ?_ ?_ ?_
 .exact λ_ q=>⟨AF,NF,CF,S2_2,q.k<|s7 z z z z z z z,cr (S2_2++[w0.z]) G,aO,(a0.e h2).e W,p2_2n,io sr,he.e W⟩
 .rintro aj ⟨xc,xh⟩ _ ak _ ab ⟨I,J,L,H,aQ,s6,hi,hf,hl,hd,hn⟩ aR;refine Wu ?_ aQ;refine Ws<|Rl z z z<|Wn<|Wq<|Wc z (λ_=>?_) (λhc=>(a_6 ab hc).elim)
  refine Wk<|Wq<|Wb<|Ws ?_
  obtain ⟨_,aZ,aS⟩:=bdS<|a_O aR;have al:∀k∈[w0.z],¬B k:=or0 (c_ lr)<|k_ ae;have ht:=ai.c s6<|nmA (b_ p2_2g)<|b_ al
  refine RX z (at_ (α:=Int) v_ z_3 z z z (a1.g ht) aZ) ?_;rintro _ ⟨_,_,_,rfl,b0,b2,_⟩;obtain ⟨rfl,b3⟩:=O_ b2;refine R z (l0 g_3 z<|b0.at0 z)<|Rw z<|Wm z<|RM z z ?_
  have hu:=lt_ (lt_ h2.s W.s) s6.s;obtain ⟨ro,b4,_,b5,ad⟩:=w_ aS;refine E z (fc call98 z<|aY.run b5 (zt' ae hu) (aL.g ht) (aM.g ht) (((hC1.e h2).e W).c s6<|(nmA (b_ p2_2g)<|b_ al) _ hC1b) hC1b b3 hi) ?_;rintro _ wm ⟨sa,ar,ns,cv,am,aw,nx,cy,an,b6,b7,rfl,b8,hp,hq,b9,ao,ap,hz,hj⟩;refine Rm z ?_
  iterate 3 refine Re z z z ?_
  refine E z (fa a_4) ?_;rintro _ a4 ⟨rfl,aq⟩;have O:=aq.below;refine E0 (fs0 (cur':=[vI ro.number,sl ar ns cv,sl aw nx cy]) h_ z z (aq.blk:Blk a4 wm.z [vI 0,sN,sN]) z z z z) ?_;rintro _ a5 ⟨ba,bb⟩;have V:=bb.one;refine Ra z<|Rw z<|Wq<|Wm z ?_
  have au:=(ao.e O).c V<|ds<|mnr<|a_R.lt ao
  refine R z (d_H d_L z z au)<|Wx z (λa2=>?_) (λa2=>?_)
  .refine Ws<|R z (bP (parts:=[]) (cs:=[vI 0,sN,sN]) Y_ z z)<|RM z z ?_
   refine E0 (fs0 (cur':=[vI 0,sN,sN]) h_ z z ((((hk.c s6<|atp<|nmA (mno (a_.lt a0) h2.s)<|mmr he.lt).e sa).e O).c V<|djs<|mm1 hk.lt<|lt_ s6.s sa.s) z z z z) ?_;rintro _ bc ⟨be,bf⟩;have av:=bf.one;refine Ra z<|Rw z ?_
   exact Wr<|rtO<|qL (som<|ifT ad a2).symm<|I_ hr (s_ q_ h_ z be z) z z ⟨(cM (cM (f_ (f_ (cM (f_ (f_ (cr (S2_1++S2_2) w0) h2:Chg (· ∈ (S2_1++S2_2)) w0 wb) W:Chg (· ∈ (S2_1++S2_2)) w0 G) s6 (aa_ (io<|F_ sr) (mor lr:∀k∈[w0.z],k∈(S2_1++S2_2)∨w0.z<=k)):Chg (· ∈ (S2_1++S2_2)) w0 ak) sa:Chg (· ∈ (S2_1++S2_2)) w0 wm) O:Chg (· ∈ (S2_1++S2_2)) w0 a4) V (mor (lt_ hu sa.s):∀k∈[wm.z],k∈(S2_1++S2_2)∨w0.z<=k):Chg (· ∈ (S2_1++S2_2)) w0 a5) av (mor h2.s:∀k∈[wb.z],k∈(S2_1++S2_2)∨w0.z<=k):Chg (· ∈ (S2_1++S2_2)) w0 bc),none,0,0,[],none,0,0,[],b6,b7,z,ii z,onL,onL,hi,au.c av<|j_ ap hk.lt s6.s,m_ ap hu,nd0,al0⟩
  refine Wk<|Ws<|Rf z V_ z ?_
  have a6:=lt_ W.s s6.s;have ax:=lt_ a6 sa.s;have ay:=((hn.e sa).e O).c V<|djs<|mm1 he.lt ax
  refine R z (l0 a_9 z<|ay.at z)<|R z (lN (vs:=[vI ro.number,sl ar ns cv,sl aw nx cy]) q_ h_ z z fid<|ba.row 0 3 z)<|E z (fS [(.tmp 37)] c_4 z z z (a_e z) (lb z)<|lb z) ?_
  rintro _ az ⟨rfl,aA⟩;have hg:=aA.below;have bw:=(hp.e O).c V<|ds<|mnr<|a_.lt hp
  have bx:=(hq.e O).c V<|ds<|mnr<|a_.lt hq
  obtain ⟨bg,bh,aT⟩:=bdS<|ifF ad a2;refine E z (a_X (α:=Val) c_4 bh z z ((((hf.e sa).e O).c V<|ds<|mno (a_.lt hf) sa.s).e hg) hl (aA.blk:Blk az a5.z [vI ro.number,sl ar ns cv,sl aw nx cy]) (d_C (x:=ro) (S1:=am) (S2:=an) b8 (((hp.e O).c V<|ds<|mnr<|a_.lt hp).e hg)<|((hq.e O).c V<|ds<|mnr<|a_.lt hq).e hg) (aa_ (b_H (al_ hj) (a_.lt hf) lr)<|b_H (ar_ hj) (a_.lt hf) lr)<|na_ (nl_ hz) (nr_ hz)<|nj hz) ?_;rintro _ bi ⟨a7,aB,aC,aD,rfl,aE,bj,bk,aF⟩;refine Rf z V_ z ?_;have aG:∀k∈H,k∉[w0.z]:=or1 hd (ds<|mnr<|a_.lt a0)<|U_ (c_ he.lt) W.s;refine E0 (fs0 (cur':=[vI x2.number,sl AE NE CE,sl aB aC aD]) d_K z z ((ay.e hg).c aE<|djs aG) z z z z) ?_;rintro _ bm ⟨bn,bo⟩;have aH:=bo.one;refine Wn<|Wg<|Rm z<|Rw z<|Wg<|R z (inc_ ab (lt_ (repS.len a1) M_) z z)<|Rm z<|Wl ?_
  have aI:=lt_ s6.s sa.s;exact λ_ q=>⟨(b4,bg),(som aT).symm,⟨aB,aC,aD,a7,q.k<|s7 z z z z z z z,(cM (cM (f_ (cM (f_ (f_ (cM (cr (S2_2++[w0.z]) G) s6 (aa_ (io<|D_ sr)<|io<|F_ sr):Chg (· ∈ (S2_2++[w0.z])) G ak) sa:Chg (· ∈ (S2_2++[w0.z])) G wm) O:Chg (· ∈ (S2_2++[w0.z])) G a4) V (mor aI:∀k∈[wm.z],k∈(S2_2++[w0.z])∨G.z<=k):Chg (· ∈ (S2_2++[w0.z])) G a5) hg:Chg (· ∈ (S2_2++[w0.z])) G az) aE (or1 hd (io<|D_ sr) (B_ lr):∀k∈H,k∈(S2_2++[w0.z])∨G.z<=k):Chg (· ∈ (S2_2++[w0.z])) G bi) aH (io<|F_ sr):Chg (· ∈ (S2_2++[w0.z])) G bm),b9,bj.c aH (or2 aF aG (aa_ (j_ (al_ hj) he.lt a6)<|j_ (ar_ hj) he.lt a6) (U_ (c_ he.lt)<|lt_ (lt_ (lt_ ax O.s) V.s) hg.s):∀k∈a7,k∉[w0.z]),bk,(or2 aF (or1 hd (io sr) (B_ lr):∀k∈H,k∈S2_2∨G.z<=k) (aa_ (or0 (al_ hj) (B_ s6.s):∀k∈am,k∈S2_2∨G.z<=k) (or0 (ar_ hj) (B_ s6.s):∀k∈an,k∈S2_2∨G.z<=k)) (B_<|lt_ (lt_ (lt_ aI O.s) V.s) hg.s):∀k∈a7,k∈S2_2∨G.z<=k),bn⟩⟩
 .rintro ⟨xc,xh⟩ _ bp ⟨I,J,L,H,aU,bq,hi,hf,hl,hd,hn⟩;refine Wu ?_ aU;refine Ws<|Rl z z z<|Wn<|Wq<|Wc z (λhc=>(a_7 hc).elim) (λ_=>?_)
  exact We<|λ_ q=>⟨rfl,⟨I,J,L,H,q.k<|s3 z z z,(cM (cr (S2_2++[w0.z]) G) bq (aa_ (io<|D_ sr)<|io<|F_ sr):Chg (· ∈ (S2_2++[w0.z])) G bp),hi,hf,hl,(or1 hd (io sr) (B_ lr):∀k∈H,k∈S2_2∨G.z<=k),hn⟩⟩
 .rintro ⟨xc,xh⟩ br bs rfl ⟨I,J,L,H,_,a8,hi,hf,hl,hd,hn⟩;have aV:=elL aa;revert br;refine Wo<|Ws<|R z (lN (vs:=[vI x2.number,sl AE NE CE,sl I J L]) q_ h_ z z fid<|hn.row 0 3 z)<|Rm z ?_
  have aJ:=mno (a_.lt a0) h2.s;refine E0 (fs0 (cur':=[vI x2.number,sl AE NE CE,sl I J L]) h_ z z (hk.c a8<|atp<|nmA aJ<|mmr he.lt) z z z z) ?_;rintro _ bt ⟨bu,bv⟩;have a9:=bv.one;refine Ra z<|Rw z ?_
  obtain rfl:=som<|a_O aV;have aK:=lt_ h2.s W.s;exact Wr<|I_ hr (s_ q_ h_ z bu z) z z ⟨(cM (cM (f_ (f_ (cr (S2_1++S2_2) w0) h2:Chg (· ∈ (S2_1++S2_2)) w0 wb) W:Chg (· ∈ (S2_1++S2_2)) w0 G) a8 (aa_ (io<|F_ sr) (mor lr:∀k∈[w0.z],k∈(S2_1++S2_2)∨w0.z<=k)):Chg (· ∈ (S2_1++S2_2)) w0 bs) a9 (mor h2.s:∀k∈[wb.z],k∈(S2_1++S2_2)∨w0.z<=k):Chg (· ∈ (S2_1++S2_2)) w0 bt),AE,NE,CE,S2_1,I,J,L,H,.nilIface,([]:List Nat),z,aN,(((Y.e h2).e W).c a8<|nmA (ds p2_2d1)<|ds<|mnr<|a_.lt Y).c a9<|ds<|mno (a_.lt Y) h2.s,hf.c a9 (or1 hd (ds aJ) (U_ (c_ hk.lt) lr):∀k∈H,k∉[wb.z]),hi,e_i,an_,na_ p2_1n hl<|ds<|o1no hd p2_2d1 (a_.lt Y) aK,aa_ (io<|D_ sr) (or1 hd (io<|F_ sr) (B_ aK):∀k∈H,k∈(S2_1++S2_2)∨w0.z<=k)⟩
 rintro _ _ _ _ rfl ⟨rfl,aW⟩;have aX:=elR aa;obtain rfl:=som aX;exact ⟨aW,z⟩
theorem T_w20 (ih:e_V n):k_J (i_3 n<|a_j n):=by
 obtain ⟨_,_,ar,_,_,_⟩:=ih
 constructor
 intro A0 A4 A2 A3 A1 A5 N0 C0 N4 C4 b1 o1 N2 C2 N3 C3 N1 C1 N5 C5 B x1 x2 x3 res w0 hm Y a0 a1 hC1 hC1b b7 b8 b9 ba bb J a2 L;unfold i_3 at hm
 refine goG func133 z z z λfn hr=>Ws<|E z (fb z) ?_
 rintro _ H ⟨rfl,hk⟩;have h1:=hk.below;refine E z (fa a_4) ?_;rintro _ au ⟨rfl,hl⟩;have h4:=hl.below;have h2:Blk au H.z [vI 0,sN,sN]:=hl.blk;refine Ra z<|Rw z<|Wm z<|Rf z J_ z ?_
 have hn:=(hk.blk:Blk H w0.z (vR x2 A2 N2 C2 A3 N3 C3 A1 N1 C1 A5 N5 C5)).e h4;refine R z (l0 A_ z<|hn.at z) ?_;obtain ⟨_,av,af⟩:=bdS hm;have O:=(h1.ag B).e h4;refine RX z (at_ (α:=Int) v_ z_3 z z z (a2.g O) av) ?_;rintro _ ⟨_,_,_,rfl,aw,ax,_⟩;obtain ⟨rfl,az⟩:=O_ ax;refine R z (l0 g_3 z<|aw.at0 z)<|Rm z ?_
 have ho:=(hC1.e h1).e h4;have V:=lt_ h1.s h4.s;obtain ⟨re,aA,_,aB,hmm⟩:=w_ af;refine E z (fc call128 z<|j_0 aB (zt' Y V) (a0.g O) (a1.g O) ho hC1b az L) ?_;rintro _ I ⟨G,aC,aD,rfl,aE,aF,hp,hq⟩;refine Rm z ?_
 iterate 3 refine Re z z z ?_
 refine RA z z<|Rw z<|Wq<|Wm z<|R z (d_H d_L z z hp)<|Wx z (λhcf=>?_) (λhcf=>?_)
 .refine Ws<|R z (bP (parts:=[]) (cs:=[vI 0,sN,sN]) Y_ z z)<|RM z z<|E0 (fs0 (cur':=[vI 0,sN,sN]) h_ z z (h2.e G) z z z z) ?_
  rintro _ _ ⟨aG,aH⟩;have ht:=aH.one;refine Ra z<|Rw z ?_
  obtain rfl:=som<|ifT hmm hcf;exact Wr<|I_ hr (s_ q_ h_ z aG z) z z ⟨bM (bup (bup h1 h4) G) ht<|m1 h1.s,none,0,0,[],none,0,0,[],aC,aD,z,ii z,onL,onL,L,hp.c ht<|j_ hq h2.lt lr,m_ hq V,nd0,al0⟩
 refine Wk<|Wq<|Ws<|Rf z b_1 z ?_
 have hu:=hn.e G;refine R z (l0 A_ z<|hu.at z) ?_;have hv:=O.e G;refine R z (lnR v_ z<|J.g hv)<|Rm z<|Wn ?_
 obtain ⟨_,ah,hmr⟩:=bdS<|ifF hmm hcf;refine Wf (σ:=Unit) (ρ:=Val×Int×(Option<|Int×Int)) (λ(ks:Nat)(_:Unit) a w=>Sat 61 [(0,.pointer<|some ⟨b1,o1,none⟩),(2,vI x3),(4,pt w0.z),(6,pt H.z),(9,vI re),(10,vI aA),(31,sl A1 N1 C1),(32,vI (x2.tags.length:Int)),(33,vI ((ks:Nat):Int))] a/\Below I.z I w) (λ(_:Unit) a w=>Sat 61 [(2,vI x3),(6,pt H.z)] a/\Below I.z I w) (rQ prog fn<|Q36 w0 B) ah ?_ ?_ ?_ ?_ ?_
 .exact λ_ q=>⟨q.k<|s9 z z z z z z z z z,br I⟩
 .rintro ks _ _ _ _ hkg ⟨ai,s3⟩ aj;refine Wu ?_ ai;refine Ws<|Rl z z z<|Wn<|Wq<|Wc z (λ_=>?_) (λhc=>(a_6 hkg hc).elim)
  refine Wk<|Wq<|Wb<|Wm z ?_
  obtain ⟨_,aI,hmw⟩:=bdS aj;have W:=hv.e s3;refine RX z (at_ (α:=Int) v_ z_3 z z z (J.g W) aI) ?_;rintro _ ⟨_,_,_,rfl,aJ,aK,_⟩;obtain ⟨rfl,_⟩:=O_ aK;refine R z (l0 g_3 z<|aJ.at0 z)<|Ra z<|Rw z<|Wm z<|Rm z<|Rq z z z<|Wx z (λhch=>?_) (λhch=>?_)
  .refine Wm z<|Rm z<|R z (bP (parts:=[(0,.tmp 42)]) (cs:=[vI re,sN,sN]) Y_ z z)<|Rf z J_ z<|R z (l0 A_ z<|(hu.e s3).at z)<|Rm z<|R z (inc_ hkg (lt_ (repS.len J) M_) z z)<|Rm z<|R z (add_ z z) ?_
   obtain ⟨_,aL,ak⟩:=bdS<|ifT hmw hch;refine RX z (rX v_ z_3 z z (a2.g W) z z aL) ?_;rintro _ ⟨_,_,_,rfl,aM⟩;refine Rm z ?_;have ha:=lt_ (lt_ V G.s) s3.s;obtain ⟨aN,_,_,aO,al⟩:=w_ ak;refine E z (fc call132 z<|ar.run (B:=B) (x2:=(⟨re,([]:Bt),([]:List Val)⟩:Val)) aO (zt' Y ha) (a0.g W) (a1.g W) ((ho.e G).e s3) hC1b aE onL G_ an_ onL G_ an_ an_ aM aF) ?_;rintro _ _ ⟨sx,ay,nz,a3,a4,a5,a6,a7,a8,aP,aQ,rfl,aR,aS,aT,aU,aV,a9,hi,hb⟩
   iterate 3 refine Re z z z ?_
   refine E0 (fs0 (cur':=[vI aN.number,sl ay nz a3,sl a5 a6 a7]) h_ z z (((h2.e G).e s3).c sx<|atp<|nmA (nmN _)<|nmN _) z z z z) ?_;rintro _ _ ⟨aW,aX⟩;have hd:=aX.one;refine Ra z<|Rw z ?_
   have hj:=lt_ G.s s3.s;exact Wr<|rtO<|qL (som al).symm<|I_ hr (s_ q_ h_ z aW z) z z ⟨bM (bM (bup (bup (bup h1 h4) G) s3) sx al0) hd<|m1 h1.s,ay,nz,a3,a4,a5,a6,a7,a8,aP,aQ,z,aR,aS.c hd (or1 (al_ hb) al0 (U_ (c_ h2.lt) hj):∀k∈a4,k∉[H.z]),aT.c hd (or1 (ar_ hb) al0 (U_ (c_ h2.lt) hj):∀k∈a8,k∉[H.z]),aU,aV.c hd<|j_ a9 h2.lt hj,m_ a9 ha,na_ (nl_ hi) (nr_ hi)<|nj hi,aa_ (a_s (al_ hb) al0 ha)<|a_s (ar_ hb) al0 ha⟩
  exact Wk<|Wg<|R z (inc_ hkg (lt_ (repS.len J) M_) z z)<|Rm z<|Wl (λ_ q=>⟨(),(som<|ifF hmw hch).symm,⟨q.k<|s9 z z z z z z z z z,s3⟩⟩)
 .rintro _ _ _ ⟨am,aY⟩;refine Wu ?_ am;refine Ws<|Rl z z z<|Wn<|Wq<|Wc z (λhc=>(a_7 hc).elim) (λ_=>?_)
  exact We<|λ_ q=>⟨rfl,⟨q.k<|s2 z z,aY⟩⟩
 .rintro _ aZ _ rfl ⟨_,sc⟩;have an:=elL hmr;revert aZ;refine Wo<|Ws<|R z (bP (parts:=[]) (cs:=[vI 0,sN,sN]) Y_ z z)<|RM z z ?_
  have aa:=lt_ (lt_ V G.s) sc.s;obtain ⟨_,b0,ao⟩:=bdS an;refine E z (fc call136 z<|e_l b0 (zt' Y aa) L<|ii z) ?_;rintro _ _ ⟨ab,b2,b3,rfl,b4,ad⟩;refine E0 (fs0 (cur':=[vI 0,sN,sN]) h_ z z (((h2.e G).e sc).e ab) z z z z) ?_;rintro _ _ ⟨b5,b6⟩;have ae:=b6.one;refine Ra z<|Rw z ?_
  obtain rfl:=som ao;exact Wr<|I_ hr (s_ q_ h_ z b5 z) z z ⟨bM (bup (bup (bup (bup h1 h4) G) sc) ab) ae<|m1 h1.s,none,0,0,[],none,0,0,[],b2,b3,z,ii z,onL,onL,L,b4.c ae<|j_ ad h2.lt<|lt_ G.s sc.s,m_ ad aa,nd0,al0⟩
 rintro _ _ _ _ rfl ⟨rfl,ap⟩;have aq:=elR hmr;obtain rfl:=som aq;exact ⟨ap,z⟩
theorem T_w21 (ih:e_V n):k_K (i_4 n<|a_j n):=by
 obtain ⟨_,_,a6,_,_,_⟩:=ih
 constructor
 intro A0 A4 A2 A3 A1 A5 N0 C0 N4 C4 b1 o1 N2 C2 N3 C3 N1 C1 N5 C5 B x1 x2 x3 res w0 hm O W Y hC1 hC1b aI aJ aK aL aM aN a3 H;unfold i_4 at hm
 refine goG func134 z z z λfn hr=>Ws<|E z (fb z) ?_
 rintro _ I ⟨rfl,hf⟩;have h1:=hf.below;refine E z (fa a_4) ?_;rintro _ a7 ⟨rfl,hg⟩;have h3:=hg.below;have h2:Blk a7 I.z [vI 0,sN,sN]:=hg.blk;refine Ra z<|Rw z<|Wm z<|Rm z ?_
 have hh:=(hC1.e h1).e h3;have V:=(h1.ag B).e h3;have h5:=lt_ h1.s h3.s;obtain ⟨_,_,a8,hmi⟩:=a_r hm;refine E z (fc call147 z<|i_Z a8 (zt' O h5) (W.g V) (Y.g V) hh hC1b H<|ii z) ?_;rintro _ _ ⟨G,_,_,_,a9,aa,rfl,hj,hk,hl⟩;refine Rm z<|Re z z z<|Re z z z<|Ra z<|Rw z<|Wq<|Wb<|Wm z<|R z (d_H d_L z z hk)<|Rw z<|Wc z (λhca=>?_) (λhca=>?_)
 .refine Ws<|R z (bP (parts:=[]) (cs:=[vI 0,sN,sN]) Y_ z z)<|RM z z<|E0 (fs0 (cur':=[vI 0,sN,sN]) h_ z z (h2.e G) z z z z) ?_
  rintro _ _ ⟨ab,ad⟩;have hn:=ad.one;refine Ra z<|Rw z ?_
  obtain rfl:=som<|ifT hmi hca;exact Wr<|rtO<|I_ hr (s_ q_ h_ z ab z) z z ⟨bM (bup (bup h1 h3) G) hn<|m1 h1.s,none,0,0,[],none,0,0,[],a9,aa,z,ii z,onL,onL,H,hk.c hn<|j_ hl h2.lt lr,m_ hl h5,nd0,al0⟩
 refine Wm z ?_
 obtain ⟨_,ae,hmm⟩:=bdS<|ifF hmi hca;refine RX z (at_ (α:=UInt8) n_ z_5 z z z hj ae) ?_;rintro _ ⟨_,_,_,rfl,af,ah,_⟩;obtain rfl:=u8 ah;refine R z (l0 g_5 z<|af.at0 z)<|R z (a_g z z)<|Rw z<|Wc z (λhcb=>?_) (λhcb=>?_)
 .refine Ws<|R z (bP (parts:=[]) (cs:=[vI 0,sN,sN]) Y_ z z)<|RM z z ?_
  have ho:=lt_ h5 G.s;obtain ⟨_,ai,a4⟩:=bdS<|ifT hmm hcb;refine E z (fc call136 z<|e_l ai (zt' O ho) H<|ii z) ?_;rintro _ _ ⟨sp,aj,ak,rfl,al,hq⟩;refine E0 (fs0 (cur':=[vI 0,sN,sN]) h_ z z ((h2.e G).e sp) z z z z) ?_;rintro _ _ ⟨am,an⟩;have ht:=an.one;refine Ra z<|Rw z ?_
  obtain rfl:=som a4;exact Wr<|rtO<|I_ hr (s_ q_ h_ z am z) z z ⟨bM (bup (bup (bup h1 h3) G) sp) ht<|m1 h1.s,none,0,0,[],none,0,0,[],aj,ak,z,ii z,onL,onL,H,al.c ht<|j_ hq h2.lt G.s,m_ hq ho,nd0,al0⟩
 refine Wm z ?_
 obtain ⟨_,ao,hmr⟩:=bdS<|ifF hmm hcb;refine RX z (at_ (α:=UInt8) n_ z_5 z z z hj ao) ?_;rintro _ ⟨_,_,_,rfl,ap,aq,_⟩;obtain rfl:=u8 aq;refine R z (l0 g_5 z<|ap.at0 z)<|Rq z z z<|Rw z<|Wc z (λhcc=>?_) (λhcc=>?_)
 .refine Ws<|R z (bP (parts:=[]) (cs:=[vI 0,sN,sN]) Y_ z z)<|Rm z<|R z (add_ z z)<|E0 (fs0 (cur':=[vI 0,sN,sN]) h_ z z (h2.e G) z z z z) ?_
  rintro _ _ ⟨ar,av⟩;refine Ra z<|Rw z ?_
  obtain rfl:=som<|ifT hmr hcc;exact Wr<|rtO<|I_ hr (s_ q_ h_ z ar z) z z ⟨bM (bup (bup h1 h3) G) av.one<|m1 h1.s,none,0,0,[],none,0,0,[],.nilIface,([]:List Nat),z,ii z,onL,onL,iA _ _,e_i,an_,nd0,al0⟩
 refine Wk<|Wm z<|R z (bP (parts:=[]) (cs:=[vI 0,sN,sN]) Y_ z z)<|Rf z J_ z<|R z (l0 A_ z<|(((hf.blk:Blk I w0.z (vR x2 A2 N2 C2 A3 N3 C3 A1 N1 C1 A5 N5 C5)).e h3).e G).at z)<|Rm z<|R z (add_ z z) ?_
 have hd:=V.e G;have h6:=lt_ h5 G.s;obtain ⟨aw,_,_,ax,a5⟩:=w_<|ifF hmr hcc;refine E z (fc call132 z<|a6.run (B:=B) (x2:=(⟨0,([]:Bt),([]:List Val)⟩:Val)) ax (zt' O h6) (W.g hd) (Y.g hd) (hh.e G) hC1b (ii z) onL G_ an_ onL G_ an_ an_ (a3.g hd)<|iA _ _) ?_;rintro _ _ ⟨ss,au,nv,cw,Sx,ay,nz,a0,a1,az,aA,rfl,aB,aC,aD,aE,aF,a2,he,J⟩
 iterate 3 refine Re z z z ?_
 refine E0 (fs0 (cur':=[vI aw.number,sl au nv cw,sl ay nz a0]) h_ z z ((h2.e G).c ss<|atp<|nmA (nmN _)<|nmN _) z z z z) ?_;rintro _ _ ⟨aG,aH⟩;have L:=aH.one;refine Ra z<|Rw z ?_
 obtain rfl:=som a5;exact Wr<|I_ hr (s_ q_ h_ z aG z) z z ⟨bM (bM (bup (bup h1 h3) G) ss al0) L<|m1 h1.s,au,nv,cw,Sx,ay,nz,a0,a1,az,aA,z,aB,aC.c L (or1 (al_ J) al0 (U_ (c_ h2.lt) G.s):∀k∈Sx,k∉[I.z]),aD.c L (or1 (ar_ J) al0 (U_ (c_ h2.lt) G.s):∀k∈a1,k∉[I.z]),aE,aF.c L<|j_ a2 h2.lt G.s,m_ a2 h6,na_ (nl_ he) (nr_ he)<|nj he,aa_ (a_s (al_ J) al0 h6)<|a_s (ar_ J) al0 h6⟩
theorem T_w22 (ih:e_V n):k_L (i_5 n<|a_j n):=by
 obtain ⟨_,_,ap,_,_,_⟩:=ih
 constructor
 intro A0 A4 A2 A3 A1 A5 N0 C0 N4 C4 b1 o1 N2 C2 N3 C3 N1 C1 N5 C5 B x1 x2 x3 res w0 hm J V O hC1 hC1b aW aX aY aZ b0 b2 al L;unfold i_5 at hm
 refine goG func135 z z z λfn hr=>Ws<|E z (fb z) ?_
 rintro _ wb ⟨rfl,hu⟩;have h6:=hu.below;refine E z (fa a_4) ?_;rintro _ aq ⟨rfl,hv⟩;have H:=hv.below;have h3:Blk aq wb.z [vI 0,sN,sN]:=hv.blk;refine Ra z<|Rw z<|Wm z<|R z (bP (parts:=[]) (cs:=[vI 0,sN,sN]) Y_ z z)<|Rf z J_ z<|R z (l0 A_ z<|((hu.blk:Blk wb w0.z (vR x2 A2 N2 C2 A3 N3 C3 A1 N1 C1 A5 N5 C5)).e H).at z)<|Rm z ?_
 have hw:=(hC1.e h6).e H;have hc:=(h6.ag B).e H;have I:=lt_ h6.s H.s;obtain ⟨rk,_,_,ar,hmr⟩:=w_ hm;refine E z (fc call132 z<|ap.run (B:=B) (x2:=(⟨0,([]:Bt),([]:List Val)⟩:Val)) ar (zt' J I) (V.g hc) (O.g hc) hw hC1b (ii z) onL G_ an_ onL G_ an_ an_ (al.g hc) L) ?_;rintro _ ws ⟨G,ad,ne,cf,Sx,ah,ng,ci,Sy,au,av,rfl,aw,hz,a0,a1,a2,a3,hl,hj⟩;refine Rm z ?_
 iterate 3 refine Re z z z ?_
 refine E z (fa a_4) ?_;rintro _ ax ⟨rfl,a4⟩;have h1:=a4.below;refine E0 (fs0 (cur':=[vI rk.number,sl ad ne cf,sl ah ng ci]) h_ z z (a4.blk:Blk ax ws.z [vI 0,sN,sN]) z z z z) ?_;rintro _ _ ⟨ay,az⟩;have h2:=az.one;refine Ra z<|Rw z<|Wq<|Wm z ?_
 have a5:=(a2.e h1).c h2<|ds<|mnr<|a_R.lt a2
 refine R z (d_H d_L z z a5)<|Wx z (λhcm=>?_) (λhcm=>?_)
 .refine Ws<|R z (bP (parts:=[]) (cs:=[vI 0,sN,sN]) Y_ z z)<|RM z z<|E0 (fs0 (cur':=[vI 0,sN,sN]) h_ z z (((h3.c G<|atp<|nmA (nmN _)<|nmN _).e h1).c h2<|djs<|mm1 h3.lt G.s) z z z z) ?_
  rintro _ _ ⟨aA,aB⟩;have a6:=aB.one;refine Ra z<|Rw z ?_
  obtain rfl:=som<|ifT hmr hcm;exact Wr<|I_ hr (s_ q_ h_ z aA z) z z ⟨bM (bM (bup (bM (bup h6 H) G al0) h1) h2<|m1<|lt_ I G.s) a6<|m1 h6.s,none,0,0,[],none,0,0,[],au,av,z,ii z,onL,onL,L,a5.c a6<|j_ a3 h3.lt lr,m_ a3 I,nd0,al0⟩
 refine Wk<|Wm z<|Rm z ?_
 have ha:=lt_ I G.s;have a7:∀k∈[ws.z],¬B k:=or0 (c_ lr)<|k_<|zt' J ha;have a8:=((hw.c G<|(nmA (b_ an_)<|b_ an_) _ hC1b).e h1).c h2<|(b_ a7) _ hC1b
 have hn:=((hc.c G<|nmA (b_ an_)<|b_ an_).e h1).c h2<|b_ a7
 have ho:=lt_ (lt_ ha h1.s) h2.s;obtain ⟨_,_,aC,W⟩:=a_r<|ifF hmr hcm;refine E z (fc call147 z<|i_Z aC (zt' J ho) (V.g hn) (O.g hn) a8 hC1b a1<|ii z) ?_;rintro _ _ ⟨s4,_,_,_,aD,aE,rfl,aF,a9,aa⟩;refine Rm z<|Re z z z<|Re z z z<|Ra z<|Rw z<|Wq<|Wm z<|R z (d_H d_L z z a9)<|Wx z (λhcp=>?_) (λhcp=>?_)
 .refine Ws<|R z (bP (parts:=[]) (cs:=[vI 0,sN,sN]) Y_ z z)<|RM z z<|E0 (fs0 (cur':=[vI 0,sN,sN]) h_ z z ((((h3.c G<|atp<|nmA (nmN _)<|nmN _).e h1).c h2<|djs<|mm1 h3.lt G.s).e s4) z z z z) ?_
  rintro _ _ ⟨aG,aH⟩;have ab:=aH.one;refine Ra z<|Rw z ?_
  obtain rfl:=som<|ifT W hcp;exact Wr<|I_ hr (s_ q_ h_ z aG z) z z ⟨bM (bup (bM (bup (bM (bup h6 H) G al0) h1) h2<|m1 ha) s4) ab<|m1 h6.s,none,0,0,[],none,0,0,[],aD,aE,z,ii z,onL,onL,L,a9.c ab<|j_ aa h3.lt<|lt_ (lt_ G.s h1.s) h2.s,m_ aa ho,nd0,al0⟩
 refine Wk<|Wq<|Wq (Wd (X:=noX) 0 (pl_ 13 [11]) mo (by kernel_rfl) λb3 s5 _=>dM z z z ?_)
 obtain ⟨_,aI,am⟩:=bdS<|ifF W hcp;refine dRX z z (at_ (α:=UInt8) n_ z_5 z z z (aF.e s5) aI) ?_;rintro _ ⟨_,_,_,rfl,aJ,aK,_⟩;obtain rfl:=u8 aK;refine dR z z (l0 g_5 z<|aJ.at0 z)<|dR z z (b_W d_5 d_3 z)<|dM z z z<|dR z z (C_ z)<|dR z z (fd f_y z)<|dR z z (l0 R_ z<|((a8.e s4).e s5).at (j:=1) z)<|dM z z z<|dM z z z ?_
 obtain ⟨_,aL,an⟩:=bdS am;refine dRX z z (rX n_ z_5 z z (O.g<|(hn.e s4).e s5) z z aL) ?_;rintro _ ⟨_,_,_,rfl,aM⟩;have ae:=lt_ (lt_ ho s4.s) s5.s;obtain ⟨_,aN,Y⟩:=bdS an;refine dE z z (fc call146 z<|W_w1q aN (zt' J ae) aM) (.inr λ_ _ h=>p_<|h.1) ?_;rintro _ _ ⟨s7,rfl,_⟩;refine dR z z (nq z z)<|pD<|Wo<|Wc z (λhcq=>?_) (λhcq=>?_)
 .refine Ws<|R z (bP (parts:=[]) (cs:=[vI 0,sN,sN]) Y_ z z)<|RM z z ?_
  have af:=lt_ ae s7.s;obtain ⟨_,aO,ao⟩:=bdS<|ifT Y hcq;refine E z (fc call136 z<|e_l aO (zt' J af) a1<|ii z) ?_;rintro _ _ ⟨ai,aP,aQ,rfl,aR,aj⟩;refine E0 (fs0 (cur':=[vI 0,sN,sN]) h_ z z (((((((h3.c G<|atp<|nmA (nmN _)<|nmN _).e h1).c h2<|djs<|mm1 h3.lt G.s).e s4).e s5).e s7).e ai) z z z z) ?_;rintro _ _ ⟨aS,aT⟩;have ak:=aT.one;refine Ra z<|Rw z ?_
  obtain rfl:=som ao;exact Wr<|I_ hr (s_ q_ h_ z aS z) z z ⟨bM (bup (bup (bup (bup (bM (bup (bM (bup h6 H) G al0) h1) h2<|m1 ha) s4) s5) s7) ai) ak<|m1 h6.s,none,0,0,[],none,0,0,[],aP,aQ,z,ii z,onL,onL,L,aR.c ak<|j_ aj h3.lt<|lt_ (lt_ (lt_ (lt_ (lt_ G.s h1.s) h2.s) s4.s) s5.s) s7.s,m_ aj af,nd0,al0⟩
 refine Wk<|Ws<|R z (lN (vs:=[vI rk.number,sl ad ne cf,sl ah ng ci]) q_ h_ z z fid<|(((ay.e s4).e s5).e s7).row 0 3 z)<|Rm z<|R z (add_ z z)<|E0 (fs0 (cur':=[vI rk.number,sl ad ne cf,sl ah ng ci]) h_ z z ((((((h3.c G<|atp<|nmA (nmN _)<|nmN _).e h1).c h2<|djs<|mm1 h3.lt G.s).e s4).e s5).e s7) z z z z) ?_
 rintro _ _ ⟨aU,aV⟩;have ht:=aV.one;refine Ra z<|Rw z ?_
 obtain rfl:=som<|ifF Y hcq;exact Wr<|I_ hr (s_ q_ h_ z aU z) z z ⟨bM (bup (bup (bup (bM (bup (bM (bup h6 H) G al0) h1) h2<|m1 ha) s4) s5) s7) ht<|m1 h6.s,ad,ne,cf,Sx,ah,ng,ci,Sy,.nilIface,([]:List Nat),z,aw,(((((hz.e h1).c h2<|ds<|mnr<|a_.lt hz).e s4).e s5).e s7).c ht (or1 (al_ hj) al0 (U_ (c_ h3.lt) lr):∀k∈Sx,k∉[wb.z]),(((((a0.e h1).c h2<|ds<|mnr<|a_.lt a0).e s4).e s5).e s7).c ht (or1 (ar_ hj) al0 (U_ (c_ h3.lt) lr):∀k∈Sy,k∉[wb.z]),iA _ _,e_i,an_,na_ (nl_ hl) (nr_ hl)<|nj hl,aa_ (a_s (al_ hj) al0 I)<|a_s (ar_ hj) al0 I⟩
theorem c_G:∀n,e_V n
  | 0=>⟨⟨λhm=>by intros;exact nomatch (show none=some _ from hm)⟩,⟨λhm=>by intros;exact nomatch (show none=some _ from hm)⟩,⟨λhm=>by intros;exact nomatch (show none=some _ from hm)⟩,⟨λhm=>by intros;exact nomatch (show none=some _ from hm)⟩,⟨λhm=>by intros;exact nomatch (show none=some _ from hm)⟩,⟨λhm=>by intros;exact nomatch (show none=some _ from hm)⟩⟩
  | n+1=>⟨T_w02<|c_G n,T_w1y<|c_G n,T_w1z<|c_G n,T_w20<|c_G n,T_w21<|c_G n,T_w22<|c_G n⟩
theorem W_w02:k_G (a_j n).impl_fileReader_value:=(c_G n).1
theorem W_w1y:k_H (a_j n).impl_fileReader_array:=(c_G n).2.1
theorem W_w1z:k_I (a_j n).impl_fileReader_items:=(c_G n).2.2.1
theorem W_w20:k_J (a_j n).impl_fileReader_choice:=(c_G n).2.2.2.1
theorem W_w21:k_K (a_j n).impl_fileReader_option:=(c_G n).2.2.2.2.1
theorem W_w22:k_L (a_j n).impl_fileReader_checked:=(c_G n).2.2.2.2.2
theorem W_w3e {x1:d_}{x2:Int}{x3:Bt}{x4:Int}{res:Val×Int×Int}(hm:f_i n x1 x2 x3 x4=some res)(O:B<=w0.z)(hG:Gl w0 B)(V:repS w0 B (sl A0 N0 C0) x1.rules)(W:inI x2)(Y:repS w0 B (sl A9 N9 C9) x3)(aB:inI x4):l_ prog 60 [(.agg #[sl A0 N0 C0]),vI x2,sl A9 N9 C9,vI x4] w0 (Q15 w0 B res):=by
 unfold f_i at hm
 refine goG func60 z z z λfn hr=>Ws<|E z (fb z) ?_
 rintro _ wc ⟨rfl,a5⟩;have h1:=a5.below;have a6:Blk wc w0.z [sl A0 N0 C0]:=a5.blk;refine E z (fa a_4) ?_;rintro _ wp ⟨rfl,a7⟩;have h4:=a7.below;have h5:Blk wp wc.z [vI 0,sN,sN]:=a7.blk;refine Ra z<|Rw z<|Wq<|Wq ?_
 obtain ⟨aE,aC,a0⟩:=bdS hm;refine Wt (λa w=>∃(xq:Bool),xq=aE/\Sat 62 [(1,vI x2),(2,sl A9 N9 C9),(3,vI x4),(4,pt w0.z),(8,pt wc.z),(34,vB xq)] a/\Below wp.z wp w) ?_ ?_
 .refine Wg<|R z (lN (vs:=[sl A0 N0 C0]) t_ r_ z z fid<|(a6.e h4).row 0 1 z)<|Rm z ?_
  have a8:=(h1.ag B).e h4;obtain ⟨aF,aG,a1⟩:=bdS aC;refine E z (fc call96 z<|k_y aG (zt' O<|lt_ h1.s h4.s) (V.g a8) W) ?_;rintro _ _ ⟨sd,rfl⟩;refine R z (not_ z)<|Rm z ?_
  rcases bs (!aF) with J | J
  .exact Nh z J<|Nh z J<|R z (pT z J z)<|Rm z<|Nh z z<|Nh z z<|Nh z z<|Nh z z<|R z (pT z z z)<|Rm z<|Nh z z<|Nh z z<|Nh z z<|R z (pT z z z)<|Wl (λ_ q=>⟨true,som<|ifT a1 J,q.k<|s6 z z z z z z,sd⟩)
  have a2:=ifF a1 J;refine Rh z J (mv z)<|Rh z J (lss z z)<|R z (pF z J z)<|Rm z ?_
  rcases bs (decide<|x4<0) with H | H
  .iterate 4 refine Nh z H ?_
   exact R z (pT z H z)<|Rm z<|Nh z z<|Nh z z<|Nh z z<|R z (pT z z z)<|Wl (λ_ q=>⟨true,som<|ifT a2 H,q.k<|s6 z z z z z z,sd⟩)
  have a3:=ifF a2 H;refine Rh z H (mv z)<|Rh z H (mv z) ?_
  have a9:=Y.g<|a8.e sd
  refine Rh z H (lnR n_ z a9)<|Rh z H (a_g z z)<|R z (pF z H z)<|Rm z ?_
  rcases bs (decide<|(x3.length:Int)<x4) with L | L
  .iterate 3 refine Nh z L ?_
   exact R z (pT z L z)<|Wl (λ_ q=>⟨true,som<|ifT a3 L,q.k<|s6 z z z z z z,sd⟩)
  exact Rh z L (mv z)<|Rh z L (lnR n_ z a9)<|Rh z L (a_g z z)<|R z (pF z L z)<|Wl (λ_ q=>⟨decide<|400<(x3.length:Int),som<|ifF a3 L,q.k<|s6 z z z z z z,sd⟩)
 rintro aH aI ⟨xq,rfl,_,G⟩;revert aH;refine Wo<|Wc z (λhcr=>?_) (λhcr=>?_)
 .refine Ws<|R z (bP (parts:=[]) (cs:=[vI 0,sN,sN]) Y_ z z)<|E0 (fs0 (cur':=[vI 0,sN,sN]) h_ z z (h5.e G) z z z z) ?_
  rintro _ _ ⟨aJ,aK⟩;refine Ra z<|Rw z ?_
  obtain rfl:=som<|ifT a0 hcr;exact Wr<|I_ hr (s_ q_ h_ z aJ z) z z ⟨bM (bup (bup h1 h4) G) aK.one<|m1 h1.s,none,0,0,[],none,0,0,[],z,ii z,onL,onL,ii z,ii z,nd0,al0⟩
 refine Wk<|Ws<|R z (lN (vs:=[sl A0 N0 C0]) t_ r_ z z fid<|((a6.e h4).e G).row 0 1 z)<|Rm z<|R z (bP (parts:=[(0,.tmp 36),(1,.tmp 37)]) (cs:=[sl A0 N0 C0,sl A9 N9 C9]) q_e z z)<|E z (fb z) ?_
 rintro _ aa ⟨rfl,ab⟩;have ha:=ab.below;have ad:Blk aa aI.z [sl A0 N0 C0,sl A9 N9 C9]:=ab.blk;refine Rw z<|Wm z<|RM z z ?_
 have ae:=(((h1.ag B).e h4).e G).e ha;have he:=lt_ (lt_ (lt_ h1.s h4.s) G.s) ha.s;have af:=zt' O he;obtain ⟨rs,_,aL,aM,a4⟩:=w_<|ifF a0 hcr;refine E z (fc call98 z<|W_w02.run (B:=aa.z) aM zr (repS.mono (V.g ae) af) (repS.mono (Y.g ae) af) (ad.row 0 2 z) ad.lt W aB) ?_;rintro _ ai ⟨sb,ah,ng,ci,aN,aj,nk,cl,aO,_,_,rfl,aP,ak,al,aQ,ht,aR,hu,hn⟩;refine Rm z ?_
 iterate 3 refine Re z z z ?_
 refine E z (fa a_4) ?_;rintro _ aS ⟨rfl,am⟩;have h2:=am.below;refine E0 (fs0 (cur':=[vI rs.number,sl ah ng ci,sl aj nk cl]) h_ z z (am.blk:Blk aS ai.z [vI 0,sN,sN]) z z z z) ?_;rintro _ an ⟨aT,aU⟩;have h3:=aU.one;refine Ra z<|Rw z<|Ws<|E z (fa q_v) ?_
 rintro _ aV ⟨rfl,ao⟩;have I:=ao.below;have ap:Blk aV an.z [(.pointer none)]:=ao.blk;refine Wn<|Wq<|Wm z<|R z (d_o d_144 (λ_ h=>by cases h) z) ?_
 have aq:=((ht.e h2).c h3<|ds<|mnr<|a_R.lt ht).e I
 rcases bs (aL.isSome) with hcm | hcm
 .obtain ⟨_,_,aW,aD⟩:=a_r<|ifT a4 hcm;have hv:=lt_ he sb.s;refine E z (fc call99 z<|q_5 ((((((((hG.e h1).e h4).e G).e ha).e sb).e h2).c h3<|b_ (or0 (c_ lr) (k_<|zt' O hv):∀k∈[ai.z],¬B k)).e I) aq aW ap) ?_;rintro _ _ ⟨ar,rfl,aX,aY,aZ,au,b0,b1⟩;have hw:=aX.one;refine Wx z (λ_=>?_) (λhc=>(b_M z hc).elim)
  refine Wq<|Wd (X:=(· ∈ [wc.z])) 0 (pl_ 12 [9]) mo (by kernel_rfl) λb6 so _=>dR z z (bP (parts:=[]) (cs:=[vI 0,sN,sN]) Y_ z z) ?_;have av:=aY.e so;have aw:=lt_ G.s ha.s;have ax:=lt_ aw sb.s;have ay:=lt_ (lt_ ax h2.s) h3.s;have hx:=mm1 h5.lt ay;refine dR z z (l1 g_142 z (atp hx)<|av.at z)<|dR z z (C_ z)<|dR z z (fd q_s z) ?_
  have az:=(aZ.c hw<|atp (or1 (c_<|.inl au) (ds<|mno (a_R.lt ht)<|lt_ h2.s h3.s) (U_ (c_ ap.lt) lr):∀k∈[ar],k∉[an.z])).e so;have aA:∀k∈[ar],k∉[wc.z]:=or1 (c_<|.inl au) (j_ aR h5.lt aw)<|U_ (c_ h5.lt)<|lt_ ay I.s;refine dR z z (l1 g_3 z (atp aA)<|az.at z)<|dR z z (l1 g_142 z (atp hx)<|av.at z)<|dR z z (C_ z)<|dR z z (fd q_t z)<|dR z z (l1 g_3 z (atp aA)<|az.at z)<|dE0 z (fs0 (cur':=[vI 0,sN,sN]) h_ z z ((((((((h5.e G).e ha).e sb).e h2).c h3<|djs<|mm1 h5.lt ax).e I).c hw<|djs hx).e so) z z z z) (.inr λ_ _ h=>k_7 (List.mem_singleton.2 z) h.2) ?_
  rintro _ _ ⟨b2,b3⟩;refine dQ z z z<|dQ z z z<|pD<|Wo ?_
  obtain rfl:=som aD;exact Wr<|I_ hr (s_ q_ h_ z b2 z) z z ⟨bM (bup (bM (bup (bM (bup (bup (bup (bup (bup h1 h4) G) ha) sb) h2) h3<|m1 hv) I) hw<|m1<|lt_ (lt_ hv h2.s) h3.s) so) b3.one<|m1 h1.s,none,0,0,[],none,0,0,[],z,ii z,onL,onL,b0,b1,nd0,al0⟩
 refine E z (fc call99 z<|q_4 aq hcm) ?_;rintro _ _ ⟨rfl,sf⟩;refine Wx z (λhc=>(b_M hc z).elim) (λ_=>?_)
 refine Wk<|Ws<|R z (lN (vs:=[vI rs.number,sl ah ng ci,sl aj nk cl]) q_ h_ z z fid<|((aT.e I).e sf).row 0 3 z)<|Rm z ?_
 have hy:=lt_ G.s ha.s;refine E0 (fs0 (cur':=[vI rs.number,sl ah ng ci,sl aj nk cl]) h_ z z (((((((h5.e G).e ha).e sb).e h2).c h3<|djs<|mm1 h5.lt<|lt_ hy sb.s).e I).e sf) z z z z) ?_;rintro _ _ ⟨b4,b5⟩;have hz:=b5.one;refine Ra z<|Rw z ?_
 obtain rfl:=som<|ifF a4 hcm;exact Wr<|I_ hr (s_ q_ h_ z b4 z) z z ⟨bM (bup (bup (bM (bup (bup (bup (bup (bup h1 h4) G) ha) sb) h2) h3<|m1<|lt_ he sb.s) I) sf) hz<|m1 h1.s,ah,ng,ci,aN,aj,nk,cl,aO,z,aP,((((ak.e h2).c h3<|ds<|mnr<|a_.lt ak).e I).e sf).c hz<|j_ (al_ hn) h5.lt hy,((((al.e h2).c h3<|ds<|mnr<|a_.lt al).e I).e sf).c hz<|j_ (ar_ hn) h5.lt hy,aQ,ii z,na_ (nl_ hu) (nr_ hu)<|nj hu,aa_ (m_ (al_ hn) he)<|m_ (ar_ hn) he⟩
def Q38 (w0:World)(B:Zone)(r:Val×Int×Bool)(v:Value)(w':World):Prop:=Bw w0 w'/\un3 (λG H W=>∃I J L S1 a2 O V S2,v = .tuple #[(.agg #[vI G.number,sl I J L,sl a2 O V]),vI H,vB W]/\inI G.number/\a_ w' S1 (sl I J L) G.bytes/\a_ w' S2 (sl a2 O V) G.items/\inI H/\(S1++S2).Nodup/\(∀k∈(S1++S2),w0.z<=k)) r
theorem k_M {x1:d_}{x2:Bt}{x3:Str}{res:Val×Int×Bool}(hm:f_j n x1 x2 x3=some res)(J:B<=w0.z)(hG:Gl w0 B)(L:repS w0 B (sl A0 N0 C0) x1.rules)(O:repS w0 B (sl A6 N6 C6) x2)(a6:x3.b.length<=LEN):l_ prog 27 [(.agg #[sl A0 N0 C0]),sl A6 N6 C6,Str.v x3] w0 (Q38 w0 B res):=by
 unfold f_j at hm
 refine goG func27 z z z λfn hr=>Ws<|E z (fb z) ?_
 rintro _ wj ⟨rfl,hv⟩;have h3:=hv.below;have hw:Blk wj w0.z [sl A0 N0 C0]:=hv.blk;refine E z (fa a_4) ?_;rintro _ a8 ⟨rfl,hx⟩;have h4:=hx.below;have h5:Blk a8 wj.z [vI 0,sN,sN]:=hx.blk;refine Ra z<|Rw z<|Ws ?_
 have hy:=hw.e h4;refine R z (lN (vs:=[sl A0 N0 C0]) t_ r_ z z fid<|hy.row 0 1 z)<|RM z z ?_
 have hk:=(h3.ag B).e h4;have hl:=lt_ h3.s h4.s;obtain ⟨ra,_,a9,hmr⟩:=a_r hm;refine E z (fc call7 z<|k_F a9 (zt' J hl) (L.g hk) (O.g hk) a6) ?_;rintro _ ws ⟨G,rfl,_,hz,aa,_⟩;refine Rm z<|Re z z z<|Re z z z<|E z (fa i_S) ?_
 rintro _ ab ⟨rfl,V⟩;have h2:=V.below;have W:Blk ab ws.z [(Str.v (⟨[]⟩:Str)),vI 0,vI 0,vI 0]:=V.blk;refine E0 (fs0 (cur':=[Str.v ra.path,vI ra.rule,vI ra.start,vI ra.end_]) b_A z z W z z z z) ?_;rintro _ _ ⟨hn,ad⟩;have h1:=ad.one;refine Rw z<|Wq<|Wm z<|R z (not_ z)<|Wx z (λhcm=>?_) (λhcm=>?_)
 .refine Ws<|R z (bP (parts:=[]) (cs:=[vI 0,sN,sN]) Y_ z z)<|E0 (fs0 (cur':=[vI 0,sN,sN]) h_ z z (((h5.e G).e h2).c h1<|djs<|mm1 h5.lt G.s) z z z z) ?_
  rintro _ _ ⟨ae,ah⟩;refine Ra z<|Rw z ?_
  obtain rfl:=som<|ifT hmr hcm;exact Wr<|I_ hr (s_ q_ h_ z ae z) z z ⟨bM (bM (bup (bup (bup h3 h4) G) h2) h1<|m1<|lt_ hl G.s) ah.one<|m1 h3.s,none,0,0,[],none,0,0,[],z,ii z,onL,onL,ii z,nd0,al0⟩
 refine Wk<|Ws<|R z (lN (vs:=[sl A0 N0 C0]) t_ r_ z z fid<|(((hy.e G).e h2).c h1<|djs<|mm1 hw.lt<|lt_ h4.s G.s).row 0 1 z)<|Rf z m_t z<|R z (l0 g_3 z<|hn.at z)<|Rm z<|Rf z f_36_2 z<|R z (l0 g_3 z<|hn.at z) ?_
 have ho:=lt_ hl G.s;have Y:∀k∈[ws.z],¬B k:=or0 (c_ lr)<|k_<|zt' J ho;have a0:=((hk.e G).e h2).c h1<|b_ Y
 have hb:=lt_ (lt_ ho h2.s) h1.s;obtain ⟨rp,_,_,ai,a7⟩:=w_<|ifF hmr hcm;refine E z (fc call60 z<|W_w3e ai (zt' J hb) (((((hG.e h3).e h4).e G).e h2).c h1<|b_ Y) (L.g a0) hz (O.g a0) aa) ?_;rintro _ aj ⟨s6,ac,nd,ce,ak,af,ng,ch,al,rfl,am,a1,a2,_,_,hq,hi⟩;refine Rm z ?_
 iterate 3 refine Re z z z ?_
 refine E z (fa a_4) ?_;rintro _ an ⟨rfl,a3⟩;have H:=a3.below;refine E0 (fs0 (cur':=[vI rp.number,sl ac nd ce,sl af ng ch]) h_ z z (a3.blk:Blk an aj.z [vI 0,sN,sN]) z z z z) ?_;rintro _ _ ⟨ao,ap⟩;have I:=ap.one;refine Ra z<|Rw z<|Wq (Wd (X:=(· ∈ [wj.z])) 0 (pl_ 6 [3]) mo (by kernel_rfl) λau s7 _=>?_)
 have ht:=lt_ (lt_ G.s h2.s) h1.s;have a4:=mm1 h5.lt<|lt_ ht s6.s
 refine dR z z (lN (vs:=[vI rp.number,sl ac nd ce,sl af ng ch]) q_ h_ z z (atp a4)<|(ao.e s7).row 0 3 z)<|dR z z (fd m_t z) ?_
 have a5:=mm1 h5.lt G.s;refine dR z z (l1 g_3 z (atp a5)<|((((hn.e s6).e H).c I<|djs<|mm1 W.lt<|lt_ h1.s s6.s).e s7).at z)<|dE0 z (fs0 (cur':=[vI rp.number,sl ac nd ce,sl af ng ch]) h_ z z (((((((h5.e G).e h2).c h1<|djs a5).e s6).e H).c I<|djs a4).e s7) z z z z) (.inr λ_ _ h=>k_7 (List.mem_singleton.2 z) h.2) ?_
 rintro _ _ ⟨aq,ar⟩;have hu:=ar.one;refine dQ z z z<|dQ z z z<|pD<|Wo ?_
 obtain rfl:=som a7;exact Wr<|I_ hr (s_ q_ h_ z aq z) z z ⟨bM (bup (bM (bup (bup (bM (bup (bup (bup h3 h4) G) h2) h1<|m1 ho) s6) H) I<|m1<|lt_ hb s6.s) s7) hu<|m1 h3.s,ac,nd,ce,ak,af,ng,ch,al,z,am,(((a1.e H).c I<|ds<|mnr<|a_.lt a1).e s7).c hu<|j_ (al_ hi) h5.lt ht,(((a2.e H).c I<|ds<|mnr<|a_.lt a2).e s7).c hu<|j_ (ar_ hi) h5.lt ht,hz,na_ (nl_ hq) (nr_ hq)<|nj hq,aa_ (m_ (al_ hi) hb)<|m_ (ar_ hi) hb⟩
def Q39 (w0:World)(B:Zone)(r:Val×Bool)(v:Value)(w':World):Prop:=Bw w0 w'/\un2 (λG V=>∃H I J S1 a2 L O S2,v = .tuple #[(.agg #[vI G.number,sl H I J,sl a2 L O]),vB V]/\inI G.number/\a_ w' S1 (sl H I J) G.bytes/\a_ w' S2 (sl a2 L O) G.items/\(S1++S2).Nodup/\(∀k∈(S1++S2),w0.z<=k)) r
theorem W_w23 {x1:d_}{x2:Bt}{x3:Str}{res:Val×Bool}(hm:g_m n x1 x2 x3=some res)(a0:B<=w0.z)(hG:Gl w0 B)(V:repS w0 B (sl A0 N0 C0) x1.rules)(W:repS w0 B (sl A6 N6 C6) x2)(Y:x3.b.length<=LEN):l_ prog 8 [(.agg #[sl A0 N0 C0]),sl A6 N6 C6,Str.v x3] w0 (Q39 w0 B res):=by
 unfold g_m at hm
 refine goG func8 z z z λfn hr=>Ws<|E z (fb z) ?_
 rintro _ wh ⟨rfl,hi⟩;have G:=hi.below;refine E z (fa a_4) ?_;rintro _ wm ⟨rfl,hj⟩;have h1:=hj.below;have h2:Blk wm wh.z [vI 0,sN,sN]:=hj.blk;refine Rw z<|Ws<|R z (lN (vs:=[sl A0 N0 C0]) t_ r_ z z fid<|((hi.blk:Blk wh w0.z [sl A0 N0 C0]).e h1).row 0 1 z)<|RM z z ?_
 have hk:=(G.ag B).e h1;have h3:=lt_ G.s h1.s;obtain ⟨re,_,_,eq,hmr⟩:=w_ hm;refine E z (fc call27 z<|k_M eq (zt' a0 h3) ((hG.e G).e h1) (V.g hk) (W.g hk) Y) ?_;rintro _ ws ⟨s4,H,I,J,St,L,O,ca,Su,rfl,hv,hl,hn,_,hf,hb⟩;refine Rm z ?_
 iterate 3 refine Re z z z ?_
 refine E z (fa a_4) ?_;rintro _ ww ⟨rfl,ho⟩;have hc:=ho.below;refine E0 (fs0 (cur':=[vI re.number,sl H I J,sl L O ca]) h_ z z (ho.blk:Blk ww ws.z [vI 0,sN,sN]) z z z z) ?_;rintro _ _ ⟨hy,sz⟩;have hd:=sz.one;refine Ra z<|Rw z<|Ws<|R z (lN (vs:=[vI re.number,sl H I J,sl L O ca]) q_ h_ z z fid<|hy.row 0 3 z)<|Rm z<|E0 (fs0 (cur':=[vI re.number,sl H I J,sl L O ca]) h_ z z (((h2.e s4).e hc).c hd<|djs<|mm1 h2.lt s4.s) z z z z) ?_
 rintro _ _ ⟨a1,a2⟩;have hg:=a2.one;refine Rw z ?_
 obtain rfl:=som hmr;exact Wr<|a_l hr (s_ q_ h_ z a1 z) z ⟨bM (bM (bup (bup (bup G h1) s4) hc) hd<|m1<|lt_ h3 s4.s) hg<|m1 G.s,H,I,J,St,L,O,ca,Su,z,hv,((hl.e hc).c hd<|ds<|mnr<|a_.lt hl).c hg<|j_ (al_ hb) h2.lt lr,((hn.e hc).c hd<|ds<|mnr<|a_.lt hn).c hg<|j_ (ar_ hb) h2.lt lr,na_ (nl_ hf) (nr_ hf)<|nj hf,aa_ (m_ (al_ hb) h3)<|m_ (ar_ hb) h3⟩
theorem W_w3f {x1:Str}{x2:UInt8}{res:(List Str)}(hm:h_r n x1 x2=some res)(aM:B<=w0.z)(Y:x1.b.length<=LEN):l_ prog 61 [Str.v x1,vU<|byteI x2] w0 (Q20 w0 B res):=by
 unfold h_r at hm
 refine goG func61 z z z λfn hr=>Ws<|Rw z<|Ws<|E z (f0 (α:=Str) b_5) ?_
 rintro _ H ⟨ah,aj,ak,rfl,ss,al⟩;refine Rw z<|Ws<|Rw z<|Wq<|Ws<|Rw z ?_
 obtain ⟨_,a4,hmr⟩:=bdS hm;refine c_f (σ:=(List Str)×Int×Int) (ρ:=List Str) (λs a w=>un3 (λW V x3=>∃a2 J L G,Sat 36 [(0,Str.v x1),(1,vU<|byteI x2),(5,sl a2 J L),(6,vI V),(7,vI x3)] a/\Cg [w0.z] H w/\a_ w G (sl a2 J L) W/\G.Nodup/\(∀k∈G,k∈[w0.z]∨H.z<=k)/\inI V/\inI x3) s) (λs a w=>un3 (λW V x3=>∃a2 J L G,Sat 36 [(5,sl a2 J L)] a/\Cg [w0.z] H w/\a_ w G (sl a2 J L) W/\G.Nodup/\(∀k∈G,k∈[w0.z]∨H.z<=k)/\inI V/\inI x3) s) (rQ prog fn<|Q20 w0 B) a4 ?_ ?_ ?_ ?_
 .exact λ_ q=>⟨ah,aj,ak,[w0.z],q.k<|s5 z z z z z,cr [w0.z] H,al,a_y,io sr,ii z,ii z⟩
 .rintro ⟨W,V,x3⟩ _ wa _ ⟨a2,J,L,G,a5,sm,hc,hd,hf,hl,hv⟩ a6;have hmw:=b_s a6;refine Wu ?_ a5;refine Wq<|Wm z<|Rm z<|R z (lnT d_9 z)<|R z (c_5 z z)<|Wx z (λhcn=>?_) (λhcn=>?_)
  .refine Wk<|Wq<|Wb<|Wq ?_
   obtain ⟨am,hux,a7⟩:=bdS<|ifT hmw hcn;refine Wt (λa w=>∃(xo:Bool),xo=am/\Sat 36 [(0,Str.v x1),(1,vU<|byteI x2),(5,sl a2 J L),(6,vI V),(7,vI x3),(25,vB xo)] a/\Below wa.z wa w) ?_ ?_
   .refine Wg<|RM z z<|R z (lnT d_9 z)<|Rq z z z<|Rm z ?_
    rcases bs (x3==(x1.b.length:Int)) with I | I
    .iterate 5 refine Nh z I ?_
     exact R z (pT z I z)<|Wl (λ_ q=>⟨true,som<|ifT hux I,q.k<|s6 z z z z z z,br wa⟩)
    refine Rh z I (mv z)<|Rh z I (mv z) ?_
    obtain ⟨an,ey,a8⟩:=bdS<|ifF hux I;exact Rh z I (c_i d_9 z z (a_E ey).1 (a_E ey).2.1)<|Rh z I (mv z)<|Rh z I (eql z z)<|R z (pF z I z)<|Wl (λ_ q=>⟨(byteI an)==(byteI x2),som a8,q.k<|s6 z z z z z z,br wa⟩)
   rintro ao O ⟨xo,rfl,_,sg⟩;revert ao;refine Wo ?_;obtain ⟨ap,huz,a9⟩:=bdS a7;refine Wt (λa w=>∃(xh:List Str)(xe:Int),(xh,xe)=ap/\∃ai nj ck Sb,Sat 36 [(0,Str.v x1),(1,vU<|byteI x2),(5,sl ai nj ck),(6,vI xe),(7,vI x3)] a/\Cg G O w/\a_ w Sb (sl ai nj ck) xh/\Sb.Nodup/\(∀k∈Sb,k∈G∨O.z<=k)/\inI xe) ?_ ?_
   .refine Wc z (λhcp=>?_)<|λhcp=>?_
    .refine Wm z<|RM z z<|Rm z ?_
     obtain ⟨aq,eq,aa⟩:=bdS<|ifT huz hcp;refine R z (h_0 d_9 z z z Y eq)<|E z (fS [(.tmp 30)] b_5 z z z (a_e z) (lb z)<|lb z) ?_
     rintro _ a0 ⟨rfl,ht⟩;have hu:=ht.below;have aN:=a_J ht<|c_b<|f_w eq Y
     obtain ⟨ar,au,ab⟩:=bdS aa;refine E z (a_X (α:=Str) b_5 au z z ((hc.e sg).e hu) hd (ht.blk:Blk a0 O.z [Str.v aq]) (c_b<|f_w eq Y) an_ G_) ?_;rintro _ av ⟨a1,aw,ax,ay,rfl,az,aA,aB,aC⟩;refine Rw z<|Wg<|Rm z<|R z (add_ z z)<|Ra z<|Wl ?_
     exact λ_ q=>⟨ar,i_ x3 1,som ab,aw,ax,ay,a1,q.k<|s5 z z z z z,(cM (f_ (cr G O) hu:Cg G O a0) az (io sr):Cg G O av),aA,aB,(or2 aC (io sr) an_ (B_ hu.s):∀k∈a1,k∈G∨O.z<=k),iA _ _⟩
    exact a_k<|λ_ q=>⟨W,V,som<|ifF huz hcp,a2,J,L,G,q.k<|s5 z z z z z,cr G O,hc.e sg,hd,io sr,hl⟩
   rintro aD aE ⟨xh,xe,rfl,ai,nj,ck,Sb,_,aF,aG,aH,aI,aJ⟩;revert aD;refine Wo<|Wg<|Rm z<|R z (add_ z z)<|Ra z<|Wl ?_
   have a3:∀k∈G,k∈[w0.z]∨H.z<=k:=or1 hf (io sr)<|B_ lr;exact λ_ q=>⟨(xh,xe,i_ x3 1),(som<|a_O a9).symm,⟨ai,nj,ck,Sb,q.k<|s5 z z z z z,(cM (f_ (cM (cr [w0.z] H) sm (io sr):Cg [w0.z] H wa) sg:Cg [w0.z] H O) aF a3:Cg [w0.z] H aE),aG,aH,(or1 aI a3 (B_<|lt_ sm.s sg.s):∀k∈Sb,k∈[w0.z]∨H.z<=k),aJ,iA _ _⟩⟩
  exact We<|λ_ q=>b_N (som<|ifF hmw hcn).symm ⟨a2,J,L,G,q.k<|s1 z,(cM (cr [w0.z] H) sm (io sr):Cg [w0.z] H wa),hc,hd,(or1 hf (io sr) (B_ lr):∀k∈G,k∈[w0.z]∨H.z<=k),hl,hv⟩
 .rintro ⟨W,V,x3⟩ aK _ rfl ⟨a2,J,L,G,_,aL,hc,hd,hf,hl,hv⟩;have ad:=elL hmr;revert aK;refine Wo<|Wm z<|Rw z ?_
  obtain rfl:=som<|b_s ad;exact Wr<|e_ hr z ⟨bM ss aL<|c_ lr,a2,J,L,G,z,hc,hd,(or1 hf (c_ lr) (b_o ss.s):∀k∈G,w0.z<=k)⟩
 rintro _ _ _ _ rfl ⟨rfl,ae⟩;have af:=elR hmr;obtain rfl:=som af;exact ⟨ae,z⟩
theorem W_w3g {x1:Str}{res:Int×Bool}(hm:h_s n x1=some res)(I:B<=w0.z)(V:x1.b.length<=LEN):l_ prog 101 [Str.v x1] w0 (Q21 w0 B res):=by
 unfold h_s at hm
 refine goG func101 z z z λfn hr=>Ws<|Ra z<|Rw z<|Wq<|Wm z<|R z (lnT d_9 z) ?_
 obtain ⟨_,en,hmc⟩:=bdS hm;refine E z (fc call50 z<|b_t (B:=B) en I (b_0 V) (ii z)<|ii z) ?_;rintro _ H ⟨s4,rfl⟩;refine R z (not_ z)<|Wx z (λJ=>?_) (λJ=>?_)
 .refine Ws<|Ra z<|Rw z ?_
  obtain rfl:=som<|ifT hmc J;exact Wr<|a_l hr z z ⟨s4,z,ii z⟩
 refine Wk<|Ws<|Rw z<|Wq<|Ws<|Rw z ?_
 obtain ⟨_,huo,hmd⟩:=bdS<|ifF hmc J;refine Wf (σ:=Int) (ρ:=Int×Bool) (λ(ke:Nat)(x0:Int) a w=>Sat 39 [(0,Str.v x1),(4,vI x0),(5,vI ((ke:Nat):Int))] a/\Below H.z H w/\inI x0) (λ(x0:Int) a w=>Sat 39 [(0,Str.v x1),(4,vI x0)] a/\Below H.z H w/\inI x0) (rQ prog fn<|Q21 w0 B) huo ?_ ?_ ?_ ?_ ?_
 .exact λ_ q=>⟨q.k<|s3 z z z,br H,ii z⟩
 .rintro ke x0 _ _ _ hkf ⟨hSp,s6,h3⟩ hmq;refine Wu ?_ hSp;refine Wq<|Wm z<|Rm z<|R z (lnT d_9 z)<|Rl z z z<|Wx z (λ_=>?_) (λhc=>(a_6 hkf hc).elim)
  refine Wk<|Wq<|Wb<|Wq<|Wm z<|Rm z ?_
  obtain ⟨_,eg,hmr⟩:=bdS hmq;refine R z (c_i d_9 z z (a_E eg).1 (a_E eg).2.1)<|R z (b_W d_5 d_3 z) ?_
  obtain ⟨_,es,hmh⟩:=bdS hmr;refine E z (fc call50 z<|b_t es (zt' I<|lt_ s4.s s6.s) (k_4 _) (ii z)<|ii z) ?_;rintro _ _ ⟨si,rfl⟩;refine R z (not_ z)<|Wx z (λL=>?_) (λL=>?_)
  .exact Ws<|Ra z<|Rw z<|Wr<|rtO<|qL (som<|ifT hmh L).symm<|a_l hr z z ⟨bup (bup s4 s6) si,z,ii z⟩
  refine Wk<|Wg<|Rm z<|R z (c_K z z)<|RM z z ?_
  obtain ⟨xt,ej,hmu⟩:=bdS<|ifF hmh L;exact R z (c_i d_9 z z (a_E ej).1 (a_E ej).2.1)<|R z (m_g z z)<|R z (b_W d_5 d_3 z)<|R z (add_ z z)<|Rw z<|Wg<|Rm z<|R z (inc_ hkf (lt_ V M_) z z)<|Ra z<|Wl (λ_ q=>⟨i_ (a_f 10 x0)<|byteI<|mkB (byteI xt - byteI (48:UInt8)),(som hmu).symm,⟨q.k<|s3 z z z,bup s6 si,iA _ _⟩⟩)
 .rintro x0 _ _ ⟨hSv,sw,h3⟩;refine Wu ?_ hSv;refine Wq<|Wm z<|Rm z<|R z (lnT d_9 z)<|Rl z z z<|Wx z (λhc=>(a_7 hc).elim) (λ_=>?_)
  exact We<|λ_ q=>⟨rfl,⟨q.k<|s2 z z,sw,h3⟩⟩
 .rintro x0 ax O rfl ⟨_,s9,h3⟩;have hmy:=elL hmd;revert ax;refine Wo<|Wq<|Wq ?_
  obtain ⟨uz,huk,hml⟩:=bdS hmy;refine Wt (λa w=>∃(xa:Bool),xa=uz/\Sat 39 [(4,vI x0),(37,vB xa)] a/\Below O.z O w) ?_ ?_
  .refine Wg<|Rm z<|R z (a_g z z)<|Rm z ?_
   rcases bs (decide<|1000000000000<x0) with G | G
   .iterate 4 refine Nh z G ?_
    exact R z (pT z G z)<|Wl (λ_ q=>⟨true,som<|ifT huk G,q.k<|s2 z z,br O⟩)
   refine Rh z G (mv z) ?_;obtain ⟨a1,a2,W⟩:=bdS<|ifF huk G;refine Eg z z G z (fc call68 z<|e_T a2 (zt' I<|lt_ s4.s s9.s) h3) ?_;rintro _ _ ⟨a3,rfl,_⟩;exact Rh z G (mv z)<|Rh z G (j_d z z)<|R z (pF z G z)<|Wl (λ_ q=>⟨a1.b != x1.b,som W,q.k<|s2 z z,a3⟩)
  rintro a4 _ ⟨xa,rfl,_,sm⟩;revert a4;refine Wo<|Wc z (λhcb=>?_) (λhcb=>?_)
  .refine Ws<|Ra z<|Rw z ?_
   obtain rfl:=som<|ifT hml hcb;exact Wr<|a_l hr z z ⟨bup (bup s4 s9) sm,z,ii z⟩
  refine Wk<|Wm z<|Ra z<|Rw z ?_
  obtain rfl:=som<|ifF hml hcb;exact Wr<|a_l hr z z ⟨bup (bup s4 s9) sm,z,h3⟩
 rintro _ _ _ _ rfl ⟨rfl,Y⟩;have a0:=elR hmd;obtain rfl:=som a0;exact ⟨Y,z⟩
theorem W_w3h {x1:Str}{res:Bool}(hm:f_9 n x1=some res)(L:B<=w0.z)(Y:x1.b.length<=LEN):l_ prog 62 [Str.v x1] w0 (Q0 w0 B res):=by
 unfold f_9 at hm
 refine goG func62 z z z λfn hr=>Ws<|Rw z<|Wq<|Wq ?_
 obtain ⟨ug,huh,hma⟩:=bdS hm;refine Wt (λa w=>∃(x6:Bool),x6=ug/\Sat 31 [(0,Str.v x1),(18,vB x6)] a/\Below w0.z w0 w) ?_ ?_
 .refine Wg<|Rm z ?_
  obtain ⟨ri,ej,hmb⟩:=bdS huh;refine E z (fc call100 z<|k_l (B:=B) ej L Y) ?_;rintro _ _ ⟨s4,rfl⟩;refine Rm z ?_
  rcases bs ri with H | H
  .exact Nh z H<|Nh z H<|R z (pT z H z)<|Rm z<|Nh z z<|Nh z z<|R z (pT z z z)<|Rm z<|Nh z z<|Nh z z<|R z (pT z z z)<|Wl (λ_ q=>⟨true,som<|ifT hmb H,q.k<|s2 z z,s4⟩)
  have hmc:=ifF hmb H;refine Rh z H (mv z)<|Rh z H (b_C z z)<|R z (pF z H z)<|Rm z ?_
  rcases bs (x1.b==(⟨[42]⟩:Str).b) with I | I
  .exact Nh z I<|Nh z I<|R z (pT z I z)<|Rm z<|Nh z z<|Nh z z<|R z (pT z z z)<|Wl (λ_ q=>⟨true,som<|ifT hmc I,q.k<|s2 z z,s4⟩)
  have hmd:=ifF hmc I;refine Rh z I (mv z)<|Rh z I (b_C z z)<|R z (pF z I z)<|Rm z ?_
  rcases bs (x1.b==(⟨[63]⟩:Str).b) with J | J
  .exact Nh z J<|Nh z J<|R z (pT z J z)<|Wl (λ_ q=>⟨true,som<|ifT hmd J,q.k<|s2 z z,s4⟩)
  exact Rh z J (mv z)<|Rh z J (b_C z z)<|R z (pF z J z)<|Wl (λ_ q=>⟨x1.b==(⟨[43]⟩:Str).b,som<|ifF hmd J,q.k<|s2 z z,s4⟩)
 rintro ak _ ⟨x6,rfl,_,s5⟩;revert ak;refine Wo<|Wc z (λO=>?_) (λO=>?_)
 .refine Ws<|Rw z ?_
  obtain rfl:=som<|ifT hma O;exact Wr<|e_ hr z ⟨s5,z⟩
 refine Wk<|Wm z ?_
 obtain ⟨_,rl,em,hmn⟩:=a_r<|ifF hma O;refine E z (fc call101 z<|W_w3g em (zt' L s5.s) Y) ?_;rintro _ V ⟨se,rfl,ho⟩;refine Rm z<|Re z z z<|Re z z z<|Ra z<|Rw z<|Wq ?_
 obtain ⟨up,huf,hmq⟩:=bdS hmn;refine Wt (λa w=>∃(W:Bool),W=up/\Sat 31 [(2,vB W)] a/\Below V.z V w) ?_ ?_
 .refine Wg<|RM z z ?_
  rcases bs rl with G | G
  .refine Rh z G (mv z) ?_;obtain ⟨rr,es,hmt⟩:=bdS<|ifT huf G;refine Eg z z G z (fc call68 z<|e_T es (zt' L<|lt_ s5.s se.s) ho) ?_;rintro _ _ ⟨su,rfl,_⟩;exact Rh z G (mv z)<|Rh z G (b_C z z)<|R z (pT z G z)<|Ra z<|Wl (λ_ q=>⟨rr.b==x1.b,som hmt,q.k<|s1 z,su⟩)
  iterate 4 refine Nh z G ?_
  exact R z (pF z G z)<|Ra z<|Wl (λ_ q=>⟨false,som<|ifF huf G,q.k<|s1 z,br V⟩)
 rintro av _ ⟨W,rfl,_,sw⟩;revert av;refine Wo ?_;obtain rfl:=som hmq;exact Wr<|e_ hr z ⟨bup (bup s5 se) sw,z⟩
def Q40 (w0:World)(B:Zone)(r:(List Str)×Bool)(v:Value)(w':World):Prop:=Bw w0 w'/\un2 (λJ L=>∃G H I,v = .tuple #[sl G H I,vB L]/\repS w' (zn B w0.z w'.z) (sl G H I) J) r
theorem W_w3i {x1:Str}{res:(List Str)×Bool}(hm:g_1 n x1=some res)(O:B<=w0.z)(V:x1.b.length<=LEN):l_ prog 28 [Str.v x1] w0 (Q40 w0 B res):=by
 unfold g_1 at hm
 refine goG func28 z z z λfn hr=>Ws<|Ra z<|Rw z<|Wq<|Wm z<|R z (b_C z z)<|Wx z (λI=>?_) (λI=>?_)
 .refine Ws<|E z (f0 (α:=Str) b_5) ?_
  rintro _ _ ⟨aq,nr,cs,rfl,st,hc⟩;refine Ra z<|Rw z ?_
  obtain rfl:=som<|ifT hm I;exact Wr<|a_l hr z z ⟨st,aq,nr,cs,z,or_ hc<|zin (B:=B) (c_ lr)<|a_.lt hc⟩
 refine Wk<|Wm z ?_
 obtain ⟨_,eu,hmv⟩:=bdS<|ifF hm I;refine E z (fc call61 z<|W_w3f (B:=B) eu O V) ?_;rintro _ H ⟨s3,ad,ne,cf,_,rfl,G,_,h4⟩;refine Rw z<|Wq<|Wm z ?_
 obtain ⟨_,ew,hmg⟩:=bdS hmv;refine RX z (at_ (α:=Str) a_n z_9 z z z (or_ G<|zin (B:=B) h4<|a_.lt G) ew) ?_;rintro _ ⟨_,_,_,rfl,hx,hy,_⟩;obtain ⟨rfl,_⟩:=b_K hy;refine R z (l0 g_9 z<|hx.at0 z)<|R z (j_d z z)<|Wx z (λJ=>?_) (λJ=>?_)
 .refine Ws<|E z (f0 (α:=Str) b_5) ?_
  rintro _ _ ⟨az,a5,a6,rfl,a7,hh⟩;refine Ra z<|Rw z ?_
  obtain rfl:=som<|ifT hmg J;exact Wr<|a_l hr z z ⟨bup s3 a7,az,a5,a6,z,repS.mono (or_ hh<|zin (B:=B) (c_ lr)<|a_.lt hh)<|k_Z s3.s lr⟩
 refine Wk<|Wq<|Ws<|Rw z ?_
 obtain ⟨_,W,hmi⟩:=bdS<|ifF hmg J;refine c_f (σ:=Int) (ρ:=(List Str)×Bool) (λ(x2:Int) a w=>Sat 34 [(4,sl ad ne cf),(5,vI x2)] a/\Below H.z H w/\inI x2) (λ(x2:Int) a w=>Sat 34 [(4,sl ad ne cf)] a/\Below H.z H w/\inI x2) (rQ prog fn<|Q40 w0 B) W ?_ ?_ ?_ ?_
 .exact λ_ q=>⟨q.k<|s2 z z,br H,ii z⟩
 .rintro x2 _ _ _ ⟨Y,s5,hj⟩ hmk;refine Wu ?_ Y;refine Wq<|Wm z<|Rm z ?_
  have hl:=G.e s5;refine R z (lnR a_n z<|or_ hl<|zin (B:=B) h4<|a_.lt G)<|Rl z z z<|Wx z (λL=>?_) (λL=>?_)
  .refine Wk<|Wq<|Wb<|Wm z<|Rm z ?_
   obtain ⟨_,a8,a0⟩:=bdS<|ifT hmk L;refine RX z (at_ (α:=Str) a_n z_9 z z z (or_ hl<|zin (B:=B) h4<|a_.lt G) a8) ?_;rintro _ ⟨_,_,_,rfl,a9,aa,_⟩;obtain ⟨rfl,ab⟩:=b_K aa;refine R z (l0 g_9 z<|a9.at0 z) ?_;have hn:=lt_ s3.s s5.s;obtain ⟨_,ae,hmm⟩:=bdS a0;refine E z (fc call62 z<|W_w3h ae (zt' O hn) ab) ?_;rintro _ _ ⟨s9,rfl⟩;refine R z (not_ z)<|Wx z (λhca=>?_) (λhca=>?_)
   .refine Ws<|E z (f0 (α:=Str) b_5) ?_
    rintro _ _ ⟨af,ah,ai,rfl,aj,ho⟩;exact Ra z<|Rw z<|Wr<|rtO<|qL (som<|ifT hmm hca).symm<|a_l hr z z ⟨bup (bup (bup s3 s5) s9) aj,af,ah,ai,z,repS.mono (or_ ho<|zin (B:=B) (c_ lr)<|a_.lt ho)<|k_Z (lt_ hn s9.s) lr⟩
   exact Wk<|Wg<|Rm z<|R z (add_ z z)<|Ra z<|Wl (λ_ q=>⟨i_ x2 1,(som<|ifF hmm hca).symm,⟨q.k<|s2 z z,bup s5 s9,iA _ _⟩⟩)
  exact We<|λ_ q=>b_N (som<|ifF hmk L).symm ⟨q.k<|s1 z,s5,hj⟩
 .rintro x2 ak _ rfl ⟨_,sb,hj⟩;have a1:=elL hmi;revert ak;refine Wo<|Wm z ?_
  obtain ⟨_,al,a2⟩:=bdS a1;have hp:=G.e sb;refine RX z (rX a_n z_9 z z (or_ hp<|zin (B:=B) h4<|a_.lt G) z z al) ?_;rintro _ ⟨am,an,ao,rfl,ap⟩;refine Rm z<|R z (lnR a_n z<|or_ hp<|zin (B:=B) h4<|a_.lt G)<|R z (a_g z z)<|Ra z<|Rw z ?_
  obtain rfl:=som a2;exact Wr<|a_l hr z z ⟨bup s3 sb,am,an,ao,z,repS.mono ap<|k_Z lr sb.s⟩
 rintro _ _ _ _ rfl ⟨rfl,a3⟩;have a4:=elR hmi;obtain rfl:=som a4;exact ⟨a3,z⟩
theorem W_w3j {x1:d_}{x2:Int}{x3:Val}{x4:Str}{res:Int}(hm:f_p n x1 x2 x3 x4=some res)(V:B<=w0.z)(O:repS w0 B (sl A0 N0 C0) x1.rules)(W:inI x2)(aD:inI x3.number)(aE:repS w0 B (sl A7 N7 C7) x3.bytes)(Y:repS w0 B (sl A8 N8 C8) x3.items)(aF:x4.b.length<=LEN):l_ prog 30 [(.agg #[sl A0 N0 C0]),vI x2,.agg #[vI x3.number,sl A7 N7 C7,sl A8 N8 C8],Str.v x4] w0 (Q9 w0 B res):=by
 unfold f_p at hm
 refine goG func30 z z z λfn hr=>Ws<|E z (fb z) ?_
 rintro _ J ⟨rfl,hg⟩;have h5:=hg.below;have hh:Blk J w0.z [sl A0 N0 C0]:=hg.blk;refine E z (fb z) ?_;rintro _ I ⟨rfl,hi⟩;have h4:=hi.below;refine Rw z<|Wq<|Ws<|Rw z ?_
 obtain ⟨_,hus,hmj⟩:=bdS hm;refine c_f (σ:=Int) (ρ:=Int) (λ(x0:Int) a w=>Sat 38 [(1,vI x2),(3,Str.v x4),(4,pt w0.z),(6,pt J.z),(9,vI x0)] a/\Below I.z I w/\inI x0) (λ(x0:Int) a w=>Sat 38 [] a/\Below I.z I w/\inI x0) (rQ prog fn<|Q9 w0 B) hus ?_ ?_ ?_ ?_
 .exact λ_ q=>⟨q.k<|s5 z z z z z,br I,ii z⟩
 .rintro x0 _ wb _ ⟨hSu,s1,L⟩ hmv;refine Wu ?_ hSu;refine Wq<|Wq ?_
  obtain ⟨uw,huk,hml⟩:=bdS hmv;refine Wt (λa w=>∃(xc:Bool),xc=uw/\Sat 38 [(1,vI x2),(3,Str.v x4),(4,pt w0.z),(6,pt J.z),(9,vI x0),(20,vB xc)] a/\Below wb.z wb w) ?_ ?_
  .refine Wg<|Rm z<|Rf z V_ z<|R z (l0 a_9 z<|((hi.blk:Blk I J.z [vI x3.number,sl A7 N7 C7,sl A8 N8 C8]).e s1).at z) ?_
   have hn:=((h5.ag B).e h4).e s1;refine R z (lnR a_i z<|Y.g hn)<|Rl z z z<|Rm z ?_
   rcases bs (decide<|x0<(x3.items.length:Int)) with G | G
   .refine Rh z G (lN (vs:=[sl A0 N0 C0]) t_ r_ z z fid<|((hh.e h4).e s1).row 0 1 z)<|Rh z G (mv z) ?_
    obtain ⟨rx,ey,hmz⟩:=bdS<|ifT huk G;refine Eg z z G z (fc call49 z<|i_V ey (zt' V<|lt_ (lt_ h5.s h4.s) s1.s) (O.g hn) W) ?_;rintro _ _ ⟨a5,rfl⟩;exact R z (pT z G z)<|Wl (λ_ q=>⟨rx,som hmz,q.k<|s6 z z z z z z,a5⟩)
   iterate 3 refine Nh z G ?_
   exact R z (pF z G z)<|Wl (λ_ q=>⟨false,som<|ifF huk G,q.k<|s6 z z z z z z,br wb⟩)
  rintro a6 _ ⟨xc,rfl,_,s7⟩;revert a6;refine Wo<|Wc z (λhcd=>?_) (λhcd=>?_)
  .refine Wk<|Wq<|Wb<|Ws<|Rf z a_3 z<|R z (l0 a_8 z<|(((hh.e h4).e s1).e s7).at z)<|Rm z ?_
   obtain ⟨a7,a8,a0⟩:=bdS<|ifT hml hcd;refine RX z (at_ (α:=g_) a_a o_ z z z (O.g<|(((h5.ag B).e h4).e s1).e s7) a8) ?_;rintro _ ⟨_,_,_,rfl,a9,aa,_⟩;obtain ⟨ab,ad,ae,af,ah,ai,aj,ak,al,am,an,ao,rfl,ap,aq,ar,au,av,aw,ax⟩:=a_D aa;refine R z (lN (vs:=vR a7 ab ad ae af ah ai aj ak al am an ao) L_ o_ z z fid a9)<|Rm z ?_
   obtain ⟨rm,ay,a1⟩:=bdS a0;refine E z (fc call64 z<|W_w1m ay (zt' V<|lt_ (lt_ (lt_ h5.s h4.s) s1.s) s7.s) ap aq ar au av aw ax L) ?_;rintro _ wa ⟨so,rfl,_⟩;refine Rw z<|Wq ?_
   obtain ⟨az,hup,hmq⟩:=bdS a1;refine Wt (λa w=>∃(xe:Bool),xe=az/\Sat 38 [(1,vI x2),(3,Str.v x4),(4,pt w0.z),(6,pt J.z),(9,vI x0),(36,vB xe)] a/\Below wa.z wa w) ?_ ?_
   .refine Wg<|Rm z<|R z (j_d z z)<|Rm z ?_
    rcases bs (rm.b != (⟨[]⟩:Str).b) with H | H
    .exact Rh z H (mv z)<|Rh z H (mv z)<|Rh z H (b_C z z)<|R z (pT z H z)<|Wl (λ_ q=>⟨rm.b==x4.b,som<|ifT hup H,q.k<|s6 z z z z z z,br wa⟩)
    iterate 3 refine Nh z H ?_
    exact R z (pF z H z)<|Wl (λ_ q=>⟨false,som<|ifF hup H,q.k<|s6 z z z z z z,br wa⟩)
   rintro aA _ ⟨xe,rfl,_,sr⟩;revert aA;refine Wo<|Wc z (λhcf=>?_) (λhcf=>?_)
   .exact Wm z<|Rw z<|Wr<|rtO<|qL (som<|ifT hmq hcf).symm<|e_ hr z ⟨bup (bup (bup (bup (bup h5 h4) s1) s7) so) sr,z,L⟩
   exact Wk<|Wg<|Rm z<|R z (add_ z z)<|Ra z<|Wl (λ_ q=>⟨i_ x0 1,(som<|ifF hmq hcf).symm,⟨q.k<|s5 z z z z z,bup (bup (bup s1 s7) so) sr,iA _ _⟩⟩)
  exact We<|λ_ q=>b_N (som<|ifF hml hcd).symm ⟨q.k sn,bup s1 s7,L⟩
 .rintro x0 aB _ rfl ⟨_,aC,L⟩;have a2:=elL hmj;revert aB;refine Wo<|Ws<|Rw z ?_
  obtain rfl:=som a2;exact Wr<|e_ hr z ⟨bup (bup h5 h4) aC,z,ii z⟩
 rintro _ _ _ _ rfl ⟨rfl,a3⟩;have a4:=elR hmj;obtain rfl:=som a4;exact ⟨a3,z⟩
structure k_N (f:Val->Option Val):Prop where
  run:∀{A4 AG:Option Addr}{N4 C4 NG CG:Nat}{B:Zone}{x1:Val}{res:Val}{w0:World}(hm:f x1=some res)(hBw:B<=w0.z)(p1_0:inI x1.number)(p1_1:repS w0 B (sl A4 N4 C4) x1.bytes)(p1_2:repS w0 B (sl AG NG CG) x1.items),l_ prog 32 [(.agg #[vI x1.number,sl A4 N4 C4,sl AG NG CG])] w0<|Q12 w0 B res
abbrev m_C (n:Nat):Prop:=k_N (e_e n).spec_CopyValue
theorem T_w0k (bT:m_C n):k_N (e_L n<|e_e n):=by
 constructor
 intro A4 AG N4 C4 NG CG B x1 res w0 hm a8 a4 a5 V;unfold e_L at hm
 refine goG func32 z z z λfn hr=>Ws<|E z (fb z) ?_
 rintro _ wk ⟨rfl,aE⟩;have O:=aE.below;have hb:Blk wk w0.z [vI x1.number,sl A4 N4 C4,sl AG NG CG]:=aE.blk;refine E z (fa a_4) ?_;rintro _ wa ⟨rfl,aF⟩;have h3:=aF.below;have hu:Blk wa wk.z [vI 0,sN,sN]:=aF.blk;refine Wn<|Wq ?_
 obtain ⟨bU,a7,bD⟩:=bdS hm;refine Wt (λa w=>∃(xc:Int)(a9:Bt)(aa:List Val),(xc,a9,aa)=bU/\∃ad ne cf Sj W Y a0 G g1,Sat 31 [(1,pt w0.z),(2,pt wk.z),(3,pt g1)] a/\Below wa.z wa w/\inI xc/\a_ w Sj (sl ad ne cf) a9/\Sj.Nodup/\(∀k∈Sj,wa.z<=k)/\a_ w G (sl W Y a0) aa/\G.Nodup/\(∀k∈G,wa.z<=k)/\(∀k∈G,k∉Sj)/\Blk w g1 [vI xc,sl ad ne cf,sl W Y a0]/\wa.z<=g1/\(∀k∈Sj,k∉[g1])/\(∀k∈G,k∉[g1])) ?_ ?_
 .refine Wd (X:=λk=>k∈([]:List Nat)∨wa.z<=k) 256 (.rd 0<|.rd 1<|.rd 3<|.rd 4<|.br 2 (.br 5 (.rd 6<|.ef 7<|.ef 8 .done) 7<|.ef 5<|.rd 6<|.ef 8 .done) 7<|.ef 2<|.ef 5<|.rd 6<|.ef 8 .done) mo (by kernel_rfl) λwr s5 _=>dR z z (fd a_S z) ?_
  have aG:=(hb.e h3).e s5;refine dR z z (l1 g_3 z (a_t nm0<|Nat.lt_of_lt_of_le hb.lt h3.s)<|aG.at z)<|dR z z (fd a_T z)<|dR z z (l1 R_ z (a_t nm0<|Nat.lt_of_lt_of_le hb.lt h3.s)<|aG.at z)<|d_D ?_ ?_
  .refine dE z z (f0 (α:=UInt8) a_2) (.inr λ_ _ h=>p_ (by obtain ⟨_,_,_,_,h,_⟩:=h;exact h)) ?_;rintro _ ab ⟨_,_,_,rfl,sm,ae⟩;refine d_D ?_ ?_
   .obtain ⟨bV,bW,bE⟩:=bdS a7;refine dE z z (fN (α:=UInt8) a_2 bW z z ae a_y<|a5.g<|(((O.ag B).e h3).e s5).e sm) (.inr λ_ _ h=>by obtain ⟨_,_,_,_,_,h,_⟩:=h;exact h.mono λk _ hk=>(mor s5.s:∀k∈[wr.z],k∈([]:List Nat)∨wa.z<=k) k hk) ?_;rintro _ aH ⟨bX,af,ah,ai,rfl,aI,aJ,bY,bZ⟩;refine dR z z (bP (parts:=[(0,.tmp 6),(1,.tmp 10)]) (cs:=[vI x1.number,sl af ah ai,sN]) Y_ z z)<|dE z z (fa a_4) (.inr λ_ _ h=>p_<|h.2.below) ?_
    rintro _ c0 ⟨rfl,aK⟩;have aL:=aK.below;have aM:=lt_ s5.s sm.s;have aj:=m1<|lt_ aM aI.s
    refine dE0 z (fs0 (cur':=[vI x1.number,sl af ah ai,sN]) h_ z z (aK.blk:Blk c0 aH.z [vI 0,sN,sN]) z z z z) (.inr λ_ _ h=>c_d (atp aj) h.2) ?_;rintro _ _ ⟨c1,c2⟩;have aN:=c2.one;refine pD ?_;have aO:=mnr<|a_.lt aJ
    have aP:=m1 s5.s;exact λ_ q=>⟨x1.number,bV,([]:List Val),som bE,af,ah,ai,bX,none,0,0,[],aH.z,q.k<|s3 z z z,bM (bup (bM (bup s5 sm) aI aP) aL) aN aj,a4,(aJ.e aL).c aN<|ds aO,bY,a_s bZ aP aM,onL,G_,an_,an_,c1,atp aj,ds aO,an_⟩
   refine dE z z (fa a_4) (.inr λ_ _ h=>p_<|h.2.below) ?_;rintro _ c3 ⟨rfl,aQ⟩;have a1:=aQ.below;have aR:Blk c3 ab.z [vI 0,sN,sN]:=aQ.blk;obtain ⟨c4,c5,bF⟩:=bdS a7;refine dE z z (fN (α:=UInt8) a_2 c5 z z (ae.e a1) a_y<|a5.g<|((((O.ag B).e h3).e s5).e sm).e a1) (.inr λ_ _ h=>by obtain ⟨_,_,_,_,_,h,_⟩:=h;exact h.mono λk _ hk=>(mor s5.s:∀k∈[wr.z],k∈([]:List Nat)∨wa.z<=k) k hk) ?_;rintro _ _ ⟨aS,ak,al,am,rfl,aT,c6,c7,aU⟩;refine dR z z (bP (parts:=[(0,.tmp 6),(1,.tmp 10)]) (cs:=[vI x1.number,sl ak al am,sN]) Y_ z z) ?_;have aV:=mnr<|a_.lt ae
   have aW:=lt_ s5.s sm.s;have an:=m1 aW;refine dE0 z (fs0 (cur':=[vI x1.number,sl ak al am,sN]) h_ z z (aR.c aT<|atp aV) z z z z) (.inr λ_ _ h=>c_d (atp an) h.2) ?_;rintro _ _ ⟨c9,ca⟩;have aX:=ca.one;refine pD ?_;have aY:∀k∈aS,k∉[ab.z]:=or1 aU (ds aV)<|U_ (c_ aR.lt) lr;have aZ:=m1 s5.s;exact λ_ q=>⟨x1.number,c4,([]:List Val),som bF,ak,al,am,aS,none,0,0,[],ab.z,q.k<|s3 z z z,bM (bM (bup (bup s5 sm) a1) aT aZ) aX an,a4,c6.c aX aY,c7,a_s aU aZ<|lt_ aW a1.s,onL,G_,an_,an_,c9,atp an,aY,an_⟩
  refine dE z z (fa a_4) (.inr λ_ _ h=>p_<|h.2.below) ?_;rintro _ b0 ⟨rfl,b1⟩;have ao:=b1.below;have ap:Blk b0 wr.z [vI 0,sN,sN]:=b1.blk;refine dE z z (f0 (α:=UInt8) a_2) (.inr λ_ _ h=>p_ (by obtain ⟨_,_,_,_,h,_⟩:=h;exact h)) ?_;rintro _ _ ⟨_,_,_,rfl,ss,cb⟩;obtain ⟨cc,cd,bG⟩:=bdS a7;have aq:=lt_ s5.s ao.s;refine dE z z (fN (α:=UInt8) a_2 cd z z cb a_y<|a5.g<|((((O.ag B).e h3).e s5).e ao).e ss) (.inr λ_ _ h=>by obtain ⟨_,_,_,_,_,h,_⟩:=h;exact h.mono λk _ hk=>(mor aq:∀k∈[b0.z],k∈([]:List Nat)∨wa.z<=k) k hk) ?_;rintro _ _ ⟨b2,ar,au,av,rfl,b3,ce,cg,b4⟩;refine dR z z (bP (parts:=[(0,.tmp 6),(1,.tmp 10)]) (cs:=[vI x1.number,sl ar au av,sN]) Y_ z z) ?_;have b5:=mmr ap.lt;have aw:=m1 s5.s;refine dE0 z (fs0 (cur':=[vI x1.number,sl ar au av,sN]) h_ z z ((ap.e ss).c b3<|djs b5) z z z z) (.inr λ_ _ h=>c_d (atp aw) h.2) ?_;rintro _ _ ⟨ch,ci⟩;have b6:=ci.one;refine pD ?_;have b7:∀k∈b2,k∉[wr.z]:=or1 b4 b5<|U_ (c_ ap.lt) ss.s;have b8:=m1 aq;exact λ_ q=>⟨x1.number,cc,([]:List Val),som bG,ar,au,av,b2,none,0,0,[],wr.z,q.k<|s3 z z z,bM (bM (bup (bup s5 ao) ss) b3 b8) b6 aw,a4,ce.c b6 b7,cg,a_s b4 b8<|lt_ aq ss.s,onL,G_,an_,an_,ch,atp aw,b7,an_⟩
 rintro cj H ⟨xc,a9,aa,rfl,ad,ne,cf,Sj,W,Y,a0,G,g1,_,sg,ck,b9,cl,ba,cm,cn,hn,bb,hv,ho,co,cp⟩;revert cj;refine Wo<|Wq<|Ws<|Rw z ?_
 obtain ⟨_,bH,aC⟩:=bdS<|b_s bD;refine Wf (σ:=List Val) (ρ:=Val) (λ(bc:Nat)(xp:List Val) a w=>∃I J L S4,Sat 31 [(1,pt w0.z),(2,pt wk.z),(3,pt g1),(4,vI ((bc:Nat):Int))] a/\Chg (· ∈ (G++[g1])) H w/\a_ w S4 (sl I J L) xp/\S4.Nodup/\(∀k∈S4,k∈G∨H.z<=k)/\Blk w g1 [vI xc,sl ad ne cf,sl I J L]) (λ(xp:List Val) a w=>∃I J L S4,Sat 31 [(2,pt wk.z),(3,pt g1)] a/\Chg (· ∈ (G++[g1])) H w/\a_ w S4 (sl I J L) xp/\S4.Nodup/\(∀k∈S4,k∈G∨H.z<=k)/\Blk w g1 [vI xc,sl ad ne cf,sl I J L]) (rQ prog fn<|Q12 w0 B) bH ?_ ?_ ?_ ?_ ?_
 .exact λ_ q=>⟨W,Y,a0,G,q.k<|s4 z z z z,cr (G++[g1]) H,cm,cn,io sr,hv⟩
 .rintro bc xp _ cq _ aD ⟨I,J,L,S4,bI,sw,hl,hx,hh,hy⟩ bJ;refine Wu ?_ bI;refine Wq<|Wm z<|Rf z V_ z ?_
  have be:=((hb.e h3).e sg).c sw<|atp<|nmA (ds<|j_ hn hb.lt h3.s)<|ds<|j_ (c_ ho) hb.lt h3.s
  refine R z (l0 a_9 z<|be.at z) ?_;have bf:=lt_ O.s h3.s;have bg:=zt' a8 bf;have bh:=(((O.ag B).e h3).e sg).c sw<|nmA (b_ (or0 hn (k_ bg):∀k∈G,¬B k))<|b_ (or0 (c_ ho) (k_ bg):∀k∈[g1],¬B k)
  refine R z (lnR a_i z<|V.g bh)<|Rl z z z<|Wx z (λ_=>?_) (λhc=>(a_6 aD hc).elim)
  refine Wk<|Wq<|Wb (Wd (X:=noX) 2560 (pl_ 12 [7,8,9,11]) mo (by kernel_rfl) λct si _=>dR z z (fd V_ z) ?_)
  have bi:=hy.e si;refine dR z z (l0 a_9 z<|bi.at z)<|dR z z (fd V_ z)<|dR z z (l0 a_9 z<|(be.e si).at z)<|dM z z z ?_
  obtain ⟨cu,cv,bK⟩:=bdS bJ;refine dRX z z (at_ (α:=Val) a_i h_ z z z (V.g<|bh.e si) cv) ?_;rintro _ ⟨_,_,_,rfl,cw,cx,_⟩;obtain ⟨cy,cz,cA,cB,cC,cD,rfl,cE,cF,cG⟩:=e_7 cx;refine dR z z (lN (vs:=[vI cu.number,sl cy cz cA,sl cB cC cD]) q_ h_ z z fid cw) ?_;obtain ⟨bj,cH,bL⟩:=bdS bK;refine dE z z (fc call32 z<|bT.run cH (zt' a8<|lt_ (lt_ (lt_ bf sg.s) sw.s) si.s) cE cF cG) (.inr λ_ _ h=>p_<|h.1) ?_;rintro _ bk ⟨a2,cI,cJ,cK,bm,cL,cN,cO,bn,rfl,cP,cQ,cR,ax,hq⟩;refine dE z z (fS [(.tmp 26)] c_4 z z z (a_e z) (lb z)<|lb z) (.inr λ_ _ h=>p_<|h.2.below) ?_;rintro _ bo ⟨rfl,bp⟩;have ht:=bp.below;obtain ⟨cS,cT,bN⟩:=bdS bL;refine dE z z (a_X (α:=Val) c_4 cT z z (((hl.e si).e a2).e ht) hx (bp.blk:Blk bo bk.z [vI bj.number,sl cI cJ cK,sl cL cN cO]) (d_C (x:=bj) (S1:=bm) (S2:=bn) cP (cQ.e ht)<|cR.e ht) (aa_ (b_H (al_ hq) (a_.lt hl) si.s)<|b_H (ar_ hq) (a_.lt hl) si.s)<|na_ (nl_ ax) (nr_ ax)<|nj ax) (.inl z) ?_;rintro _ cU ⟨ay,bq,bs,bt,rfl,bu,cV,cW,bv⟩;refine dR z z (fd V_ z) ?_;have bw:∀k∈S4,k∉[g1]:=or1 hh cp<|U_ (c_<|Blk.lt hv) lr;refine dE0 z (fs0 (cur':=[vI xc,sl ad ne cf,sl bq bs bt]) d_K z z (((bi.e a2).e ht).c bu<|djs bw) z z z z) (.inl z) ?_;rintro _ cX ⟨cY,cZ⟩;have bx:=cZ.one;refine pD<|Wo<|Wg<|Rm z<|R z (inc_ aD (lt_ (repS.len V) M_) z z)<|Ra z<|Wl ?_
  have hz:=lt_ sw.s si.s;have bz:=lt_ (lt_ hz a2.s) ht.s;exact λ_ q=>⟨cS,(som bN).symm,⟨bq,bs,bt,ay,q.k<|s4 z z z z,(cM (cM (f_ (f_ (f_ (cM (cr (G++[g1]) H) sw (aa_ (io<|D_ sr)<|io<|F_ sr):Chg (· ∈ (G++[g1])) H cq) si:Chg (· ∈ (G++[g1])) H ct) a2:Chg (· ∈ (G++[g1])) H bk) ht:Chg (· ∈ (G++[g1])) H bo) bu (or1 hh (io<|D_ sr) (B_ lr):∀k∈S4,k∈(G++[g1])∨H.z<=k):Chg (· ∈ (G++[g1])) H cU) bx (io<|F_ sr):Chg (· ∈ (G++[g1])) H cX),cV.c bx (or2 bv bw (aa_ (j_ (al_ hq) (Blk.lt hv) hz)<|j_ (ar_ hq) (Blk.lt hv) hz) (U_ (c_<|Blk.lt hv) bz):∀k∈ay,k∉[g1]),cW,(or2 bv (or1 hh (io sr) (B_ lr):∀k∈S4,k∈G∨H.z<=k) (aa_ (or0 (al_ hq) (B_ hz):∀k∈bm,k∈G∨H.z<=k) (or0 (ar_ hq) (B_ hz):∀k∈bn,k∈G∨H.z<=k)) (B_ bz):∀k∈ay,k∈G∨H.z<=k),cY⟩⟩
 .rintro xp _ d0 ⟨I,J,L,S4,bO,az,hl,hx,hh,hy⟩;refine Wu ?_ bO;refine Wq<|Wm z<|Rf z V_ z<|R z (l0 a_9 z<|(((hb.e h3).e sg).c az<|atp<|nmA (ds<|j_ hn hb.lt h3.s)<|ds<|j_ (c_ ho) hb.lt h3.s).at z) ?_
  have bA:=zt' a8<|lt_ O.s h3.s
  refine R z (lnR a_i z<|V.g<|(((O.ag B).e h3).e sg).c az<|nmA (b_ (or0 hn (k_ bA):∀k∈G,¬B k))<|b_ (or0 (c_ ho) (k_ bA):∀k∈[g1],¬B k))<|Rl z z z<|Wx z (λhc=>(a_7 hc).elim) (λ_=>?_)
  exact We<|λ_ q=>⟨rfl,⟨I,J,L,S4,q.k<|s2 z z,(cM (cr (G++[g1]) H) az (aa_ (io<|D_ sr)<|io<|F_ sr):Chg (· ∈ (G++[g1])) H d0),hl,hx,(or1 hh (io sr) (B_ lr):∀k∈S4,k∈G∨H.z<=k),hy⟩⟩
 .rintro xp d1 _ rfl ⟨I,J,L,S4,_,aA,hl,hx,hh,hy⟩;have bQ:=elL aC;revert d1;refine Wo<|Ws<|R z (lN (vs:=[vI xc,sl ad ne cf,sl I J L]) q_ h_ z z fid<|hy.row 0 3 z) ?_
  have bB:=j_ hn hu.lt lr;refine E0 (fs0 (cur':=[vI xc,sl ad ne cf,sl I J L]) h_ z z ((hu.e sg).c aA<|atp<|nmA (ds bB)<|ds<|j_ (c_ ho) hu.lt lr) z z z z) ?_;rintro _ _ ⟨d2,d3⟩;have aB:=d3.one;refine Wn ?_;obtain rfl:=som bQ;have a3:=lt_ O.s h3.s;have bC:=m_ hn a3;exact Wr<|e_ hr (s_ q_ h_ z d2 z) ⟨bM (bM (bup (bup O h3) sg) aA<|aa_ bC<|m_ (c_ ho) a3) aB<|m1 O.s,ad,ne,cf,Sj,I,J,L,S4,z,ck,(b9.c aA<|nmA (ds bb) co).c aB<|j_ ba hu.lt lr,hl.c aB (or1 hh bB (U_ (c_ hu.lt) sg.s):∀k∈S4,k∉[wk.z]),na_ cl hx<|ds<|o1no hh bb (a_.lt b9) lr,aa_ (m_ ba a3)<|a_s hh bC<|lt_ a3 sg.s⟩
 rintro _ _ _ _ rfl ⟨rfl,bR⟩;have bS:=elR aC;obtain rfl:=som bS;exact ⟨bR,z⟩
theorem A_w0k:∀n,m_C n
  | 0=>⟨λhm=>by intros;exact nomatch (show none=some _ from hm)⟩
  | n+1=>T_w0k<|A_w0k n
theorem W_w0k:k_N (e_e n).spec_CopyValue:=A_w0k n
theorem W_w24 {x1:d_}{x2:Val}{x3:Str}{res:Val×Int×Bool}(hm:g_E n x1 x2 x3=some res)(W:B<=w0.z)(Y:repS w0 B (sl A0 N0 C0) x1.rules)(ap:inI x2.number)(aq:repS w0 B (sl AE NE CE) x2.bytes)(ar:repS w0 B (sl AF NF CF) x2.items)(b0:x3.b.length<=LEN):l_ prog 9 [(.agg #[sl A0 N0 C0]),.agg #[vI x2.number,sl AE NE CE,sl AF NF CF],Str.v x3] w0 (Q38 w0 B res):=by
 unfold g_E at hm
 refine goG func9 z z z λfn hr=>Ws<|E z (fb z) ?_
 rintro _ G ⟨rfl,az⟩;have hf:=az.below;have aA:Blk G w0.z [sl A0 N0 C0]:=az.blk;refine E z (fb z) ?_;rintro _ wr ⟨rfl,aB⟩;have hl:=aB.below;have hn:Blk wr G.z [vI x2.number,sl AE NE CE,sl AF NF CF]:=aB.blk;refine E z (fa a_4) ?_;rintro _ bh ⟨rfl,aC⟩;have he:=aC.below;have ht:Blk bh wr.z [vI 0,sN,sN]:=aC.blk;refine Ra z<|Rw z<|Ws ?_
 have a8:=(aA.e hl).e he;refine R z (lN (vs:=[sl A0 N0 C0]) t_ r_ z z fid<|a8.row 0 1 z) ?_;have hx:=((hf.ag B).e hl).e he;have hy:=lt_ hf.s hl.s;have aD:=lt_ hy he.s;obtain ⟨bi,bj,b1⟩:=bdS hm;refine E z (fc call21 z<|f_A bj (zt' W aD)<|Y.g hx) ?_;rintro _ wz ⟨H,rfl,aE⟩;refine Rw z<|Wm z ?_
 have a0:=lt_ aD H.s;obtain ⟨_,bk,bm,b2⟩:=a_r b1;refine E z (fc call28 z<|W_w3i bm (zt' W a0) b0) ?_;rintro _ wk ⟨s2,aF,aG,aH,rfl,a1⟩;refine Rm z<|Re z z z<|Re z z z<|Ra z<|Rw z<|Wq<|Wq ?_
 obtain ⟨bn,au,av⟩:=bdS b2;refine Wt (λa w=>∃(a9:Bool),a9=bn/\Sat 65 [(3,pt w0.z),(4,pt G.z),(6,pt wr.z),(9,vI bi),(10,sl aF aG aH),(29,vB a9)] a/\Below wk.z wk w) ?_ ?_
 .refine Wg<|Rm z<|R z (not_ z)<|Rm z ?_
  rcases bs (!bk) with J | J
  .iterate 5 refine Nh z J ?_
   exact R z (pT z J z)<|Wl (λ_ q=>⟨true,som<|ifT au J,q.k<|s6 z z z z z z,br wk⟩)
  refine Rh z J (lN (vs:=[sl A0 N0 C0]) t_ r_ z z fid<|((a8.e H).e s2).row 0 1 z)<|Rh z J (mv z)<|Rh z J (lN (vs:=[vI x2.number,sl AE NE CE,sl AF NF CF]) q_ h_ z z fid<|(((hn.e he).e H).e s2).row 0 3 z) ?_
  have ab:=(hx.e H).e s2;obtain ⟨bo,bp,b3⟩:=bdS<|ifF au J;refine Eg z z J z (fc call29 z<|k_o bp (zt' W<|lt_ a0 s2.s) (Y.g ab) aE ap (aq.g ab)<|ar.g ab) ?_;rintro _ _ ⟨bq,rfl⟩;exact Rh z J (not_ z)<|R z (pF z J z)<|Wl (λ_ q=>⟨!bo,som b3,q.k<|s6 z z z z z z,bq⟩)
 rintro bt I ⟨a9,rfl,_,s4⟩;revert bt;refine Wo<|Wc z (λa5=>?_) (λa5=>?_)
 .refine Ws<|R z (bP (parts:=[]) (cs:=[vI 0,sN,sN]) Y_ z z)<|E0 (fs0 (cur':=[vI 0,sN,sN]) h_ z z (((ht.e H).e s2).e s4) z z z z) ?_
  rintro _ _ ⟨bu,bv⟩;refine Ra z<|Rw z ?_
  obtain rfl:=som<|ifT av a5;exact Wr<|I_ hr (s_ q_ h_ z bu z) z z ⟨bM (bup (bup (bup (bup (bup hf hl) he) H) s2) s4) bv.one<|m1 hy,none,0,0,[],none,0,0,[],z,ii z,onL,onL,ii z,nd0,al0⟩
 refine Wk<|Wq<|Ws<|Rw z ?_
 obtain ⟨_,b4,aw⟩:=bdS<|ifF av a5;refine Wf (σ:=Int×Int×Bt×(List Val)) (ρ:=Val×Int×Bool) (λ(aI:Nat) s a w=>un4 (λxg x5 xh xi=>∃L O V aa nb cc,Sat 65 [(3,pt w0.z),(4,pt G.z),(6,pt wr.z),(9,vI xg),(10,sl aF aG aH),(12,vI ((aI:Nat):Int))] a/\Cg [G.z] I w/\inI xg/\inI x5/\repS w B (sl L O V) xh/\repS w B (sl aa nb cc) xi/\Blk w G.z [vI x5,sl L O V,sl aa nb cc]) s) (λs a w=>un4 (λxg x5 xh xi=>∃L O V aa nb cc,Sat 65 [(4,pt G.z),(6,pt wr.z),(9,vI xg)] a/\Cg [G.z] I w/\inI xg/\inI x5/\repS w B (sl L O V) xh/\repS w B (sl aa nb cc) xi/\Blk w G.z [vI x5,sl L O V,sl aa nb cc]) s) (rQ prog fn<|Q38 w0 B) b4 ?_ ?_ ?_ ?_ ?_
 .have aJ:=((hx.e H).e s2).e s4;exact λ_ q=>⟨AE,NE,CE,AF,NF,CF,q.k<|s6 z z z z z z,cr [G.z] I,aE,ap,aq.g aJ,ar.g aJ,(((hn.e he).e H).e s2).e s4⟩
 .rintro aI ⟨xg,x5,xh,xi⟩ _ bw _ ax ⟨L,O,V,aa,nb,cc,b5,sm,hu,ho,hv,hp,hw⟩ b6;refine Wu ?_ b5;refine Wq<|Wm z<|Rm z ?_
  have a2:∀k∈[G.z],¬B k:=or0 (c_ lr)<|k_<|zt' W hf.s;have aK:=(s4.ag<|zn B wz.z wk.z).c sm<|b_ ((d_I a2 (c_ hn.lt)<|lt_ he.s H.s):∀k∈[G.z],¬(zn B wz.z wk.z) k)
  refine R z (lnR a_n z<|a1.g aK)<|Rl z z z<|Wx z (λ_=>?_) (λhc=>(a_6 ax hc).elim)
  refine Wk<|Wq<|Wb<|Wq (Wd (X:=noX) 0 (pl_ 9 [7]) mo (by kernel_rfl) λbx sd _=>?_)
  have aL:=((((a8.e H).e s2).e s4).c sm<|djs<|mmr aA.lt).e sd;refine dR z z (lN (vs:=[sl A0 N0 C0]) t_ r_ z z fid<|aL.row 0 1 z)<|dM z z z ?_
  have aM:=hw.e sd;refine dR z z (lN (vs:=[vI x5,sl L O V,sl aa nb cc]) q_ h_ z z fid<|aM.row 0 3 z)<|dM z z z<|dM z z z ?_
  obtain ⟨_,bz,b7⟩:=bdS<|c_u b6;refine dRX z z (at_ (α:=Str) a_n z_9 z z z (a1.g<|aK.e sd) bz) ?_;rintro _ ⟨_,_,_,rfl,bA,bB,_⟩;obtain ⟨rfl,bC⟩:=b_K bB;refine dR z z (l0 g_9 z<|bA.at0 z) ?_;have aN:=((((hx.e H).e s2).e s4).c sm<|b_ a2).e sd;have aO:=lt_ (lt_ (lt_ (lt_ a0 s2.s) s4.s) sm.s) sd.s;obtain ⟨_,bD,ay⟩:=bdS b7;refine dE z z (fc call30 z<|W_w3j (B:=B) (x3:=(⟨x5,xh,xi⟩:Val)) bD (zt' W aO) (Y.g aN) hu ho (hv.e sd) (hp.e sd) bC) (.inr λ_ _ h=>p_<|h.1) ?_;rintro _ bE ⟨sj,rfl,bF⟩;refine dQ z z z<|pD<|Wo<|Wq<|Wm z<|Rl z z z<|Wx z (λa6=>?_) (λa6=>?_)
  .refine Ws<|R z (bP (parts:=[]) (cs:=[vI 0,sN,sN]) Y_ z z)<|E0 (fs0 (cur':=[vI 0,sN,sN]) h_ z z ((((((ht.e H).e s2).e s4).c sm<|atp<|mmr hn.lt).e sd).e sj) z z z z) ?_
   rintro _ _ ⟨bG,bH⟩;exact Ra z<|Rw z<|Wr<|rtO<|qL (som<|ifT ay a6).symm<|I_ hr (s_ q_ h_ z bG z) z z ⟨bM (bup (bup (bM (bup (bup (bup (bup (bup hf hl) he) H) s2) s4) sm<|m1 hf.s) sd) sj) bH.one<|m1 hy,none,0,0,[],none,0,0,[],z,ii z,onL,onL,ii z,nd0,al0⟩
  refine Wk<|Wq (Wd (X:=noX) 0 (pl_ 10 [8]) mo (by kernel_rfl) λbI sq _=>dR z z (fd a_3 z)<|dR z z (l0 a_8 z<|((aL.e sj).e sq).at z)<|dM z z z ?_)
  obtain ⟨bJ,bK,b8⟩:=bdS<|ifF ay a6;refine dRX z z (at_ (α:=g_) a_a o_ z z z (Y.g<|(aN.e sj).e sq) bK) ?_;rintro _ ⟨_,_,_,rfl,bL,bN,_⟩;obtain ⟨bO,bQ,bR,bS,bT,bU,bV,bW,bX,bY,bZ,c0,rfl,c1,c2,c3,c4,c5,c6,c7⟩:=a_D bN;refine dR z z (lN (vs:=vR bJ bO bQ bR bS bT bU bV bW bX bY bZ c0) L_ o_ z z fid bL)<|dR z z (fd a_S z) ?_
  have aP:=(aM.e sj).e sq;refine dR z z (l0 g_3 z<|aP.at z)<|dM z z z ?_
  obtain ⟨c8,ca,b9⟩:=bdS b8;refine dE z z (fc call31 z<|d_M ca (zt' W<|lt_ (lt_ aO sj.s) sq.s) c1 c2 c3 c4 c5 c6 c7 ho bF) (.inr λ_ _ h=>p_<|h.1) ?_;rintro _ cb ⟨ad,rfl,cd⟩;refine dQ z z z<|pD<|Wo<|Wg<|Rf z V_ z ?_
  have aQ:=aP.e ad;refine R z (l0 a_9 z<|aQ.at z)<|Rm z ?_
  obtain ⟨xs,ce,ba⟩:=bdS b9;refine RX z (at_ (α:=Val) a_i h_ z z z (hp.g<|(((sd.ag B).e sj).e sq).e ad) ce) ?_;rintro _ ⟨_,_,_,rfl,cf,cg,_⟩;obtain ⟨ae,af,ah,ai,aj,ak,rfl,ch,ci,cj⟩:=e_7 cg;refine R z (lN (vs:=[vI xs.number,sl ae af ah,sl ai aj ak]) q_ h_ z z fid cf)<|E0 (fs0 (cur':=[vI xs.number,sl ae af ah,sl ai aj ak]) h_ z z aQ z z z z) ?_
  rintro _ ck ⟨cl,cm⟩;have al:=cm.one;refine Wn<|Wg<|Rm z<|R z (inc_ ax (lt_ (repS.len a1) M_) z z)<|Ra z<|Wl ?_
  exact λ_ q=>⟨(c8,xs.number,xs.bytes,xs.items),(som ba).symm,⟨ae,af,ah,ai,aj,ak,q.k<|s6 z z z z z z,(cM (f_ (f_ (f_ (f_ (cM (cr [G.z] I) sm (io sr):Cg [G.z] I bw) sd:Cg [G.z] I bx) sj:Cg [G.z] I bE) sq:Cg [G.z] I bI) ad:Cg [G.z] I cb) al (io sr):Cg [G.z] I ck),cd,ch,ci.c al<|b_ a2,cj.c al<|b_ a2,cl⟩⟩
 .rintro ⟨xg,x5,xh,xi⟩ _ cn ⟨L,O,V,aa,nb,cc,bb,aR,hu,ho,hv,hp,hw⟩;refine Wu ?_ bb;refine Wq<|Wm z<|Rm z ?_
  refine R z (lnR a_n z<|a1.g<|(s4.ag<|zn B wz.z wk.z).c aR<|b_ ((d_I (or0 (c_ lr) (k_<|zt' W hf.s):∀k∈[G.z],¬B k) (c_ hn.lt)<|lt_ he.s H.s):∀k∈[G.z],¬(zn B wz.z wk.z) k))<|Rl z z z<|Wx z (λhc=>(a_7 hc).elim) (λ_=>?_)
  exact We<|λ_ q=>⟨rfl,⟨L,O,V,aa,nb,cc,q.k<|s3 z z z,(cM (cr [G.z] I) aR (io sr):Cg [G.z] I cn),hu,ho,hv,hp,hw⟩⟩
 .rintro ⟨xg,x5,xh,xi⟩ co _ rfl ⟨L,O,V,aa,nb,cc,_,a3,hu,ho,hv,hp,hw⟩;have bc:=elL aw;revert co;refine Wo<|Ws<|R z (lN (vs:=[vI x5,sl L O V,sl aa nb cc]) q_ h_ z z fid<|hw.row 0 3 z) ?_
  have am:=lt_ (lt_ (lt_ a0 s2.s) s4.s) a3.s;obtain ⟨cp,cq,be⟩:=bdS<|c_u bc;refine E z (fc call32 z<|W_w0k.run (B:=B) (x1:=(⟨x5,xh,xi⟩:Val)) cq (zt' W am) ho hv hp) ?_;rintro _ _ ⟨aS,aT,aU,aV,ct,aW,aX,aY,cu,rfl,cv,cw,cx,an,a4⟩;refine Rm z<|E0 (fs0 (cur':=[vI cp.number,sl aT aU aV,sl aW aX aY]) h_ z z (((((ht.e H).e s2).e s4).c a3<|atp<|mmr hn.lt).e aS) z z z z) ?_
  rintro _ _ ⟨cy,cz⟩;have ao:=cz.one;refine Ra z<|Rw z ?_
  obtain rfl:=som be;have aZ:=lt_ (lt_ (lt_ H.s s2.s) s4.s) a3.s;exact Wr<|I_ hr (s_ q_ h_ z cy z) z z ⟨bM (bup (bM (bup (bup (bup (bup (bup hf hl) he) H) s2) s4) a3<|m1 hf.s) aS) ao<|m1 hy,aT,aU,aV,ct,aW,aX,aY,cu,z,cv,cw.c ao<|j_ (al_ a4) ht.lt aZ,cx.c ao<|j_ (ar_ a4) ht.lt aZ,hu,na_ (nl_ an) (nr_ an)<|nj an,aa_ (m_ (al_ a4) am)<|m_ (ar_ a4) am⟩
 rintro _ _ _ _ rfl ⟨rfl,bf⟩;have bg:=elR aw;obtain rfl:=som bg;exact ⟨bf,z⟩
theorem W_w3k {x1:Bt}{x2:Bt}{res:Bool}(hm:i_9 x1 x2=some res)(a0:B<=w0.z)(G:repS w0 B (sl A0 N0 C0) x1)(L:repS w0 B (sl A6 N6 C6) x2):l_ prog 33 [sl A0 N0 C0,sl A6 N6 C6] w0 (Q0 w0 B res):=by
 unfold i_9 at hm
 refine goG func33 z z z λfn hr=>Ws<|Rw z<|Wq<|Wm z<|R z (lnR n_ z G)<|Rm z<|R z (lnR n_ z L)<|R z (nq z z)<|Wx z (λI=>?_) (λI=>?_)
 .refine Ws<|Rw z ?_
  obtain rfl:=som<|ifT hm I;exact Wr<|e_ hr z ⟨br w0,z⟩
 refine Wk<|Wq<|Ws<|Rw z ?_
 obtain ⟨_,hua,O⟩:=bdS<|ifF hm I;refine Wf (σ:=Unit) (ρ:=Bool) (λ(k5:Nat)(_:Unit) a w=>Sat 26 [(0,sl A0 N0 C0),(1,sl A6 N6 C6),(5,vI ((k5:Nat):Int))] a/\Below w0.z w0 w) (λ(_:Unit) a w=>Sat 26 [] a/\Below w0.z w0 w) (rQ prog fn<|Q0 w0 B) hua ?_ ?_ ?_ ?_ ?_
 .exact λ_ q=>⟨q.k<|s3 z z z,br w0⟩
 .rintro k5 _ _ _ _ V ⟨hSb,H⟩ hmc;refine Wu ?_ hSb;refine Wq<|Wm z<|Rm z<|R z (lnR n_ z<|G.e H)<|Rl z z z<|Wx z (λ_=>?_) (λhc=>(a_6 V hc).elim)
  refine Wk<|Wq<|Wb<|Wq (Wd (X:=noX) 0 (pl_ 9 []) mo (by kernel_rfl) λwu s2 _=>dM z z z<|dM z z z ?_)
  obtain ⟨_,ed,hme⟩:=bdS hmc;have Y:=(H.ag B).e s2;refine dRX z z (at_ (α:=UInt8) n_ z_5 z z z (G.g Y) ed) ?_;rintro _ ⟨_,_,_,rfl,hf,hg,_⟩;obtain rfl:=u8 hg;refine dR z z (l0 g_5 z<|hf.at0 z)<|dM z z z<|dM z z z ?_
  obtain ⟨_,eh,W⟩:=bdS hme;refine dRX z z (at_ (α:=UInt8) n_ z_5 z z z (L.g Y) eh) ?_;rintro _ ⟨_,_,_,rfl,hi,hj,_⟩;obtain rfl:=u8 hj;refine dR z z (l0 g_5 z<|hi.at0 z)<|dR z z (nq z z)<|pD<|Wo<|Wc z (λJ=>?_) (λJ=>?_)
  .exact Ws<|Rw z<|Wr<|rtO<|qL (som<|ifT W J).symm<|e_ hr z ⟨bup H s2,z⟩
  exact Wk<|Wg<|Rm z<|R z (inc_ V (lt_ (repS.len G) M_) z z)<|Ra z<|Wl (λ_ q=>⟨(),(som<|ifF W J).symm,⟨q.k<|s3 z z z,bup H s2⟩⟩)
 .rintro _ _ _ ⟨hSk,s9⟩;refine Wu ?_ hSk;refine Wq<|Wm z<|Rm z<|R z (lnR n_ z<|G.e s9)<|Rl z z z<|Wx z (λhc=>(a_7 hc).elim) (λ_=>?_)
  exact We<|λ_ q=>⟨rfl,⟨q.k sn,s9⟩⟩
 .rintro _ al _ rfl ⟨_,sm⟩;have hmn:=elL O;revert al;refine Wo<|Ws<|Rw z ?_
  obtain rfl:=som hmn;exact Wr<|e_ hr z ⟨sm,z⟩
 rintro _ _ _ _ rfl ⟨rfl,hqo⟩;have hmp:=elR O;obtain rfl:=som hmp;exact ⟨hqo,z⟩
structure k_O (f:Val->Val->Option Bool):Prop where
  run:∀{A4 AG AE AF:Option Addr}{N4 C4 NG CG NE CE NF CF:Nat}{B:Zone}{x1:Val}{x2:Val}{res:Bool}{w0:World}(hm:f x1 x2=some res)(hBw:B<=w0.z)(p1_0:inI x1.number)(p1_1:repS w0 B (sl A4 N4 C4) x1.bytes)(p1_2:repS w0 B (sl AG NG CG) x1.items)(p2_0:inI x2.number)(p2_1:repS w0 B (sl AE NE CE) x2.bytes)(p2_2:repS w0 B (sl AF NF CF) x2.items),l_ prog 10 [(.agg #[vI x1.number,sl A4 N4 C4,sl AG NG CG]),(.agg #[vI x2.number,sl AE NE CE,sl AF NF CF])] w0<|Q0 w0 B res
abbrev m_D (n:Nat):Prop:=k_O (e_f n).spec_EqualValues
theorem T_w0l (a9:m_D n):k_O (e_M n<|e_f n):=by
 constructor
 intro A4 AG AE AF N4 C4 NG CG NE CE NF CF B x1 x2 res w0 hm V aI W I aJ Y O;unfold e_M at hm
 refine goG func10 z z z λfn hr=>Ws<|E z (fb z) ?_
 rintro _ L ⟨rfl,hj⟩;have h3:=hj.below;have hd:Blk L w0.z [vI x1.number,sl A4 N4 C4,sl AG NG CG]:=hj.blk;refine E z (fb z) ?_;rintro _ wa ⟨rfl,hk⟩;have h2:=hk.below;have hb:Blk wa L.z [vI x2.number,sl AE NE CE,sl AF NF CF]:=hk.blk;refine Rw z<|Wq<|Wq ?_
 obtain ⟨ux,hul,hmm⟩:=bdS hm;refine Wt (λa w=>∃(xc:Bool),xc=ux/\Sat 47 [(2,pt w0.z),(3,pt L.z),(27,vB xc)] a/\Below wa.z wa w) ?_ ?_
 .refine Wg<|Rf z a_S z ?_
  have he:=hd.e h2;refine R z (l0 g_3 z<|he.at z)<|Rf z a_S z<|R z (l0 g_3 z<|hb.at z)<|R z (nq z z)<|Rm z ?_
  rcases bs (x1.number != x2.number) with H | H
  .iterate 6 refine Nh z H ?_
   exact R z (pT z H z)<|Rm z<|Nh z z<|Nh z z<|Nh z z<|Nh z z<|Nh z z<|Nh z z<|Nh z z<|R z (pT z z z)<|Wl (λ_ q=>⟨true,som<|ifT hul H,q.k<|s3 z z z,br wa⟩)
  refine Rh z H (fd a_T z)<|Rh z H (l0 R_ z<|he.at z)<|Rh z H (fd a_T z)<|Rh z H (l0 R_ z<|hb.at z) ?_
  have hf:=(h3.ag B).e h2;obtain ⟨ry,ez,hmn⟩:=bdS<|ifF hul H;refine Eg z z H z (fc call33 z<|W_w3k ez (zt' V<|lt_ h3.s h2.s) (W.g hf)<|Y.g hf) ?_;rintro _ _ ⟨s7,rfl⟩;refine Rh z H (not_ z)<|R z (pF z H z)<|Rm z ?_
  rcases bs (!ry) with G | G
  .iterate 7 refine Nh z G ?_
   exact R z (pT z G z)<|Wl (λ_ q=>⟨true,som<|ifT hmn G,q.k<|s3 z z z,s7⟩)
  refine Rh z G (fd V_ z)<|Rh z G (l0 a_9 z<|(he.e s7).at z) ?_
  have ho:=hf.e s7;exact Rh z G (lnR a_i z<|I.g ho)<|Rh z G (fd V_ z)<|Rh z G (l0 a_9 z<|(hb.e s7).at z)<|Rh z G (lnR a_i z<|O.g ho)<|Rh z G (nq z z)<|R z (pF z G z)<|Wl (λ_ q=>⟨(x1.items.length:Int) != (x2.items.length:Int),som<|ifF hmn G,q.k<|s3 z z z,s7⟩)
 rintro aa J ⟨xc,rfl,_,s4⟩;revert aa;refine Wo<|Wc z (λhcg=>?_) (λhcg=>?_)
 .refine Ws<|Rw z ?_
  obtain rfl:=som<|ifT hmm hcg;exact Wr<|e_ hr z ⟨bup (bup h3 h2) s4,z⟩
 refine Wk<|Wq<|Ws<|Rw z ?_
 obtain ⟨_,a0,hmp⟩:=bdS<|ifF hmm hcg;refine Wf (σ:=Unit) (ρ:=Bool) (λ(kq:Nat)(_:Unit) a w=>Sat 47 [(2,pt w0.z),(3,pt L.z),(5,vI ((kq:Nat):Int))] a/\Below J.z J w) (λ(_:Unit) a w=>Sat 47 [] a/\Below J.z J w) (rQ prog fn<|Q0 w0 B) a0 ?_ ?_ ?_ ?_ ?_
 .exact λ_ q=>⟨q.k<|s3 z z z,br J⟩
 .rintro kq _ _ _ _ hkr ⟨a1,s5⟩ a2;refine Wu ?_ a1;refine Wq<|Wm z<|Rf z V_ z ?_
  have ht:=((hd.e h2).e s4).e s5;refine R z (l0 a_9 z<|ht.at z) ?_;have hu:=(((h3.ag B).e h2).e s4).e s5;refine R z (lnR a_i z<|I.g hu)<|Rl z z z<|Wx z (λ_=>?_) (λhc=>(a_6 hkr hc).elim)
  refine Wk<|Wq<|Wb<|Wq (Wd (X:=noX) 0 (pl_ 12 [10]) mo (by kernel_rfl) λaK s6 _=>dR z z (fd V_ z)<|dR z z (l0 a_9 z<|(ht.e s6).at z)<|dM z z z ?_)
  obtain ⟨ab,ad,a3⟩:=bdS a2;have hv:=hu.e s6;refine dRX z z (at_ (α:=Val) a_i h_ z z z (I.g hv) ad) ?_;rintro _ ⟨_,_,_,rfl,ae,af,_⟩;obtain ⟨ah,ai,aj,ak,al,am,rfl,an,ao,ap⟩:=e_7 af;refine dR z z (lN (vs:=[vI ab.number,sl ah ai aj,sl ak al am]) q_ h_ z z fid ae)<|dR z z (fd V_ z)<|dR z z (l0 a_9 z<|(((hb.e s4).e s5).e s6).at z)<|dM z z z ?_
  obtain ⟨aq,ar,a4⟩:=bdS a3;refine dRX z z (at_ (α:=Val) a_i h_ z z z (O.g hv) ar) ?_;rintro _ ⟨_,_,_,rfl,au,av,_⟩;obtain ⟨aw,ax,ay,az,aA,aB,rfl,aC,aD,aE⟩:=e_7 av;refine dR z z (lN (vs:=[vI aq.number,sl aw ax ay,sl az aA aB]) q_ h_ z z fid au) ?_;obtain ⟨_,aF,hms⟩:=bdS a4;refine dE z z (fc call10 z<|a9.run aF (zt' V<|lt_ (lt_ (lt_ (lt_ h3.s h2.s) s4.s) s5.s) s6.s) an ao ap aC aD aE) (.inr λ_ _ h=>p_<|h.1) ?_;rintro _ _ ⟨sw,rfl⟩;refine dR z z (not_ z)<|pD<|Wo<|Wc z (λhch=>?_) (λhch=>?_)
  .exact Ws<|Rw z<|Wr<|rtO<|qL (som<|ifT hms hch).symm<|e_ hr z ⟨bup (bup (bup (bup (bup h3 h2) s4) s5) s6) sw,z⟩
  exact Wk<|Wg<|Rm z<|R z (inc_ hkr (lt_ (repS.len I) M_) z z)<|Ra z<|Wl (λ_ q=>⟨(),(som<|ifF hms hch).symm,⟨q.k<|s3 z z z,bup (bup s5 s6) sw⟩⟩)
 .rintro _ _ _ ⟨a5,si⟩;refine Wu ?_ a5;refine Wq<|Wm z<|Rf z V_ z<|R z (l0 a_9 z<|(((hd.e h2).e s4).e si).at z)<|R z (lnR a_i z<|I.g<|(((h3.ag B).e h2).e s4).e si)<|Rl z z z<|Wx z (λhc=>(a_7 hc).elim) (λ_=>?_)
  exact We<|λ_ q=>⟨rfl,⟨q.k sn,si⟩⟩
 .rintro _ aG _ rfl ⟨_,aH⟩;have a6:=elL hmp;revert aG;refine Wo<|Ws<|Rw z ?_
  obtain rfl:=som a6;exact Wr<|e_ hr z ⟨bup (bup (bup h3 h2) s4) aH,z⟩
 rintro _ _ _ _ rfl ⟨rfl,a7⟩;have a8:=elR hmp;obtain rfl:=som a8;exact ⟨a7,z⟩
theorem A_w0l:∀n,m_D n
  | 0=>⟨λhm=>by intros;exact nomatch (show none=some _ from hm)⟩
  | n+1=>T_w0l<|A_w0l n
theorem W_w0l:k_O (e_f n).spec_EqualValues:=A_w0l n
theorem W_w3l {x1:Int}{x2:Int}{res:Bool}(hm:i_a x1 x2=some res)(I:B<=w0.z)(G:inI x1)(H:inI x2):l_ prog 160 [vI x1,vI x2] w0 (Q0 w0 B res):=by
 unfold i_a at hm
 refine goG func160 z z z λfn hr=>Ws<|Rw z<|Wm z<|Rm z<|Rl z z z<|Rw z ?_
 obtain rfl:=som hm;exact Wr<|e_ hr z ⟨br w0,z⟩
theorem W_w3m {x2:Int}{x3:List Int}{res:Int}(hm:j_S x2 x3=some res)(W:B<=w0.z)(V:inI x2)(H:repS w0 B (sl A9 N9 C9) x3):l_ prog 159 [(.func (.func 160) #[] #[]),vI x2,sl A9 N9 C9] w0 (Q9 w0 B res):=by
 unfold j_S at hm
 refine goG func159 z z z λfn hr=>Ws<|Rw z<|Wq<|Wm z<|R z (lnR v_ z H)<|Rm z<|Wn ?_
 obtain ⟨_,hub,J⟩:=bdS hm;refine Wf (σ:=Int) (ρ:=Int) (λ(k3:Nat)(x0:Int) a w=>Sat 22 [(0,.func (.func 160) #[] #[]),(1,vI x0),(9,sl A9 N9 C9),(10,vI (x3.length:Int)),(11,vI ((k3:Nat):Int))] a/\Below w0.z w0 w/\inI x0) (λ(x0:Int) a w=>Sat 22 [(1,vI x0)] a/\Below w0.z w0 w/\inI x0) (rQ prog fn<|Q9 w0 B) hub ?_ ?_ ?_ ?_ ?_
 .exact λ_ q=>⟨q.k<|s5 z z z z z,br w0,V⟩
 .rintro k3 x0 _ _ _ L ⟨hSc,s6,h1⟩ hmd;refine Wu ?_ hSc;refine Ws<|Rl z z z<|Wn<|Wq<|Wc z (λ_=>?_) (λhc=>(a_6 L hc).elim)
  refine Wk<|Wq<|Wb<|Ws ?_
  obtain ⟨xe,ef,hmg⟩:=bdS hmd;refine RX z (at_ (α:=Int) v_ z_3 z z z (H.e s6) ef) ?_;rintro _ ⟨_,_,_,rfl,hh,hi,_⟩;obtain ⟨rfl,O⟩:=O_ hi;refine R z (l0 g_3 z<|hh.at0 z)<|Rw z<|Wm z<|RM z z ?_
  obtain ⟨_,ej,hmk⟩:=bdS hmg;refine E z (e_d call160 z z<|W_w3l ej (zt' W s6.s) O h1) ?_;rintro _ G ⟨sm,rfl⟩;refine Wn ?_;obtain ⟨ul,hua,hmn⟩:=bdS hmk;refine Wt (λa w=>∃(x4:Int),x4=ul/\Sat 22 [(0,.func (.func 160) #[] #[]),(1,vI x4),(9,sl A9 N9 C9),(10,vI (x3.length:Int)),(11,vI ((k3:Nat):Int))] a/\Below G.z G w/\inI x4) ?_ ?_
  .refine Wc z (λI=>?_)<|λI=>?_
   .exact Wg<|Rm z<|Ra z<|Wl (λ_ q=>⟨xe,som<|ifT hua I,q.k<|s5 z z z z z,br G,O⟩)
   exact a_k<|λ_ q=>⟨x0,som<|ifF hua I,q.k<|s5 z z z z z,br G,h1⟩
  rintro ao _ ⟨x4,rfl,_,sp,hq⟩;revert ao;exact Wo<|Wg<|R z (inc_ L (lt_ (repS.len H) M_) z z)<|Rm z<|Wl (λ_ q=>⟨x4,(som hmn).symm,⟨q.k<|s5 z z z z z,bup (bup s6 sm) sp,hq⟩⟩)
 .rintro x0 _ _ ⟨hSr,ss,h1⟩;refine Wu ?_ hSr;refine Ws<|Rl z z z<|Wn<|Wq<|Wc z (λhc=>(a_7 hc).elim) (λ_=>?_)
  exact We<|λ_ q=>⟨rfl,⟨q.k<|s1 z,ss,h1⟩⟩
 .rintro x0 au _ rfl ⟨_,st,h1⟩;have hmv:=elL J;revert au;refine Wo<|Wm z<|Rw z ?_
  obtain rfl:=som hmv;exact Wr<|e_ hr z ⟨st,z,h1⟩
 rintro _ _ _ _ rfl ⟨rfl,hqw⟩;have hmx:=elR J;obtain rfl:=som hmx;exact ⟨hqw,z⟩
theorem W_w25 {x1:Int}{x2:Int}{res:Int}(hm:g_p x1 x2=some res)(V:B<=w0.z)(I:inI x1)(J:inI x2):l_ prog 151 [vI x1,vI x2] w0 (Q9 w0 B res):=by
 unfold g_p at hm
 refine goG func151 z z z λfn hr=>Ws<|Rw z<|Wm z<|Rm z<|E z (fS [(.tmp 6)] b_X z z z (a_e z) (lb z)<|lb z) ?_
 rintro _ H ⟨rfl,G⟩;have h6:Blk H w0.z [vI x2]:=G.blk;obtain ⟨_,O,L⟩:=bdS hm;refine E z (fc call159 z<|W_w3m (B:=H.z) O zr I<|a_.rep<|a_J G<|b_y J) ?_;rintro _ _ ⟨s4,rfl,h5⟩;refine Rw z ?_
 obtain rfl:=som L;exact Wr<|e_ hr z ⟨bup G.below s4,z,h5⟩
end Go.Vw
