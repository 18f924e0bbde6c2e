
import Derived.Test.YtgpbbhplnbndeaaGreatDoorVb6
set_option linter.unusedVariables false
namespace Go.Vw
open Go.RowKit Dat Go.Proofs
set_option maxHeartbeats 4000000
set_option maxRecDepth 4000
open Go.Proofs.Tryz
open Go.Vw renaming e_u->Wq,e_w->Wg,WC.of_KC->Wo,d_P->Wl,e_v->Wc,f_A->Wr,g_8->Wu,f_T->pT,f_U->pF,f_b->fd,f_c->l1,e_5->lN,e_3->mv,e_4->asg,f_V->lnR,f_g->lss,f_f->eql,f_d->ext_,e_P->bP,f_e->add_,f_O->inc_,g_p->not_,d_T->at_,f_F->fc,d_0->fs,e_z->fb,d_q->fa,b_N->sr,e_N->cr,e_O->cM,e_M->bM,f_K->iS,f_J->iA,e_C->br,e_E->oA,f_Q->bs,e_G->lg,e_H->io,g_o->nq,g_m->lnT,g_n->sb_,f_S->ar_,f_R->al_,b_8->ds,g_D->m1,e_K->nr_,e_J->nl_,d_2->aa_,c_o->an_,d_O->Wb,e_D->u8,f_D->pD,f_B->We,f_L->Wt,f_G->fS,d_K->or_,g_a->Wf,g_2->qL,f_C->Wd,f_X->fN,e_I->na_,e_L->nj,f_Z->f0,f_W->rX,g_0->tl_,g_1->ic
variable {A0:Option Addr}{N0 C0:Nat}{B:Zone}{w0:World}{n:Nat}{A7:Option Addr}{N7 C7:Nat}{A6:Option Addr}{N6 C6:Nat}{AC:Option Addr}{AB:Option Addr}{AD:Option Addr}{AE:Option Addr}{NC CC:Nat}{NB CB:Nat}{ND CD:Nat}{NE CE:Nat}{A2:Option Addr}{A4:Option Addr}{A1:Option Addr}{A3:Option Addr}{N2 C2:Nat}{N4 C4:Nat}{N1 C1:Nat}{N3 C3:Nat}{A8:Option Addr}{A9:Option Addr}{N8 C8:Nat}{N9 C9:Nat}{A5:Option Addr}{N5 C5:Nat}{AA:Option Addr}{AF:Option Addr}{NA CA:Nat}{NF CF:Nat}
theorem T_w0n (aW:l_N n):k_m (i_h n<|e_p n):=by
 constructor;intro A0 A5 AH AI AJ N0 C0 N5 C5 NH CH g1 NI CI NJ CJ b4 o4 S1_2 B x1 x2 x3 x4 x5 res w0 hm hB1 c5 hBg hG c1 c2 am p1_2n p1_2g p1_2d a3 W an c4 a2 hC4 hC4b a0;unfold i_h at hm;refine goG func59 z z z λfn hr=>Ws<|Rw z<|Wm z<|R z (t_ z)<|Rf z h_i z<|R z (l0 g_49 z<|hB1.at z)<|R z (lnR d_Z z<|a_.rep am)<|Rw z<|Wm z<|Rm z<|R z (t_ z)<|Rf z h_i z<|R z (l0 g_49 z<|hB1.at z)<|RM z z<|Rm z<|R z (bQ [(0,.tmp 27),(1,.tmp 28),(2,.tmp 29)] [Str.v x2,vI x3,vI x5,vI 0] l_H z z)<|E z (fS [(.tmp 30)] g_b z z z (a_2 z) (lb z)<|lb z) ?_;rintro _ aX ⟨rfl,hj⟩;have:=hj.below;have aq:Blk aX w0.z [Str.v x2,vI x3,vI x5,vI 0]:=hj.blk;have:=a_r hj<|i_z (x:=(⟨x2,x3,x5,0⟩:z_)) a3 W a0<|ii z;refine bdB hm λ_ aY ar=>E z (a_B (α:=z_) g_b aY z z kO p1_2n aq (i_z (x:=(⟨x2,x3,x5,0⟩:z_)) a3 W a0<|ii z) an_ s_) ?_;rintro _ _ ⟨S4,ap,nq,ct,rfl,aZ,_,b0,_⟩;refine R z (t_ z)<|Rf z h_i z<|E0q [sl A0 N0 C0,sl A5 N5 C5,sl ap nq ct] z_49 z z kB z λc6 _ au=>Wn<|Wq (Wd (X:=noX) 0 (pl_ 16 [10]) mo (by kernel_rfl) λc7 b3 _=>dM z z z<|dR z z (t_ z)<|dR z z (fd h_h z)<|dR z z (lN (vs:=[sl A0 N0 C0]) m_ l_ z z fid<|kBr 0 1)<|dM z z z<|dM z z z<|dR z z (t_ z)<|dR z z (fd f_92_1 z)<|dR z z (l0 F_ z kBa)<|dM z z z ?_);obtain ⟨L,_,b5,aw⟩:=K_ ar;refine dE z z (fc call88 z<|W_w3a (B:=B) (x1:=(⟨x1.d.rules⟩:b_)) b5 kM kR W kR a0) iB ?_;rintro _ wr ⟨b6,rfl,hu,_⟩;refine dM z z z<|dR z z (ext_ z z)<|dR z z (ext_ z z)<|dQ z z z<|dQ z z z<|pD<|Wo<|Wm z<|Rw z<|Wq<|Wm z<|R z (t_ z)<|Rf z h_h z<|Rf z N_ z<|R z (l0 Q_ z kBa)<|Rm z ?_;refine bdB aw λY b7 ay=>xA (α:=c_) z P_ i_ z z z kR b7 λ_ _ _ b8 b9 _=>?_;obtain ⟨av,ns,cw,ax,ny,cz,a8,a9,aa,ab,ad,ae,rfl,_,_,_,_,_,_,_⟩:=a_k b9;refine R z (lN (vs:=vR Y av ns cw ax ny cz a8 a9 aa ab ad ae) C_ i_ z z fid b8)<|EvZ [(Str.v (⟨[]⟩:Str)),vI 0,vI 0,vB false,sN,sN,sN,sN] z b_4 z λc8 az aA=>E0q (vR Y av ns cw ax ny cz a8 a9 aa ab ad ae) i_ z z aA z λwc ba aB=>Wn<|Ws<|Rf z a_b z<|R z (l0 g_3 z<|ba.at z)<|Wn<|Wb<|Wq<|Ws<|Rq z z z<|Rw z<|bdB ay λbb a4 aC=>?_;refine Wt (λa w=>∃(xk:Bool),xk=bb/\Sat 126 [(0,pt g1),(1,Str.v x2),(2,vI x3),(3,.pointer<|some ⟨b4,o4,none⟩),(11,vI (x1.list_.length:Int)),(12,vI L),(14,vI x5),(15,pt wr.z),(59,vI Y.kind),(60,vB xk)] a/\Below wc.z wc w) ?_ ?_
 .refine Wc z (λhcl=>?_)<|λhcl=>?_
  .exact X_<|λ_ q=>⟨Y.kind==5,som<|ifT a4 hcl,q.k<|sc z<|sc z<|sc z<|sc z<|sc z<|sc z<|sc z<|sc z<|sc z<|sc z sn,br wc⟩
  exact Wg<|Rq z z z<|Ra z<|Wl (λ_ q=>⟨Y.kind==7,som<|ifF a4 hcl,q.k<|sc z<|sc z<|sc z<|sc z<|sc z<|sc z<|sc z<|sc z<|sc z<|sc z sn,br wc⟩)
 rintro bc O ⟨xk,rfl,_,be⟩;revert bc;refine Wo<|bdB aC λbf a5 aD=>Wt (λa w=>∃(xf:Int),xf=bf/\Sat 126 [(0,pt g1),(1,Str.v x2),(2,vI x3),(3,.pointer<|some ⟨b4,o4,none⟩),(11,vI (x1.list_.length:Int)),(12,vI L),(14,vI xf)] a/\Below O.z O w/\inI xf) ?_ ?_
 .refine Wc z (λhcm=>?_)<|λhcm=>?_
  .refine Wd (X:=noX) 0 (pl_ 15 []) mo (by kernel_rfl) λc9 bg _=>dM z z z<|dM z z z<|dR z z (t_ z)<|dR z z (fd h_h z)<|dR z z (fd N_ z)<|dR z z (l0 Q_ z kBa)<|dR z z (fd y_ z)<|dR z z (l0 p_ z kBa)<|bdB (ifT a5 hcm) λ_ bh aE=>dxA (α:=Int) z z h_ z_3 z z z kR bh λ_ _ _ bi bj _=>?_;obtain ⟨rfl,_⟩:=T_ bj;refine dR z z (l0 g_3 z<|bi.at0 z)<|bdB aE λbk bm aF=>dxA (α:=c_) z z P_ i_ z z z kR bm λ_ _ _ bn bo _=>?_;obtain ⟨_,_,_,_,_,_,_,_,_,_,_,_,rfl,_,_,_,_,_,_,_⟩:=a_k bo;exact dR z z (fd a_g z)<|dR z z (l0 g_3 z<|bn.at (j:=2) z)<|dR z z (add_ z z)<|dQ z z z<|pD (λ_ q=>⟨d_ x5 bk.size,som aF,kaA q,bg,iA _ _⟩)
  refine Ws<|Rq z z z<|Rw z<|bdB (ifF a5 hcm) λbp a6 aG=>Wt (λa w=>∃(xa:Int),xa=bp/\Sat 126 [(0,pt g1),(1,Str.v x2),(2,vI x3),(3,.pointer<|some ⟨b4,o4,none⟩),(11,vI (x1.list_.length:Int)),(12,vI L),(14,vI xa)] a/\Below O.z O w/\inI xa) ?_ ?_
  .refine Wc z (λhcn=>?_)<|λhcn=>?_
   .exact Wg<|Rm z<|R z (add_ z z)<|Ra z<|Wl (λ_ q=>⟨d_ x5 1,som<|ifT a6 hcn,kaA q,br O,iA _ _⟩)
   exact X_<|λ_ q=>⟨x5,som<|ifF a6 hcn,kaA q,br O,a0⟩
  rintro bq _ ⟨xa,rfl,_,bs,bt⟩;revert bq;exact λ_ q=>⟨xa,som aG,kaA q,bs,bt⟩
 rintro bu wb ⟨xf,rfl,_,bv,bw⟩;revert bu;refine Wo<|Wq<|Wm z<|R z (t_ z)<|Rf z a_4 z<|have af:=(((((((r_.chg kC aZ<|sQB hC4b).c au<|sQB hC4b).e b3).e b6).e az).c aB<|sQB hC4b).e be).e bv;R z (l0 a_m z<|af.at (j:=2) z)<|R z (lnR a_e z kR)<|Rm z<|Wn ?_;obtain ⟨_,aH,a7⟩:=bdS aD;refine Wf (σ:=Int×(List z_)) (ρ:=Int×(List z_)) (λ(ah:Nat) s a w=>un2 (λx6 V=>∃H I J G,Sat 126 [(0,pt g1),(1,Str.v x2),(2,vI x3),(3,.pointer<|some ⟨b4,o4,none⟩),(11,vI (x1.list_.length:Int)),(12,vI L),(14,vI x6),(85,vI (x4.items.length:Int)),(86,vI ((ah:Nat):Int))] a/\Chg (· ∈ ([g1]++S4)) wb w/\inI x6/\a_ w G (sl H I J) V/\G.Nodup/\(∀k∈G,k∈S4∨wb.z<=k)/\Blk w g1 [sl A0 N0 C0,sl A5 N5 C5,sl H I J]) s) (λs a w=>un2 (λx6 V=>∃H I J G,Sat 126 [(0,pt g1),(11,vI (x1.list_.length:Int)),(12,vI L)] a/\Chg (· ∈ ([g1]++S4)) wb w/\inI x6/\a_ w G (sl H I J) V/\G.Nodup/\(∀k∈G,k∈S4∨wb.z<=k)/\Blk w g1 [sl A0 N0 C0,sl A5 N5 C5,sl H I J]) s) (rQ prog fn<|Q34 w0 g1 B A0 N0 C0 A5 N5 C5 AH NH CH S1_2 x1) aH ?_ ?_ ?_ ?_ ?_
 .exact λ_ q=>⟨ap,nq,ct,S4,kaA q,cr ([g1]++S4) wb,bw,kO,b0,sQ,kB⟩
 .rintro ah ⟨x6,V⟩ _ _ _ hkg ⟨H,I,J,G,aI,bx,hh,hd,he,ai,hi⟩ aJ;refine Wu ?_ aI;refine Ws<|Rl z z z<|Wn<|Wq<|Wc z (λ_=>?_) (λhc=>(U_ hkg hc).elim);refine Wk<|Wq<|Wb<|Wm z<|Ra z<|Wn (Wd (X:=noX) 67108864 (.rd 0<|.rd 1<|.rd 2<|.rd 3<|.rd 4<|.rd 5<|.rd 6<|.rd 7<|.rd 8<|.rd 11<|.rd 12<|.rd 13<|.rd 14<|.rd 15<|.rd 16<|.rd 17<|.rd 19<|.rd 20<|.rd 21<|.rd 22<|.rd 23<|.rd 24<|.rd 25<|.ef 9<|.rd 10<|.ef 18<|.ef 26<|.rd 27 .done) mo (by kernel_rfl) λca bz _=>dM z z z<|dM z z z ?_);refine bdB (Z_ aJ) λ_ bA aK=>dR z z (d_U z z bA)<|dM z z z<|dR z z (t_ z)<|dR z z (fd h_h z)<|dR z z (lN (vs:=[sl A0 N0 C0]) m_ l_ z z fid<|kBr 0 1) ?_;iterate 3 refine dM z z z ?_
  refine dR z z (t_ z)<|dR z z (fd h_h z)<|dR z z (lN (vs:=[sl A0 N0 C0]) m_ l_ z z fid<|kBr 0 1) ?_;iterate 4 refine dM z z z ?_
  refine dR z z (t_ z)<|dR z z (fd a_4 z)<|have aj:=(af.c bx<|sQB hC4b).e bz;dR z z (l0 a_m z<|aj.at (j:=2) z)<|dM z z z<|bdB aK λ_ bB aL=>dxA (α:=Val) z z a_e e_ z z z kR bB λ_ _ _ _ bC bD=>?_;obtain ⟨_,_,_,_,_,_,rfl,bE,_,_⟩:=i_l bC;refine dM z z z<|bdB aL λ_ bF aM=>dE z z (fc call89 z<|W_w3c (B:=B) (x1:=(⟨x1.d.rules⟩:b_)) bF kM kG kR W<|ic (Nat.le_of_lt hkg)<|lt_ (repS.len a2) D_) iB ?_;rintro _ _ ⟨bG,rfl,_⟩;refine bdB aM λ_ ak aN=>dR z z (d_U z z ak)<|bdB aN λ_ bH aO=>dE z z (fc call90 z<|k_4 (B:=B) (x1:=(⟨x1.d.rules⟩:b_)) bH kM kR W an kR kR (aj.e bG) hC4b<|ic (Nat.le_of_lt hkg)<|lt_ (repS.len a2) D_) iB ?_;rintro _ _ ⟨_,rfl,bI⟩;obtain ⟨bJ,bK,bL,aP⟩:=K_ aO;refine dE z z (fc call59 z<|aW.run (B:=B) bL kB kM sQ kG kR kR kO he sQ sQ (e_F ak) bI bE kR kR kC bD hh) (.inl z) ?_;rintro _ _ ⟨_,bM,bN,bO,bP,rfl,bR,bS,bT,_,bU⟩;exact dQ z z z<|pD<|Wo<|Wg<|R z (inc_ hkg (lt_ (repS.len a2) D_) z z)<|Rm z<|Wl (λ_ q=>⟨(bJ,bK),(som aP).symm,⟨bM,bN,bO,bP,kaA q,kW,bR,bS,bT,sQ,bU⟩⟩)
 .rintro ⟨x6,V⟩ _ _ ⟨H,I,J,G,aQ,_,hh,hd,he,ai,hi⟩;refine Wu ?_ aQ;refine Ws<|Rl z z z<|Wn<|Wq<|Wc z (λhc=>(V_ hc).elim) (λ_=>?_);exact We<|λ_ q=>⟨rfl,⟨H,I,J,G,kaA q,kW,hh,hd,he,sQ,hi⟩⟩
 .rintro ⟨x6,V⟩ bV _ rfl ⟨H,I,J,G,_,_,hh,hd,he,ai,hi⟩;have aR:=elL a7;revert bV;refine Wo<|Wm z<|R z (t_ z)<|Rf z h_i z<|R z (l0 g_49 z<|hi.at z)<|RM z z ?_;refine bdB (Z_ aR) λxo al aS=>RX z (rd_atQ (α:=z_) d_Z g_e z z hd al) ?_;rintro _ ⟨_,bW,rfl⟩;refine Rf z f_53_3 z<|bdB aS λ_ bX aT=>E0 (o_B (α:=z_) (v':=(⟨xo.path,xo.rule,xo.start,L⟩:z_)) z_3 z bW z z z z al bX hd he (lb z)<|λ_ _ _ h=>n_P h hu) ?_;rintro _ _ ⟨bY,_,bZ,c0,_⟩;exact Wn<|Wm z<|Rw z<|Wr<|rS1 aT hr z ⟨kW,H,I,J,bY,z,hu,bZ,c0,sQ,kB⟩
 exact lqA a7 λ_ _ h=>h.2
theorem A_w0n:∀n,l_N n
  | 0=>⟨λhm=>by intros;exact nomatch (show none=some _ from hm)⟩
  | n+1=>T_w0n<|A_w0n n
theorem W_w0n:k_m (e_p n).impl_indexer_part:=A_w0n n
def Q35 (w0:World)(B:Zone)(r:(List z_)×Bool)(v:Value)(w':World):Prop:=Bw w0 w'/\un2 (λr1 r2=>∃G H I S1,v = .tuple #[sl G H I,vB r2]/\a_ w' S1 (sl G H I) r1/\S1.Nodup/\(∀k∈S1,w0.z<=k)) r
theorem W_w3d {x1:b_}{x2:Bt}{res:(List z_)×Bool}(hm:i_j n x1 x2=some res)(a3:B<=w0.z)(hG:Gl w0 B)(a0:rp w0 B A0 N0 C0 x1.rules)(a1:rp w0 B A7 N7 C7 x2):g_ prog 36 [(.agg #[sl A0 N0 C0]),sl A7 N7 C7] w0 (Q35 w0 B res):=by
 unfold i_j at hm;refine goG func36 z z z λfn hr=>Ws<|EvX [sl A0 N0 C0] z z z λw7 _ a2=>Ra z<|Rw z<|Ws<|R z (lC [sl A0 N0 C0] m_ l_ z)<|Rm z ?_;obtain ⟨W,_,_,Y,I⟩:=x_ hm;refine E z (fc call58 z<|W_w38 (B:=B) Y kM kG kR kR) ?_;rintro _ _ ⟨_,ab,nc,cd,_,ae,nf,cg,_,rfl,hh,hi,hj,_,_,hk,hl⟩;obtain ⟨_,_,_,_,_⟩:=a_1 hk hl;refine Rm z ?_;iterate 3 refine Re z z z ?_
 refine EvZ [vI 0,sN,sN] z a_7 z λw3 _ H=>E0q [vI W.number,sl ab nc cd,sl ae nf cg] e_ z z H z λw5 _ _=>Ra z<|Rw z<|Wq<|Wm z<|R z (nq z z)<|Wx z (λG=>?_) (λG=>?_)
 .refine Ws<|E z (f0 (α:=z_) g_b) ?_;rintro _ _ ⟨an,no,cp,rfl,_,hq⟩;exact Ra z<|Rw z<|Wr<|rS2 (ifT I G) hr z z ⟨kW,an,no,cp,[w5.z],z,hq,W_,sQ⟩
 refine Wk<|Ws<|R z (lC [sl A0 N0 C0] m_ l_ z)<|Rm z<|R z (bQ [(0,.tmp 20),(1,.tmp 21)] [sl A0 N0 C0,sl A7 N7 C7,sN] p_d z z)<|EvX [sl A0 N0 C0,sl A7 N7 C7,sN] z z z λwr _ _=>Rw z<|Wm z<|R z (lC [sl A0 N0 C0] m_ l_ z)<|bdB (ifF I G) λ_ es hmt=>E z (fc call33 z<|g_h (B:=B) es kM kR) ?_;rintro _ _ ⟨_,rfl,hu⟩;obtain ⟨_,_,ev,hmw⟩:=K_ hmt;refine E z (fc call59 z<|W_w0n.run (B:=w3.z) ev kB (a_f kM) sQ (GlW.mono kG kM) (repS.mono kR kM) (repS.mono kR kM) onL s_ sQ an_ (lb z) hu hh (repS.mono (or_ kO<|a_.lt hi)<|a_f kM) (repS.mono (or_ kO<|a_.lt hj)<|a_f kM) (kBr 0 3) H.lt<|ii z) ?_;rintro _ _ ⟨_,ax,ny,cz,J,rfl,_,L,O,_,V⟩;exact Wn<|Wm z<|R z (t_ z)<|Rf z h_i z<|R z (l0 g_49 z<|V.at z)<|Ra z<|Rw z<|Wr<|rS2 hmw hr z z ⟨kW,ax,ny,cz,J,z,L,O,sQ⟩
def Q36 (w0:World)(B:Zone)(r:(List Int))(v:Value)(w':World):Prop:=Bw w0 w'/\(λr1=>∃G H I S1,(sl G H I)=v/\a_ w' S1 (sl G H I) r1/\S1.Nodup/\(∀k∈S1,w0.z<=k)) r
theorem W_w3e {x1:b_}{x2:Bt}{res:(List Int)}(hm:g_Y n x1 x2=some res)(au:B<=w0.z)(hG:Gl w0 B)(an:rp w0 B A0 N0 C0 x1.rules)(ap:rp w0 B A7 N7 C7 x2):g_ prog 18 [(.agg #[sl A0 N0 C0]),sl A7 N7 C7] w0 (Q36 w0 B res):=by
 unfold g_Y at hm;refine goG func18 z z z λfn hr=>Ws<|EvX [sl A0 N0 C0] z z z λwl _ aq=>Rw z<|Ws<|R z (lC [sl A0 N0 C0] m_ l_ z)<|Rm z ?_;obtain ⟨rm,_,en,hmc⟩:=K_ hm;refine E z (fc call36 z<|W_w3d (B:=B) en kM kG kR kR) ?_;rintro _ H ⟨_,ao,np,cq,_,rfl,ha,_,_⟩;refine Rm z<|Re z z z<|Re z z z<|Ra z<|Rw z<|Wq<|Wm z<|R z (not_ z)<|Wx z (λhcb=>?_) (λhcb=>?_)
 .refine Ws<|E z (f0 (α:=Int) a_u) ?_;rintro _ _ ⟨ar,ns,ct,rfl,_,hu⟩;exact Rw z<|Wr<|rS1 (ifT hmc hcb) hr z ⟨kW,ar,ns,ct,[H.z],z,hu,W_,sQ⟩
 refine Wk<|Ws<|Rf z N_ z<|R z (l0 Q_ z kBa)<|R z (lnR P_ z kR)<|bdB (ifF hmc hcb) λ_ ev hmw=>E z (f_Y (α:=Int) a_u (λ_=>a_q<|ii z) ev z z) ?_;rintro _ I ⟨J,L,O,rfl,_,hx⟩;refine Rw z<|Wq<|Wm z<|R z (lnR d_Z z<|or_ kO<|a_.lt ha)<|Rm z<|Wn<|bdB hmw λ_ huy hme=>Wf (σ:=List Int) (ρ:=List Int) (λ(kf:Nat)(x4:List Int) a w=>∃(G:List Nat),Sat 38 [(7,sl J L O),(23,sl ao np cq),(24,vI (rm.length:Int)),(25,vI ((kf:Nat):Int))] a/\Cg [H.z] I w/\a_ w G (sl J L O) x4/\G.Nodup/\(∀k∈G,k∈[H.z]∨I.z<=k)) (λ(x4:List Int) a w=>∃(G:List Nat),Sat 38 [(7,sl J L O)] a/\Cg [H.z] I w/\a_ w G (sl J L O) x4/\G.Nodup/\(∀k∈G,k∈[H.z]∨I.z<=k)) (rQ prog fn<|Q36 w0 B) huy ?_ ?_ ?_ ?_ ?_
 .exact λ_ q=>⟨[H.z],kaA q,cr [H.z] I,hx,W_,sQ⟩
 .rintro kf x4 _ wg _ hkh ⟨G,hSz,_,V,W,hi⟩ a0;refine Wu ?_ hSz;refine Ws<|Rl z z z<|Wn<|Wq<|Wc z (λ_=>?_) (λhc=>(U_ hkh hc).elim);refine Wk<|Wq<|Wb<|Ws<|bdB a0 λx3 a9 a1=>xA (α:=z_) z d_Z g_e z z z (or_ (B:=bl H.z) kO<|a_.lt ha) a9 λ_ _ _ aa ab _=>?_;obtain ⟨rfl,_,_,_,_⟩:=j_M ab;refine R z (lN (vs:=[Str.v x3.path,vI x3.rule,vI x3.start,vI x3.end_]) g_53 g_e z z fid aa)<|EvZ [(Str.v (⟨[]⟩:Str)),vI 0,vI 0,vI 0] z p_h z λav _ Y=>E0q [Str.v x3.path,vI x3.rule,vI x3.start,vI x3.end_] g_e z z Y z λaw ad _=>Wn<|Wg<|Rm z<|Rf z j_U z<|R z (l0 g_3 z<|ad.at z)<|bdB a1 λ_ ae a2=>xI z h_ z_3 z z z (or_ (B:=bl wg.z) kO<|a_.lt V) ae λ_ _ af _=>R z (l0 g_3 z<|af.at0 z)<|R z (add_ z z)<|bdB a2 λah ek a3=>RX z (b_t (α:=Int) h_ z_3 z z kO ek) ?_;rintro _ ⟨_,ai,rfl⟩;refine E0 (a_S (α:=Int) z_3 z ai z z z ek kO W (a_q<|iA _ _) an_ s_) ?_;rintro _ _ ⟨aj,_,ak,al,_⟩;exact Wn<|Wg<|R z (inc_ hkh (lt_ (a_.len ha) D_) z z)<|Rm z<|Wl (λ_ q=>⟨ah,(som a3).symm,⟨aj,kaA q,kW,ak,al,sQ⟩⟩)
 .rintro x4 _ _ ⟨G,a4,_,V,W,hi⟩;refine Wu ?_ a4;refine Ws<|Rl z z z<|Wn<|Wq<|Wc z (λhc=>(V_ hc).elim) (λ_=>?_);exact We<|λ_ q=>⟨rfl,⟨G,kaA q,kW,V,W,sQ⟩⟩
 .rintro x4 am _ rfl ⟨G,_,_,V,W,hi⟩;have a6:=elL hme;revert am;exact Wo<|Wm z<|Rw z<|Wr<|rS1 a6 hr z ⟨kW,J,L,O,G,z,V,W,sQ⟩
 exact lqA hme λ_ _ h=>h.2
theorem k_n {x1:List Int}{x2:Int}{res:Int}(hm:c_U x1 x2=some res)(a1:B<=w0.z)(L:rp w0 B A0 N0 C0 x1)(a0:inI x2):g_ prog 37 [sl A0 N0 C0,vI x2] w0 (Q10 w0 B res):=by
 unfold c_U at hm;refine goG func37 z z z λfn hr=>Ws<|Rw z<|Wq<|Wq<|bdB hm λV I J=>Wt (λa w=>∃(x3:Bool),x3=V/\Sat 17 [(0,sl A0 N0 C0),(1,vI x2),(12,vB x3)] a/\Below w0.z w0 w) ?_ ?_
 .refine Wg<|Rm z<|Rl z z z<|Rm z ?_;rcases bs (decide<|x2<0) with G | G
  .iterate 4 refine Nh z G ?_
   exact R z (pT z G z)<|Wl (λ_ q=>⟨true,som<|ifT I G,kaA q,br w0⟩)
  exact Rh z G (mv z)<|Rh z G (mv z)<|Rh z G (lnR h_ z L)<|Rh z G (a_Z z z)<|R z (pF z G z)<|Wl (λ_ q=>⟨decide<|(x1.length:Int)<=x2,som<|ifF I G,kaA q,br w0⟩)
 rintro W _ ⟨x3,rfl,_,s5⟩;revert W;refine Wo<|Wc z (λH=>?_) (λH=>?_)
 .exact Ws<|Rw z<|Wr<|rS1 (ifT J H) hr z ⟨s5,z,ii z⟩
 exact Wk<|Wm z<|Rm z<|bdB (ifF J H) λ_ Y O=>xI z h_ z_3 z z z kR Y λ_ _ ha hc=>R z (l0 g_3 z<|ha.at0 z)<|Rw z<|Wr<|rS1 O hr z ⟨s5,z,hc⟩
theorem W_w3f {x1:List Int}{x2:List Int}{res:Bool}(hm:g_T x1 x2=some res)(a1:B<=w0.z)(H:rp w0 B A0 N0 C0 x1)(a0:rp w0 B A7 N7 C7 x2):g_ prog 19 [sl A0 N0 C0,sl A7 N7 C7] w0 (Q0 w0 B res):=by
 unfold g_T at hm;refine goG func19 z z z λfn hr=>Ws<|Rw z<|Wq<|Wm z<|R z (lnR h_ z H)<|Rm z<|Wn<|bdB hm λ_ Y O=>Wf (σ:=Unit) (ρ:=Bool) (λ(k1:Nat)(_:Unit) a w=>Sat 23 [(1,sl A7 N7 C7),(7,sl A0 N0 C0),(8,vI (x1.length:Int)),(9,vI ((k1:Nat):Int))] a/\Below w0.z w0 w) (λ(_:Unit) a w=>Sat 23 [] a/\Below w0.z w0 w) (rQ prog fn<|Q0 w0 B) Y ?_ ?_ ?_ ?_ ?_
 .exact λ_ q=>⟨kaA q,br w0⟩
 .rintro k1 _ _ L _ I ⟨hSa,_⟩ hmb;refine Wu ?_ hSa;refine Ws<|Rl z z z<|Wn<|Wq<|Wc z (λ_=>?_) (λhc=>(U_ I hc).elim);refine Wk<|Wq<|Wb<|Wm z<|bdB hmb λxc ed hme=>xI z h_ z_3 z z z kR ed λ_ _ hf _=>R z (l0 g_3 z<|hf.at0 z)<|Ra z<|Rw z<|Wq<|bdB hme λuh V W=>Wt (λa w=>∃(x4:Bool),x4=uh/\Sat 23 [(1,sl A7 N7 C7),(7,sl A0 N0 C0),(8,vI (x1.length:Int)),(9,vI ((k1:Nat):Int)),(21,vB x4)] a/\Below L.z L w) ?_ ?_
  .refine Wg<|Rm z<|R z (a_c z z)<|Rm z ?_;rcases bs (decide<|0<xc) with G | G
   .refine Rh z G (mv z)<|Rh z G (mv z)<|bdB (ifT V G) λri ej hmk=>Eg z z G z (fc call37 z<|k_n (B:=B) ej kM kR<|ic (Nat.le_of_lt I)<|lt_ (repS.len H) D_) ?_;rintro _ _ ⟨sm,rfl,_⟩;exact Rh z G (eql z z)<|R z (pT z G z)<|Wl (λ_ q=>⟨ri==0,som hmk,kaA q,sm⟩)
   iterate 4 refine Nh z G ?_
   exact R z (pF z G z)<|Wl (λ_ q=>⟨false,som<|ifF V G,kaA q,br L⟩)
  rintro al _ ⟨x4,rfl,_,_⟩;revert al;refine Wo<|Wc z (λJ=>?_) (λJ=>?_)
  .exact Ws<|Rw z<|Wr<|rtO<|qL (som<|ifT W J).symm<|a_I hr z ⟨kW,z⟩
  exact Wk<|Wg<|R z (inc_ I (lt_ (repS.len H) D_) z z)<|Rm z<|Wl (λ_ q=>⟨(),(som<|ifF W J).symm,⟨kaA q,kW⟩⟩)
 .rintro _ _ _ ⟨hSn,so⟩;refine Wu ?_ hSn;refine Ws<|Rl z z z<|Wn<|Wq<|Wc z (λhc=>(V_ hc).elim) (λ_=>?_);exact We<|λ_ q=>⟨rfl,⟨q.k sn,so⟩⟩
 .rintro _ ap _ rfl ⟨_,sq⟩;have hmr:=elL O;revert ap;exact Wo<|Ws<|Rw z<|Wr<|rS1 hmr hr z ⟨sq,z⟩
 exact lqA O λ_ _ h=>h.2
theorem W_w3g {x1:List Int}{x2:List Int}{res:(List Int)}(hm:g_Z x1 x2=some res)(a5:B<=w0.z)(a0:rp w0 B A0 N0 C0 x1)(a1:rp w0 B A7 N7 C7 x2):g_ prog 20 [sl A0 N0 C0,sl A7 N7 C7] w0 (Q36 w0 B res):=by
 unfold g_Z at hm;refine goG func20 z z z λfn hr=>Ws<|Rw z<|Wm z<|R z (lnR h_ z a0)<|Rm z<|R z (lnR h_ z a1)<|bdB hm λ_ ef hmg=>E z (fc call16 z<|j_Y (B:=B) ef a5 (a_A<|repS.len a0)<|a_A<|repS.len a1) ?_;rintro _ H ⟨_,rfl,_⟩;refine bdB hmg λxh ei hmj=>E z (f_Y (α:=Int) a_u (λ_=>a_q<|ii z) ei z z) ?_;rintro _ I ⟨J,L,O,rfl,_,V⟩;refine Rw z<|Wq<|Wm z<|R z (lnR h_ z<|a_.rep V)<|Rm z<|Wn<|bdB hmj λ_ huk hmb=>Wf (σ:=List Int) (ρ:=List Int) (λ(kc:Nat)(x3:List Int) a w=>∃(G:List Nat),Sat 30 [(0,sl A0 N0 C0),(1,sl A7 N7 C7),(5,sl J L O),(14,vI (xh.length:Int)),(15,vI ((kc:Nat):Int))] a/\Cg [H.z] I w/\a_ w G (sl J L O) x3/\G.Nodup/\(∀k∈G,k∈[H.z]∨I.z<=k)) (λ(x3:List Int) a w=>∃(G:List Nat),Sat 30 [(5,sl J L O)] a/\Cg [H.z] I w/\a_ w G (sl J L O) x3/\G.Nodup/\(∀k∈G,k∈[H.z]∨I.z<=k)) (rQ prog fn<|Q36 w0 B) huk ?_ ?_ ?_ ?_ ?_
 .exact λ_ q=>⟨[H.z],kaA q,cr [H.z] I,V,W_,sQ⟩
 .rintro kc x3 _ _ _ Y ⟨G,hSl,_,ha,W,hd⟩ hmm;refine Wu ?_ hSl;refine Ws<|Rl z z z<|Wn<|Wq<|Wc z (λ_=>?_) (λhc=>(U_ Y hc).elim);refine Wk<|Wq<|Wb<|Wm z<|Rw z<|Wg<|RM z z<|RM z z<|bdB hmm λ_ en hmo=>E z (fc call37 z<|k_n (B:=B) en kM kR<|ic (Nat.le_of_lt Y)<|lt_ (a_.len V) D_) ?_;rintro _ _ ⟨_,rfl,_⟩;refine RM z z<|bdB hmo λ_ ep hmq=>E z (fc call37 z<|k_n (B:=B) ep kM kR<|ic (Nat.le_of_lt Y)<|lt_ (a_.len V) D_) ?_;rintro _ _ ⟨_,rfl,_⟩;refine R z (add_ z z)<|bdB hmq λxr ee hms=>RX z (b_t (α:=Int) h_ z_3 z z kO ee) ?_;rintro _ ⟨_,ht,rfl⟩;refine E0 (a_S (α:=Int) z_3 z ht z z z ee kO W (a_q<|iA _ _) an_ s_) ?_;rintro _ _ ⟨Su,_,hv,hw,_⟩;exact Wn<|Wg<|R z (inc_ Y (lt_ (a_.len V) D_) z z)<|Rm z<|Wl (λ_ q=>⟨xr,(som hms).symm,⟨Su,kaA q,kW,hv,hw,sQ⟩⟩)
 .rintro x3 _ _ ⟨G,hSx,_,ha,W,hd⟩;refine Wu ?_ hSx;refine Ws<|Rl z z z<|Wn<|Wq<|Wc z (λhc=>(V_ hc).elim) (λ_=>?_);exact We<|λ_ q=>⟨rfl,⟨G,kaA q,kW,ha,W,sQ⟩⟩
 .rintro x3 ay _ rfl ⟨G,_,_,ha,W,hd⟩;have hmz:=elL hmb;revert ay;exact Wo<|Wm z<|Rw z<|Wr<|rS1 hmz hr z ⟨kW,J,L,O,G,z,ha,W,sQ⟩
 exact lqA hmb λ_ _ h=>h.2
theorem W_w3h {x1:b_}{x2:Int}{x3:Int}{res:(List Int)}(hm:g_U n x1 x2 x3=some res)(bw:B<=w0.z)(hG:Gl w0 B)(bv:rp w0 B A0 N0 C0 x1.rules)(aj:inI x2)(ak:inI x3):g_ prog 6 [(.agg #[sl A0 N0 C0]),vI x2,vI x3] w0 (Q36 w0 B res):=by
 unfold g_U at hm;refine goG func6 z z z λfn hr=>Ws<|EvX [sl A0 N0 C0] z z z λV _ _=>Rw z<|Ws<|E z (f0 (α:=Int) a_u) ?_;rintro _ a4 ⟨aF,aG,aH,rfl,_,_⟩;refine Rw z<|Ws<|E z (f0 (α:=Int) a_u) ?_;rintro _ wa ⟨aI,aJ,aK,rfl,_,aL⟩;refine Rw z<|Wq<|Ws<|Rw z ?_;obtain ⟨_,al,a9⟩:=bdS hm;refine b_m (σ:=(List Int)×(List Int)×Int) (ρ:=List Int) (λs a w=>un3 (λxb xc x5=>∃a2 H I G J L O S1,Sat 45 [(1,vI x2),(2,vI x3),(3,pt w0.z),(7,sl a2 H I),(8,sl J L O),(9,vI x5)] a/\Cg [V.z] wa w/\a_ w G (sl a2 H I) xb/\G.Nodup/\(∀k∈G,k∈[V.z]∨wa.z<=k)/\a_ w S1 (sl J L O) xc/\S1.Nodup/\(∀k∈S1,k∈[a4.z]∨wa.z<=k)/\(∀k∈S1,k∉G)/\inI x5) s) (λs a w=>un3 (λxb xc x5=>∃a2 H I G J L O S1,Sat 45 [(7,sl a2 H I)] a/\Cg [V.z] wa w/\a_ w G (sl a2 H I) xb/\G.Nodup/\(∀k∈G,k∈[V.z]∨wa.z<=k)/\a_ w S1 (sl J L O) xc/\S1.Nodup/\(∀k∈S1,k∈[a4.z]∨wa.z<=k)/\(∀k∈S1,k∉G)/\inI x5) s) (rQ prog fn<|Q36 w0 B) al ?_ ?_ ?_ ?_
 .exact λ_ q=>⟨aF,aG,aH,[V.z],aI,aJ,aK,[a4.z],kaA q,cr [V.z] wa,kO,W_,sQ,aL,W_,sQ,sQ,ii z⟩
 .rintro ⟨xb,xc,x5⟩ _ _ _ ⟨a2,H,I,G,J,L,O,S1,am,_,ae,hd,aM,a5,hk,aN,hl,hi⟩ an;refine Wu ?_ am;refine Wq<|Wm z<|Rm z<|bdB (a_X an) λ_ aO ap=>E z (fc call16 z<|j_Y (B:=B) aO kM aj<|ii z) ?_;rintro _ _ ⟨_,rfl,aP⟩;refine bdB ap λ_ aQ aa=>E z (fc call15 z<|g_g (B:=B) aQ kM aP<|ii z) ?_;rintro _ a7 ⟨_,rfl,_⟩;refine R z (b_p z z)<|Wx z (λa0=>?_) (λa0=>?_)
  .refine Wk<|Wq<|bdB (ifT aa a0) λaR aq au=>Wt (λa w=>∃(xm:List Int)(xn:List Int),(xm,xn)=aR/\∃ao np cq Se ar ns ct Sf,Sat 45 [(1,vI x2),(2,vI x3),(3,pt w0.z),(7,sl ao np cq),(8,sl ar ns ct),(9,vI x5)] a/\Cg G a7 w/\a_ w Se (sl ao np cq) xm/\Se.Nodup/\(∀k∈Se,k∈G∨a7.z<=k)/\a_ w Sf (sl ar ns ct) xn/\Sf.Nodup/\(∀k∈Sf,k∈S1∨a7.z<=k)/\(∀k∈Sf,k∉Se)) ?_ ?_
   .refine Wb<|Ws<|R z (lC [sl A0 N0 C0] m_ l_ z)<|RM z z ?_;obtain ⟨_,_,aS,ab⟩:=K_ aq;refine E z (fc call17 z<|W_w36 (B:=B) aS kM kR hi ak) ?_;rintro _ aT ⟨_,_,_,_,_,rfl,aU,_,_⟩;refine Rm z<|Re z z z<|Re z z z<|Ra z<|Rw z<|Wq<|Wm z<|R z (not_ z)<|Wx z (λa1=>?_) (λa1=>?_)
    .exact We<|exH<|λ_ q=>⟨xb,xc,som<|ifT ab a1,a2,H,I,G,J,L,O,S1,kaA q,kW,kO,hd,sQ,kO,hk,sQ,hl⟩
    refine Wk<|Ws<|R z (lC [sl A0 N0 C0] m_ l_ z)<|Rm z<|bdB (ifF ab a1) λ_ aV av=>E z (fc call18 z<|W_w3e (B:=aT.z) aV zr (GlW.mono kG kM) (repS.mono kR kM)<|a_.rep aU) ?_;rintro _ af ⟨_,_,_,_,_,rfl,ah,_,_⟩;refine Rw z<|Wm z<|Rm z<|bdB av λ_ aW ax=>EcA z (fc call19 z<|W_w3f (B:=af.z) aW zr (a_.rep ah)<|repS.mono (or_ kO<|a_.lt a5)<|a_f kM) λwj _=>Wn<|bdB ax λaX ad ay=>Wt (λa w=>∃(xu:List Int)(xv:List Int),(xu,xv)=aX/\∃aw nx cy Sg az W Y Sh,Sat 45 [(1,vI x2),(2,vI x3),(3,pt w0.z),(7,sl aw nx cy),(8,sl az W Y),(9,vI x5)] a/\Cg G wj w/\a_ w Sg (sl aw nx cy) xu/\Sg.Nodup/\(∀k∈Sg,k∈G∨wj.z<=k)/\a_ w Sh (sl az W Y) xv/\Sh.Nodup/\(∀k∈Sh,k∈S1∨wj.z<=k)/\(∀k∈Sh,k∉Sg)) ?_ ?_
    .refine Wc z (λa3=>?_)<|λa3=>?_
     .refine Wm z<|Rm z<|EvA z (fS [(.tmp 38)] a_u z z z (a_2 z) (lb z)<|lb z) λaY a8=>have:=a8.below;have ai:Blk aY wj.z [vI x5]:=a8.blk;have:=a_r a8<|a_q hi;bdB (ifT ad a3) λaZ b0 aA=>E z (a_B (α:=Int) a_u b0 z z kO hd ai (a_q hi) an_ s_) ?_;rintro _ _ ⟨b3,b4,b5,b6,rfl,_,_,b7,_⟩;refine Rw z<|Wg<|RM z z<|bdB aA λb8 b9 aB=>E z (fc call20 z<|W_w3g (B:=af.z) b9 (a_f kM) (repS.mono (or_ kO<|a_.lt a5)<|a_f kM)<|or_ kO<|a_.lt ah) ?_;rintro _ _ ⟨_,ba,bb,bc,be,rfl,bf,bg,_⟩;exact Ra z<|Wl (λ_ q=>⟨aZ,b8,som aB,b4,b5,b6,b3,ba,bb,bc,be,kaA q,kW,kO,b7,sQ,bf,bg,sQ,sQ⟩)
     exact X_<|λ_ q=>⟨xb,xc,som<|ifF ad a3,a2,H,I,G,J,L,O,S1,kaA q,cr G wj,kO,hd,sQ,kO,hk,sQ,hl⟩
    rintro bh _ ⟨xu,xv,rfl,aw,nx,cy,Sg,az,W,Y,Sh,_,_,bi,bj,_,bk,bm,_,bn⟩;revert bh;exact λ_ q=>⟨xu,xv,som<|Z_ ay,aw,nx,cy,Sg,az,W,Y,Sh,kaA q,kW,bi,bj,sQ,bk,bm,sQ,bn⟩
   rintro bo _ ⟨xm,xn,rfl,ao,np,cq,Se,ar,ns,ct,Sf,_,_,bp,bq,_,br,bs,_,bt⟩;revert bo;exact Wo<|Wg<|Rm z<|R z (add_ z z)<|Ra z<|Wl (λ_ q=>⟨(xm,xn,d_ x5 1),(som<|Z_ au).symm,⟨ao,np,cq,Se,ar,ns,ct,Sf,kaA q,kW,bp,bq,sQ,br,bs,sQ,bt,iA _ _⟩⟩)
  exact We<|λ_ q=>b_3 (som<|ifF aa a0).symm ⟨a2,H,I,G,J,L,O,S1,kaA q,kW,kO,hd,sQ,kO,hk,sQ,hl,hi⟩
 .rintro ⟨xb,xc,x5⟩ bu _ rfl ⟨a2,H,I,G,J,L,O,S1,_,_,ae,hd,aM,a5,hk,aN,hl,hi⟩;have aC:=elL a9;revert bu;refine Wo<|Wm z<|Rw z ?_;exact Wr<|rS1 (a_X aC) hr z ⟨kW,a2,H,I,G,z,ae,hd,sQ⟩
 exact lqA a9 λ_ _ h=>h.2
theorem f_7 {x1:b_}{res:Int}(hm:d_j x1=some res)(J:B<=w0.z)(I:rp w0 B A0 N0 C0 x1.rules):g_ prog 23 [(.agg #[sl A0 N0 C0])] w0 (Q10 w0 B res):=by
 unfold d_j at hm;exact goG func23 z z z λfn hr=>Ws<|EvX [sl A0 N0 C0] z z z λL G H=>Rw z<|Ws<|Rf z N_ z<|R z (l0 Q_ z<|H.at z)<|R z (lnR P_ z kR)<|R z (sb_ z z)<|Rw z<|Wr<|rS1 hm hr z ⟨G,z,iS _ _⟩
theorem b_g {x1:Int}{x2:Int}{x3:Int}{res:Bool}(hm:a_L x1 x2 x3=some res)(Y:B<=w0.z)(O:inI x1)(V:inI x2)(W:inI x3):g_ prog 45 [vI x1,vI x2,vI x3] w0 (Q0 w0 B res):=by
 unfold a_L at hm;refine goG func45 z z z λfn hr=>Ws<|Rw z<|Wq<|bdB hm λJ H I=>Wt (λa w=>∃(x4:Bool),x4=J/\Sat 15 [(6,vB x4)] a/\Below w0.z w0 w) ?_ ?_
 .refine Wg<|RM z z<|R z (a_Z z z)<|Rm z ?_;rcases bs (decide<|x2<=x1) with G | G
  .exact Rh z G (mv z)<|Rh z G (mv z)<|Rh z G (b_p z z)<|R z (pT z G z)<|Ra z<|Wl (λ_ q=>⟨decide<|x1<=x3,som<|ifT H G,kaA q,br w0⟩)
  iterate 3 refine Nh z G ?_
  exact R z (pF z G z)<|Ra z<|Wl (λ_ q=>⟨false,som<|ifF H G,kaA q,br w0⟩)
 rintro L _ ⟨x4,rfl,_,s6⟩;revert L;exact Wo<|Wr<|rS1 I hr z ⟨s6,z⟩
theorem W_w1z {x1:Str}{res:Bool}(hm:g_E x1=some res)(af:B<=w0.z)(Y:x1.b.length<=LEN):g_ prog 72 [Str.v x1] w0 (Q0 w0 B res):=by
 unfold g_E at hm;refine goG func72 z z z λfn hr=>Ws<|Rw z<|Wq<|Ws<|Rw z<|bdB hm λ_ hun hmc=>Wf (σ:=Unit) (ρ:=Bool) (λ(k4:Nat)(_:Unit) a w=>Sat 45 [(0,Str.v x1),(3,vI ((k4:Nat):Int))] a/\Below w0.z w0 w) (λ(_:Unit) a w=>Sat 45 [(0,Str.v x1)] a/\Below w0.z w0 w) (rQ prog fn<|Q0 w0 B) hun ?_ ?_ ?_ ?_ ?_
 .exact λ_ q=>⟨kaA q,br w0⟩
 .rintro k4 _ _ O _ hkd ⟨hSo,_⟩ hmp;refine Wu ?_ hSo;refine Wq<|Wm z<|Rm z<|R z (lnT d_9 z)<|Rl z z z<|Wx z (λ_=>?_) (λhc=>(U_ hkd hc).elim);refine Wk<|Wq<|Wb<|Wq<|bdB hmp λuq hur hms=>Wt (λa w=>∃(x5:Bool),x5=uq/\Sat 45 [(0,Str.v x1),(3,vI ((k4:Nat):Int)),(4,vB x5)] a/\Below O.z O w) ?_ ?_
  .refine Wg<|RM z z<|bdB hur λxt ee hmf=>R z (j_0 d_9 z z (b_L ee).1 (b_L ee).2.1)<|R z (a_Z z z)<|Rm z ?_;rcases bs (decide<|(byteI (97:UInt8))<=(byteI xt)) with H | H
   .exact Rh z H (mv z)<|Rh z H (mv z)<|bdB (ifT hmf H) λxu eg hmv=>Rh z H (j_0 d_9 z z (b_L eg).1 (b_L eg).2.1)<|Rh z H (b_p z z)<|R z (pT z H z)<|Ra z<|Wl (λ_ q=>⟨decide<|(byteI xu)<=(byteI (122:UInt8)),som hmv,kaA q,br O⟩)
   iterate 4 refine Nh z H ?_
   exact R z (pF z H z)<|Ra z<|Wl (λ_ q=>⟨false,som<|ifF hmf H,kaA q,br O⟩)
  rintro aw V ⟨x5,rfl,_,_⟩;revert aw;refine Wo<|Wq<|bdB hms λux huy hmz=>Wt (λa w=>∃(W:Bool),W=ux/\Sat 45 [(0,Str.v x1),(3,vI ((k4:Nat):Int)),(4,vB x5),(5,vB W)] a/\Below V.z V w) ?_ ?_
  .refine Wg<|RM z z<|bdB huy λa6 eh hmi=>R z (j_0 d_9 z z (b_L eh).1 (b_L eh).2.1)<|R z (a_Z z z)<|Rm z ?_;rcases bs (decide<|(byteI (48:UInt8))<=(byteI a6)) with I | I
   .exact Rh z I (mv z)<|Rh z I (mv z)<|bdB (ifT hmi I) λa7 ej a0=>Rh z I (j_0 d_9 z z (b_L ej).1 (b_L ej).2.1)<|Rh z I (b_p z z)<|R z (pT z I z)<|Ra z<|Wl (λ_ q=>⟨decide<|(byteI a7)<=(byteI (57:UInt8)),som a0,kaA q,br V⟩)
   iterate 4 refine Nh z I ?_
   exact R z (pF z I z)<|Ra z<|Wl (λ_ q=>⟨false,som<|ifF hmi I,kaA q,br V⟩)
  rintro a8 L ⟨W,rfl,_,_⟩;revert a8;refine Wo<|Wq<|bdB hmz λa9 huk hml=>Wt (λa w=>∃(xa:Bool),xa=a9/\Sat 45 [(0,Str.v x1),(3,vI ((k4:Nat):Int)),(41,vB xa)] a/\Below L.z L w) ?_ ?_
  .refine Wg<|Rm z<|R z (not_ z)<|Rm z ?_;rcases bs (!x5) with G | G
   .have hmm:=ifT huk G;refine Rh z G (mv z)<|Rh z G (not_ z)<|Rh z G (mv z) ?_;rcases bs (!W) with J | J
    .exact Nh z J<|Nh z J<|Rh z G (pT z J z)<|R z (pT z G z)<|Wl (λ_ q=>⟨true,som<|ifT hmm J,kaA q,br L⟩)
    exact Rh z J (mv z)<|Rh z J (eql z z)<|Rh z G (pF z J z)<|R z (pT z G z)<|Wl (λ_ q=>⟨((k4:Nat):Int)==0,som<|ifF hmm J,kaA q,br L⟩)
   iterate 3 refine Nh z G ?_
   exact Nv z<|Nv z<|Nh z G<|R z (pF z G z)<|Wl (λ_ q=>⟨false,som<|ifF huk G,kaA q,br L⟩)
  rintro aa _ ⟨xa,rfl,_,_⟩;revert aa;refine Wo<|Wc z (λhcb=>?_) (λhcb=>?_)
  .exact Ws<|Rw z<|Wr<|rtO<|qL (som<|ifT hml hcb).symm<|a_I hr z ⟨kW,z⟩
  exact Wk<|Wg<|Rm z<|R z (inc_ hkd (lt_ Y D_) z z)<|Ra z<|Wl (λ_ q=>⟨(),(som<|ifF hml hcb).symm,⟨kaA q,kW⟩⟩)
 .rintro _ _ _ ⟨a1,ab⟩;refine Wu ?_ a1;refine Wq<|Wm z<|Rm z<|R z (lnT d_9 z)<|Rl z z z<|Wx z (λhc=>(V_ hc).elim) (λ_=>?_);exact We<|λ_ q=>⟨rfl,⟨kaA q,ab⟩⟩
 .rintro _ ad _ rfl ⟨_,_⟩;have a2:=elL hmc;revert ad;exact Wo<|Wm z<|R z (lnT d_9 z)<|bdB a2 λ_ ae a3=>EcA z (fc call45 z<|b_g (B:=B) ae kM (a_A Y) (ii z)<|ii z) λ_ _=>Rw z<|Wr<|rS1 a3 hr z ⟨kW,z⟩
 exact lqA hmc λ_ _ h=>h.2
theorem d_w {x1:c_}{x2:Bool}{x3:Bool}{x4:Bool}{x5:Bool}{x6:Int}{res:Bool}(hm:c_i x1 x2 x3 x4 x5 x6=some res)(ad:B<=w0.z)(a4:x1.name.b.length<=LEN)(a5:inI x1.kind)(a6:inI x1.size)(a7:rp w0 B AC NC CC x1.bytes)(a8:rp w0 B AB NB CB x1.names)(a9:rp w0 B AD ND CD x1.tags)(aa:rp w0 B AE NE CE x1.kids)(ab:inI x6):g_ prog 104 [(.agg #[Str.v x1.name,vI x1.kind,vI x1.size,vB x1.little,sl AC NC CC,sl AB NB CB,sl AD ND CD,sl AE NE CE]),vB x2,vB x3,vB x4,vB x5,vI x6] w0 (Q0 w0 B res):=by
 unfold c_i at hm;refine goG func104 z z z λfn hr=>Ws<|EvX (vR x1 AC NC CC AB NB CB AD ND CD AE NE CE) z z z λwb _ a1=>Rw z<|Wq<|bdB hm λuu huv hmw=>Wt (λa w=>∃(xc:Bool),xc=uu/\Sat 67 [(12,vB xc)] a/\Below wb.z wb w) ?_ ?_
 .refine Wg<|RM z z<|bdB huv λue huf hmx=>c_W 18 ue 4 ?_ ?_
  .rcases bs x2 with a0 | a0
   .iterate 3 refine Nh z a0 ?_
    exact R z (pT z a0 z)<|WLq 4 (ifT huf a0) z z z
   exact Rh z a0 (fd a_g z)<|Rh z a0 (l0 g_3 z<|a1.at z)<|Rh z a0 (eql z z)<|R z (pF z a0 z)<|WLq 4 (ifF huf a0) z z z
  refine Rm z<|bdB hmx λug huh hmy=>c_W 27 ug 8 ?_ ?_
  .rcases bs ue with H | H
   .have hmi:=ifT huh H;refine Rh z H (mv z)<|Rh z H (mv z) ?_;rcases bs x3 with V | V
    .iterate 4 refine Nh z V ?_
     exact Rh z H (pT z V z)<|R z (pT z H z)<|WLq 8 (ifT hmi V) z z z
    exact Rh z V (fd a_F z)<|Rh z V (l0 F_ z<|a1.at z)<|Rh z V (lnR j_ z kR)<|Rh z V (eql z z)<|Rh z H (pF z V z)<|R z (pT z H z)<|WLq 8 (ifF hmi V) z z z
   exact Nh z H<|Nh z H<|Nv z<|Nv z<|Nv z<|Nv z<|Nh z H<|R z (pF z H z)<|WLq 8 (ifF huh H) z z z
  refine Rm z<|bdB hmy λuj huk hmz=>c_W 36 uj 8 ?_ ?_
  .rcases bs ug with I | I
   .have hml:=ifT huk I;refine Rh z I (mv z)<|Rh z I (mv z) ?_;rcases bs x4 with W | W
    .iterate 4 refine Nh z W ?_
     exact Rh z I (pT z W z)<|R z (pT z I z)<|WLq 8 (ifT hml W) z z z
    exact Rh z W (fd c_a z)<|Rh z W (l0 c_r z<|a1.at z)<|Rh z W (lnR a_w z kR)<|Rh z W (eql z z)<|Rh z I (pF z W z)<|R z (pT z I z)<|WLq 8 (ifF hml W) z z z
   exact Nh z I<|Nh z I<|Nv z<|Nv z<|Nv z<|Nv z<|Nh z I<|R z (pF z I z)<|WLq 8 (ifF huk I) z z z
  refine Rm z<|bdB hmz λum hun a2=>c_W 45 um 8 ?_ ?_
  .rcases bs uj with J | J
   .have hmo:=ifT hun J;refine Rh z J (mv z)<|Rh z J (mv z) ?_;rcases bs x5 with Y | Y
    .iterate 4 refine Nh z Y ?_
     exact Rh z J (pT z Y z)<|R z (pT z J z)<|WLq 8 (ifT hmo Y) z z z
    exact Rh z Y (fd a_J z)<|Rh z Y (l0 p_ z<|a1.at z)<|Rh z Y (lnR h_ z kR)<|Rh z Y (eql z z)<|Rh z J (pF z Y z)<|R z (pT z J z)<|WLq 8 (ifF hmo Y) z z z
   exact Nh z J<|Nh z J<|Nv z<|Nv z<|Nv z<|Nv z<|Nh z J<|R z (pF z J z)<|WLq 8 (ifF hun J) z z z
  refine Rm z<|bdB a2 λup huq hmr=>c_W 56 up 10 ?_ ?_
  .rcases bs um with L | L
   .have hms:=ifT huq L;refine Rh z L (mv z)<|Rh z L (lss z z)<|Rh z L (mv z) ?_;rcases bs (decide<|x6<0) with O | O
    .iterate 5 refine Nh z O ?_
     exact Rh z L (pT z O z)<|R z (pT z L z)<|WLq 10 (ifT hms O) z z z
    exact Rh z O (fd y_ z)<|Rh z O (l0 p_ z<|a1.at z)<|Rh z O (lnR h_ z kR)<|Rh z O (mv z)<|Rh z O (eql z z)<|Rh z L (pF z O z)<|R z (pT z L z)<|WLq 10 (ifF hms O) z z z
   iterate 3 refine Nh z L ?_
   exact Nv z<|Nv z<|Nv z<|Nv z<|Nv z<|Nh z L<|R z (pF z L z)<|WLq 10 (ifF huq L) z z z
  refine Rm z ?_;rcases bs up with G | G
  .have hmt:=ifT hmr G;refine Rh z G (fd c_J z)<|Rh z G (l0 g_4 z<|a1.at z)<|Rh z G (not_ z)<|Rh z G (mv z) ?_;rcases bs (!x1.little) with hca | hca
   .iterate 3 refine Nh z hca ?_
    exact Rh z G (pT z hca z)<|R z (pT z G z)<|Ra z<|Wl (λ_ q=>⟨true,som<|ifT hmt hca,kaA q,br wb⟩)
   exact Rh z hca (fd a_b z)<|Rh z hca (l0 g_3 z<|a1.at z)<|Rh z hca (eql z z)<|Rh z G (pF z hca z)<|R z (pT z G z)<|Ra z<|Wl (λ_ q=>⟨x1.kind==1,som<|ifF hmt hca,kaA q,br wb⟩)
  iterate 4 refine Nh z G ?_
  exact Nv z<|Nv z<|Nv z<|Nh z G<|R z (pF z G z)<|Ra z<|Wl (λ_ q=>⟨false,som<|ifF hmr G,kaA q,br wb⟩)
 rintro a3 _ ⟨xc,rfl,_,_⟩;revert a3;exact Wo<|Wr<|rS1 hmw hr z ⟨kW,z⟩
theorem i_W {x1:Int}{res:Int}(hm:c_R x1=some res)(J:B<=w0.z)(I:inI x1):g_ prog 63 [vI x1] w0 (Q10 w0 B res):=by
 unfold c_R at hm;exact goG func63 z z z λfn hr=>Ws<|Rw z<|Wm z<|R z (c_u z z)<|bdB hm λ_ H G=>R z (h_l z z<|nnS H)<|Rw z<|Wr<|rS1 G hr z ⟨br w0,z,o_f<|ii z⟩
theorem f_8 {x1:b_}{x2:Int}{res:Int}(hm:c_S x1 x2=some res)(a1:B<=w0.z)(a0:rp w0 B A0 N0 C0 x1.rules)(W:inI x2):g_ prog 66 [(.agg #[sl A0 N0 C0]),vI x2] w0 (Q10 w0 B res):=by
 unfold c_S at hm;refine goG func66 z z z λfn hr=>Ws<|EvX [sl A0 N0 C0] z z z λV _ Y=>Rw z<|Wq<|Wq<|bdB hm λua hub J=>Wt (λa w=>∃(x3:Bool),x3=ua/\Sat 39 [(1,vI x2),(2,pt w0.z),(30,vB x3)] a/\Below V.z V w) ?_ ?_
 .refine Wg<|Rm z<|Rf z N_ z<|R z (l0 Q_ z<|Y.at z)<|R z (lnR P_ z kR)<|R z (sb_ z z)<|bdB hub λrc ed L=>EcA z (fc call45 z<|b_g (B:=B) ed kM W (ii z)<|iS _ _) λ_ s8=>R z (not_ z)<|Rm z ?_;rcases bs (!rc) with H | H
  .iterate 7 refine Nh z H ?_
   exact R z (pT z H z)<|Rm z<|Nh z z<|Nh z z<|Nh z z<|Nh z z<|Nh z z<|Nh z z<|Nh z z<|Nh z z<|R z (pT z z z)<|Wl (λ_ q=>⟨true,som<|ifT L H,kaA q,s8⟩)
  refine Rh z H (fd N_ z)<|Rh z H (l0 Q_ z kBa)<|Rh z H (mv z)<|bdB (ifF L H) λxe ef O=>RXg z z H z (at_ (α:=c_) P_ i_ z z z kR ef) ?_;rintro _ ⟨_,_,_,rfl,hg,hh,_⟩;obtain ⟨_,_,_,_,_,_,_,_,_,_,_,_,rfl,_,_,_,_,_,_,_⟩:=a_k hh;refine Rh z H (fd a_b z)<|Rh z H (l0 g_3 z<|hg.at (j:=1) z)<|Rh z H (nq z z)<|R z (pF z H z)<|Rm z ?_;rcases bs (xe.kind != 1) with G | G
  .iterate 8 refine Nh z G ?_
   exact R z (pT z G z)<|Wl (λ_ q=>⟨true,som<|ifT O G,kaA q,s8⟩)
  refine Rh z G (fd N_ z)<|Rh z G (l0 Q_ z kBa)<|Rh z G (mv z)<|bdB (ifF O G) λ_ ei hmj=>RXg z z G z (at_ (α:=c_) P_ i_ z z z kR ei) ?_;rintro _ ⟨_,_,_,rfl,hk,hl,_⟩;obtain ⟨_,_,_,_,_,_,_,_,_,_,_,_,rfl,_,_,hn,_,_,_,_⟩:=a_k hl;refine Rh z G (fd a_g z)<|Rh z G (l0 g_3 z<|hk.at (j:=2) z)<|bdB hmj λrm eo hmp=>Eg z z G z (fc call45 z<|b_g (B:=B) eo kM hn (ii z)<|ii z) ?_;rintro _ _ ⟨_,rfl⟩;exact Rh z G (not_ z)<|R z (pF z G z)<|Wl (λ_ q=>⟨!rm,som hmp,kaA q,kW⟩)
 rintro aq _ ⟨x3,rfl,_,_⟩;revert aq;refine Wo<|Wc z (λI=>?_) (λI=>?_)
 .exact Ws<|Rw z<|Wr<|rS1 (ifT J I) hr z ⟨kW,z,ii z⟩
 refine Wk<|Ws<|Rf z N_ z<|R z (l0 Q_ z kBa)<|Rm z<|bdB (ifF J I) λ_ er hms=>xA (α:=c_) z P_ i_ z z z kR er λ_ _ _ ht hu _=>?_;obtain ⟨_,_,_,_,_,_,_,_,_,_,_,_,rfl,_,_,hv,_,_,_,_⟩:=a_k hu;refine Rf z a_g z<|R z (l0 g_3 z<|ht.at (j:=2) z)<|bdB hms λ_ ew hmx=>E z (fc call63 z<|i_W (B:=B) ew kM hv) ?_;rintro _ _ ⟨_,rfl,_⟩;exact R z (sb_ z z)<|Rw z<|Wr<|rS1 hmx hr z ⟨kW,z,iS _ _⟩
theorem W_w3i {x1:List Str}{x2:Str}{res:Bool}(hm:h_D x1 x2=some res)(a1:B<=w0.z)(L:rp w0 B A0 N0 C0 x1)(a0:x2.b.length<=LEN):g_ prog 125 [sl A0 N0 C0,Str.v x2] w0 (Q0 w0 B res):=by
 unfold h_D at hm;refine goG func125 z z z λfn hr=>Ws<|Rw z<|Wq<|Ws<|Rw z<|bdB hm λ_ O H=>Wf (σ:=Unit) (ρ:=Bool) (λ(k2:Nat)(_:Unit) a w=>Sat 18 [(0,sl A0 N0 C0),(1,Str.v x2),(5,vI ((k2:Nat):Int))] a/\Below w0.z w0 w) (λ(_:Unit) a w=>Sat 18 [] a/\Below w0.z w0 w) (rQ prog fn<|Q0 w0 B) O ?_ ?_ ?_ ?_ ?_
 .exact λ_ q=>⟨kaA q,br w0⟩
 .rintro k2 _ _ _ _ I ⟨V,s4⟩ W;refine Wu ?_ V;refine Wq<|Wm z<|Rm z<|R z (lnR a_w z kR)<|Rl z z z<|Wx z (λ_=>?_) (λhc=>(U_ I hc).elim);refine Wk<|Wq<|Wb<|Wm z<|Rm z<|bdB W λ_ Y J=>xA (α:=Str) z a_w z_9 z z z kR Y λ_ _ _ ha hb _=>?_;obtain ⟨rfl,_⟩:=c_n hb;refine R z (l0 g_9 z<|ha.at0 z)<|Rm z<|R z (j_2 z z)<|Wx z (λG=>?_) (λG=>?_)
  .exact Ws<|Rw z<|Wr<|rtO<|qL (som<|ifT J G).symm<|a_I hr z ⟨s4,z⟩
  exact Wk<|Wg<|Rm z<|R z (inc_ I (lt_ (repS.len L) D_) z z)<|Ra z<|Wl (λ_ q=>⟨(),(som<|ifF J G).symm,⟨kaA q,s4⟩⟩)
 .rintro _ _ _ ⟨hSc,sd⟩;refine Wu ?_ hSc;refine Wq<|Wm z<|Rm z<|R z (lnR a_w z kR)<|Rl z z z<|Wx z (λhc=>(V_ hc).elim) (λ_=>?_);exact We<|λ_ q=>⟨rfl,⟨q.k sn,sd⟩⟩
 .rintro _ ae _ rfl ⟨_,sf⟩;have hmg:=elL H;revert ae;exact Wo<|Ws<|Rw z<|Wr<|rS1 hmg hr z ⟨sf,z⟩
 exact lqA H λ_ _ h=>h.2
theorem W_w3j {x1:List Str}{res:Bool}(hm:h_E x1=some res)(a5:B<=w0.z)(W:rp w0 B A0 N0 C0 x1):g_ prog 105 [sl A0 N0 C0] w0 (Q0 w0 B res):=by
 unfold h_E at hm;refine goG func105 z z z λfn hr=>Ws<|Rw z<|Wq<|Ws<|Rw z<|bdB hm λ_ a3 I=>Wf (σ:=Unit) (ρ:=Bool) (λ(k1:Nat)(_:Unit) a w=>Sat 29 [(0,sl A0 N0 C0),(3,vI ((k1:Nat):Int))] a/\Below w0.z w0 w) (λ(_:Unit) a w=>Sat 29 [(0,sl A0 N0 C0)] a/\Below w0.z w0 w) (rQ prog fn<|Q0 w0 B) a3 ?_ ?_ ?_ ?_ ?_
 .exact λ_ q=>⟨kaA q,br w0⟩
 .rintro k1 _ _ V _ J ⟨hSa,_⟩ hmb;refine Wu ?_ hSa;refine Wq<|Wm z<|Rm z<|R z (lnR a_w z kR)<|Rl z z z<|Wx z (λ_=>?_) (λhc=>(U_ J hc).elim);refine Wk<|Wq<|Wb<|Wq<|bdB hmb λuc hud L=>Wt (λa w=>∃(x2:Bool),x2=uc/\Sat 29 [(0,sl A0 N0 C0),(3,vI ((k1:Nat):Int)),(25,vB x2)] a/\Below V.z V w) ?_ ?_
  .refine Wd (X:=noX) 0 (pl_ 16 [4,14]) mo (by kernel_rfl) λa6 a7 _=>dM z z z<|dM z z z<|bdB hud λ_ ee hmf=>dxA (α:=Str) z z a_w z_9 z z z kR ee λ_ _ _ hg hh _=>?_;obtain ⟨rfl,hi⟩:=c_n hh;refine dR z z (l0 g_9 z<|hg.at0 z)<|bdB hmf λrj ek O=>dE z z (fc call72 z<|W_w1z (B:=B) ek kM hi) iB ?_;rintro _ _ ⟨_,rfl⟩;refine dR z z (not_ z)<|dM z z z ?_;rcases bs (!rj) with G | G
   .iterate 7 refine dRn z z z G z ?_
    exact dEn z z z G z<|dR z z (pT z G z)<|pD (λ_ q=>⟨true,som<|ifT O G,kaA q,kW⟩)
   refine dRg z z z G z (mv z)<|dRg z z z G z (mv z)<|bdB (ifF O G) λ_ el hmm=>c_1 z z z G z (rX a_w z_9 z z kR z z el) ?_;rintro _ ⟨_,_,_,rfl,hn⟩;refine dRg z z z G z (mv z)<|dRg z z z G z (mv z)<|bdB hmm λ_ eo hmp=>c_1 z z z G z (at_ (α:=Str) a_w z_9 z z z kR eo) ?_;rintro _ ⟨_,_,_,rfl,hq,ht,_⟩;obtain ⟨rfl,hu⟩:=c_n ht;refine dRg z z z G z (l0 g_9 z<|hq.at0 z)<|bdB hmp λrr es hmv=>dEg z z z G z (fc call125 z<|W_w3i (B:=B) es kM hn hu) iB ?_;rintro _ _ ⟨_,rfl⟩;exact dR z z (pF z G z)<|pD (λ_ q=>⟨rr,som hmv,kaA q,kW⟩)
  rintro aw _ ⟨x2,rfl,_,_⟩;revert aw;refine Wo<|Wc z (λH=>?_) (λH=>?_)
  .exact Ws<|Rw z<|Wr<|rtO<|qL (som<|ifT L H).symm<|a_I hr z ⟨kW,z⟩
  exact Wk<|Wg<|Rm z<|R z (inc_ J (lt_ (repS.len W) D_) z z)<|Ra z<|Wl (λ_ q=>⟨(),(som<|ifF L H).symm,⟨kaA q,kW⟩⟩)
 .rintro _ _ _ ⟨hSx,sy⟩;refine Wu ?_ hSx;refine Wq<|Wm z<|Rm z<|R z (lnR a_w z kR)<|Rl z z z<|Wx z (λhc=>(V_ hc).elim) (λ_=>?_);exact We<|λ_ q=>⟨rfl,⟨kaA q,sy⟩⟩
 .rintro _ az _ rfl ⟨_,_⟩;have Y:=elL I;revert az;exact Wo<|Wm z<|R z (lnR a_w z kR)<|bdB Y λ_ a4 a0=>EcA z (fc call45 z<|b_g (B:=B) a4 kM (a_A<|repS.len kR) (ii z)<|ii z) λ_ _=>Rw z<|Wr<|rS1 a0 hr z ⟨kW,z⟩
 exact lqA I λ_ _ h=>h.2
theorem W_w3k {x1:b_}{x2:c_}{res:Bool}(hm:h_F x1 x2=some res)(aG:B<=w0.z)(az:rp w0 B A0 N0 C0 x1.rules)(aA:x2.name.b.length<=LEN)(aB:inI x2.kind)(aC:inI x2.size)(aD:rp w0 B A2 N2 C2 x2.bytes)(aE:rp w0 B A4 N4 C4 x2.names)(a0:rp w0 B A1 N1 C1 x2.tags)(aF:rp w0 B A3 N3 C3 x2.kids):g_ prog 106 [(.agg #[sl A0 N0 C0]),(.agg #[Str.v x2.name,vI x2.kind,vI x2.size,vB x2.little,sl A2 N2 C2,sl A4 N4 C4,sl A1 N1 C1,sl A3 N3 C3])] w0 (Q0 w0 B res):=by
 unfold h_F at hm;refine goG func106 z z z λfn hr=>Ws<|EvX [sl A0 N0 C0] z z z λV _ _=>EvX (vR x2 A2 N2 C2 A4 N4 C4 A1 N1 C1 A3 N3 C3) z z z λW _ L=>Rw z<|Wq<|Wq<|bdB hm λul huc hme=>Wt (λa w=>∃(Y:Bool),Y=ul/\Sat 59 [(2,pt w0.z),(3,pt V.z),(20,vB Y)] a/\Below W.z W w) ?_ ?_
 .refine Wg<|Rf z y_ z<|R z (l0 p_ z<|L.at z)<|R z (lnR h_ z kR)<|Rf z a_J z<|R z (l0 p_ z<|L.at z)<|R z (lnR h_ z kR)<|R z (add_ z z)<|R z (nq z z)<|Rm z ?_;rcases bs ((x2.kids.length:Int) != (d_ (x2.tags.length:Int) 1)) with I | I
  .iterate 5 refine Nh z I ?_
   exact R z (pT z I z)<|Wl (λ_ q=>⟨true,som<|ifT huc I,kaA q,br W⟩)
  refine Rh z I (fd a_J z)<|Rh z I (l0 p_ z<|L.at z)<|Rh z I (lnR h_ z kR)<|bdB (ifF huc I) λrm en hmo=>Eg z z I z (fc call45 z<|b_g (B:=B) en kM (a_A<|repS.len kR) (ii z)<|ii z) ?_;rintro _ _ ⟨sp,rfl⟩;exact Rh z I (not_ z)<|R z (pF z I z)<|Wl (λ_ q=>⟨!rm,som hmo,kaA q,sp⟩)
 rintro aq J ⟨Y,rfl,_,_⟩;revert aq;refine Wo<|Wc z (λO=>?_) (λO=>?_)
 .exact Ws<|Rw z<|Wr<|rS1 (ifT hme O) hr z ⟨kW,z⟩
 refine Wk<|Wq<|Ws<|Rw z<|bdB (ifF hme O) λ_ hur hmf=>Wf (σ:=Unit) (ρ:=Bool) (λ(k6:Nat)(_:Unit) a w=>Sat 59 [(2,pt w0.z),(3,pt V.z),(5,vI ((k6:Nat):Int))] a/\Below J.z J w) (λ(_:Unit) a w=>Sat 59 [] a/\Below J.z J w) (rQ prog fn<|Q0 w0 B) hur ?_ ?_ ?_ ?_ ?_
 .exact λ_ q=>⟨kaA q,br J⟩
 .rintro k6 _ _ wg _ hkh ⟨hSs,_⟩ hmt;refine Wu ?_ hSs;refine Wq<|Wm z<|Rf z a_J z<|R z (l0 p_ z kBa)<|R z (lnR h_ z kR)<|Rl z z z<|Wx z (λ_=>?_) (λhc=>(U_ hkh hc).elim);refine Wk<|Wq<|Wb<|Wq<|bdB hmt λuu huv hmi=>Wt (λa w=>∃(x9:Bool),x9=uu/\Sat 59 [(2,pt w0.z),(3,pt V.z),(5,vI ((k6:Nat):Int)),(58,vB x9)] a/\Below wg.z wg w) ?_ ?_
  .refine Wd (X:=noX) 0 (pl_ 31 [10,11]) mo (by kernel_rfl) λaH aI _=>dR z z (fd a_J z)<|dR z z (l0 p_ z kBa)<|dM z z z<|bdB huv λ_ ew hmx=>dxA (α:=Int) z z h_ z_3 z z z kR ew λ_ _ _ hy hz _=>?_;obtain ⟨rfl,a9⟩:=T_ hz;refine dR z z (l0 g_3 z<|hy.at0 z)<|dR z z (lC [sl A0 N0 C0] m_ l_ z)<|dR z z (fd y_ z)<|dR z z (l0 p_ z kBa)<|bdB hmx λ_ aa a1=>dxA (α:=Int) z z h_ z_3 z z z kR aa λ_ _ _ ab ad _=>?_;obtain ⟨rfl,ae⟩:=T_ ad;refine dR z z (l0 g_3 z<|ab.at0 z)<|bdB a1 λ_ af a2=>dE z z (fc call66 z<|f_8 (B:=B) af kM kR ae) iB ?_;rintro _ _ ⟨_,rfl,ah⟩;refine bdB a2 λai aj hmj=>dE z z (fc call45 z<|b_g (B:=B) aj kM a9 (ii z) ah) iB ?_;rintro _ _ ⟨_,rfl⟩;refine dR z z (not_ z)<|dM z z z ?_;rcases bs (!ai) with H | H
   .iterate 3 refine dRn z z z H z ?_
    iterate 12 refine dRu z z z z ?_
    exact dRn z z z H z<|dR z z (pT z H z)<|pD (λ_ q=>⟨true,som<|ifT hmj H,kaA q,kW⟩)
   have hmk:=ifF hmj H;refine dRg z z z H z (mv z)<|dRg z z z H z (a_c z z)<|dRg z z z H z (mv z) ?_;rcases bs (decide<|0<((k6:Nat):Int)) with G | G
   .refine dRg z z z G z (fd a_J z)<|dRg z z z G z (l0 p_ z kBa)<|dRg z z z G z (mv z)<|dRg z z z G z (sb_ z z)<|bdB (ifT hmk G) λak al a3=>c_1 z z z G z (at_ (α:=Int) h_ z_3 z z z kR al) ?_;rintro _ ⟨_,_,_,rfl,am,an,_⟩;obtain ⟨rfl,_⟩:=T_ an;refine dRg z z z G z (l0 g_3 z<|am.at0 z)<|dRg z z z G z (fd a_J z)<|dRg z z z G z (l0 p_ z kBa)<|dRg z z z G z (mv z)<|bdB a3 λap ar a4=>c_1 z z z G z (at_ (α:=Int) h_ z_3 z z z kR ar) ?_;rintro _ ⟨_,_,_,rfl,au,av,_⟩;obtain ⟨rfl,_⟩:=T_ av;exact dRg z z z G z (l0 g_3 z<|au.at0 z)<|dRg z z z G z (a_Z z z)<|dRg z z z H z (pT z G z)<|dR z z (pF z H z)<|pD (λ_ q=>⟨decide<|ap<=ak,som a4,kaA q,kW⟩)
   iterate 12 refine dRn z z z G z ?_
   exact dRg z z z H z (pF z G z)<|dR z z (pF z H z)<|pD (λ_ q=>⟨false,som<|ifF hmk G,kaA q,kW⟩)
  rintro aw _ ⟨x9,rfl,_,_⟩;revert aw;refine Wo<|Wc z (λhca=>?_) (λhca=>?_)
  .exact Ws<|Rw z<|Wr<|rtO<|qL (som<|ifT hmi hca).symm<|a_I hr z ⟨kW,z⟩
  exact Wk<|Wg<|Rm z<|R z (inc_ hkh (lt_ (repS.len a0) D_) z z)<|Ra z<|Wl (λ_ q=>⟨(),(som<|ifF hmi hca).symm,⟨kaA q,kW⟩⟩)
 .rintro _ _ _ ⟨a5,ax⟩;refine Wu ?_ a5;refine Wq<|Wm z<|Rf z a_J z<|R z (l0 p_ z kBa)<|R z (lnR h_ z kR)<|Rl z z z<|Wx z (λhc=>(V_ hc).elim) (λ_=>?_);exact We<|λ_ q=>⟨rfl,⟨q.k sn,ax⟩⟩
 .rintro _ ay _ rfl ⟨_,_⟩;have a6:=elL hmf;revert ay;exact Wo<|Ws<|Rw z<|Wr<|rS1 a6 hr z ⟨kW,z⟩
 exact lqA hmf λ_ _ h=>h.2
theorem W_w3l {x1:b_}{x2:c_}{res:Bool}(hm:h_G x1 x2=some res)(cb:B<=w0.z)(c6:rp w0 B A0 N0 C0 x1.rules)(V:x2.name.b.length<=LEN)(W:inI x2.kind)(L:inI x2.size)(c7:rp w0 B A2 N2 C2 x2.bytes)(c8:rp w0 B A4 N4 C4 x2.names)(c9:rp w0 B A1 N1 C1 x2.tags)(ca:rp w0 B A3 N3 C3 x2.kids):g_ prog 73 [(.agg #[sl A0 N0 C0]),(.agg #[Str.v x2.name,vI x2.kind,vI x2.size,vB x2.little,sl A2 N2 C2,sl A4 N4 C4,sl A1 N1 C1,sl A3 N3 C3])] w0 (Q0 w0 B res):=by
 unfold h_G at hm;refine goG func73 z z z λfn hr=>Ws<|EvX [sl A0 N0 C0] z z z λwc _ _=>EvX (vR x2 A2 N2 C2 A4 N4 C4 A1 N1 C1 A3 N3 C3) z z z λG _ a4=>Rw z<|Wq<|Ws<|Rf z a_b z<|R z (l0 g_3 z<|a4.at z)<|Wn<|Wb<|Ws<|Rq z z z<|Rw z<|Wc z (λhcd=>?_) (λhcd=>?_)
 .refine Wq<|bdB (ifT hm hcd) λaU au av=>Wt (λa w=>∃(xe:Bool),xe=aU/\Sat 114 [(4,vB xe)] a/\Below G.z G w) ?_ ?_
  .refine Wg<|R z (lN (vs:=vR x2 A2 N2 C2 A4 N4 C4 A1 N1 C1 A3 N3 C3) C_ i_ z z fid<|a4.row 0 8 z)<|bdB au λaV aW hmz=>EcA z (fc call104 z<|d_w (B:=B) aW kM V W L kR kR kR kR<|ii z) λ_ aX=>Rm z ?_;rcases bs aV with a1 | a1
   .refine Rh z a1 (fd a_g z)<|Rh z a1 (l0 g_3 z kBa)<|bdB (ifT hmz a1) λaY aZ a5=>Eg z z a1 z (fc call45 z<|b_g (B:=B) aZ kM L (ii z)<|ii z) ?_;rintro _ _ ⟨_,rfl⟩;refine R z (pT z a1 z)<|Rm z ?_;rcases bs aY with J | J
    .have a6:=ifT a5 J;refine Rh z J (fd c_J z)<|Rh z J (l0 g_4 z kBa)<|Rh z J (not_ z)<|Rh z J (mv z) ?_;rcases bs (!x2.little) with a2 | a2
     .iterate 3 refine Nh z a2 ?_
      exact Rh z J (pT z a2 z)<|R z (pT z J z)<|Ra z<|Wl (λ_ q=>⟨true,som<|ifT a6 a2,kaA q,kW⟩)
     exact Rh z a2 (fd a_g z)<|Rh z a2 (l0 g_3 z kBa)<|Rh z a2 (a_c z z)<|Rh z J (pF z a2 z)<|R z (pT z J z)<|Ra z<|Wl (λ_ q=>⟨decide<|1<x2.size,som<|ifF a6 a2,kaA q,kW⟩)
    iterate 4 refine Nh z J ?_
    exact Nv z<|Nv z<|Nv z<|Nh z J<|R z (pF z J z)<|Ra z<|Wl (λ_ q=>⟨false,som<|ifF a5 J,kaA q,kW⟩)
   iterate 3 refine Nh z a1 ?_
   exact R z (pF z a1 z)<|Rm z<|Nh z z<|Nh z z<|Nh z z<|Nh z z<|Nv z<|Nv z<|Nv z<|Nh z z<|R z (pF z z z)<|Ra z<|Wl (λ_ q=>⟨false,som<|ifF hmz a1,kaA q,aX⟩)
  rintro b0 _ ⟨xe,rfl,_,_⟩;revert b0;exact Wo<|Wr<|rtO<|rS1 av hr z ⟨kW,z⟩
 have a7:=ifF hm hcd;refine Ws<|Rq z z z<|Rw z<|Wc z (λhcf=>?_) (λhcf=>?_)
 .refine Wq<|bdB (ifT a7 hcf) λb3 aw ax=>Wt (λa w=>∃(xg:Bool),xg=b3/\Sat 114 [(4,vB xg)] a/\Below G.z G w) ?_ ?_
  .refine Wg<|R z (lN (vs:=vR x2 A2 N2 C2 A4 N4 C4 A1 N1 C1 A3 N3 C3) C_ i_ z z fid<|a4.row 0 8 z)<|bdB aw λb4 b5 a8=>EcA z (fc call104 z<|d_w (B:=B) b5 kM V W L kR kR kR kR<|ii z) λ_ b6=>Rm z ?_;rcases bs b4 with Y | Y
   .refine Rh z Y (fd a_F z)<|Rh z Y (l0 F_ z kBa)<|Rh z Y (lnR j_ z kR)<|bdB (ifT a8 Y) λb7 b8 ay=>Eg z z Y z (fc call45 z<|b_g (B:=B) b8 kM (a_A<|repS.len kR) (ii z)<|ii z) ?_;rintro _ _ ⟨_,rfl⟩;exact R z (pT z Y z)<|Ra z<|Wl (λ_ q=>⟨b7,som ay,kaA q,kW⟩)
   iterate 4 refine Nh z Y ?_
   exact R z (pF z Y z)<|Ra z<|Wl (λ_ q=>⟨false,som<|ifF a8 Y,kaA q,b6⟩)
  rintro b9 _ ⟨xg,rfl,_,_⟩;revert b9;exact Wo<|Wr<|rtO<|rS1 ax hr z ⟨kW,z⟩
 have a9:=ifF a7 hcf;refine Ws<|Rq z z z<|Rw z<|Wc z (λhch=>?_) (λhch=>?_)
 .refine Wq<|bdB (ifT a9 hch) λba az aA=>Wt (λa w=>∃(xi:Bool),xi=ba/\Sat 114 [(4,vB xi)] a/\Below G.z G w) ?_ ?_
  .refine Wg<|R z (lN (vs:=vR x2 A2 N2 C2 A4 N4 C4 A1 N1 C1 A3 N3 C3) C_ i_ z z fid<|a4.row 0 8 z)<|bdB az λbb bc aa=>EcA z (fc call104 z<|d_w (B:=B) bc kM V W L kR kR kR kR<|ii z) λ_ be=>Rm z ?_;rcases bs bb with a3 | a3
   .refine Rh z a3 (fd a_g z)<|Rh z a3 (l0 g_3 z kBa)<|bdB (ifT aa a3) λbf bg aB=>Eg z z a3 z (fc call45 z<|b_g (B:=B) bg kM L (ii z)<|ii z) ?_;rintro _ _ ⟨_,rfl⟩;exact R z (pT z a3 z)<|Ra z<|Wl (λ_ q=>⟨bf,som aB,kaA q,kW⟩)
   iterate 3 refine Nh z a3 ?_
   exact R z (pF z a3 z)<|Ra z<|Wl (λ_ q=>⟨false,som<|ifF aa a3,kaA q,be⟩)
  rintro bh _ ⟨xi,rfl,_,_⟩;revert bh;exact Wo<|Wr<|rtO<|rS1 aA hr z ⟨kW,z⟩
 have ab:=ifF a9 hch;refine Ws<|Rq z z z<|Rw z<|Wc z (λhcj=>?_) (λhcj=>?_)
 .refine Wq<|bdB (ifT ab hcj) λbi aC aD=>Wt (λa w=>∃(xk:Bool),xk=bi/\Sat 114 [(4,vB xk)] a/\Below G.z G w) ?_ ?_
  .refine Wd (X:=noX) 0 (pl_ 12 [1,8]) mo (by kernel_rfl) λcc cd _=>dR z z (lN (vs:=vR x2 A2 N2 C2 A4 N4 C4 A1 N1 C1 A3 N3 C3) C_ i_ z z fid<|kBr 0 8)<|bdB aC λbj bk ad=>dE z z (fc call104 z<|d_w (B:=B) bk kM V W L kR kR kR kR<|ii z) iB ?_;rintro _ _ ⟨_,rfl⟩;refine dM z z z ?_;rcases bs bj with H | H
   .refine dRg z z z H z (lC [sl A0 N0 C0] m_ l_ z)<|dRg z z z H z (fd y_ z)<|dRg z z z H z (l0 p_ z kBa)<|bdB (ifT ad H) λ_ bm aE=>c_1 z z z H z (at_ (α:=Int) h_ z_3 z z z kR bm) ?_;rintro _ ⟨_,_,_,rfl,bn,bo,_⟩;obtain ⟨rfl,bp⟩:=T_ bo;refine dRg z z z H z (l0 g_3 z<|bn.at0 z)<|bdB aE λbq bt aF=>dEg z z z H z (fc call66 z<|f_8 (B:=B) bt kM kR bp) iB ?_;rintro _ _ ⟨_,rfl,_⟩;exact dRg z z z H z (a_c z z)<|dR z z (pT z H z)<|dQ z z z<|pD (λ_ q=>⟨decide<|0<bq,som aF,kaA q,kW⟩)
   iterate 5 refine dRn z z z H z ?_
   exact dEn z z z H z<|dRn z z z H z<|dR z z (pF z H z)<|dQ z z z<|pD (λ_ q=>⟨false,som<|ifF ad H,kaA q,kW⟩)
  rintro bu _ ⟨xk,rfl,_,_⟩;revert bu;exact Wo<|Wr<|rtO<|rS1 aD hr z ⟨kW,z⟩
 have ae:=ifF ab hcj;refine Ws<|Rq z z z<|Rw z<|Wc z (λhcl=>?_) (λhcl=>?_)
 .refine Wq<|bdB (ifT ae hcl) λbv aG aH=>Wt (λa w=>∃(xm:Bool),xm=bv/\Sat 114 [(4,vB xm)] a/\Below G.z G w) ?_ ?_
  .refine Wd (X:=noX) 0 (pl_ 12 [1,8]) mo (by kernel_rfl) λce cf _=>dR z z (lN (vs:=vR x2 A2 N2 C2 A4 N4 C4 A1 N1 C1 A3 N3 C3) C_ i_ z z fid<|kBr 0 8)<|bdB aG λbw bx af=>dE z z (fc call104 z<|d_w (B:=B) bx kM V W L kR kR kR kR<|ii z) iB ?_;rintro _ _ ⟨_,rfl⟩;refine dM z z z ?_;rcases bs bw with I | I
   .refine dRg z z z I z (lC [sl A0 N0 C0] m_ l_ z)<|dRg z z z I z (fd y_ z)<|dRg z z z I z (l0 p_ z kBa)<|bdB (ifT af I) λ_ bz aI=>c_1 z z z I z (at_ (α:=Int) h_ z_3 z z z kR bz) ?_;rintro _ ⟨_,_,_,rfl,bA,bB,_⟩;obtain ⟨rfl,bC⟩:=T_ bB;refine dRg z z z I z (l0 g_3 z<|bA.at0 z)<|bdB aI λbD bE aJ=>dEg z z z I z (fc call66 z<|f_8 (B:=B) bE kM kR bC) iB ?_;rintro _ _ ⟨_,rfl,_⟩;exact dRg z z z I z (a_c z z)<|dR z z (pT z I z)<|dQ z z z<|pD (λ_ q=>⟨decide<|0<bD,som aJ,kaA q,kW⟩)
   iterate 5 refine dRn z z z I z ?_
   exact dEn z z z I z<|dRn z z z I z<|dR z z (pF z I z)<|dQ z z z<|pD (λ_ q=>⟨false,som<|ifF af I,kaA q,kW⟩)
  rintro bF _ ⟨xm,rfl,_,_⟩;revert bF;exact Wo<|Wr<|rtO<|rS1 aH hr z ⟨kW,z⟩
 have ah:=ifF ae hcl;refine Ws<|Rq z z z<|Rw z<|Wc z (λhcn=>?_) (λhcn=>?_)
 .refine Wq<|bdB (ifT ah hcn) λbG aK aL=>Wt (λa w=>∃(xo:Bool),xo=bG/\Sat 114 [(4,vB xo)] a/\Below G.z G w) ?_ ?_
  .refine Wg<|R z (lN (vs:=vR x2 A2 N2 C2 A4 N4 C4 A1 N1 C1 A3 N3 C3) C_ i_ z z fid<|a4.row 0 8 z)<|Rf z c_a z<|R z (l0 c_r z<|a4.at z)<|R z (lnR a_w z kR)<|bdB aK λbH bI ai=>EcA z (fc call104 z<|d_w (B:=B) bI kM V W L kR kR kR kR<|a_A<|repS.len kR) λ_ bJ=>Rm z ?_;rcases bs bH with hca | hca
   .refine Rh z hca (fd c_a z)<|Rh z hca (l0 c_r z kBa)<|bdB (ifT ai hca) λbK bL aM=>Eg z z hca z (fc call105 z<|W_w3j (B:=B) bL kM kR) ?_;rintro _ _ ⟨_,rfl⟩;exact R z (pT z hca z)<|Ra z<|Wl (λ_ q=>⟨bK,som aM,kaA q,kW⟩)
   iterate 3 refine Nh z hca ?_
   exact R z (pF z hca z)<|Ra z<|Wl (λ_ q=>⟨false,som<|ifF ai hca,kaA q,bJ⟩)
  rintro bM _ ⟨xo,rfl,_,_⟩;revert bM;exact Wo<|Wr<|rtO<|rS1 aL hr z ⟨kW,z⟩
 have aj:=ifF ah hcn;refine Ws<|Rq z z z<|Rw z<|Wc z (λhcp=>?_) (λhcp=>?_)
 .refine Wq<|bdB (ifT aj hcp) λbN aN aO=>Wt (λa w=>∃(xq:Bool),xq=bN/\Sat 114 [(4,vB xq)] a/\Below G.z G w) ?_ ?_
  .refine Wg<|R z (lN (vs:=vR x2 A2 N2 C2 A4 N4 C4 A1 N1 C1 A3 N3 C3) C_ i_ z z fid<|a4.row 0 8 z)<|bdB aN λbO bP ak=>EcA z (fc call104 z<|d_w (B:=B) bP kM V W L kR kR kR kR<|ii z) λ_ bR=>Rm z ?_;rcases bs bO with hcb | hcb
   .refine Rh z hcb (lC [sl A0 N0 C0] m_ l_ z)<|Rh z hcb (lN (vs:=vR x2 A2 N2 C2 A4 N4 C4 A1 N1 C1 A3 N3 C3) C_ i_ z z fid<|kBr 0 8)<|bdB (ifT ak hcb) λbS bT aP=>Eg z z hcb z (fc call106 z<|W_w3k (B:=B) bT kM kR V W L kR kR kR kR) ?_;rintro _ _ ⟨_,rfl⟩;exact R z (pT z hcb z)<|Ra z<|Wl (λ_ q=>⟨bS,som aP,kaA q,kW⟩)
   iterate 3 refine Nh z hcb ?_
   exact R z (pF z hcb z)<|Ra z<|Wl (λ_ q=>⟨false,som<|ifF ak hcb,kaA q,bR⟩)
  rintro bU _ ⟨xq,rfl,_,_⟩;revert bU;exact Wo<|Wr<|rtO<|rS1 aO hr z ⟨kW,z⟩
 refine Wq<|Ws<|Rq z z z<|Rw z<|bdB (ifF aj hcp) λbV al am=>Wt (λa w=>∃(xr:Bool),xr=bV/\Sat 114 [(3,pt wc.z),(6,vI x2.kind),(92,vB xr)] a/\Below G.z G w) ?_ ?_
 .refine Wc z (λhcs=>?_)<|λhcs=>?_
  .exact X_<|λ_ q=>⟨x2.kind==8,som<|ifT al hcs,kaA q,br G⟩
  exact Wg<|Rq z z z<|Ra z<|Wl (λ_ q=>⟨x2.kind==9,som<|ifF al hcs,kaA q,br G⟩)
 rintro bW ar ⟨xr,rfl,_,_⟩;revert bW;refine Wo<|Wc z (λhct=>?_) (λhct=>?_)
 .exact Ws<|R z (lN (vs:=vR x2 A2 N2 C2 A4 N4 C4 A1 N1 C1 A3 N3 C3) C_ i_ z z fid<|kBr 0 8)<|bdB (ifT am hct) λ_ bX aQ=>EcA z (fc call104 z<|d_w (B:=B) bX kM V W L kR kR kR kR<|ii z) λ_ _=>Rw z<|Wr<|rtO<|rS1 aQ hr z ⟨kW,z⟩
 have an:=ifF am hct;refine Ws<|Rq z z z<|Rw z<|Wc z (λhcu=>?_) (λhcu=>?_)
 .refine Wq<|bdB (ifT an hcu) λbY aR aS=>Wt (λa w=>∃(xv:Bool),xv=bY/\Sat 114 [(4,vB xv)] a/\Below ar.z ar w) ?_ ?_
  .refine Wg<|R z (lN (vs:=vR x2 A2 N2 C2 A4 N4 C4 A1 N1 C1 A3 N3 C3) C_ i_ z z fid<|kBr 0 8)<|bdB aR λbZ c0 ap=>EcA z (fc call104 z<|d_w (B:=B) c0 kM V W L kR kR kR kR<|ii z) λ_ sw=>Rm z ?_;rcases bs bZ with a0 | a0
   .have aq:=ifT ap a0;refine Rh z a0 (fd a_F z)<|Rh z a0 (l0 F_ z kBa)<|Rh z a0 (lnR j_ z kR)<|Rh z a0 (eql z z)<|R z (pT z a0 z)<|Rm z ?_;rcases bs ((x2.bytes.length:Int)==1) with O | O
    .refine Rh z O (fd a_F z)<|Rh z O (l0 F_ z kBa)<|bdB (ifT aq O) λc1 c2 aT=>RXg z z O z (at_ (α:=UInt8) j_ z_5 z z z kR c2) ?_;rintro _ ⟨_,_,_,rfl,c3,c4,_⟩;obtain rfl:=u8 c4;exact Rh z O (l0 g_5 z<|c3.at0 z)<|Rh z O (nq z z)<|R z (pT z O z)<|Ra z<|Wl (λ_ q=>⟨(byteI c1) != (byteI (92:UInt8)),som aT,kaA q,sw⟩)
    iterate 5 refine Nh z O ?_
    exact R z (pF z O z)<|Ra z<|Wl (λ_ q=>⟨false,som<|ifF aq O,kaA q,sw⟩)
   iterate 4 refine Nh z a0 ?_
   exact R z (pF z a0 z)<|Rm z<|Nh z z<|Nh z z<|Nh z z<|Nh z z<|Nh z z<|R z (pF z z z)<|Ra z<|Wl (λ_ q=>⟨false,som<|ifF ap a0,kaA q,sw⟩)
  rintro c5 _ ⟨xv,rfl,_,_⟩;revert c5;exact Wo<|Wr<|rtO<|rS1 aS hr z ⟨kW,z⟩
 exact Wk<|Ws<|Rw z<|Wr<|rS1 (ifF an hcu) hr z ⟨kW,z⟩
theorem W_w3m {x1:b_}{x2:Int}{res:Bool}(hm:h_H x1 x2=some res)(aU:B<=w0.z)(aT:rp w0 B A0 N0 C0 x1.rules)(a0:inI x2):g_ prog 44 [(.agg #[sl A0 N0 C0]),vI x2] w0 (Q0 w0 B res):=by
 unfold h_H at hm;refine goG func44 z z z λfn hr=>Ws<|EvX [sl A0 N0 C0] z z z λwz _ a1=>Rw z<|Wq<|Wm z<|Rf z N_ z<|R z (l0 Q_ z<|a1.at z)<|R z (lnR P_ z kR)<|R z (sb_ z z)<|bdB hm λ_ au hmm=>EcA z (fc call45 z<|b_g (B:=B) au kM a0 (ii z)<|iS _ _) λJ _=>R z (not_ z)<|Wx z (λL=>?_) (λL=>?_)
 .exact Ws<|Rw z<|Wr<|rS1 (ifT hmm L) hr z ⟨kW,z⟩
 refine Wk<|Ws<|Rf z N_ z<|R z (l0 Q_ z kBa)<|Rm z<|bdB (ifF hmm L) λx5 av a2=>xA (α:=c_) z P_ i_ z z z kR av λ_ _ _ aw ax _=>?_;obtain ⟨O,V,W,Y,na,cb,ac,nd,ce,af,ng,ch,rfl,hn,ay,az,_,_,_,aA⟩:=a_k ax;refine R z (lN (vs:=vR x5 O V W Y na cb ac nd ce af ng ch) C_ i_ z z fid aw)<|EvZ [(Str.v (⟨[]⟩:Str)),vI 0,vI 0,vB false,sN,sN,sN,sN] z b_4 z λaV _ a3=>E0q (vR x5 O V W Y na cb ac nd ce af ng ch) i_ z z a3 z λH _ _=>Wn<|Wq<|Ws<|Rw z<|bdB a2 λ_ a4 hmp=>Wf (σ:=Unit) (ρ:=Bool) (λ(kq:Nat)(_:Unit) a w=>Sat 58 [(1,vI x2),(2,pt w0.z),(5,pt J.z),(6,vI ((kq:Nat):Int))] a/\Below H.z H w) (λ(_:Unit) a w=>Sat 58 [(1,vI x2),(2,pt w0.z),(5,pt J.z)] a/\Below H.z H w) (rQ prog fn<|Q0 w0 B) a4 ?_ ?_ ?_ ?_ ?_
 .exact λ_ q=>⟨kaA q,br H⟩
 .rintro kq _ _ _ _ hkr ⟨a5,_⟩ a7;refine Wu ?_ a5;refine Wq<|Wm z<|Rm z<|Rl z z z<|Wx z (λ_=>?_) (λhc=>(e_Q hkr hc).elim);refine Wk<|Wq<|Wb<|Wq (Wd (X:=noX) 0 (pl_ 9 []) mo (by kernel_rfl) λaW aX _=>dR z z (fd N_ z)<|dR z z (l0 Q_ z kBa)<|dM z z z ?_);refine bdB a7 λ_ aB hms=>dxA (α:=c_) z z P_ i_ z z z kR aB λ_ _ _ aC aD _=>?_;obtain ⟨_,_,_,_,_,_,_,_,_,_,_,_,rfl,_,_,_,_,_,_,_⟩:=a_k aD;refine dR z z (fd f_2 z)<|dR z z (l0 g_9 z<|aC.at (j:=0) z)<|dR z z (fd f_2 z)<|dR z z (l0 g_9 z kBa)<|dR z z (j_2 z z)<|pD<|Wo<|Wc z (λhci=>?_) (λhci=>?_)
  .exact Ws<|Rw z<|Wr<|rtO<|qL (som<|ifT hms hci).symm<|a_I hr z ⟨kW,z⟩
  exact Wk<|Wg<|Rm z<|R z (inc_ hkr (tl_ a0) z z)<|Ra z<|Wl (λ_ q=>⟨(),(som<|ifF hms hci).symm,⟨kaA q,kW⟩⟩)
 .rintro _ _ _ ⟨a8,aE⟩;refine Wu ?_ a8;refine Wq<|Wm z<|Rm z<|Rl z z z<|Wx z (λhc=>(e_R hc).elim) (λ_=>?_);exact We<|λ_ q=>⟨rfl,⟨kaA q,aE⟩⟩
 .rintro _ aF I rfl ⟨_,_⟩;have aa:=elL hmp;revert aF;refine Wo<|Wq<|Ws<|Rw z<|bdB aa λ_ ab hmt=>Wf (σ:=Unit) (ρ:=Bool) (λ(ku:Nat)(_:Unit) a w=>Sat 58 [(1,vI x2),(2,pt w0.z),(5,pt J.z),(7,vI ((ku:Nat):Int))] a/\Below I.z I w) (λ(_:Unit) a w=>Sat 58 [(2,pt w0.z),(5,pt J.z)] a/\Below I.z I w) (rQ prog fn<|Q0 w0 B) ab ?_ ?_ ?_ ?_ ?_
  .exact λ_ q=>⟨kaA q,br I⟩
  .rintro ku _ _ _ _ hkv ⟨ad,_⟩ ae;refine Wu ?_ ad;refine Wq<|Wm z<|Rf z y_ z<|R z (l0 p_ z kBa)<|R z (lnR h_ z kR)<|Rl z z z<|Wx z (λ_=>?_) (λhc=>(U_ hkv hc).elim);refine Wk<|Wq<|Wb<|Ws<|Rf z y_ z<|R z (l0 p_ z kBa)<|Rm z<|bdB ae λ_ aG ah=>xI z h_ z_3 z z z kR aG λ_ _ aH aI=>R z (l0 g_3 z<|aH.at0 z)<|Rm z<|R z (sb_ z z)<|bdB ah λ_ aJ hmw=>EcA z (fc call45 z<|b_g (B:=B) aJ kM aI (ii z)<|iS _ _) λ_ _=>?_;refine R z (not_ z)<|Wx z (λhcj=>?_) (λhcj=>?_)
   .exact Ws<|Rw z<|Wr<|rtO<|qL (som<|ifT hmw hcj).symm<|a_I hr z ⟨kW,z⟩
   exact Wk<|Wg<|Rm z<|R z (inc_ hkv (lt_ (repS.len aA) D_) z z)<|Ra z<|Wl (λ_ q=>⟨(),(som<|ifF hmw hcj).symm,⟨kaA q,kW⟩⟩)
  .rintro _ _ _ ⟨ai,aK⟩;refine Wu ?_ ai;refine Wq<|Wm z<|Rf z y_ z<|R z (l0 p_ z kBa)<|R z (lnR h_ z kR)<|Rl z z z<|Wx z (λhc=>(V_ hc).elim) (λ_=>?_);exact We<|λ_ q=>⟨rfl,⟨kaA q,aK⟩⟩
  .rintro _ aL wx rfl ⟨_,_⟩;have aj:=elL hmt;revert aL;refine Wo<|Wq<|bdB aj λaM ak al=>Wt (λa w=>∃(xk:Bool),xk=aM/\Sat 58 [(4,vB xk)] a/\Below wx.z wx w) ?_ ?_
   .refine Wg<|Rf z f_2 z<|R z (l0 g_9 z kBa)<|bdB ak λaN aO hmy=>EcA z (fc call72 z<|W_w1z (B:=B) aO kM hn) λ_ aP=>Rm z ?_;rcases bs aN with G | G
    .refine Rh z G (lC [sl A0 N0 C0] m_ l_ z)<|Rh z G (lN (vs:=vR x5 O V W Y na cb ac nd ce af ng ch) C_ i_ z z fid<|kBr 0 8)<|bdB (ifT hmy G) λaQ aR am=>Eg z z G z (fc call73 z<|W_w3l (B:=B) aR kM kR hn ay az kR kR kR kR) ?_;rintro _ _ ⟨_,rfl⟩;exact R z (pT z G z)<|Ra z<|Wl (λ_ q=>⟨aQ,som am,kaA q,kW⟩)
    iterate 3 refine Nh z G ?_
    exact R z (pF z G z)<|Ra z<|Wl (λ_ q=>⟨false,som<|ifF hmy G,kaA q,aP⟩)
   rintro aS _ ⟨xk,rfl,_,_⟩;revert aS;exact Wo<|Wr<|rS1 al hr z ⟨kW,z⟩
  exact lqA hmt λ_ _ h=>h.2
 exact lqA hmp λ_ _ h=>h.2
theorem W_w20 {x1:b_}{res:Bool}(hm:g_F x1=some res)(a0:B<=w0.z)(J:rp w0 B A0 N0 C0 x1.rules):g_ prog 25 [(.agg #[sl A0 N0 C0])] w0 (Q0 w0 B res):=by
 unfold g_F at hm;refine goG func25 z z z λfn hr=>Ws<|EvX [sl A0 N0 C0] z z z λG _ _=>Rw z<|Wq<|Ws<|Rw z<|bdB hm λ_ V L=>Wf (σ:=Unit) (ρ:=Bool) (λ(k5:Nat)(_:Unit) a w=>Sat 19 [(1,pt w0.z),(3,vI ((k5:Nat):Int))] a/\Below G.z G w) (λ(_:Unit) a w=>Sat 19 [(1,pt w0.z)] a/\Below G.z G w) (rQ prog fn<|Q0 w0 B) V ?_ ?_ ?_ ?_ ?_
 .exact λ_ q=>⟨kaA q,br G⟩
 .rintro k5 _ _ _ _ H ⟨W,_⟩ Y;refine Wu ?_ W;refine Wq<|Wm z<|Rf z N_ z<|R z (l0 Q_ z kBa)<|R z (lnR P_ z kR)<|Rl z z z<|Wx z (λ_=>?_) (λhc=>(U_ H hc).elim);refine Wk<|Wq<|Wb<|Ws<|R z (lC [sl A0 N0 C0] m_ l_ z)<|Rm z<|bdB Y λ_ ea O=>EcA z (fc call44 z<|W_w3m (B:=B) ea kM kR<|ic (Nat.le_of_lt H)<|lt_ (repS.len J) D_) λ_ _=>R z (not_ z)<|Wx z (λI=>?_) (λI=>?_)
  .exact Ws<|Rw z<|Wr<|rtO<|qL (som<|ifT O I).symm<|a_I hr z ⟨kW,z⟩
  exact Wk<|Wg<|Rm z<|R z (inc_ H (lt_ (repS.len J) D_) z z)<|Ra z<|Wl (λ_ q=>⟨(),(som<|ifF O I).symm,⟨kaA q,kW⟩⟩)
 .rintro _ _ _ ⟨hSb,sc⟩;refine Wu ?_ hSb;refine Wq<|Wm z<|Rf z N_ z<|R z (l0 Q_ z kBa)<|R z (lnR P_ z kR)<|Rl z z z<|Wx z (λhc=>(V_ hc).elim) (λ_=>?_);exact We<|λ_ q=>⟨rfl,⟨kaA q,sc⟩⟩
 .rintro _ ad _ rfl ⟨_,_⟩;have hme:=elL L;revert ad;exact Wo<|Ws<|Rf z N_ z<|R z (l0 Q_ z kBa)<|R z (lnR P_ z kR)<|bdB hme λ_ ef hmg=>EcA z (fc call45 z<|b_g (B:=B) ef kM (a_A<|repS.len kR) (ii z)<|ii z) λ_ _=>Rw z<|Wr<|rS1 hmg hr z ⟨kW,z⟩
 exact lqA L λ_ _ h=>h.2
theorem k_o {x1:b_}{x2:Int}{res:Bool}(hm:f_o x1 x2=some res)(a1:B<=w0.z)(a0:rp w0 B A0 N0 C0 x1.rules)(J:inI x2):g_ prog 39 [(.agg #[sl A0 N0 C0]),vI x2] w0 (Q0 w0 B res):=by
 unfold f_o at hm;refine goG func39 z z z λfn hr=>Ws<|EvX [sl A0 N0 C0] z z z λI _ L=>Rw z<|Wq<|bdB hm λW O V=>Wt (λa w=>∃(x3:Bool),x3=W/\Sat 15 [(4,vB x3)] a/\Below I.z I w) ?_ ?_
 .refine Wg<|Rm z<|Rf z N_ z<|R z (l0 Q_ z<|L.at z)<|R z (lnR P_ z kR)<|R z (sb_ z z)<|bdB O λY e9 H=>EcA z (fc call45 z<|b_g (B:=B) e9 kM J (ii z)<|iS _ _) λ_ sa=>Rm z ?_;rcases bs Y with G | G
  .refine Rh z G (lC [sl A0 N0 C0] m_ l_ z)<|bdB (ifT H G) λrb ec hmd=>Eg z z G z (fc call25 z<|W_w20 (B:=B) ec kM kR) ?_;rintro _ _ ⟨_,rfl⟩;exact R z (pT z G z)<|Ra z<|Wl (λ_ q=>⟨rb,som hmd,kaA q,kW⟩)
  exact Nh z G<|Nh z G<|R z (pF z G z)<|Ra z<|Wl (λ_ q=>⟨false,som<|ifF H G,kaA q,sa⟩)
 rintro ae _ ⟨x3,rfl,_,_⟩;revert ae;exact Wo<|Wr<|rS1 V hr z ⟨kW,z⟩
theorem W_w21 {x1:Int}{x2:Int}{res:Int}(hm:e_W x1 x2=some res)(J:B<=w0.z)(H:inI x1)(I:inI x2):g_ prog 41 [vI x1,vI x2] w0 (Q10 w0 B res):=by
 unfold e_W at hm;refine goG func41 z z z λfn hr=>Ws<|Rw z<|Wq<|Wm z<|Rm z<|R z (a_c z z)<|Wx z (λG=>?_) (λG=>?_)
 .exact Wm z<|Rw z<|Wr<|rS1 (ifT hm G) hr z ⟨br w0,z,I⟩
 exact Wk<|Wm z<|Rw z<|Wr<|rS1 (ifF hm G) hr z ⟨br w0,z,H⟩
theorem W_w3n {x1:Int}{x2:Int}{res:Int}(hm:h_9 x1 x2=some res)(J:B<=w0.z)(a0:inI x1)(I:inI x2):g_ prog 124 [vI x1,vI x2] w0 (Q10 w0 B res):=by
 unfold h_9 at hm;refine goG func124 z z z λfn hr=>Ws<|Rw z<|Wq<|Wm z<|bdB hm λ_ V H=>EcA z (fc call45 z<|b_g (B:=B) V J I (ii z)<|ii z) λ_ s2=>R z (not_ z)<|Wx z (λG=>?_) (λG=>?_)
 .exact Ws<|Rw z<|Wr<|rS1 (ifT H G) hr z ⟨s2,z,ii z⟩
 exact Wk<|Wm z<|Rm z<|bdB (ifF H G) λ_ W L=>R z (b_o z z<|nzS W)<|Rm z<|R z (add_ z z)<|Rm z<|bdB L λ_ Y O=>R z (b_o z z<|nzS Y)<|Rw z<|Wr<|rS1 O hr z ⟨s2,z,b_M<|iA _ _⟩
theorem W_w3o {x1:Int}{res:Int}(hm:g_6 x1=some res)(H:B<=w0.z)(G:inI x1):g_ prog 94 [vI x1] w0 (Q10 w0 B res):=by
 unfold g_6 at hm;refine goG func94 z z z λfn hr=>Ws<|Rw z<|Wm z<|bdB hm λ_ L I=>E z (fc call124 z<|W_w3n (B:=B) L H G<|ii z) ?_;rintro _ _ ⟨_,rfl,_⟩;refine R z (c_u z z)<|R z (b_o z z (by decide))<|bdB I λ_ O J=>E z (fc call41 z<|W_w21 (B:=B) O kM (ii z)<|b_M<|l_r _ _) ?_;rintro _ _ ⟨_,rfl,h4⟩;exact Rw z<|Wr<|rS1 J hr z ⟨kW,z,h4⟩
def Q37 (w0:World)(g1:Nat)(B:Zone)(x1:Int)(r:Int×Int)(v:Value)(w':World):Prop:=Cg [g1] w0 w'/\un2 (λr1 r2=>(vI r1)=v/\inI r1/\inI r2/\Blk w' g1 [vI r2]) r
theorem f_9 {x1:Int}{g1:Nat}{res:Int×Int}(hm:b_u x1=some res)(hB1:Blk w0 g1 [vI x1])(I:B<=w0.z)(hBg:¬B g1)(H:inI x1):g_ prog 62 [pt g1] w0 (Q37 w0 g1 B x1 res):=by
 unfold b_u at hm;refine goG func62 z z z λfn hr=>Ws<|Rw z<|Wm z<|Rm z<|R z (t_ z)<|R z (l0 g_3 z<|hB1.at z)<|bdB hm λr2 L J=>E z (fc call94 z<|W_w3o (B:=B) L I H) ?_;rintro _ _ ⟨_,rfl,G⟩;exact R z (t_ z)<|E0q [vI r2] z_3 z z kB z λO h1 _=>Wn<|Wm z<|R z (t_ z)<|R z (l0 g_3 z<|h1.at z)<|Rw z<|Wr<|rS1 J hr z ⟨kW,z,G,G,h1⟩
def Q38 (w0:World)(g1:Nat)(B:Zone)(x1:Int)(r:Bt×Int)(v:Value)(w':World):Prop:=Cg [g1] w0 w'/\un2 (λr1 r2=>∃G H I S1,(sl G H I)=v/\a_ w' S1 (sl G H I) r1/\inI r2/\Blk w' g1 [vI r2]/\S1.Nodup/\(∀k∈S1,w0.z<=k)) r
theorem k_p {x1:Int}{g1:Nat}{x2:Int}{res:Bt×Int}(hm:d_l x1 x2=some res)(hB1:Blk w0 g1 [vI x1])(ad:B<=w0.z)(hBg:¬B g1)(a0:inI x1)(a2:inI x2):g_ prog 64 [pt g1,vI x2] w0 (Q38 w0 g1 B x1 res):=by
 unfold d_l at hm;refine goG func64 z z z λfn hr=>Ws<|Rw z<|Ws<|E z (f0 (α:=UInt8) H_) ?_;rintro _ L ⟨ag,nh,ci,rfl,_,hj⟩;refine Rw z<|Wq<|Ws<|Rw z ?_;obtain ⟨_,huk,hmc⟩:=bdS hm;refine Wf (σ:=Bt×Int) (ρ:=Bt×Int) (λ(kd:Nat) s a w=>un2 (λx5 x4=>∃H I J G,Sat 21 [(0,pt g1),(1,vI x2),(5,sl H I J),(6,vI ((kd:Nat):Int))] a/\Chg (· ∈ ([g1]++[w0.z])) L w/\a_ w G (sl H I J) x5/\G.Nodup/\(∀k∈G,k∈[w0.z]∨L.z<=k)/\inI x4/\Blk w g1 [vI x4]) s) (λs a w=>un2 (λx5 x4=>∃H I J G,Sat 21 [(5,sl H I J)] a/\Chg (· ∈ ([g1]++[w0.z])) L w/\a_ w G (sl H I J) x5/\G.Nodup/\(∀k∈G,k∈[w0.z]∨L.z<=k)/\inI x4/\Blk w g1 [vI x4]) s) (rQ prog fn<|Q38 w0 g1 B x1) huk ?_ ?_ ?_ ?_ ?_
 .exact λ_ q=>⟨ag,nh,ci,[w0.z],kaA q,cr ([g1]++[w0.z]) L,hj,W_,sQ,a0,kB⟩
 .rintro kd ⟨x5,x4⟩ _ _ _ hke ⟨H,I,J,G,hSl,_,ha,O,hf,V,W⟩ hmm;refine Wu ?_ hSl;refine Wq<|Wm z<|Rm z<|Rl z z z<|Wx z (λ_=>?_) (λhc=>(e_Q hke hc).elim);refine Wk<|Wq<|Wb<|Wg<|RM z z ?_;obtain ⟨ro,rp,eq,hmr⟩:=K_<|Z_ hmm;refine E z (fc call62 z<|f_9 (B:=B) eq W kM sQ V) ?_;rintro _ ws ⟨_,rfl,_,ht,_⟩;refine R z (b_o z z (by decide))<|R z (c_G d_3 d_5 z)<|EvA z (fS [(.tmp 17)] H_ z z z (a_2 z) (lb z)<|lb z) λwu hb=>have:=hb.below;have Y:Blk wu ws.z [(vU<|byteI<|mkB<|R_ ro 256)]:=hb.blk;have:=a_r hb a_l;bdB hmr λxv ew hmx=>E z (a_B (α:=UInt8) H_ ew z z kO O Y a_l an_ s_) ?_;rintro _ _ ⟨Sy,az,a7,a8,rfl,_,a9,aa,_⟩;exact Rw z<|Wg<|Rm z<|R z (inc_ hke (tl_ a2) z z)<|Ra z<|Wl (λ_ q=>⟨(xv,rp),(som hmx).symm,⟨az,a7,a8,Sy,kaA q,kW,a9,aa,sQ,ht,kB⟩⟩)
 .rintro ⟨x5,x4⟩ _ _ ⟨H,I,J,G,a3,_,ha,O,hf,V,W⟩;refine Wu ?_ a3;refine Wq<|Wm z<|Rm z<|Rl z z z<|Wx z (λhc=>(e_R hc).elim) (λ_=>?_);exact We<|λ_ q=>⟨rfl,⟨H,I,J,G,kaA q,kW,ha,O,sQ,V,W⟩⟩
 .rintro ⟨x5,x4⟩ ab _ rfl ⟨H,I,J,G,_,_,ha,O,hf,V,W⟩;have a4:=elL hmc;revert ab;refine Wo<|Wm z<|Rw z ?_;exact Wr<|rS1 (Z_ a4) hr z ⟨kW,H,I,J,G,z,ha,V,W,O,sQ⟩
 exact lqA hmc λ_ _ h=>h.2
theorem f_a {x1:Int}{x2:Int}{res:Int}(hm:c_k x1 x2=some res)(J:B<=w0.z)(H:inI x1)(I:inI x2):g_ prog 65 [vI x1,vI x2] w0 (Q10 w0 B res):=by
 unfold c_k at hm;refine goG func65 z z z λfn hr=>Ws<|Rw z<|Wq<|Wm z<|Rm z<|Rl z z z<|Wx z (λG=>?_) (λG=>?_)
 .exact Wm z<|Rw z<|Wr<|rS1 (ifT hm G) hr z ⟨br w0,z,I⟩
 exact Wk<|Wm z<|Rw z<|Wr<|rS1 (ifF hm G) hr z ⟨br w0,z,H⟩
theorem e_2 {x1:c_}{x2:Int}{x3:Int}{res:Int}(hm:a_E x1 x2 x3=some res)(aL:B<=w0.z)(aD:x1.name.b.length<=LEN)(aE:inI x1.kind)(aF:inI x1.size)(aG:rp w0 B AC NC CC x1.bytes)(aH:rp w0 B AB NB CB x1.names)(a1:rp w0 B AD ND CD x1.tags)(aI:rp w0 B AE NE CE x1.kids)(aJ:inI x2)(aK:inI x3):g_ prog 67 [(.agg #[Str.v x1.name,vI x1.kind,vI x1.size,vB x1.little,sl AC NC CC,sl AB NB CB,sl AD ND CD,sl AE NE CE]),vI x2,vI x3] w0 (Q10 w0 B res):=by
 unfold a_E at hm;refine goG func67 z z z λfn hr=>Ws<|EvX (vR x1 AC NC CC AB NB CB AD ND CD AE NE CE) z z z λG a2 H=>Rw z<|Wq<|Ws<|Rf z a_b z<|R z (l0 g_3 z<|H.at z)<|Wn<|Wb<|Ws<|Rq z z z<|Rw z<|Wc z (λJ=>?_) (λJ=>?_)
 .exact Ws<|Rf z y_ z<|R z (l0 p_ z<|H.at z)<|bdB (ifT hm J) λ_ el hmm=>xI z h_ z_3 z z z kR el λ_ _ hn hp=>R z (l0 g_3 z<|hn.at0 z)<|Rw z<|Wr<|rtO<|rS1 hmm hr z ⟨a2,z,hp⟩
 refine Ws<|Rq z z z<|Rw z<|bdB (ifF hm J) λuq huc I=>Wt (λa w=>Sum.inl ()=uq/\Sat 57 [] a/\Below G.z G w) ?_ ?_
 .refine Wc z (λL=>?_)<|λL=>?_
  .have hme:=ifT huc L;refine Wm z<|Rf z y_ z<|R z (l0 p_ z<|H.at z)<|R z (lnR h_ z kR)<|Rl z z z<|Wx z (λO=>?_) (λO=>?_)
   .refine Ws<|Rf z y_ z<|R z (l0 p_ z<|H.at z)<|Rm z<|bdB (ifT hme O) λ_ er hms=>xI z h_ z_3 z z z kR er λ_ _ ht hv=>R z (l0 g_3 z<|ht.at0 z)<|Rw z ?_;obtain rfl:=som hms;have hmw:=elR I;exact Wr<|rtO<|rS1 hmw hr z ⟨a2,z,hv⟩
   exact X_<|λ_ q=>⟨som<|ifF hme O,q.k sn,br G⟩
  refine Ws<|Rq z z z<|Rw z<|bdB (ifF huc L) λux huf V=>Wt (λa w=>Sum.inl ()=ux/\Sat 57 [] a/\Below G.z G w) ?_ ?_
  .refine Wc z (λW=>?_)<|λW=>?_
   .refine Ws<|Rw z<|bdB (ifT huf W) λ_ huy hmg=>Wf (σ:=Unit) (ρ:=Int) (λ(kh:Nat)(_:Unit) a w=>Sat 57 [(1,vI x2),(3,pt w0.z),(7,vI ((kh:Nat):Int))] a/\Below G.z G w) (λ(_:Unit) a w=>Sat 57 [] a/\Below G.z G w) (rQ prog fn<|Q10 w0 B) huy ?_ ?_ ?_ ?_ ?_
    .exact λ_ q=>⟨kaA q,br G⟩
    .rintro kh _ _ _ _ Y ⟨hSz,ai⟩ a3;refine Wu ?_ hSz;refine Wq<|Wm z<|Rf z a_J z<|R z (l0 p_ z kBa)<|R z (lnR h_ z kR)<|Rl z z z<|Wx z (λ_=>?_) (λhc=>(U_ Y hc).elim);refine Wk<|Wq<|Wb<|Ws<|Rf z a_J z<|R z (l0 p_ z kBa)<|Rm z<|bdB a3 λ_ aj hmi=>xI z h_ z_3 z z z kR aj λ_ _ ak _=>R z (l0 g_3 z<|ak.at0 z)<|Rm z<|Rq z z z<|Wx z (λa0=>?_) (λa0=>?_)
     .exact Ws<|Rf z y_ z<|R z (l0 p_ z kBa)<|Rm z<|R z (inc_ Y (lt_ (repS.len a1) D_) z z)<|bdB (ifT hmi a0) λ_ al a4=>xI z h_ z_3 z z z kR al λ_ _ am an=>R z (l0 g_3 z<|am.at0 z)<|Rw z<|Wr<|rtO<|qL (som a4).symm<|a_I hr z ⟨kW,z,an⟩
     exact Wk<|Wg<|Rm z<|R z (inc_ Y (lt_ (repS.len a1) D_) z z)<|Ra z<|Wl (λ_ q=>⟨(),(som<|ifF hmi a0).symm,⟨kaA q,ai⟩⟩)
    .rintro _ _ _ ⟨a5,ap⟩;refine Wu ?_ a5;refine Wq<|Wm z<|Rf z a_J z<|R z (l0 p_ z kBa)<|R z (lnR h_ z kR)<|Rl z z z<|Wx z (λhc=>(V_ hc).elim) (λ_=>?_);exact We<|λ_ q=>⟨rfl,⟨q.k sn,ap⟩⟩
    .rintro _ aq _ rfl ⟨_,ar⟩;have a6:=elL hmg;revert aq;exact λ_ q=>⟨som a6,q.k sn,ar⟩
    rintro _ _ _ _ rfl ⟨rfl,a7⟩;have a8:=elR hmg;obtain rfl:=som a8;have a9:=elR V;obtain rfl:=som a9;have aa:=elR I;obtain rfl:=som aa;exact ⟨a7,z⟩
   refine Wq<|Ws<|Rq z z z<|Rw z<|bdB (ifF huf W) λau huj hmk=>Wt (λa w=>∃(x9:Bool),x9=au/\Sat 57 [(3,pt w0.z),(50,vB x9)] a/\Below G.z G w) ?_ ?_
   .refine Wc z (λhca=>?_)<|λhca=>?_
    .exact X_<|λ_ q=>⟨x1.kind==8,som<|ifT huj hca,kaA q,br G⟩
    exact Wg<|Rq z z z<|Ra z<|Wl (λ_ q=>⟨x1.kind==9,som<|ifF huj hca,kaA q,br G⟩)
   rintro av _ ⟨x9,rfl,_,aw⟩;revert av;refine Wo<|Wc z (λhcb=>?_) (λhcb=>?_)
   .refine Ws<|Rf z y_ z<|R z (l0 p_ z kBa)<|bdB (ifT hmk hcb) λ_ ax ab=>xI z h_ z_3 z z z kR ax λ_ _ ay az=>R z (l0 g_3 z<|ay.at0 z)<|Rw z ?_;obtain rfl:=som ab;have ad:=elR V;obtain rfl:=som ad;have ae:=elR I;exact Wr<|rtO<|rS1 ae hr z ⟨kW,z,az⟩
   exact X_<|λ_ q=>⟨som<|ifF hmk hcb,q.k sn,aw⟩
  rintro aA _ ⟨rfl,_,aB⟩;have af:=elL V;revert aA;exact λ_ q=>⟨som af,q.k sn,aB⟩
 rintro aC _ ⟨rfl,_,_⟩;have ah:=elL I;revert aC;exact Wo<|Ws<|Rw z<|Wr<|rS1 ah hr z ⟨kW,z,ii z⟩
def Q39 (w0:World)(g3:Nat)(B:Zone)(x3:Int)(r:Val×Int)(v:Value)(w':World):Prop:=Cg [g3] w0 w'/\un2 (λr1 r2=>∃G H I S1 a2 J L S2,(.agg #[vI r1.number,sl G H I,sl a2 J L])=v/\inI r1.number/\a_ w' S1 (sl G H I) r1.bytes/\a_ w' S2 (sl a2 J L) r1.items/\inI r2/\Blk w' g3 [vI r2]/\(S1++S2).Nodup/\(∀k∈(S1++S2),w0.z<=k)) r
structure k_q (f:b_->Int->Int->Int->Option (Val×Int)):Prop where
  run:∀{A0:Option Addr}{N0 C0 g3:Nat}{B:Zone}{x1:b_}{x2:Int}{x3:Int}{x4:Int}{res:Val×Int}{w0:World}(hm:f x1 x2 x3 x4=some res)(hB3:Blk w0 g3 [vI x3])(hBw:B<=w0.z)(hBg:¬B g3)(p1_0:rp w0 B A0 N0 C0 x1.rules)(p2_0:inI x2)(p3_0:inI x3)(p4_0:inI x4),g_ prog 40 [(.agg #[sl A0 N0 C0]),vI x2,pt g3,vI x4] w0<|Q39 w0 g3 B x3 res
abbrev l_O (n:Nat):Prop:=k_q (b_s n).spec_l25Value
theorem T_w0o (cg:l_O n):k_q (e_r n<|b_s n):=by
 constructor;intro A0 N0 C0 g3 B x1 x2 x3 x4 res w0 hm hB3 ft hBg ff fg a1 ap;unfold e_r at hm;refine goG func40 z z z λfn hr=>Ws<|EvX [sl A0 N0 C0] z z z λV _ aq=>EvZ [vI 0,sN,sN] z a_7 z λw7 _ _=>Wn<|Ws<|Rf z N_ z<|R z (l0 Q_ z kBa)<|Rm z<|bdB hm λa6 ch bv=>xA (α:=c_) z P_ i_ z z z kR ch λ_ _ _ ci cj _=>?_;obtain ⟨aC,aD,aE,aF,aG,aH,aI,aJ,aK,aL,aM,aN,rfl,ck,cl,aO,_,_,_,_⟩:=a_k cj;refine R z (lN (vs:=vR a6 aC aD aE aF aG aH aI aJ aK aL aM aN) C_ i_ z z fid ci)<|EvZ [(Str.v (⟨[]⟩:Str)),vI 0,vI 0,vB false,sN,sN,sN,sN] z b_4 z λfu _ a2=>E0q (vR a6 aC aD aE aF aG aH aI aJ aK aL aM aN) i_ z z a2 z λG _ _=>Wn<|Ws<|R z (bQ [] [vI 0,sN,sN] S_ z z)<|EvZ [vI 0,sN,sN] z a_7 z λfv _ ar=>E0q [vI 0,sN,sN] e_ z z ar z λH _ _=>Wn<|Ws<|Rw z<|Wq<|Ws<|Rf z a_b z<|R z (l0 g_3 z kBa)<|Wn<|Wb<|Ws<|Rq z z z<|Rw z ?_;refine bdB bv λcm aT bw=>Wt (λa w=>∃(xe:Int)(a7:Int)(W:Int)(a8:Bt),(xe,a7,W,a8)=cm/\∃Y na cb Sf,Sat 123 [(2,pt g3),(3,vI x4),(4,pt w0.z),(8,pt V.z),(9,pt w7.z),(10,pt G.z),(11,vI xe)] a/\Chg (· ∈ ([g3]++[G.z])) H w/\inI xe/\inI a7/\inI W/\a_ w Sf (sl Y na cb) a8/\Sf.Nodup/\(∀k∈Sf,H.z<=k)/\Blk w g3 [vI a7]/\Blk w G.z [vI W,sl Y na cb,sN]) ?_ ?_
 .refine Wc z (λau=>?_)<|λau=>?_
  .refine Wd (X:=λk=>k∈[g3]∨H.z<=k) 128 (.rd 0<|.rd 2<|.rd 3<|.ef 1<|.ef 4<|.rd 5<|.rd 6<|.ef 7 .done) mo (by kernel_rfl) λfw fx _=>dM z z z<|dR z z (fd a_g z)<|dR z z (l1 g_3 z (a_3 sQ<|Nat.lt_of_lt_of_le a2.lt kM) kBa) ?_;obtain ⟨b3,cn,co,bx⟩:=K_<|ifT aT au;refine dE z z (fc call62 z<|f_9 (B:=B) co kB kM sQ a1) (.inr λ_ _ h=>b_7 h.1) ?_;rintro _ _ ⟨_,rfl,cp,cq,_⟩;refine bdB bx λb4 ct bz=>dE z z (fc call63 z<|i_W (B:=B) ct kM aO) iB ?_;rintro _ _ ⟨_,rfl,_⟩;refine bdB bz λ_ cu bA=>dR z z (b_o z z<|nzS cu)<|dR z z (fd a_Q z)<|dE0 z (fs0 (cur':=[vI (R_ b3 b4),sN,sN]) z_3 z z kB z z z z) (.inl z) ?_;rintro _ _ ⟨cv,cw⟩;have:=cw.one;exact pD<|λ_ q=>⟨0,cn,R_ b3 b4,([]:Bt),som bA,none,0,0,[],kaA q,kW,ii z,cq,b_M cp,onL,s_,an_,kB,cv⟩
  refine Ws<|Rq z z z<|Rw z<|bdB (ifF aT au) λcx aU bB=>Wt (λa w=>∃(xg:Int)(xh:Int)(xi:Int)(aa:Bt),(xg,xh,xi,aa)=cx/\∃ab ad ae Sj,Sat 123 [(2,pt g3),(3,vI x4),(4,pt w0.z),(8,pt V.z),(9,pt w7.z),(10,pt G.z),(11,vI xg)] a/\Chg (· ∈ ([g3]++[G.z])) H w/\inI xg/\inI xh/\inI xi/\a_ w Sj (sl ab ad ae) aa/\Sj.Nodup/\(∀k∈Sj,H.z<=k)/\Blk w g3 [vI xh]/\Blk w G.z [vI xi,sl ab ad ae,sN]) ?_ ?_
  .refine Wc z (λav=>?_)<|λav=>?_
   .refine Wg<|Rm z<|Rf z a_g z<|R z (l0 g_3 z kBa) ?_;obtain ⟨cy,cz,cA,bC⟩:=K_<|ifT aU av;refine E z (fc call64 z<|k_p (B:=B) cA kB kM sQ a1 aO) ?_;rintro _ _ ⟨_,b5,b6,b7,cB,rfl,_,cC,_,cD,cE⟩;exact Rf z a_C z<|E0q [vI 0,sl b5 b6 b7,sN] d_t z z kB z λfh cF _=>Wl<|λ_ q=>⟨0,cz,0,cy,som bC,b5,b6,b7,cB,kaA q,kW,ii z,cC,ii z,kO,cD,cE,kB,cF⟩
   refine Ws<|Rq z z z<|Rw z<|bdB (ifF aU av) λcG aV bD=>Wt (λa w=>∃(xk:Int)(xl:Int)(xm:Int)(af:Bt),(xk,xl,xm,af)=cG/\∃ah ai aj Sn,Sat 123 [(2,pt g3),(3,vI x4),(4,pt w0.z),(8,pt V.z),(9,pt w7.z),(10,pt G.z),(11,vI xk)] a/\Chg (· ∈ ([g3]++[G.z])) H w/\inI xk/\inI xl/\inI xm/\a_ w Sn (sl ah ai aj) af/\Sn.Nodup/\(∀k∈Sn,H.z<=k)/\Blk w g3 [vI xl]/\Blk w G.z [vI xm,sl ah ai aj,sN]) ?_ ?_
   .refine Wc z (λaw=>?_)<|λaw=>?_
    .refine Wd (X:=λk=>k∈[g3]∨H.z<=k) 65536 (.rd 0<|.rd 1<|.rd 3<|.rd 5<|.rd 6<|.rd 7<|.rd 8<|.rd 9<|.ef 2<|.ef 4<|.ef 10<|.ef 11<|.rd 12<|.rd 13<|.ef 14<|.rd 15<|.ef 16 .done) mo (by kernel_rfl) λfi fj _=>?_;iterate 3 refine dM z z z ?_
     refine dR z z (lN (vs:=[sl A0 N0 C0]) m_ l_ z z (a_3 sQ<|Nat.lt_of_lt_of_le aq.lt kM)<|kBr 0 1)<|dR z z (fd y_ z)<|dR z z (l1 p_ z (a_3 sQ<|Nat.lt_of_lt_of_le a2.lt kM) kBa)<|bdB (ifT aV aw) λ_ cH bE=>dxA (α:=Int) z z h_ z_3 z z z kR cH λ_ _ _ cI cJ b8=>?_;obtain ⟨rfl,cK⟩:=T_ cJ;refine dR z z (l1 g_3 z (a_3 (sQB b8)<|zap kM b8)<|cI.at0 z) ?_;obtain ⟨_,_,cL,bF⟩:=K_ bE;refine dE z z (fc call62 z<|f_9 (B:=B) cL kB kM sQ a1) (.inr λ_ _ h=>b_7 h.1) ?_;rintro _ _ ⟨_,rfl,cM,cN,_⟩;refine bdB bF λ_ cO bG=>dE z z (fc call65 z<|f_a (B:=B) cO kM ap<|ii z) iB ?_;rintro _ _ ⟨_,rfl,cP⟩;refine bdB bG λ_ cQ bH=>dE z z (fc call66 z<|f_8 (B:=B) cQ kM kR cK) iB ?_;rintro _ _ ⟨_,rfl,cR⟩;refine bdB bH λ_ cS bI=>dE z z (fc call65 z<|f_a (B:=B) cS kM cP cR) iB ?_;rintro _ _ ⟨_,rfl,_⟩;refine dR z z (add_ z z)<|bdB bI λ_ cT bJ=>dR z z (b_o z z<|nzS cT) ?_;obtain ⟨cU,cV,cW,bK⟩:=K_ bJ;refine dE z z (fc call64 z<|k_p (B:=B) cW kB kM sQ cN<|b_M cM) (.inr λ_ _ h=>b_7 h.1) ?_;rintro _ _ ⟨_,b9,ba,bb,cX,rfl,_,cY,_,cZ,_⟩;refine dR z z (fd a_C z)<|dE0 z (fs0 (cur':=[vI 0,sl b9 ba bb,sN]) d_t z z kB z z z z) (.inl z) ?_;rintro _ _ ⟨d0,d1⟩;have:=d1.one;exact pD<|λ_ q=>⟨0,cV,0,cU,som bK,b9,ba,bb,cX,kaA q,kW,ii z,cY,ii z,kO,cZ,sQ,kB,d0⟩
    refine Ws<|Rq z z z<|Rw z<|bdB (ifF aV aw) λd2 aW bL=>Wt (λa w=>∃(xo:Int)(xp:Int)(xq:Int)(ak:Bt),(xo,xp,xq,ak)=d2/\∃al am an Sr,Sat 123 [(2,pt g3),(3,vI x4),(4,pt w0.z),(8,pt V.z),(9,pt w7.z),(10,pt G.z),(11,vI xo)] a/\Chg (· ∈ ([g3]++[G.z])) H w/\inI xo/\inI xp/\inI xq/\a_ w Sr (sl al am an) ak/\Sr.Nodup/\(∀k∈Sr,H.z<=k)/\Blk w g3 [vI xp]/\Blk w G.z [vI xq,sl al am an,sN]) ?_ ?_
    .refine Wc z (λax=>?_)<|λax=>?_
     .refine Wg<|RM z z ?_;obtain ⟨_,_,d3,bM⟩:=K_<|ifT aW ax;refine E z (fc call62 z<|f_9 (B:=B) d3 kB kM sQ a1) ?_;rintro _ _ ⟨_,rfl,d4,d5,_⟩;refine Rm z<|bdB bM λ_ d6 bN=>E z (fc call65 z<|f_a (B:=B) d6 kM ap<|ii z) ?_;rintro _ _ ⟨_,rfl,_⟩;refine R z (add_ z z)<|bdB bN λ_ d7 bO=>R z (b_o z z<|nzS d7) ?_;obtain ⟨d8,d9,da,bP⟩:=K_ bO;refine E z (fc call64 z<|k_p (B:=B) da kB kM sQ d5<|b_M d4) ?_;rintro _ _ ⟨_,bc,be,bf,db,rfl,_,dc,_,dd,_⟩;exact Rf z a_C z<|E0q [vI 0,sl bc be bf,sN] d_t z z kB z λfk de _=>Wl<|λ_ q=>⟨0,d9,0,d8,som bP,bc,be,bf,db,kaA q,kW,ii z,dc,ii z,kO,dd,sQ,kB,de⟩
     refine Ws<|Rq z z z<|Rw z<|bdB (ifF aW ax) λdf aX bR=>Wt (λa w=>∃(xs:Int)(xt:Int)(xu:Int),(xs,xt,xu)=df/\Sat 123 [(2,pt g3),(3,vI x4),(4,pt w0.z),(8,pt V.z),(9,pt w7.z),(10,pt G.z),(11,vI xs)] a/\Chg (· ∈ ([g3]++[G.z])) H w/\inI xs/\inI xt/\inI xu/\Blk w g3 [vI xt]/\Blk w G.z [vI xu,sN,sN]) ?_ ?_
     .refine Wc z (λay=>?_)<|λay=>?_
      .refine Wd (X:=λk=>k∈[g3]∨H.z<=k) 0 (.rd 0<|.rd 2<|.rd 4<|.rd 5<|.rd 6<|.rd 7<|.rd 8<|.ef 1<|.ef 3<|.ef 9<|.ef 10<|.rd 11<|.rd 12<|.rd 13 .done) mo (by kernel_rfl) λfl fm _=>dM z z z<|dM z z z<|dR z z (lN (vs:=[sl A0 N0 C0]) m_ l_ z z (a_3 sQ<|Nat.lt_of_lt_of_le aq.lt kM)<|kBr 0 1)<|dR z z (fd y_ z)<|dR z z (l1 p_ z (a_3 sQ<|Nat.lt_of_lt_of_le a2.lt kM) kBa)<|bdB (ifT aX ay) λ_ dg bS=>dxA (α:=Int) z z h_ z_3 z z z kR dg λ_ _ _ dh di bg=>?_;obtain ⟨rfl,dj⟩:=T_ di;refine dR z z (l1 g_3 z (a_3 (sQB bg)<|zap kM bg)<|dh.at0 z) ?_;obtain ⟨dk,dl,dm,bT⟩:=K_ bS;refine dE z z (fc call62 z<|f_9 (B:=B) dm kB kM sQ a1) (.inr λ_ _ h=>b_7 h.1) ?_;rintro _ _ ⟨_,rfl,dn,dp,_⟩;refine bdB bT λ_ dq bU=>dE z z (fc call65 z<|f_a (B:=B) dq kM ap<|ii z) iB ?_;rintro _ _ ⟨_,rfl,dr⟩;refine bdB bU λ_ ds bV=>dE z z (fc call66 z<|f_8 (B:=B) ds kM kR dj) iB ?_;rintro _ _ ⟨_,rfl,dt⟩;refine bdB bV λdu dv bW=>dE z z (fc call65 z<|f_a (B:=B) dv kM dr dt) iB ?_;rintro _ _ ⟨_,rfl,_⟩;exact dR z z (add_ z z)<|bdB bW λ_ dw bX=>dR z z (b_o z z<|nzS dw)<|dQ z z z<|pD (λ_ q=>⟨R_ dk<|d_ du 1,dl,0,som bX,kaA q,kW,b_M dn,dp,ii z,kB,kB⟩)
      refine Ws<|Rq z z z<|Rw z<|bdB (ifF aX ay) λdx aY bY=>Wt (λa w=>∃(xv:Int)(xw:Int)(xx:Int),(xv,xw,xx)=dx/\Sat 123 [(2,pt g3),(3,vI x4),(4,pt w0.z),(8,pt V.z),(9,pt w7.z),(10,pt G.z),(11,vI xv)] a/\Chg (· ∈ ([g3]++[G.z])) H w/\inI xv/\inI xw/\inI xx/\Blk w g3 [vI xw]/\Blk w G.z [vI xx,sN,sN]) ?_ ?_
      .refine Wc z (λaz=>?_)<|λaz=>?_
       .refine Wq (Wd (X:=λk=>k∈[g3]∨H.z<=k) 2048 (.rd 0<|.rd 1<|.rd 2<|.rd 4<|.rd 5<|.rd 6<|.ef 3<|.rd 7<|.rd 8<|.rd 9<|.rd 10<|.ef 11 .done) mo (by kernel_rfl) λfo fp _=>dR z z (fd a_J z)<|dR z z (l1 p_ z (a_3 sQ<|Nat.lt_of_lt_of_le a2.lt kM) kBa)<|dM z z z<|dR z z (fd a_J z)<|dR z z (l1 p_ z (a_3 sQ<|Nat.lt_of_lt_of_le a2.lt kM) kBa)<|dR z z (lnR h_ z kR) ?_);obtain ⟨_,dy,dz,bZ⟩:=K_<|ifT aY az;refine dE z z (fc call62 z<|f_9 (B:=B) dz kB kM sQ a1) (.inr λ_ _ h=>b_7 h.1) ?_;rintro _ _ ⟨_,rfl,_,dB,_⟩;refine bdB bZ λ_ dC c0=>dR z z (b_o z z<|nzS dC)<|bdB c0 λbh dD c1=>dxA (α:=Int) z z h_ z_3 z z z kR dD λ_ _ _ dF dG bi=>?_;obtain ⟨rfl,dH⟩:=T_ dG;refine dR z z (l1 g_3 z (a_3 (sQB bi)<|zap kM bi)<|dF.at0 z)<|dR z z (fd a_Q z)<|dE0 z (fs0 (cur':=[vI bh,sN,sN]) z_3 z z kB z z z z) (.inl z) ?_;rintro _ _ ⟨dI,dJ⟩;have:=dJ.one;exact pD<|Wo<|Wg<|Ra z<|Wl (λ_ q=>⟨1,dy,bh,som c1,kaA q,kW,ii z,dB,dH,kB,dI⟩)
       refine Ws<|Rq z z z<|Rw z<|bdB (ifF aY az) λdK aZ c2=>Wt (λa w=>∃(xy:Int)(xz:Int),(xy,xz)=dK/\Sat 123 [(2,pt g3),(3,vI x4),(4,pt w0.z),(8,pt V.z),(9,pt w7.z),(10,pt G.z),(11,vI xy)] a/\Cg [g3] H w/\inI xy/\inI xz/\Blk w g3 [vI xz]) ?_ ?_
       .refine Wc z (λaA=>?_)<|λaA=>?_
        .refine Wg<|Rm z ?_;obtain ⟨dL,dN,dO,c3⟩:=K_<|ifT aZ aA;refine E z (fc call62 z<|f_9 (B:=B) dO kB kM sQ a1) ?_;rintro _ _ ⟨_,rfl,dP,dT,dU⟩;exact R z (b_o z z (by decide))<|Ra z<|Wl (λ_ q=>⟨R_ dL 2,dN,som c3,kaA q,kW,b_M dP,dT,dU⟩)
        exact Wg<|Rf z y_ z<|R z (l0 p_ z kBa)<|R z (lnR h_ z kR)<|Ra z<|Wl (λ_ q=>⟨(a6.kids.length:Int),x3,som<|ifF aZ aA,kaA q,cr [g3] H,a_A<|repS.len kR,a1,kB⟩)
       rintro dV _ ⟨xy,xz,rfl,_,_,dW,dX,dY⟩;revert dV;exact λ_ q=>⟨xy,xz,0,som<|Z_ c2,kaA q,kW,dW,dX,ii z,dY,kB⟩
      rintro dZ _ ⟨xv,xw,xx,rfl,_,_,e0,e1,e2,e3,e4⟩;revert dZ;exact λ_ q=>⟨xv,xw,xx,som<|a_X bY,kaA q,kW,e0,e1,e2,e3,e4⟩
     rintro e5 _ ⟨xs,xt,xu,rfl,_,_,e6,e7,e8,e9,ea⟩;revert e5;exact λ_ q=>⟨xs,xt,xu,([]:Bt),som<|a_X bR,none,0,0,[],kaA q,kW,e6,e7,e8,onL,s_,an_,e9,ea⟩
    rintro eb _ ⟨xo,xp,xq,ak,rfl,al,am,an,Sr,_,_,ec,ed,ee,eg,eh,ei,ej,ek⟩;revert eb;exact λ_ q=>⟨xo,xp,xq,ak,som<|c_8 bL,al,am,an,Sr,kaA q,kW,ec,ed,ee,eg,eh,ei,ej,ek⟩
   rintro em _ ⟨xk,xl,xm,af,rfl,ah,ai,aj,Sn,_,_,en,eo,ep,er,es,eu,ew,ex⟩;revert em;exact λ_ q=>⟨xk,xl,xm,af,som<|c_8 bD,ah,ai,aj,Sn,kaA q,kW,en,eo,ep,er,es,eu,ew,ex⟩
  rintro ey _ ⟨xg,xh,xi,aa,rfl,ab,ad,ae,Sj,_,_,ez,eA,eB,eC,eD,eE,eF,eG⟩;revert ey;exact λ_ q=>⟨xg,xh,xi,aa,som<|c_8 bB,ab,ad,ae,Sj,kaA q,kW,ez,eA,eB,eC,eD,eE,eF,eG⟩
 rintro eH a3 ⟨xe,a7,W,a8,rfl,Y,na,cb,Sf,_,_,bj,eI,bk,_,eJ,_,eK,eL⟩;revert eH;refine Wo<|Wq<|Ws<|Rw z ?_;obtain ⟨_,c5,b0⟩:=bdS<|c_8 bw;refine Wf (σ:=Int×(List Val)) (ρ:=Val×Int) (λ(bm:Nat) s a w=>un2 (λxc xd=>∃I J L O,Sat 123 [(2,pt g3),(3,vI x4),(4,pt w0.z),(8,pt V.z),(9,pt w7.z),(10,pt G.z),(11,vI xe),(12,vI ((bm:Nat):Int))] a/\Chg (· ∈ ([g3]++[G.z])) a3 w/\inI xc/\a_ w O (sl I J L) xd/\O.Nodup/\(∀k∈O,a3.z<=k)/\Blk w g3 [vI xc]/\Blk w G.z [vI W,sl Y na cb,sl I J L]) s) (λs a w=>un2 (λxc xd=>∃I J L O,Sat 123 [(8,pt V.z),(10,pt G.z)] a/\Chg (· ∈ ([g3]++[G.z])) a3 w/\inI xc/\a_ w O (sl I J L) xd/\O.Nodup/\(∀k∈O,a3.z<=k)/\Blk w g3 [vI xc]/\Blk w G.z [vI W,sl Y na cb,sl I J L]) s) (rQ prog fn<|Q39 w0 g3 B x3) c5 ?_ ?_ ?_ ?_ ?_
 .exact λ_ q=>⟨none,0,0,[],kaA q,cr ([g3]++[G.z]) a3,eI,onL,s_,an_,eK,eL⟩
 .rintro bm ⟨xc,xd⟩ _ eM _ aB ⟨I,J,L,O,c6,_,a4,aP,a5,aQ,aR,aS⟩ c7;refine Wu ?_ c6;refine Wq<|Wm z<|Rm z<|Rl z z z<|Wx z (λ_=>?_) (λhc=>(e_Q aB hc).elim);refine Wk<|Wq<|Wb (Wd (X:=λk=>k∈[g3]∨eM.z<=k) 40960 (.rd 0<|.rd 1<|.rd 2<|.rd 3<|.rd 4<|.rd 5<|.rd 6<|.rd 8<|.rd 9<|.rd 10<|.ef 7<|.ef 11<|.ef 12<|.ef 13<|.rd 14<|.ef 15 .done) mo (by kernel_rfl) λfq fr _=>dR z z (fd a_4 z)<|dR z z (l1 a_m z (a_3 sQ<|Nat.lt_of_lt_of_le ar.lt kM) kBa)<|dR z z (lN (vs:=[sl A0 N0 C0]) m_ l_ z z (a_3 sQ<|Nat.lt_of_lt_of_le aq.lt kM)<|kBr 0 1)<|dR z z (lN (vs:=vR a6 aC aD aE aF aG aH aI aJ aK aL aM aN) C_ i_ z z (a_3 sQ<|Nat.lt_of_lt_of_le a2.lt kM)<|kBr 0 8)<|dR z z (fd a_Q z)<|dR z z (l1 g_3 z (a_3 sQ<|Nat.lt_of_lt_of_le ar.lt kM) kBa) ?_);iterate 3 refine dM z z z ?_
  refine dR z z (k_B z z (by decide))<|bdB (Z_ c7) λ_ eN c8=>dE z z (fc call67 z<|e_2 (B:=B) eN kM ck cl aO kR kR kR kR bk<|ic (Nat.le_of_lt aB)<|tl_ bj) iB ?_;rintro _ _ ⟨_,rfl,eO⟩;obtain ⟨bn,eP,eQ,c9⟩:=K_ c8;refine dE z z (fc call40 z<|cg.run (B:=B) eQ kB kM sQ kR eO a4<|i_B _ _) (.inr λ_ _ h=>b_7 h.1) ?_;rintro _ eR ⟨_,eS,eT,eU,eV,eW,eX,eY,eZ,rfl,f0,_,_,f1,_,f2,f3⟩;obtain ⟨bs,bt,_,_,_⟩:=a_1 f2 f3;refine dE z z (fS [(.tmp 118)] d_7 z z z (a_2 z) (lb z)<|lb z) (.inr λ_ _ h=>b_D<|h.2.below) ?_;rintro _ f4 ⟨rfl,bo⟩;have:=bo.below;have bu:Blk f4 eR.z [vI bn.number,sl eS eT eU,sl eW eX eY]:=bo.blk;refine bdB c9 λf5 f6 ca=>dE z z (a_B (α:=Val) d_7 f6 z z kO a5 bu (b_A (x:=bn) (S1:=eV) (S2:=eZ) f0 kO kO) sQ<|na_ bs bt sQ) (.inl z) ?_;rintro _ _ ⟨f7,bp,bq,br,rfl,_,_,f8,_⟩;refine dR z z (fd a_4 z)<|dE0 z (fs0 (cur':=[vI W,sl Y na cb,sl bp bq br]) b_R z z kB z z z z) (.inl z) ?_;rintro _ _ ⟨f9,fa⟩;have:=fa.one;exact pD<|Wo<|Wg<|Rm z<|R z (inc_ aB (tl_ bj) z z)<|Ra z<|Wl (λ_ q=>⟨(eP,f5),(som ca).symm,⟨bp,bq,br,f7,kaA q,kW,f1,kO,f8,sQ,kB,f9⟩⟩)
 .rintro ⟨xc,xd⟩ _ _ ⟨I,J,L,O,cc,_,a4,aP,a5,aQ,aR,aS⟩;refine Wu ?_ cc;refine Wq<|Wm z<|Rm z<|Rl z z z<|Wx z (λhc=>(e_R hc).elim) (λ_=>?_);exact We<|λ_ q=>⟨rfl,⟨I,J,L,O,kaA q,kW,a4,aP,a5,aQ,aR,aS⟩⟩
 .rintro ⟨xc,xd⟩ fb _ rfl ⟨I,J,L,O,_,_,a4,aP,a5,aQ,aR,aS⟩;have cd:=elL b0;revert fb;refine Wo<|Ws<|R z (lC [vI W,sl Y na cb,sl I J L] u_ e_ z)<|E0q [vI W,sl Y na cb,sl I J L] e_ z z kB z λfs fe _=>?_;exact Wn<|Wr<|rS1 (Z_ cd) hr (o_ u_ e_ z fe z) ⟨kW,Y,na,cb,Sf,I,J,L,O,z,bk,kO (l:=a8),kO (l:=xd),a4,kB,na_ eJ a5 sQ,sQ⟩
 exact lqA b0 λ_ _ h=>h.2
theorem A_w0o:∀n,l_O n
  | 0=>⟨λhm=>by intros;exact nomatch (show none=some _ from hm)⟩
  | n+1=>T_w0o<|A_w0o n
theorem W_w0o:k_q (b_s n).spec_l25Value:=A_w0o n
theorem W_w3p {x1:b_}{x2:Int}{x3:Int}{x4:Int}{res:Val}(hm:i_o n x1 x2 x3 x4=some res)(a3:B<=w0.z)(a2:rp w0 B A0 N0 C0 x1.rules)(H:inI x2)(V:inI x3)(W:inI x4):g_ prog 22 [(.agg #[sl A0 N0 C0]),vI x2,vI x3,vI x4] w0 (Q17 w0 B res):=by
 unfold i_o at hm;refine goG func22 z z z λfn hr=>Ws<|EvX [sl A0 N0 C0] z z z λw2 _ _=>EvZ [vI 0,sN,sN] z a_7 z λwd _ _=>Wn<|Wq<|Ws<|R z (lC [sl A0 N0 C0] m_ l_ z)<|Rm z<|bdB hm λ_ ee I=>EcA z (fc call39 z<|k_o (B:=B) ee kM kR H) λ_ _=>R z (not_ z)<|Wx z (λG=>?_) (λG=>?_)
 .exact Ws<|R z (bQ [] [vI 0,sN,sN] S_ z z)<|E0q [vI 0,sN,sN] e_ z z kB z λwy hg _=>Wn<|Wr<|rS1 (ifT I G) hr (o_ u_ e_ z hg z) ⟨kW,none,0,0,[],none,0,0,[],z,ii z,onL,onL,nd0,sQ⟩
 refine Wk<|Wm z<|EvZ [vI 0] z zero_3 z λwi _ Y=>E0q [vI x3] z_3 z z Y z λwz _ _=>Wn<|Wq (Wd (X:=noX) 48 (pl_ 6 [3,4,5]) mo (by kernel_rfl) λa4 a5 _=>dR z z (lC [sl A0 N0 C0] m_ l_ z)<|dM z z z<|dM z z z ?_);refine bdB (ifF I G) λ_ ek hml=>dE z z (fc call41 z<|W_w21 (B:=B) ek kM (ii z) W) iB ?_;rintro _ _ ⟨_,rfl,hn⟩;obtain ⟨r1,_,em,hmo⟩:=K_ hml;refine dE z z (fc call40 z<|W_w0o.run (B:=B) em kB kM sQ kR H V hn) (.inl z) ?_;rintro _ _ ⟨_,J,L,O,Sp,aa,nb,cc,Sq,rfl,ht,_,_,_,_,hu,hv⟩;obtain ⟨a0,a1,_,_,_⟩:=a_1 hu hv;refine dE0 z (fs0 (cur':=[vI r1.number,sl J L O,sl aa nb cc]) e_ z z kB z z z z) (.inl z) ?_;rintro _ _ ⟨hw,sr⟩;have:=sr.one;exact pD<|Wo<|Wr<|rS1 hmo hr (o_ u_ e_ z hw z) ⟨kW,J,L,O,Sp,aa,nb,cc,Sq,z,ht,kO (l:=r1.bytes),kO (l:=r1.items),na_ a0 a1 sQ,sQ⟩
theorem W_w3q {x1:b_}{x2:c_}{x3:Val}{res:Bool}(hm:h_z x1 x2 x3=some res)(bW:B<=w0.z)(bO:rp w0 B A0 N0 C0 x1.rules)(aG:x2.name.b.length<=LEN)(aH:inI x2.kind)(a6:inI x2.size)(bP:rp w0 B A2 N2 C2 x2.bytes)(bR:rp w0 B A4 N4 C4 x2.names)(bS:rp w0 B A1 N1 C1 x2.tags)(bT:rp w0 B A3 N3 C3 x2.kids)(a7:inI x3.number)(bU:rp w0 B A8 N8 C8 x3.bytes)(bV:rp w0 B A9 N9 C9 x3.items):g_ prog 121 [(.agg #[sl A0 N0 C0]),.agg #[Str.v x2.name,vI x2.kind,vI x2.size,vB x2.little,sl A2 N2 C2,sl A4 N4 C4,sl A1 N1 C1,sl A3 N3 C3],(.agg #[vI x3.number,sl A8 N8 C8,sl A9 N9 C9])] w0 (Q0 w0 B res):=by
 unfold h_z at hm;refine goG func121 z z z λfn hr=>Ws<|EvX [sl A0 N0 C0] z z z λbX _ _=>EvX (vR x2 A2 N2 C2 A4 N4 C4 A1 N1 C1 A3 N3 C3) z z z λbY _ _=>EvX [vI x3.number,sl A8 N8 C8,sl A9 N9 C9] z z z λG _ H=>Rw z<|Wq<|Ws<|Rf z a_b z<|R z (l0 g_3 z kBa)<|Wn<|Wb<|Ws<|Rq z z z<|Rw z<|Wc z (λhcl=>?_) (λhcl=>?_)
 .refine Wq<|bdB (ifT hm hcl) λb0 aI aJ=>Wt (λa w=>∃(xm:Bool),xm=b0/\Sat 202 [(6,vB xm)] a/\Below G.z G w) ?_ ?_
  .refine Wd (X:=noX) 0 (pl_ 20 [4,6]) mo (by kernel_rfl) λbZ c0 _=>dR z z (fd a_Q z)<|dR z z (l0 g_3 z kBa)<|dR z z (fd a_g z)<|dR z z (l0 g_3 z kBa)<|bdB aI λ_ b3 aK=>dE z z (fc call63 z<|i_W (B:=B) b3 kM a6) iB ?_;rintro _ _ ⟨_,rfl,_⟩;refine dR z z (sb_ z z)<|bdB aK λb4 b5 a8=>dE z z (fc call45 z<|b_g (B:=B) b5 kM a7 (ii z)<|iS _ _) iB ?_;rintro _ _ ⟨_,rfl⟩;refine dM z z z ?_;rcases bs b4 with W | W
   .have a9:=ifT a8 W;refine dRg z z z W z (fd a_C z)<|dRg z z z W z (l0 F_ z kBa)<|dRg z z z W z (lnR j_ z kR)<|dRg z z z W z (eql z z)<|dR z z (pT z W z)<|dM z z z ?_;rcases bs ((x3.bytes.length:Int)==0) with Y | Y
    .exact dRg z z z Y z (fd a_4 z)<|dRg z z z Y z (l0 a_m z kBa)<|dRg z z z Y z (lnR a_e z kR)<|dRg z z z Y z (eql z z)<|dR z z (pT z Y z)<|dQ z z z<|pD (λ_ q=>⟨(x3.items.length:Int)==0,som<|ifT a9 Y,kaA q,kW⟩)
    iterate 4 refine dRn z z z Y z ?_
    exact dR z z (pF z Y z)<|dQ z z z<|pD (λ_ q=>⟨false,som<|ifF a9 Y,kaA q,kW⟩)
   iterate 4 refine dRn z z z W z ?_
   refine dR z z (pF z W z)<|dM z z z ?_;iterate 4 refine dRn z z z z z ?_
   exact dR z z (pF z z z)<|dQ z z z<|pD (λ_ q=>⟨false,som<|ifF a8 W,kaA q,kW⟩)
  rintro b6 _ ⟨xm,rfl,_,_⟩;revert b6;exact Wo<|Wr<|rtO<|rS1 aJ hr z ⟨kW,z⟩
 have aa:=ifF hm hcl;refine Ws<|Rq z z z<|Rw z<|Wc z (λhcn=>?_) (λhcn=>?_)
 .refine Wq<|bdB (ifT aa hcn) λb7 ab aL=>Wt (λa w=>∃(xo:Bool),xo=b7/\Sat 202 [(6,vB xo)] a/\Below G.z G w) ?_ ?_
  .refine Wg<|Rf z a_Q z<|R z (l0 g_3 z<|H.at z)<|Rq z z z<|Rm z ?_;rcases bs (x3.number==0) with a0 | a0
   .have ad:=ifT ab a0;refine Rh z a0 (fd a_C z)<|Rh z a0 (l0 F_ z<|H.at z)<|Rh z a0 (lnR j_ z kR)<|Rh z a0 (eql z z)<|R z (pT z a0 z)<|Rm z ?_;rcases bs ((x3.bytes.length:Int)==0) with a1 | a1
    .exact Rh z a1 (fd a_4 z)<|Rh z a1 (l0 a_m z<|H.at z)<|Rh z a1 (lnR a_e z kR)<|Rh z a1 (eql z z)<|R z (pT z a1 z)<|Ra z<|Wl (λ_ q=>⟨(x3.items.length:Int)==0,som<|ifT ad a1,kaA q,br G⟩)
    iterate 4 refine Nh z a1 ?_
    exact R z (pF z a1 z)<|Ra z<|Wl (λ_ q=>⟨false,som<|ifF ad a1,kaA q,br G⟩)
   iterate 4 refine Nh z a0 ?_
   exact R z (pF z a0 z)<|Rm z<|Nh z z<|Nh z z<|Nh z z<|Nh z z<|R z (pF z z z)<|Ra z<|Wl (λ_ q=>⟨false,som<|ifF ab a0,kaA q,br G⟩)
  rintro b8 _ ⟨xo,rfl,_,_⟩;revert b8;exact Wo<|Wr<|rtO<|rS1 aL hr z ⟨kW,z⟩
 have ae:=ifF aa hcn;refine Ws<|Rq z z z<|Rw z<|Wc z (λhcp=>?_) (λhcp=>?_)
 .refine Wq<|bdB (ifT ae hcp) λb9 af aM=>Wt (λa w=>∃(xq:Bool),xq=b9/\Sat 202 [(6,vB xq)] a/\Below G.z G w) ?_ ?_
  .refine Wg<|Rf z a_Q z<|R z (l0 g_3 z<|H.at z)<|Rq z z z<|Rm z ?_;rcases bs (x3.number==0) with O | O
   .have ah:=ifT af O;refine Rh z O (fd a_C z)<|Rh z O (l0 F_ z<|H.at z)<|Rh z O (lnR j_ z kR)<|Rh z O (fd a_g z)<|Rh z O (l0 g_3 z kBa)<|Rh z O (eql z z)<|R z (pT z O z)<|Rm z ?_;rcases bs ((x3.bytes.length:Int)==x2.size) with hca | hca
    .exact Rh z hca (fd a_4 z)<|Rh z hca (l0 a_m z<|H.at z)<|Rh z hca (lnR a_e z kR)<|Rh z hca (eql z z)<|R z (pT z hca z)<|Ra z<|Wl (λ_ q=>⟨(x3.items.length:Int)==0,som<|ifT ah hca,kaA q,br G⟩)
    iterate 4 refine Nh z hca ?_
    exact R z (pF z hca z)<|Ra z<|Wl (λ_ q=>⟨false,som<|ifF ah hca,kaA q,br G⟩)
   iterate 6 refine Nh z O ?_
   exact R z (pF z O z)<|Rm z<|Nh z z<|Nh z z<|Nh z z<|Nh z z<|R z (pF z z z)<|Ra z<|Wl (λ_ q=>⟨false,som<|ifF af O,kaA q,br G⟩)
  rintro ba _ ⟨xq,rfl,_,_⟩;revert ba;exact Wo<|Wr<|rtO<|rS1 aM hr z ⟨kW,z⟩
 have ai:=ifF ae hcp;refine Ws<|Rq z z z<|Rw z<|Wc z (λhcr=>?_) (λhcr=>?_)
 .refine Wq<|bdB (ifT ai hcr) λbb aj aN=>Wt (λa w=>∃(xs:Bool),xs=bb/\Sat 202 [(6,vB xs)] a/\Below G.z G w) ?_ ?_
  .refine Wd (X:=noX) 0 (pl_ 23 [12,13]) mo (by kernel_rfl) λc1 bc _=>dR z z (fd a_Q z)<|dR z z (l0 g_3 z kBa)<|dR z z (eql z z)<|dM z z z ?_;rcases bs (x3.number==0) with I | I
   .refine dRg z z z I z (fd a_C z)<|dRg z z z I z (l0 F_ z kBa)<|dRg z z z I z (lnR j_ z kR)<|dRg z z z I z (lC [sl A0 N0 C0] m_ l_ z)<|dRg z z z I z (fd y_ z)<|dRg z z z I z (l0 p_ z kBa)<|bdB (ifT aj I) λ_ be aO=>c_1 z z z I z (at_ (α:=Int) h_ z_3 z z z kR be) ?_;rintro _ ⟨_,_,_,rfl,bf,bg,_⟩;obtain ⟨rfl,bh⟩:=T_ bg;refine dRg z z z I z (l0 g_3 z<|bf.at0 z)<|bdB aO λ_ bi aP=>dEg z z z I z (fc call66 z<|f_8 (B:=B) bi kM kR bh) iB ?_;rintro _ _ ⟨_,rfl,bj⟩;refine bdB aP λbk bm ak=>dEg z z z I z (fc call65 z<|f_a (B:=B) bm kM (ii z) bj) iB ?_;rintro _ _ ⟨_,rfl,_⟩;refine dRg z z z I z (b_p z z)<|dR z z (pT z I z)<|dM z z z ?_;rcases bs (decide<|(x3.bytes.length:Int)<=bk) with hcb | hcb
    .exact dRg z z z hcb z (fd a_4 z)<|dRg z z z hcb z (l0 a_m z kBa)<|dRg z z z hcb z (lnR a_e z kR)<|dRg z z z hcb z (eql z z)<|dR z z (pT z hcb z)<|dQ z z z<|pD (λ_ q=>⟨(x3.items.length:Int)==0,som<|ifT ak hcb,kaA q,kW⟩)
    iterate 4 refine dRn z z z hcb z ?_
    exact dR z z (pF z hcb z)<|dQ z z z<|pD (λ_ q=>⟨false,som<|ifF ak hcb,kaA q,kW⟩)
   iterate 8 refine dRn z z z I z ?_
   refine dEn z z z I z<|dEn z z z I z<|dRn z z z I z<|dR z z (pF z I z)<|dM z z z ?_;iterate 4 refine dRn z z z z z ?_
   exact dR z z (pF z z z)<|dQ z z z<|pD (λ_ q=>⟨false,som<|ifF aj I,kaA q,bc⟩)
  rintro bn _ ⟨xs,rfl,_,_⟩;revert bn;exact Wo<|Wr<|rtO<|rS1 aN hr z ⟨kW,z⟩
 have al:=ifF ai hcr;refine Ws<|Rq z z z<|Rw z<|Wc z (λhct=>?_) (λhct=>?_)
 .refine Wq<|bdB (ifT al hct) λbo am aQ=>Wt (λa w=>∃(xu:Bool),xu=bo/\Sat 202 [(6,vB xu)] a/\Below G.z G w) ?_ ?_
  .refine Wg<|Rf z a_Q z<|R z (l0 g_3 z<|H.at z)<|Rq z z z<|Rm z ?_;rcases bs (x3.number==0) with hcc | hcc
   .have an:=ifT am hcc;refine Rh z hcc (fd a_C z)<|Rh z hcc (l0 F_ z<|H.at z)<|Rh z hcc (lnR j_ z kR)<|Rh z hcc (b_p z z)<|R z (pT z hcc z)<|Rm z ?_;rcases bs (decide<|(x3.bytes.length:Int)<=400) with hcd | hcd
    .exact Rh z hcd (fd a_4 z)<|Rh z hcd (l0 a_m z<|H.at z)<|Rh z hcd (lnR a_e z kR)<|Rh z hcd (eql z z)<|R z (pT z hcd z)<|Ra z<|Wl (λ_ q=>⟨(x3.items.length:Int)==0,som<|ifT an hcd,kaA q,br G⟩)
    iterate 4 refine Nh z hcd ?_
    exact R z (pF z hcd z)<|Ra z<|Wl (λ_ q=>⟨false,som<|ifF an hcd,kaA q,br G⟩)
   iterate 4 refine Nh z hcc ?_
   exact R z (pF z hcc z)<|Rm z<|Nh z z<|Nh z z<|Nh z z<|Nh z z<|R z (pF z z z)<|Ra z<|Wl (λ_ q=>⟨false,som<|ifF am hcc,kaA q,br G⟩)
  rintro bp _ ⟨xu,rfl,_,_⟩;revert bp;exact Wo<|Wr<|rtO<|rS1 aQ hr z ⟨kW,z⟩
 have ap:=ifF al hct;refine Ws<|Rq z z z<|Rw z<|Wc z (λhcv=>?_) (λhcv=>?_)
 .refine Wq<|bdB (ifT ap hcv) λbq aq aR=>Wt (λa w=>∃(xw:Bool),xw=bq/\Sat 202 [(6,vB xw)] a/\Below G.z G w) ?_ ?_
  .refine Wd (X:=noX) 0 (pl_ 23 [18,19]) mo (by kernel_rfl) λc2 aF _=>dR z z (fd a_Q z)<|dR z z (l0 g_3 z kBa)<|dR z z (eql z z)<|dM z z z ?_;rcases bs (x3.number==0) with hce | hce
   .have ar:=ifT aq hce;refine dRg z z z hce z (fd a_C z)<|dRg z z z hce z (l0 F_ z kBa)<|dRg z z z hce z (lnR j_ z kR)<|dRg z z z hce z (eql z z)<|dR z z (pT z hce z)<|dM z z z ?_;rcases bs ((x3.bytes.length:Int)==0) with J | J
    .refine dRg z z z J z (fd a_4 z)<|dRg z z z J z (l0 a_m z kBa)<|dRg z z z J z (lnR a_e z kR)<|dRg z z z J z (lC [sl A0 N0 C0] m_ l_ z)<|dRg z z z J z (fd y_ z)<|dRg z z z J z (l0 p_ z kBa)<|bdB (ifT ar J) λ_ bt aS=>c_1 z z z J z (at_ (α:=Int) h_ z_3 z z z kR bt) ?_;rintro _ ⟨_,_,_,rfl,bu,bv,_⟩;obtain ⟨rfl,bw⟩:=T_ bv;refine dRg z z z J z (l0 g_3 z<|bu.at0 z)<|bdB aS λ_ bx aT=>dEg z z z J z (fc call66 z<|f_8 (B:=B) bx kM kR bw) iB ?_;rintro _ _ ⟨_,rfl,bz⟩;refine bdB aT λbA bB aU=>dEg z z z J z (fc call65 z<|f_a (B:=B) bB kM (ii z) bz) iB ?_;rintro _ _ ⟨_,rfl,_⟩;exact dRg z z z J z (b_p z z)<|dR z z (pT z J z)<|dQ z z z<|pD (λ_ q=>⟨decide<|(x3.items.length:Int)<=bA,som aU,kaA q,kW⟩)
    iterate 8 refine dRn z z z J z ?_
    exact dEn z z z J z<|dEn z z z J z<|dRn z z z J z<|dR z z (pF z J z)<|dQ z z z<|pD (λ_ q=>⟨false,som<|ifF ar J,kaA q,aF⟩)
   iterate 4 refine dRn z z z hce z ?_
   refine dR z z (pF z hce z)<|dM z z z ?_;iterate 8 refine dRn z z z z z ?_
   exact dEn z z z z z<|dEn z z z z z<|dRn z z z z z<|dR z z (pF z z z)<|dQ z z z<|pD (λ_ q=>⟨false,som<|ifF aq hce,kaA q,aF⟩)
  rintro bC _ ⟨xw,rfl,_,_⟩;revert bC;exact Wo<|Wr<|rtO<|rS1 aR hr z ⟨kW,z⟩
 have au:=ifF ap hcv;refine Ws<|Rq z z z<|Rw z<|Wc z (λhcx=>?_) (λhcx=>?_)
 .refine Wq<|bdB (ifT au hcx) λbD av aV=>Wt (λa w=>∃(xy:Bool),xy=bD/\Sat 202 [(6,vB xy)] a/\Below G.z G w) ?_ ?_
  .refine Wg<|Rf z a_Q z<|R z (l0 g_3 z<|H.at z)<|Rq z z z<|Rm z ?_;rcases bs (x3.number==0) with hcf | hcf
   .have aw:=ifT av hcf;refine Rh z hcf (fd a_C z)<|Rh z hcf (l0 F_ z<|H.at z)<|Rh z hcf (lnR j_ z kR)<|Rh z hcf (eql z z)<|R z (pT z hcf z)<|Rm z ?_;rcases bs ((x3.bytes.length:Int)==0) with L | L
    .exact Rh z L (fd a_4 z)<|Rh z L (l0 a_m z<|H.at z)<|Rh z L (lnR a_e z kR)<|Rh z L (fd y_ z)<|Rh z L (l0 p_ z kBa)<|Rh z L (lnR h_ z kR)<|Rh z L (eql z z)<|R z (pT z L z)<|Ra z<|Wl (λ_ q=>⟨(x3.items.length:Int)==(x2.kids.length:Int),som<|ifT aw L,kaA q,br G⟩)
    iterate 7 refine Nh z L ?_
    exact R z (pF z L z)<|Ra z<|Wl (λ_ q=>⟨false,som<|ifF aw L,kaA q,br G⟩)
   iterate 4 refine Nh z hcf ?_
   exact R z (pF z hcf z)<|Rm z<|Nh z z<|Nh z z<|Nh z z<|Nh z z<|Nh z z<|Nh z z<|Nh z z<|R z (pF z z z)<|Ra z<|Wl (λ_ q=>⟨false,som<|ifF av hcf,kaA q,br G⟩)
  rintro bE _ ⟨xy,rfl,_,_⟩;revert bE;exact Wo<|Wr<|rtO<|rS1 aV hr z ⟨kW,z⟩
 have ax:=ifF au hcx;refine Ws<|Rq z z z<|Rw z<|Wc z (λhcz=>?_) (λhcz=>?_)
 .refine Wq<|bdB (ifT ax hcz) λbF ay aW=>Wt (λa w=>∃(a3:Bool),a3=bF/\Sat 202 [(6,vB a3)] a/\Below G.z G w) ?_ ?_
  .refine Wg<|Rf z a_C z<|R z (l0 F_ z<|H.at z)<|R z (lnR j_ z kR)<|Rq z z z<|Rm z ?_;rcases bs ((x3.bytes.length:Int)==0) with hcg | hcg
   .have az:=ifT ay hcg;refine Rh z hcg (fd a_4 z)<|Rh z hcg (l0 a_m z<|H.at z)<|Rh z hcg (lnR a_e z kR)<|Rh z hcg (eql z z)<|R z (pT z hcg z)<|Rm z ?_;rcases bs ((x3.items.length:Int)==1) with V | V
    .refine Rh z V (lN (vs:=vR x2 A2 N2 C2 A4 N4 C4 A1 N1 C1 A3 N3 C3) C_ i_ z z fid<|kBr 0 8)<|Rh z V (fd a_Q z)<|Rh z V (l0 g_3 z<|H.at z)<|bdB (ifT az V) λbG bH aX=>Eg z z V z (fc call67 z<|e_2 (B:=B) bH kM aG aH a6 kR kR kR kR a7<|ii z) ?_;rintro _ _ ⟨bI,rfl,_⟩;exact Rh z V (a_Z z z)<|R z (pT z V z)<|Ra z<|Wl (λ_ q=>⟨decide<|0<=bG,som aX,kaA q,bI⟩)
    iterate 5 refine Nh z V ?_
    exact R z (pF z V z)<|Ra z<|Wl (λ_ q=>⟨false,som<|ifF az V,kaA q,br G⟩)
   iterate 4 refine Nh z hcg ?_
   exact R z (pF z hcg z)<|Rm z<|Nh z z<|Nh z z<|Nh z z<|Nh z z<|Nh z z<|R z (pF z z z)<|Ra z<|Wl (λ_ q=>⟨false,som<|ifF ay hcg,kaA q,br G⟩)
  rintro bJ _ ⟨a3,rfl,_,_⟩;revert bJ;exact Wo<|Wr<|rtO<|rS1 aW hr z ⟨kW,z⟩
 have aA:=ifF ax hcz;refine Ws<|Rq z z z<|Rw z<|Wc z (λa2=>?_) (λa2=>?_)
 .refine Wq<|bdB (ifT aA a2) λbK aB aY=>Wt (λa w=>∃(a4:Bool),a4=bK/\Sat 202 [(6,vB a4)] a/\Below G.z G w) ?_ ?_
  .refine Wg<|Rf z a_Q z<|R z (l0 g_3 z<|H.at z)<|Rq z z z<|Rm z ?_;rcases bs (x3.number==0) with hch | hch
   .have aC:=ifT aB hch;refine Rh z hch (fd a_C z)<|Rh z hch (l0 F_ z<|H.at z)<|Rh z hch (lnR j_ z kR)<|Rh z hch (eql z z)<|R z (pT z hch z)<|Rm z ?_;rcases bs ((x3.bytes.length:Int)==0) with hci | hci
    .exact Rh z hci (fd a_4 z)<|Rh z hci (l0 a_m z<|H.at z)<|Rh z hci (lnR a_e z kR)<|Rh z hci (b_p z z)<|R z (pT z hci z)<|Ra z<|Wl (λ_ q=>⟨decide<|(x3.items.length:Int)<=1,som<|ifT aC hci,kaA q,br G⟩)
    iterate 4 refine Nh z hci ?_
    exact R z (pF z hci z)<|Ra z<|Wl (λ_ q=>⟨false,som<|ifF aC hci,kaA q,br G⟩)
   iterate 4 refine Nh z hch ?_
   exact R z (pF z hch z)<|Rm z<|Nh z z<|Nh z z<|Nh z z<|Nh z z<|R z (pF z z z)<|Ra z<|Wl (λ_ q=>⟨false,som<|ifF aB hch,kaA q,br G⟩)
  rintro bL _ ⟨a4,rfl,_,_⟩;revert bL;exact Wo<|Wr<|rtO<|rS1 aY hr z ⟨kW,z⟩
 refine Wk<|Wq<|bdB (ifF aA a2) λbM aD aZ=>Wt (λa w=>∃(a5:Bool),a5=bM/\Sat 202 [(6,vB a5)] a/\Below G.z G w) ?_ ?_
 .refine Wg<|Rf z a_Q z<|R z (l0 g_3 z<|H.at z)<|Rq z z z<|Rm z ?_;rcases bs (x3.number==0) with hcj | hcj
  .have aE:=ifT aD hcj;refine Rh z hcj (fd a_C z)<|Rh z hcj (l0 F_ z<|H.at z)<|Rh z hcj (lnR j_ z kR)<|Rh z hcj (eql z z)<|R z (pT z hcj z)<|Rm z ?_;rcases bs ((x3.bytes.length:Int)==0) with hck | hck
   .exact Rh z hck (fd a_4 z)<|Rh z hck (l0 a_m z<|H.at z)<|Rh z hck (lnR a_e z kR)<|Rh z hck (eql z z)<|R z (pT z hck z)<|Ra z<|Wl (λ_ q=>⟨(x3.items.length:Int)==1,som<|ifT aE hck,kaA q,br G⟩)
   iterate 4 refine Nh z hck ?_
   exact R z (pF z hck z)<|Ra z<|Wl (λ_ q=>⟨false,som<|ifF aE hck,kaA q,br G⟩)
  iterate 4 refine Nh z hcj ?_
  exact R z (pF z hcj z)<|Rm z<|Nh z z<|Nh z z<|Nh z z<|Nh z z<|R z (pF z z z)<|Ra z<|Wl (λ_ q=>⟨false,som<|ifF aD hcj,kaA q,br G⟩)
 rintro bN _ ⟨a5,rfl,_,_⟩;revert bN;exact Wo<|Wr<|rS1 aZ hr z ⟨kW,z⟩
structure k_r (f:b_->Int->Val->Option Bool):Prop where
  run:∀{A0 A8 A9:Option Addr}{N0 C0 N8 C8 N9 C9:Nat}{B:Zone}{x1:b_}{x2:Int}{x3:Val}{res:Bool}{w0:World}(hm:f x1 x2 x3=some res)(hBw:B<=w0.z)(p1_0:rp w0 B A0 N0 C0 x1.rules)(p2_0:inI x2)(p3_0:inI x3.number)(p3_1:rp w0 B A8 N8 C8 x3.bytes)(p3_2:rp w0 B A9 N9 C9 x3.items),g_ prog 91 [(.agg #[sl A0 N0 C0]),vI x2,(.agg #[vI x3.number,sl A8 N8 C8,sl A9 N9 C9])] w0<|Q0 w0 B res
abbrev l_P (n:Nat):Prop:=k_r (e_i n).spec_l9Valid
theorem T_w0p (ah:l_P n):k_r (h_A n<|e_i n):=by
 constructor;intro A0 A8 A9 N0 C0 N8 C8 N9 C9 B x1 x2 x3 res w0 hm aE aB aC Y aD a0;unfold h_A at hm;refine goG func91 z z z λfn hr=>Ws<|EvX [sl A0 N0 C0] z z z λwe _ _=>EvX [vI x3.number,sl A8 N8 C8,sl A9 N9 C9] z z z λwf _ _=>Rw z<|Ws<|Rf z N_ z<|R z (l0 Q_ z kBa)<|Rm z<|bdB hm λx0 eu hmv=>xA (α:=c_) z P_ i_ z z z kR eu λ_ _ _ hw hx _=>?_;obtain ⟨a2,H,I,J,L,O,V,W,ca,ab,nc,cd,rfl,hn,ho,hp,_,_,_,_⟩:=a_k hx;refine R z (lN (vs:=vR x0 a2 H I J L O V W ca ab nc cd) C_ i_ z z fid hw)<|EvZ [(Str.v (⟨[]⟩:Str)),vI 0,vI 0,vB false,sN,sN,sN,sN] z b_4 z λwy _ a1=>E0q (vR x0 a2 H I J L O V W ca ab nc cd) i_ z z a1 z λaF hz _=>Wn<|Wq<|Ws<|R z (lC [sl A0 N0 C0] m_ l_ z)<|R z (lN (vs:=vR x0 a2 H I J L O V W ca ab nc cd) C_ i_ z z fid<|hz.row 0 8 z)<|R z (lC [vI x3.number,sl A8 N8 C8,sl A9 N9 C9] u_ e_ z)<|bdB hmv λ_ ai hmm=>EcA z (fc call121 z<|W_w3q (B:=B) ai kM kR hn ho hp kR kR kR kR Y (kR (l:=x3.bytes))<|kR (l:=x3.items)) λG _=>R z (not_ z)<|Wx z (λhcg=>?_) (λhcg=>?_)
 .exact Ws<|Rw z<|Wr<|rS1 (ifT hmm hcg) hr z ⟨kW,z⟩
 refine Wk<|Wq<|Ws<|Rw z<|bdB (ifF hmm hcg) λ_ a3 hmr=>Wf (σ:=Unit) (ρ:=Bool) (λ(ks:Nat)(_:Unit) a w=>Sat 39 [(3,pt w0.z),(5,pt we.z),(7,pt wf.z),(8,vI ((ks:Nat):Int))] a/\Below G.z G w) (λ(_:Unit) a w=>Sat 39 [] a/\Below G.z G w) (rQ prog fn<|Q0 w0 B) a3 ?_ ?_ ?_ ?_ ?_
 .exact λ_ q=>⟨kaA q,br G⟩
 .rintro ks _ _ _ _ hkh ⟨a4,_⟩ a6;refine Wu ?_ a4;refine Wq<|Wm z<|Rf z a_4 z<|R z (l0 a_m z kBa)<|R z (lnR a_e z kR)<|Rl z z z<|Wx z (λ_=>?_) (λhc=>(U_ hkh hc).elim);refine Wk<|Wq<|Wb<|Wq (Wd (X:=noX) 0 (.rd 0<|.rd 1<|.rd 2<|.rd 3<|.rd 4<|.rd 6<|.rd 7<|.rd 8<|.rd 9<|.rd 10<|.ef 5<|.ef 11<|.rd 12 .done) mo (by kernel_rfl) λaG aH _=>dR z z (lC [sl A0 N0 C0] m_ l_ z)<|dR z z (lN (vs:=vR x0 a2 H I J L O V W ca ab nc cd) C_ i_ z z fid<|kBr 0 8)<|dR z z (fd a_Q z)<|dR z z (l0 g_3 z kBa)<|dM z z z<|dR z z (fd a_4 z)<|dR z z (l0 a_m z kBa)<|dM z z z ?_);refine bdB a6 λxi aj a7=>dxA (α:=Val) z z a_e e_ z z z kR aj λ_ _ _ ak al _=>?_;obtain ⟨am,an,ap,aq,ar,au,rfl,av,_,_⟩:=i_l al;refine dR z z (lN (vs:=[vI xi.number,sl am an ap,sl aq ar au]) u_ e_ z z fid ak)<|bdB a7 λ_ aw a9=>dE z z (fc call67 z<|e_2 (B:=B) aw kM hn ho hp kR kR kR kR Y<|ic (Nat.le_of_lt hkh)<|lt_ (repS.len a0) D_) iB ?_;rintro _ _ ⟨_,rfl,ax⟩;refine bdB a9 λ_ ay hmt=>dE z z (fc call91 z<|ah.run (B:=B) ay kM kR ax av (kR (l:=xi.bytes))<|kR (l:=xi.items)) iB ?_;rintro _ _ ⟨_,rfl⟩;refine dR z z (not_ z)<|pD<|Wo<|Wc z (λhcj=>?_) (λhcj=>?_)
  .exact Ws<|Rw z<|Wr<|rtO<|qL (som<|ifT hmt hcj).symm<|a_I hr z ⟨kW,z⟩
  exact Wk<|Wg<|Rm z<|R z (inc_ hkh (lt_ (repS.len a0) D_) z z)<|Ra z<|Wl (λ_ q=>⟨(),(som<|ifF hmt hcj).symm,⟨kaA q,kW⟩⟩)
 .rintro _ _ _ ⟨aa,az⟩;refine Wu ?_ aa;refine Wq<|Wm z<|Rf z a_4 z<|R z (l0 a_m z kBa)<|R z (lnR a_e z kR)<|Rl z z z<|Wx z (λhc=>(V_ hc).elim) (λ_=>?_);exact We<|λ_ q=>⟨rfl,⟨q.k sn,az⟩⟩
 .rintro _ aA _ rfl ⟨_,_⟩;have ad:=elL hmr;revert aA;exact Wo<|Ws<|Rw z<|Wr<|rS1 ad hr z ⟨kW,z⟩
 exact lqA hmr λ_ _ h=>h.2
theorem A_w0p:∀n,l_P n
  | 0=>⟨λhm=>by intros;exact nomatch (show none=some _ from hm)⟩
  | n+1=>T_w0p<|A_w0p n
theorem W_w0p:k_r (e_i n).spec_l9Valid:=A_w0p n
theorem W_w3r {x1:b_}{x2:Int}{x3:Val}{res:Bool}(hm:f_m n x1 x2 x3=some res)(a2:B<=w0.z)(Y:rp w0 B A0 N0 C0 x1.rules)(H:inI x2)(L:inI x3.number)(a0:rp w0 B A8 N8 C8 x3.bytes)(a1:rp w0 B A9 N9 C9 x3.items):g_ prog 60 [(.agg #[sl A0 N0 C0]),vI x2,(.agg #[vI x3.number,sl A8 N8 C8,sl A9 N9 C9])] w0 (Q0 w0 B res):=by
 unfold f_m at hm;refine goG func60 z z z λfn hr=>Ws<|EvX [sl A0 N0 C0] z z z λw2 _ _=>EvX [vI x3.number,sl A8 N8 C8,sl A9 N9 C9] z z z λJ _ _=>Rw z<|Wq<|bdB hm λW O V=>Wt (λa w=>∃(x4:Bool),x4=W/\Sat 16 [(6,vB x4)] a/\Below J.z J w) ?_ ?_
 .refine Wg<|R z (lC [sl A0 N0 C0] m_ l_ z)<|Rm z<|bdB O λra eb I=>EcA z (fc call39 z<|k_o (B:=B) eb kM kR H) λ_ sc=>Rm z ?_;rcases bs ra with G | G
  .refine Rh z G (lC [sl A0 N0 C0] m_ l_ z)<|Rh z G (mv z)<|Rh z G (lC [vI x3.number,sl A8 N8 C8,sl A9 N9 C9] u_ e_ z)<|bdB (ifT I G) λrd ee hmf=>Eg z z G z (fc call91 z<|W_w0p.run (B:=B) ee kM kR H L (kR (l:=x3.bytes))<|kR (l:=x3.items)) ?_;rintro _ _ ⟨_,rfl⟩;exact R z (pT z G z)<|Ra z<|Wl (λ_ q=>⟨rd,som hmf,kaA q,kW⟩)
  iterate 4 refine Nh z G ?_
  exact R z (pF z G z)<|Ra z<|Wl (λ_ q=>⟨false,som<|ifF I G,kaA q,sc⟩)
 rintro ag _ ⟨x4,rfl,_,_⟩;revert ag;exact Wo<|Wr<|rS1 V hr z ⟨kW,z⟩
theorem W_w22 {x1:Int}{x2:Int}{res:Bt}(hm:f_t n x1 x2=some res)(ap:B<=w0.z)(a0:inI x1)(W:inI x2):g_ prog 123 [vI x1,vI x2] w0 (Q19 w0 B res):=by
 unfold f_t at hm;refine goG func123 z z z λfn hr=>Ws<|Rw z<|Ws<|E z (f0 (α:=UInt8) H_) ?_;rintro _ wh ⟨V,na,cb,rfl,_,_⟩;refine Rw z<|Wq<|Wq<|bdB hm λun huo hmi=>Wt (λa w=>∃(xc:Bool),xc=un/\Sat 35 [(0,vI x1),(1,vI x2),(5,sl V na cb),(18,vB xc)] a/\Below wh.z wh w) ?_ ?_
 .refine Wg<|Rm z<|bdB huo λrp eq hmj=>EcA z (fc call45 z<|b_g (B:=B) eq kM W (ii z)<|ii z) λ_ sr=>R z (not_ z)<|Rm z ?_;rcases bs (!rp) with G | G
  .iterate 6 refine Nh z G ?_
   exact R z (pT z G z)<|Wl (λ_ q=>⟨true,som<|ifT hmj G,kaA q,sr⟩)
  refine Rh z G (mv z)<|Rh z G (mv z)<|bdB (ifF hmj G) λ_ es hmt=>Eg z z G z (fc call63 z<|i_W (B:=B) es kM W) ?_;rintro _ _ ⟨_,rfl,_⟩;refine Rh z G (sb_ z z)<|bdB hmt λru ev hmw=>Eg z z G z (fc call45 z<|b_g (B:=B) ev kM a0 (ii z)<|iS _ _) ?_;rintro _ _ ⟨_,rfl⟩;exact Rh z G (not_ z)<|R z (pF z G z)<|Wl (λ_ q=>⟨!ru,som hmw,kaA q,kW⟩)
 rintro ax J ⟨xc,rfl,_,_⟩;revert ax;refine Wo<|Wc z (λhcd=>?_) (λhcd=>?_)
 .exact Wm z<|Rw z<|Wr<|rS1 (ifT hmi hcd) hr z ⟨kW,V,na,cb,[w0.z],z,kO,W_,sQ⟩
 refine Wk<|Wq<|Wm z<|R z (sb_ z z)<|Rw z ?_;obtain ⟨_,huy,hmk⟩:=bdS<|ifF hmi hcd;refine b_m (σ:=Bt×Int) (ρ:=Bt) (λs a w=>un2 (λL x5=>∃a2 H I S1,Sat 35 [(0,vI x1),(5,sl a2 H I),(6,vI x5)] a/\Cg [w0.z] J w/\a_ w S1 (sl a2 H I) L/\S1.Nodup/\(∀k∈S1,k∈[w0.z]∨J.z<=k)/\inI x5) s) (λs a w=>un2 (λL x5=>∃a2 H I S1,Sat 35 [(5,sl a2 H I)] a/\Cg [w0.z] J w/\a_ w S1 (sl a2 H I) L/\S1.Nodup/\(∀k∈S1,k∈[w0.z]∨J.z<=k)/\inI x5) s) (rQ prog fn<|Q19 w0 B) huy ?_ ?_ ?_ ?_
 .exact λ_ q=>⟨V,na,cb,[w0.z],kaA q,cr [w0.z] J,kO,W_,sQ,iS _ _⟩
 .rintro ⟨L,x5⟩ _ wz _ ⟨a2,H,I,S1,a1,_,he,O,aa,hl⟩ a3;have hmm:=Z_ a3;refine Wu ?_ a1;refine Wq<|Wm z<|R z (a_Z z z)<|Wx z (λhcf=>?_) (λhcf=>?_)
  .refine Wk<|Wq<|Wb<|Wg<|RM z z<|Rm z<|R z (c_u z z)<|bdB (ifT hmm hcf) λ_ ab a4=>R z (j_1 z z<|nnS ab)<|R z (c_G d_3 d_5 z)<|EvA z (fS [(.tmp 31)] H_ z z z (a_2 z) (lb z)<|lb z) λad hg=>have:=hg.below;have Y:Blk ad wz.z [(vU<|byteI<|mkB<|a_h .i64 x1<|L_ 8 x5)]:=hg.blk;have:=a_r hg a_l;bdB a4 λae af a5=>E z (a_B (α:=UInt8) H_ af z z kO O Y a_l an_ s_) ?_;rintro _ _ ⟨ah,ai,aj,ak,rfl,_,al,am,_⟩;exact Rw z<|Wg<|Rm z<|R z (sb_ z z)<|Ra z<|Wl (λ_ q=>⟨(ae,k_ x5 1),(som a5).symm,⟨ai,aj,ak,ah,kaA q,kW,al,am,sQ,iS _ _⟩⟩)
  exact We<|λ_ q=>b_3 (som<|ifF hmm hcf).symm ⟨a2,H,I,S1,kaA q,kW,he,O,sQ,hl⟩
 .rintro ⟨L,x5⟩ an _ rfl ⟨a2,H,I,S1,_,_,he,O,aa,hl⟩;have a6:=elL hmk;revert an;refine Wo<|Wm z<|Rw z ?_;exact Wr<|rS1 (Z_ a6) hr z ⟨kW,a2,H,I,S1,z,he,O,sQ⟩
 exact lqA hmk λ_ _ h=>h.2
end Go.Vw
