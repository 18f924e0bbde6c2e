
import Derived.Test.YtgieiijmhcgmcaaGreatDoorVwJW1
set_option linter.unusedVariables false
namespace Go.Vw
open Go.RowKit Dat Go.Proofs
open Go.Proofs.Tryz
open Go.Vw renaming a_L->Wq,b_7->Wg,WC.of_KC->Wo,a_M->Wl,c_t->Wc,d_x->Wr,g_N->Wu,i_1->pT,i_2->pF,g_S->fd,c_3->l1,i_T->lN,b_y->mv,d_c->asg,g_q->lnR,f_8->lss,g_Y->eql,g_T->ext_,i_4->bP,g_U->add_,g_m->inc_,e_i->not_,g_r->at_,e_Q->fc,b_d->fs,e_P->fb,e_3->fa,h_V->sr,h_Z->cr,i_0->cM,c_Y->bM,h_L->iS,h_K->iA,h_N->br,b_t->oA,h_R->bs,ltge->lg,inor->io,g_Z->nq,i_V->lnT,i_W->sb_,h_T->ar_,h_S->al_,h_U->ds,j_v->m1,h_X->nr_,h_W->nl_,g_o->aa_,all_nil->an_,d_y->Wb,g_n->u8,h_E->pD,g_j->We,h_M->Wt,g_l->fS,e_M->or_,i_R->Wf,i_8->qL,h_D->Wd,i_5->fN,g_p->na_,h_Y->nj,e_U->f0,i_3->rX,i_6->tl_,i_7->ic
variable {A0:Option Addr}{N0 C0:Nat}{B:Zone}{w0:World}{A9:Option Addr}{A8:Option Addr}{AA:Option Addr}{AB:Option Addr}{N9 C9:Nat}{N8 C8:Nat}{NA CA:Nat}{NB CB:Nat}{A3:Option Addr}{A4:Option Addr}{A2:Option Addr}{A5:Option Addr}{N3 C3:Nat}{N4 C4:Nat}{N2 C2:Nat}{N5 C5:Nat}{A7:Option Addr}{N7 C7:Nat}{A6:Option Addr}{N6 C6:Nat}{n:Nat}{A1:Option Addr}{N1 C1:Nat}
theorem W_w17 {x1:List UInt8}{x2:Int}{x3:UInt8}{res:(List UInt8)×Int×Bool}(hm:e_D n x1 x2 x3=some res)(ap:B<=w0.z)(W:repS w0 B (sl A0 N0 C0) x1)(Y:inI x2):j_ prog 91 [sl A0 N0 C0,vI x2,vU<|byteI x3] w0 (Q10 w0 B res):=by
 unfold e_D at hm
 refine goG func91 z z z fun fn hr=>Ws<|RA z z<|Rw z<|Ws<|E z (f0 (α:=UInt8) a_C) ?_
 rintro _ wg ⟨aj,nk,cl,rfl,s8,hv⟩;refine Rw z<|Wq<|Wq ?_
 obtain ⟨aq,huw,hmx⟩:=bdS hm;refine Wt (fun a w=>∃(xm:Bool),xm=aq/\Sat 58 [(0,sl A0 N0 C0),(1,vI x2),(2,vU<|byteI x3),(9,sl aj nk cl),(19,vB xm)] a/\Below wg.z wg w) ?_ ?_
 ·refine Wg<|Rm z<|Rl z z z<|Rm z ?_
  rcases bs (decide<|x2<0) with H | H
  ·iterate 4 refine Nh z H ?_
   exact R z (pT z H z)<|Wl (fun _ q=>⟨true,som<|ifT huw H,q.k<|s5 z z z z z,br wg⟩)
  exact Rh z H (mv z)<|Rh z H (mv z)<|Rh z H (lnR l_ z<|W.e s8)<|Rh z H (a_b z z)<|R z (pF z H z)<|Wl (fun _ q=>⟨decide<|(x1.length:Int)<x2,som<|ifF huw H,q.k<|s5 z z z z z,br wg⟩)
 rintro ar h ⟨xm,rfl,_,s6⟩;revert ar;refine Wo<|Wc z (fun hcn=>?_) (fun hcn=>?_)
 ·refine Wm z<|Rm z<|RA z z<|Rw z ?_
  obtain rfl:=som<|ifT hmx hcn;exact Wr<|A_ hr z z z ⟨bup s8 s6,aj,nk,cl,[w0.z],z,hv.e s6,Y,a_X,f_ lr⟩
 refine Wk<|Wq<|Wm z<|Rw z ?_
 obtain ⟨_,ab,hmy⟩:=bdS<|ifF hmx hcn;refine c_F (σ:=(List UInt8)×Int) (ρ:=(List UInt8)×Int×Bool) (fun s a w=>un2 (fun xb O=>∃I J L G,Sat 58 [(0,sl A0 N0 C0),(1,vI x2),(2,vU<|byteI x3),(9,sl I J L),(10,vI O)] a/\Chg (· ∈ [w0.z]) h w/\b_ w G (sl I J L) xb/\G.Nodup/\(∀k∈G,k∈[w0.z]∨h.z<=k)/\inI O) s) (fun s a w=>un2 (fun xb O=>∃I J L G,Sat 58 [(1,vI x2)] a/\Chg (· ∈ [w0.z]) h w/\b_ w G (sl I J L) xb/\G.Nodup/\(∀k∈G,k∈[w0.z]∨h.z<=k)/\inI O) s) (rQ prog fn<|Q10 w0 B) ab ?_ ?_ ?_ ?_
 ·exact fun _ q=>⟨aj,nk,cl,[w0.z],q.k<|s5 z z z z z,cr [w0.z] h,hv.e s6,a_X,io sr,Y⟩
 ·rintro ⟨xb,O⟩ _ V _ ⟨I,J,L,G,ad,sa,hc,hd,he,ho⟩ ae;have hmz:=a_H ae;refine Wu ?_ ad;refine Wq<|Wm z<|Rm z ?_
  have a5:=((s8.ag B).e s6).c sa<|c_ (or0 (f_ lr) (m_ ap):∀k∈[w0.z],¬B k)
  have hh:=W.g a5;refine R z (lnR l_ z hh)<|Rl z z z<|Wx z (fun hcp=>?_) (fun hcp=>?_)
  ·refine Wk<|Wq<|Wb<|Wq<|Wm z<|Rm z ?_
   obtain ⟨_,au,a0⟩:=bdS<|ifT hmz hcp;refine RX z (at_ (α:=UInt8) l_ z_5 z z z hh au) ?_;rintro _ ⟨_,_,_,rfl,av,aw,_⟩;obtain rfl:=u8 aw;refine R z (l0 g_5 z<|av.at0 z)<|Rm z<|Rq z z z<|Wx z (fun hcq=>?_) (fun hcq=>?_)
   ·refine Wm z<|Rm z<|R z (add_ z z)<|RA z z<|Rw z ?_
    exact Wr<|rtO<|qL (som<|ifT a0 hcq).symm<|A_ hr z z z ⟨bM (bup s8 s6) sa<|f_ lr,I,J,L,G,z,hc,iA _ _,hd,(or1 he (f_ lr) (b_O<|lt_ s8.s s6.s):∀k∈G,w0.z<=k)⟩
   refine Wk<|Wq<|Wm z<|Rm z ?_
   obtain ⟨_,ax,af⟩:=bdS<|ifF a0 hcq;refine RX z (at_ (α:=UInt8) l_ z_5 z z z hh ax) ?_;rintro _ ⟨_,_,_,rfl,ay,az,_⟩;obtain rfl:=u8 az;refine R z (l0 g_5 z<|ay.at0 z)<|Rq z z z<|Wn ?_
   obtain ⟨aA,a1,a2⟩:=bdS af;refine Wt (fun a w=>∃(xf:Int),Sum.inl xf=aA/\Sat 58 [(0,sl A0 N0 C0),(1,vI x2),(2,vU<|byteI x3),(9,sl I J L),(10,vI xf)] a/\Below V.z V w/\inI xf) ?_ ?_
   ·refine Wc z (fun hcr=>?_)<|fun hcr=>?_
    ·have a4:=ifT a1 hcr;refine Wm z<|R z (add_ z z)<|Rw z<|Wm z<|Rm z<|R z (lnR l_ z hh)<|Rq z z z<|Wx z (fun hcs=>?_) (fun hcs=>?_)
     ·obtain rfl:=som<|ifT a4 hcs;have ah:=elR a2;exact We<|exO z (fun _ q=>b_u (som ah).symm ⟨I,J,L,G,q.k<|s1 z,(cM (cr [w0.z] h) sa (io sr):Chg (· ∈ [w0.z]) h V),hc,hd,(or1 he (io sr) (x_ lr):∀k∈G,k∈[w0.z]∨h.z<=k),iA _ _⟩)
     exact a_q<|fun _ q=>⟨h_ O 1,som<|ifF a4 hcs,q.k<|s5 z z z z z,br V,iA _ _⟩
    exact a_q<|fun _ q=>⟨O,som<|ifF a1 hcr,q.k<|s5 z z z z z,br V,ho⟩
   rintro aB a6 ⟨xf,rfl,_,si,_⟩;have ai:=elL a2;revert aB;refine Wo<|Wg<|RM z z<|Rm z ?_
   obtain ⟨aC,aD,ak⟩:=bdS ai;refine RX z (at_ (α:=UInt8) l_ z_5 z z z (W.g<|a5.e si) aD) ?_;rintro _ ⟨_,_,_,rfl,aE,aF,_⟩;obtain rfl:=u8 aF;refine R z (l0 g_5 z<|aE.at0 z)<|E z (fS [(.tmp 53)] a_C z z z (c_Z z) (lb z)<|lb z) ?_
   rintro _ a7 ⟨rfl,ht⟩;have hu:=ht.below;have aX:=e_T ht c_d;obtain ⟨aG,aH,al⟩:=bdS ak;refine E z (d_D (α:=UInt8) a_C aH z z ((hc.e si).e hu) hd (ht.blk:Blk a7 a6.z [vU (byteI aC)]) c_d an_ a_f) ?_;rintro _ aI ⟨a8,aJ,aK,aL,rfl,aM,aN,aO,aP⟩;refine Rw z<|Wg<|Rm z<|R z (add_ z z)<|Ra z<|Wl ?_
   have a9:∀k∈G,k∈[w0.z]∨h.z<=k:=or1 he (io sr)<|x_ lr;exact fun _ q=>⟨(aG,h_ xf 1),(som al).symm,⟨aJ,aK,aL,a8,q.k<|s5 z z z z z,(cM (d_ (d_ (cM (cr [w0.z] h) sa (io sr):Chg (· ∈ [w0.z]) h V) si:Chg (· ∈ [w0.z]) h a6) hu:Chg (· ∈ [w0.z]) h a7) aM a9:Chg (· ∈ [w0.z]) h aI),aN,aO,(or2 aP a9 an_ (x_<|lt_ (lt_ sa.s si.s) hu.s):∀k∈a8,k∈[w0.z]∨h.z<=k),iA _ _⟩⟩
  exact We<|fun _ q=>b_u (som<|ifF hmz hcp).symm ⟨I,J,L,G,q.k<|s1 z,(cM (cr [w0.z] h) sa (io sr):Chg (· ∈ [w0.z]) h V),hc,hd,(or1 he (io sr) (x_ lr):∀k∈G,k∈[w0.z]∨h.z<=k),ho⟩
 ·rintro ⟨xb,O⟩ aQ aR rfl ⟨I,J,L,G,_,aa,hc,hd,he,ho⟩;have am:=elL hmy;revert aQ;refine Wo<|Ws<|E z (f0 (α:=UInt8) a_C) ?_
  rintro _ _ ⟨aS,aT,aU,rfl,aV,aW⟩;refine Rm z<|RA z z<|Rw z ?_
  obtain rfl:=som<|a_H am;exact Wr<|A_ hr z z z ⟨bup (bM (bup s8 s6) aa<|f_ lr) aV,aS,aT,aU,[aR.z],z,aW,Y,a_X,m1<|lt_ (lt_ s8.s s6.s) aa.s⟩
 rintro _ _ _ _ rfl ⟨rfl,an⟩;have ao:=elR hmy;obtain rfl:=som ao;exact ⟨an,z⟩
def Q16 (w0:World)(g1:Nat)(B:Zone)(A0:Option Addr)(N0 C0:Nat)(A1:Option Addr)(N1 C1:Nat)(x1:S_)(r:B_×Int)(v:Value)(w':World):Prop:=Chg (· ∈ [g1]) w0 w'/\un2 (fun h G=>(.agg #[vI h.at_,vI h.code])=v/\inI h.at_/\inI h.code/\inI G/\Blk w' g1 [sl A0 N0 C0,sl A1 N1 C1,vI G]) r
structure i_w (f:S_->Int->Int->Option (B_×Int)):Prop where
  run:∀{A0 A1:Option Addr}{N0 C0 N1 C1 g1:Nat}{B:Zone}{x1:S_}{x2:Int}{x3:Int}{res:B_×Int}{w0:World}(hm:f x1 x2 x3=some res)(hB1:Blk w0 g1 [sl A0 N0 C0,sl A1 N1 C1,vI x1.applied])(hBw:B<=w0.z)(hBg:¬B g1)(p1_0:repS w0 B (sl A0 N0 C0) x1.d.rules)(p1_1:repS w0 B (sl A1 N1 C1) x1.b)(p1_2:inI x1.applied)(p2_0:inI x2)(p3_0:inI x3),j_ prog 62 [pt g1,vI x2,vI x3] w0<|Q16 w0 g1 B A0 N0 C0 A1 N1 C1 x1 res
structure i_x (f:S_->a_->Int->Option (B_×Int)):Prop where
  run:∀{A0 A1 A3 A4 A2 A5:Option Addr}{N0 C0 N1 C1 g1 N3 C3 N4 C4 N2 C2 N5 C5:Nat}{B:Zone}{x1:S_}{x2:a_}{x3:Int}{res:B_×Int}{w0:World}(hm:f x1 x2 x3=some res)(hB1:Blk w0 g1 [sl A0 N0 C0,sl A1 N1 C1,vI x1.applied])(hBw:B<=w0.z)(hBg:¬B g1)(p1_0:repS w0 B (sl A0 N0 C0) x1.d.rules)(p1_1:repS w0 B (sl A1 N1 C1) x1.b)(p1_2:inI x1.applied)(p2_0:x2.name.b.length<=LEN)(p2_1:inI x2.kind)(p2_2:inI x2.size)(p2_4:repS w0 B (sl A3 N3 C3) x2.bytes)(p2_5:repS w0 B (sl A4 N4 C4) x2.names)(p2_6:repS w0 B (sl A2 N2 C2) x2.tags)(p2_7:repS w0 B (sl A5 N5 C5) x2.kids)(p3_0:inI x3),j_ prog 87 [pt g1,.agg #[Str.v x2.name,vI x2.kind,vI x2.size,vB x2.little,sl A3 N3 C3,sl A4 N4 C4,sl A2 N2 C2,sl A5 N5 C5],vI x3] w0<|Q16 w0 g1 B A0 N0 C0 A1 N1 C1 x1 res
structure i_y (f:S_->a_->Int->Option (B_×Int)):Prop where
  run:∀{A0 A1 A3 A4 A2 A5:Option Addr}{N0 C0 N1 C1 g1 N3 C3 N4 C4 N2 C2 N5 C5:Nat}{B:Zone}{x1:S_}{x2:a_}{x3:Int}{res:B_×Int}{w0:World}(hm:f x1 x2 x3=some res)(hB1:Blk w0 g1 [sl A0 N0 C0,sl A1 N1 C1,vI x1.applied])(hBw:B<=w0.z)(hBg:¬B g1)(p1_0:repS w0 B (sl A0 N0 C0) x1.d.rules)(p1_1:repS w0 B (sl A1 N1 C1) x1.b)(p1_2:inI x1.applied)(p2_0:x2.name.b.length<=LEN)(p2_1:inI x2.kind)(p2_2:inI x2.size)(p2_4:repS w0 B (sl A3 N3 C3) x2.bytes)(p2_5:repS w0 B (sl A4 N4 C4) x2.names)(p2_6:repS w0 B (sl A2 N2 C2) x2.tags)(p2_7:repS w0 B (sl A5 N5 C5) x2.kids)(p3_0:inI x3),j_ prog 88 [pt g1,.agg #[Str.v x2.name,vI x2.kind,vI x2.size,vB x2.little,sl A3 N3 C3,sl A4 N4 C4,sl A2 N2 C2,sl A5 N5 C5],vI x3] w0<|Q16 w0 g1 B A0 N0 C0 A1 N1 C1 x1 res
structure i_z (f:S_->a_->Int->Option (B_×Int)):Prop where
  run:∀{A0 A1 A3 A4 A2 A5:Option Addr}{N0 C0 N1 C1 g1 N3 C3 N4 C4 N2 C2 N5 C5:Nat}{B:Zone}{x1:S_}{x2:a_}{x3:Int}{res:B_×Int}{w0:World}(hm:f x1 x2 x3=some res)(hB1:Blk w0 g1 [sl A0 N0 C0,sl A1 N1 C1,vI x1.applied])(hBw:B<=w0.z)(hBg:¬B g1)(p1_0:repS w0 B (sl A0 N0 C0) x1.d.rules)(p1_1:repS w0 B (sl A1 N1 C1) x1.b)(p1_2:inI x1.applied)(p2_0:x2.name.b.length<=LEN)(p2_1:inI x2.kind)(p2_2:inI x2.size)(p2_4:repS w0 B (sl A3 N3 C3) x2.bytes)(p2_5:repS w0 B (sl A4 N4 C4) x2.names)(p2_6:repS w0 B (sl A2 N2 C2) x2.tags)(p2_7:repS w0 B (sl A5 N5 C5) x2.kids)(p3_0:inI x3),j_ prog 89 [pt g1,.agg #[Str.v x2.name,vI x2.kind,vI x2.size,vB x2.little,sl A3 N3 C3,sl A4 N4 C4,sl A2 N2 C2,sl A5 N5 C5],vI x3] w0<|Q16 w0 g1 B A0 N0 C0 A1 N1 C1 x1 res
structure i_A (f:S_->a_->Int->Option (B_×Int)):Prop where
  run:∀{A0 A1 A3 A4 A2 A5:Option Addr}{N0 C0 N1 C1 g1 N3 C3 N4 C4 N2 C2 N5 C5:Nat}{B:Zone}{x1:S_}{x2:a_}{x3:Int}{res:B_×Int}{w0:World}(hm:f x1 x2 x3=some res)(hB1:Blk w0 g1 [sl A0 N0 C0,sl A1 N1 C1,vI x1.applied])(hBw:B<=w0.z)(hBg:¬B g1)(p1_0:repS w0 B (sl A0 N0 C0) x1.d.rules)(p1_1:repS w0 B (sl A1 N1 C1) x1.b)(p1_2:inI x1.applied)(p2_0:x2.name.b.length<=LEN)(p2_1:inI x2.kind)(p2_2:inI x2.size)(p2_4:repS w0 B (sl A3 N3 C3) x2.bytes)(p2_5:repS w0 B (sl A4 N4 C4) x2.names)(p2_6:repS w0 B (sl A2 N2 C2) x2.tags)(p2_7:repS w0 B (sl A5 N5 C5) x2.kids)(p3_0:inI x3),j_ prog 90 [pt g1,.agg #[Str.v x2.name,vI x2.kind,vI x2.size,vB x2.little,sl A3 N3 C3,sl A4 N4 C4,sl A2 N2 C2,sl A5 N5 C5],vI x3] w0<|Q16 w0 g1 B A0 N0 C0 A1 N1 C1 x1 res
abbrev e_d (n:Nat):Prop:=i_w (a_h n).impl_checker_value/\i_x (a_h n).impl_checker_array/\i_y (a_h n).impl_checker_choice/\i_z (a_h n).impl_checker_option/\i_A (a_h n).impl_checker_checked
theorem T_w03 (ih:e_d n):i_w (f_S n<|a_h n):=by
 obtain ⟨dN,dO,dP,dS,dT⟩:=ih
 constructor
 intro A0 A1 N0 C0 N1 C1 g1 B x1 x2 x3 res w0 hm hB1 J hBg W Y cT cU a0;unfold f_S at hm
 refine goG func62 z z z fun fn hr=>Ws<|E z (fa b_4) ?_
 rintro _ H ⟨rfl,bo⟩;have h1:=bo.below;have h6:Blk H w0.z [vI 0,vI 0]:=bo.blk;refine Wn<|Wm z<|R z (I_ z)<|Rf z k_2 z<|Rf z a_9 z ?_
 have aL:=hB1.e h1;refine R z (l0 a_c z<|aL.at z)<|Rm z ?_
 obtain ⟨xh,dU,b8⟩:=bdS hm;refine RX z (at_ (α:=a_) Q_ n_ z z z (W.e h1) dU) ?_;rintro _ ⟨_,_,_,rfl,dV,dW,_⟩;obtain ⟨ao,np,cq,ar,ns,ct,au,nv,cw,ai,nj,ck,rfl,a7,a8,hz,a1,a9,aa,he⟩:=a_y dW;refine R z (lN (vs:=vR xh ao np cq ar ns ct au nv cw ai nj ck) G_ n_ z z fid dV)<|E z (fa b_w) ?_
 rintro _ O ⟨rfl,bp⟩;have h2:=bp.below;have bq:Blk O H.z [(Str.v (⟨[]⟩:Str)),vI 0,vI 0,vB false,sl none 0 0,sl none 0 0,sl none 0 0,sl none 0 0]:=bp.blk;refine E0 (fs0 (cur':=vR xh ao np cq ar ns ct au nv cw ai nj ck) n_ z z bq z z z z) ?_;rintro _ V ⟨br,dX⟩;have G:=dX.one;refine Wn<|Wq<|Ws<|Rf z a_s z<|R z (l0 g_3 z<|br.at z)<|Rq z z z<|Wx z (fun az=>?_) (fun az=>?_)
 ·refine Wm z<|RM z z ?_
  have bs:=((h1.ag B).e h2).c G<|c_ (or0 (f_ lr) (m_<|zt' J h1.s):∀k∈[H.z],¬B k)
  have bt:=lt_ (lt_ h1.s h2.s) G.s;obtain ⟨_,a2,_,dY,cV⟩:=L_<|ifT b8 az;refine E z (fc call84 z<|g_C (B:=B) dY ((aL.e h2).c G<|djs<|mm1 (Blk.lt hB1) h1.s) (zt' J bt) hBg (W.g bs) (Y.g bs) cT cU a0) ?_;rintro _ aM ⟨aj,rfl,_,dZ,e0,e1,e2⟩;refine Rm z<|Re z z z<|Re z z z<|E z (fa b_4) ?_
  rintro _ bu ⟨rfl,bv⟩;have aN:=bv.below;refine Ra z<|E0 (fs0 (cur':=[vI a2.at_,vI a2.code]) y_ z z (bv.blk:Blk bu aM.z [vI 0,vI 0]) z z z z) ?_
  rintro _ e3 ⟨e4,e5⟩;have aO:=e5.one;refine Wn<|Ws<|R z (lN (vs:=[vI a2.at_,vI a2.code]) a_3 y_ z z fid<|e4.row 0 2 z) ?_
  have bw:=mmr<|Blk.lt hB1
  refine E0 (fs0 (cur':=[vI a2.at_,vI a2.code]) y_ z z (((((h6.e h2).c G<|djs<|mmr h6.lt).c aj<|atp bw).e aN).c aO<|djs<|mm1 h6.lt<|lt_ (lt_ h2.s G.s) aj.s) z z z z) ?_;rintro _ e6 ⟨e7,e8⟩;have bx:=e8.one;refine Wn ?_;obtain rfl:=som cV;have bz:=lt_ bt aj.s;exact Wr<|e_ hr (o_ a_3 y_ z e7 z) ⟨(cM (cM (d_ (cM (cM (d_ (d_ (cr [g1] w0) h1:Chg (· ∈ [g1]) w0 H) h2:Chg (· ∈ [g1]) w0 O) G (mor h1.s:∀k∈[H.z],k∈[g1]∨w0.z<=k):Chg (· ∈ [g1]) w0 V) aj (io sr):Chg (· ∈ [g1]) w0 aM) aN:Chg (· ∈ [g1]) w0 bu) aO (mor bz:∀k∈[aM.z],k∈[g1]∨w0.z<=k):Chg (· ∈ [g1]) w0 e3) bx (mor lr:∀k∈[w0.z],k∈[g1]∨w0.z<=k):Chg (· ∈ [g1]) w0 e6),z,dZ,e0,e1,((e2.e aN).c aO<|djs<|mm1 (Blk.lt hB1) bz).c bx<|djs bw⟩
 have b9:=ifF b8 az;refine Wk<|Wm z<|R z (I_ z)<|Rf z g_z z ?_
 have bA:=mm1 (Blk.lt hB1) h1.s;have bB:=(aL.e h2).c G<|djs bA
 refine R z (l0 g_3 z<|bB.at z)<|R z (add_ z z)<|R z (I_ z)<|Rf z g_z z<|E0 (fs0 (cur':=[sl A0 N0 C0,sl A1 N1 C1,vI<|h_ x1.applied 1]) z_3 z z bB z z z z) ?_
 rintro _ I ⟨ha,e9⟩;have h3:=e9.one;refine Wn<|Wq<|Ws<|Rf z a_s z ?_
 have hb:=br.c h3<|atp bA
 refine R z (l0 g_3 z<|hb.at z)<|Wn<|Wb<|Ws<|Rq z z z<|Rw z<|Wc z (fun aA=>?_) (fun aA=>?_)
 ·refine Wm z<|R z (lN (vs:=vR xh ao np cq ar ns ct au nv cw ai nj ck) G_ n_ z z fid<|hb.row 0 8 z)<|Rm z ?_
  have bC:∀k∈[H.z],¬B k:=or0 (f_ lr)<|m_<|zt' J h1.s;have bD:=(((h1.ag B).e h2).c G<|c_ bC).c h3<|c_<|f_ hBg
  have ak:=((h2.ag B).c G<|c_ bC).c h3<|c_<|f_ hBg
  obtain ⟨bE,ea,cW⟩:=bdS<|ifT b9 aA;refine E z (fc call85 z<|W_w2i (B:=w0.z) ea (a_E<|lt_ (lt_ (lt_ h1.s h2.s) G.s) h3.s) (repS.mono (W.g bD) J) (repS.mono (Y.g bD) J) (iA _ _) (ha.row 0 3 z) (Blk.lt hB1) a7 a8 hz (repS.mono (a1.g ak) J) (repS.mono (a9.g ak) J) (repS.mono (aa.g ak) J) (repS.mono (he.g ak) J) a0) ?_;rintro _ eb ⟨aP,rfl,ec,ed⟩;have bF:=mmr<|Blk.lt hB1
  refine E0 (fs0 (cur':=[vI bE.at_,vI bE.code]) y_ z z ((((h6.e h2).c G<|djs<|mmr h6.lt).c h3<|atp bF).e aP) z z z z) ?_;rintro _ ee ⟨ef,eg⟩;have bG:=eg.one;refine Wn ?_;obtain rfl:=som cW;exact Wr<|rtO<|e_ hr (o_ a_3 y_ z ef z) ⟨(cM (d_ (cM (cM (d_ (d_ (cr [g1] w0) h1:Chg (· ∈ [g1]) w0 H) h2:Chg (· ∈ [g1]) w0 O) G (mor h1.s:∀k∈[H.z],k∈[g1]∨w0.z<=k):Chg (· ∈ [g1]) w0 V) h3 (io sr):Chg (· ∈ [g1]) w0 I) aP:Chg (· ∈ [g1]) w0 eb) bG (mor lr:∀k∈[w0.z],k∈[g1]∨w0.z<=k):Chg (· ∈ [g1]) w0 ee),z,ec,ed,iA _ _,(ha.e aP).c bG<|djs bF⟩
 have ba:=ifF b9 aA;refine Ws<|Rq z z z<|Rw z<|Wc z (fun aB=>?_) (fun aB=>?_)
 ·refine Wm z<|Rm z<|Rf z a_z z<|R z (l0 g_3 z<|hb.at z) ?_
  have bH:=(((h1.ag B).e h2).c G<|c_ (or0 (f_ lr) (m_<|zt' J h1.s):∀k∈[H.z],¬B k)).c h3<|c_<|f_ hBg
  obtain ⟨bI,eh,cX⟩:=bdS<|ifT ba aB;refine E z (fc call86 z<|f_1 (B:=w0.z) eh (a_E<|lt_ (lt_ (lt_ h1.s h2.s) G.s) h3.s) (repS.mono (W.g bH) J) (repS.mono (Y.g bH) J) (iA _ _) (ha.row 0 3 z) (Blk.lt hB1) a0 hz) ?_;rintro _ ei ⟨aQ,rfl,ej,ek⟩;have bJ:=mmr<|Blk.lt hB1
  refine E0 (fs0 (cur':=[vI bI.at_,vI bI.code]) y_ z z ((((h6.e h2).c G<|djs<|mmr h6.lt).c h3<|atp bJ).e aQ) z z z z) ?_;rintro _ em ⟨en,eo⟩;have bK:=eo.one;refine Wn ?_;obtain rfl:=som cX;exact Wr<|rtO<|e_ hr (o_ a_3 y_ z en z) ⟨(cM (d_ (cM (cM (d_ (d_ (cr [g1] w0) h1:Chg (· ∈ [g1]) w0 H) h2:Chg (· ∈ [g1]) w0 O) G (mor h1.s:∀k∈[H.z],k∈[g1]∨w0.z<=k):Chg (· ∈ [g1]) w0 V) h3 (io sr):Chg (· ∈ [g1]) w0 I) aQ:Chg (· ∈ [g1]) w0 ei) bK (mor lr:∀k∈[w0.z],k∈[g1]∨w0.z<=k):Chg (· ∈ [g1]) w0 em),z,ej,ek,iA _ _,(ha.e aQ).c bK<|djs bJ⟩
 have bb:=ifF ba aB;refine Ws<|Rq z z z<|Rw z<|Wc z (fun aC=>?_) (fun aC=>?_)
 ·refine Wm z<|Rf z M_ z<|R z (l0 w_ z<|hb.at z) ?_
  obtain ⟨_,ep,cY⟩:=bdS<|ifT bb aC;have bL:∀k∈[H.z],¬B k:=or0 (f_ lr)<|m_<|zt' J h1.s;refine RX z (at_ (α:=Int) r_ z_3 z z z (he.g<|((h2.ag B).c G<|c_ bL).c h3<|c_<|f_ hBg) ep) ?_;rintro _ ⟨_,_,_,rfl,er,es,_⟩;obtain ⟨rfl,eu⟩:=O_ es;refine R z (l0 g_3 z<|er.at0 z)<|Rm z ?_
  have aR:=(((h1.ag B).e h2).c G<|c_ bL).c h3<|c_<|f_ hBg
  have aS:=lt_ (lt_ (lt_ h1.s h2.s) G.s) h3.s;obtain ⟨_,a3,_,ew,bc⟩:=L_ cY;refine E z (fc call84 z<|g_C (B:=B) ew ha (zt' J aS) hBg (W.g aR) (Y.g aR) (iA _ _) eu a0) ?_;rintro _ a4 ⟨sf,rfl,ex,bM,ey,aT,bN⟩;refine Rm z<|Re z z z<|Re z z z<|E z (fa b_4) ?_
  rintro _ aU ⟨rfl,bO⟩;have hl:=bO.below;refine Ra z<|E0 (fs0 (cur':=[vI a3.at_,vI a3.code]) y_ z z (bO.blk:Blk aU a4.z [vI 0,vI 0]) z z z z) ?_
  rintro _ bQ ⟨aV,ez⟩;have hn:=ez.one;refine Wn<|Wq<|Ws<|Rf z c_h z<|R z (l0 g_3 z<|aV.at z)<|R z (nq z z)<|Wx z (fun aD=>?_) (fun aD=>?_)
  ·refine Ws<|R z (lN (vs:=[vI a3.at_,vI a3.code]) a_3 y_ z z fid<|aV.row 0 2 z) ?_
   have aW:=mmr<|Blk.lt hB1
   refine E0 (fs0 (cur':=[vI a3.at_,vI a3.code]) y_ z z ((((((h6.e h2).c G<|djs<|mmr h6.lt).c h3<|atp aW).c sf<|atp aW).e hl).c hn<|djs<|mm1 h6.lt<|lt_ (lt_ (lt_ h2.s G.s) h3.s) sf.s) z z z z) ?_;rintro _ eA ⟨eB,eC⟩;have bR:=eC.one;refine Wn ?_;obtain rfl:=som<|ifT bc aD;have bS:=lt_ aS sf.s;exact Wr<|rtO<|e_ hr (o_ a_3 y_ z eB z) ⟨(cM (cM (d_ (cM (cM (cM (d_ (d_ (cr [g1] w0) h1:Chg (· ∈ [g1]) w0 H) h2:Chg (· ∈ [g1]) w0 O) G (mor h1.s:∀k∈[H.z],k∈[g1]∨w0.z<=k):Chg (· ∈ [g1]) w0 V) h3 (io sr):Chg (· ∈ [g1]) w0 I) sf (io sr):Chg (· ∈ [g1]) w0 a4) hl:Chg (· ∈ [g1]) w0 aU) hn (mor bS:∀k∈[a4.z],k∈[g1]∨w0.z<=k):Chg (· ∈ [g1]) w0 bQ) bR (mor lr:∀k∈[w0.z],k∈[g1]∨w0.z<=k):Chg (· ∈ [g1]) w0 eA),z,bM,ey,aT,((bN.e hl).c hn<|djs<|mm1 (Blk.lt hB1) bS).c bR<|djs aW⟩
  refine Wk<|Wm z<|Rf z c_1 z<|R z (l0 g_3 z<|aV.at z)<|Rm z ?_
  have al:=lt_ aS sf.s;have bT:=(bN.e hl).c hn<|djs<|mm1 (Blk.lt hB1) al
  have bU:=((aR.c sf<|c_<|f_ hBg).e hl).c hn<|c_ (or0 (f_ lr) (m_<|zt' J al):∀k∈[a4.z],¬B k)
  obtain ⟨bV,eD,cZ⟩:=bdS<|ifF bc aD;refine E z (fc call86 z<|f_1 (B:=w0.z) eD (a_E<|lt_ (lt_ al hl.s) hn.s) (repS.mono (W.g bU) J) (repS.mono (Y.g bU) J) aT (bT.row 0 3 z) (Blk.lt hB1) bM ex) ?_;rintro _ eE ⟨aX,rfl,eF,eG⟩;have aY:=mmr<|Blk.lt hB1
  refine E0 (fs0 (cur':=[vI bV.at_,vI bV.code]) y_ z z (((((((h6.e h2).c G<|djs<|mmr h6.lt).c h3<|atp aY).c sf<|atp aY).e hl).c hn<|djs<|mm1 h6.lt<|lt_ (lt_ (lt_ h2.s G.s) h3.s) sf.s).e aX) z z z z) ?_;rintro _ eH ⟨eI,eJ⟩;have bW:=eJ.one;refine Wn ?_;obtain rfl:=som cZ;exact Wr<|rtO<|e_ hr (o_ a_3 y_ z eI z) ⟨(cM (d_ (cM (d_ (cM (cM (cM (d_ (d_ (cr [g1] w0) h1:Chg (· ∈ [g1]) w0 H) h2:Chg (· ∈ [g1]) w0 O) G (mor h1.s:∀k∈[H.z],k∈[g1]∨w0.z<=k):Chg (· ∈ [g1]) w0 V) h3 (io sr):Chg (· ∈ [g1]) w0 I) sf (io sr):Chg (· ∈ [g1]) w0 a4) hl:Chg (· ∈ [g1]) w0 aU) hn (mor al:∀k∈[a4.z],k∈[g1]∨w0.z<=k):Chg (· ∈ [g1]) w0 bQ) aX:Chg (· ∈ [g1]) w0 eE) bW (mor lr:∀k∈[w0.z],k∈[g1]∨w0.z<=k):Chg (· ∈ [g1]) w0 eH),z,eF,eG,aT,(bT.e aX).c bW<|djs aY⟩
 have be:=ifF bb aC;refine Ws<|Rq z z z<|Rw z<|Wc z (fun aE=>?_) (fun aE=>?_)
 ·refine Wm z<|R z (lN (vs:=vR xh ao np cq ar ns ct au nv cw ai nj ck) G_ n_ z z fid<|hb.row 0 8 z)<|Rm z ?_
  have bX:∀k∈[H.z],¬B k:=or0 (f_ lr)<|m_<|zt' J h1.s;have bY:=(((h1.ag B).e h2).c G<|c_ bX).c h3<|c_<|f_ hBg
  have am:=((h2.ag B).c G<|c_ bX).c h3<|c_<|f_ hBg
  obtain ⟨bZ,_,eK,d0⟩:=W_<|ifT be aE;refine E z (fc call87 z<|dO.run (B:=B) eK ha (zt' J<|lt_ (lt_ (lt_ h1.s h2.s) G.s) h3.s) hBg (W.g bY) (Y.g bY) (iA _ _) a7 a8 hz (a1.g am) (a9.g am) (aa.g am) (he.g am) a0) ?_;rintro _ eL ⟨c0,rfl,eM,eN,eO,eP⟩;have aZ:=mmr<|Blk.lt hB1
  refine E0 (fs0 (cur':=[vI bZ.at_,vI bZ.code]) y_ z z ((((h6.e h2).c G<|djs<|mmr h6.lt).c h3<|atp aZ).c c0<|atp aZ) z z z z) ?_;rintro _ eQ ⟨eR,eS⟩;have c1:=eS.one;refine Wn ?_;obtain rfl:=som d0;exact Wr<|rtO<|e_ hr (o_ a_3 y_ z eR z) ⟨(cM (cM (cM (cM (d_ (d_ (cr [g1] w0) h1:Chg (· ∈ [g1]) w0 H) h2:Chg (· ∈ [g1]) w0 O) G (mor h1.s:∀k∈[H.z],k∈[g1]∨w0.z<=k):Chg (· ∈ [g1]) w0 V) h3 (io sr):Chg (· ∈ [g1]) w0 I) c0 (io sr):Chg (· ∈ [g1]) w0 eL) c1 (mor lr:∀k∈[w0.z],k∈[g1]∨w0.z<=k):Chg (· ∈ [g1]) w0 eQ),z,eM,eN,eO,eP.c c1<|djs aZ⟩
 have bf:=ifF be aE;refine Ws<|Rq z z z<|Rw z<|Wc z (fun aF=>?_) (fun aF=>?_)
 ·refine Wm z<|R z (bP (parts:=[(0,.tmp 88),(1,.const<|.int .i64 0)]) (cs:=[vI x3,vI 0]) b_v z z)<|E z (fa b_4) ?_
  rintro _ c2 ⟨rfl,c3⟩;have hx:=c3.below;refine E0 (fs0 (cur':=[vI x3,vI 0]) y_ z z (c3.blk:Blk c2 I.z [vI 0,vI 0]) z z z z) ?_;rintro _ L ⟨eT,eU⟩;have hy:=eU.one;refine Wn<|Wq<|Ws<|Rf z M_ z<|R z (l0 w_ z<|((hb.e hx).c hy<|djs<|mm1 bq.lt<|lt_ G.s h3.s).at z) ?_
  have c4:∀k∈[H.z],¬B k:=or0 (f_ lr)<|m_<|zt' J h1.s;have ab:=lt_ (lt_ (lt_ h1.s h2.s) G.s) h3.s;have an:∀k∈[I.z],¬B k:=or0 (f_ lr)<|m_<|zt' J ab;have c5:=((((h2.ag B).c G<|c_ c4).c h3<|c_<|f_ hBg).e hx).c hy<|c_ an
  refine R z (lnR r_ z<|he.g c5)<|Rm z<|Wn ?_
  obtain ⟨_,d1,bg⟩:=bdS<|ifT bf aF;refine Wf (σ:=Int×Int×Int) (ρ:=B_×Int) (fun (c6:Nat) s a w=>un3 (fun xm xc xd=>Sat 145 [(0,pt g1),(6,pt w0.z),(12,pt I.z),(91,sl ai nj ck),(92,vI (xh.kids.length:Int)),(93,vI ((c6:Nat):Int))] a/\Chg (· ∈ ([g1]++[I.z])) L w/\inI xm/\inI xc/\inI xd/\Blk w g1 [sl A0 N0 C0,sl A1 N1 C1,vI xm]/\Blk w I.z [vI xc,vI xd]) s) (fun s a w=>un3 (fun xm xc xd=>Sat 145 [(6,pt w0.z),(12,pt I.z)] a/\Chg (· ∈ ([g1]++[I.z])) L w/\inI xm/\inI xc/\inI xd/\Blk w g1 [sl A0 N0 C0,sl A1 N1 C1,vI xm]/\Blk w I.z [vI xc,vI xd]) s) (rQ prog fn<|Q16 w0 g1 B A0 N0 C0 A1 N1 C1 x1) d1 ?_ ?_ ?_ ?_ ?_
  ·exact fun _ q=>⟨q.k<|s6 z z z z z z,cr ([g1]++[I.z]) L,iA _ _,a0,ii z,(ha.e hx).c hy<|djs<|mm1 (Blk.lt hB1) ab,eT⟩
  ·rintro c6 ⟨xm,xc,xd⟩ _ c7 _ bh ⟨d2,ad,ae,af,ap,ah,a5⟩ d3;refine Wu ?_ d2;refine Ws<|Rl z z z<|Wn<|Wq<|Wc z (fun _=>?_) (fun hc=>(X_ bh hc).elim)
   refine Wk<|Wq<|Wb<|Ws ?_
   obtain ⟨_,eV,d4⟩:=bdS<|b_C d3;refine RX z (at_ (α:=Int) r_ z_3 z z z (he.g<|c5.c ad<|nmA (c_<|f_ hBg)<|c_ an) eV) ?_;rintro _ ⟨_,_,_,rfl,eW,eX,_⟩;obtain ⟨rfl,eY⟩:=O_ eX;refine R z (l0 g_3 z<|eW.at0 z)<|Rw z<|Wm z<|Rm z<|Rf z c_1 z<|R z (l0 g_3 z<|a5.at z) ?_
   have c8:=((((((h1.ag B).e h2).c G<|c_ c4).c h3<|c_<|f_ hBg).e hx).c hy<|c_ an).c ad<|nmA (c_<|f_ hBg)<|c_ an
   obtain ⟨aq,eZ,f0,bi⟩:=W_ d4;refine E z (fc call62 z<|dN.run (B:=B) f0 ah (zt' J<|lt_ (lt_ (lt_ ab hx.s) hy.s) ad.s) hBg (W.g c8) (Y.g c8) ae eY af) ?_;rintro _ c9 ⟨b0,rfl,ca,cb,cc,cd⟩;have b1:=mm1 (Blk.lt hB1) ab;refine E0 (fs0 (cur':=[vI aq.at_,vI aq.code]) y_ z z (a5.c b0<|atp b1) z z z z) ?_;rintro _ ce ⟨b2,f1⟩;have av:=f1.one;refine Wn<|Ws<|Rf z c_h z<|R z (l0 g_3 z<|b2.at z)<|R z (nq z z)<|Wx z (fun aG=>?_) (fun aG=>?_)
   ·have f2:Chg (· ∈ ([g1]++[I.z])) L c7:=cM (cr ([g1]++[I.z]) L) ad<|aa_ (io<|a_u sr)<|io<|Z_ sr;exact We<|exO z (fun _ q=>b_u (som<|ifT bi aG).symm ⟨q.k<|s2 z z,(cM (cM f2 b0 (io<|a_u sr):Chg (· ∈ ([g1]++[I.z])) L c9) av (io<|Z_ sr):Chg (· ∈ ([g1]++[I.z])) L ce),cc,ca,cb,cd.c av<|djs b1,b2⟩)
   refine Wk<|Wg<|R z (inc_ bh (lt_ (repS.len he) H_) z z)<|Rm z<|Wl ?_
   exact fun _ q=>⟨(eZ,aq.at_,aq.code),(som<|ifF bi aG).symm,⟨q.k<|s6 z z z z z z,(cM (cM (cM (cr ([g1]++[I.z]) L) ad (aa_ (io<|a_u sr)<|io<|Z_ sr):Chg (· ∈ ([g1]++[I.z])) L c7) b0 (io<|a_u sr):Chg (· ∈ ([g1]++[I.z])) L c9) av (io<|Z_ sr):Chg (· ∈ ([g1]++[I.z])) L ce),cc,ca,cb,cd.c av<|djs b1,b2⟩⟩
  ·rintro ⟨xm,xc,xd⟩ _ f3 ⟨d5,f4,ae,af,ap,ah,a5⟩;refine Wu ?_ d5;refine Ws<|Rl z z z<|Wn<|Wq<|Wc z (fun hc=>(Y_ hc).elim) (fun _=>?_)
   exact We<|fun _ q=>⟨rfl,⟨q.k<|s2 z z,(cM (cr ([g1]++[I.z]) L) f4 (aa_ (io<|a_u sr)<|io<|Z_ sr):Chg (· ∈ ([g1]++[I.z])) L f3),ae,af,ap,ah,a5⟩⟩
  ·rintro ⟨xm,xc,xd⟩ f5 f6 rfl ⟨_,cf,ae,af,ap,ah,a5⟩;have d6:=elL bg;revert f5;refine Wo<|Ws<|R z (lN (vs:=[vI xc,vI xd]) a_3 y_ z z fid<|a5.row 0 2 z) ?_
   have b3:=mmr<|Blk.lt hB1
   have cg:=mm1 h6.lt<|lt_ (lt_ h2.s G.s) h3.s
   refine E0 (fs0 (cur':=[vI xc,vI xd]) y_ z z ((((((h6.e h2).c G<|djs<|mmr h6.lt).c h3<|atp b3).e hx).c hy<|djs cg).c cf<|atp<|nmA b3<|ds cg) z z z z) ?_;rintro _ f7 ⟨f8,f9⟩;have ch:=f9.one;refine Wn ?_;obtain rfl:=som<|b_C d6;have ci:∀k∈[I.z],k∈[g1]∨w0.z<=k:=mor ab;exact Wr<|rtO<|e_ hr (o_ a_3 y_ z f8 z) ⟨(cM (cM (cM (d_ (cM (cM (d_ (d_ (cr [g1] w0) h1:Chg (· ∈ [g1]) w0 H) h2:Chg (· ∈ [g1]) w0 O) G (mor h1.s:∀k∈[H.z],k∈[g1]∨w0.z<=k):Chg (· ∈ [g1]) w0 V) h3 (io sr):Chg (· ∈ [g1]) w0 I) hx:Chg (· ∈ [g1]) w0 c2) hy ci:Chg (· ∈ [g1]) w0 L) cf (aa_ (io sr) ci):Chg (· ∈ [g1]) w0 f6) ch (mor lr:∀k∈[w0.z],k∈[g1]∨w0.z<=k):Chg (· ∈ [g1]) w0 f7),z,af,ap,ae,ah.c ch<|djs b3⟩
  rintro _ _ _ _ rfl ⟨rfl,cN⟩;have cO:=elR bg;obtain rfl:=som cO;exact ⟨cN,z⟩
 have bj:=ifF bf aF;refine Ws<|Rq z z z<|Rw z<|Wc z (fun aH=>?_) (fun aH=>?_)
 ·refine Wm z<|R z (lN (vs:=vR xh ao np cq ar ns ct au nv cw ai nj ck) G_ n_ z z fid<|hb.row 0 8 z)<|Rm z ?_
  have cj:∀k∈[H.z],¬B k:=or0 (f_ lr)<|m_<|zt' J h1.s;have cl:=(((h1.ag B).e h2).c G<|c_ cj).c h3<|c_<|f_ hBg
  have aw:=((h2.ag B).c G<|c_ cj).c h3<|c_<|f_ hBg
  obtain ⟨cm,_,d7,cP⟩:=W_<|ifT bj aH;refine E z (fc call88 z<|dP.run (B:=B) d7 ha (zt' J<|lt_ (lt_ (lt_ h1.s h2.s) G.s) h3.s) hBg (W.g cl) (Y.g cl) (iA _ _) a7 a8 hz (a1.g aw) (a9.g aw) (aa.g aw) (he.g aw) a0) ?_;rintro _ d8 ⟨cn,rfl,d9,da,db,dc⟩;have b4:=mmr<|Blk.lt hB1
  refine E0 (fs0 (cur':=[vI cm.at_,vI cm.code]) y_ z z ((((h6.e h2).c G<|djs<|mmr h6.lt).c h3<|atp b4).c cn<|atp b4) z z z z) ?_;rintro _ dd ⟨de,df⟩;have co:=df.one;refine Wn ?_;obtain rfl:=som cP;exact Wr<|rtO<|e_ hr (o_ a_3 y_ z de z) ⟨(cM (cM (cM (cM (d_ (d_ (cr [g1] w0) h1:Chg (· ∈ [g1]) w0 H) h2:Chg (· ∈ [g1]) w0 O) G (mor h1.s:∀k∈[H.z],k∈[g1]∨w0.z<=k):Chg (· ∈ [g1]) w0 V) h3 (io sr):Chg (· ∈ [g1]) w0 I) cn (io sr):Chg (· ∈ [g1]) w0 d8) co (mor lr:∀k∈[w0.z],k∈[g1]∨w0.z<=k):Chg (· ∈ [g1]) w0 dd),z,d9,da,db,dc.c co<|djs b4⟩
 have bk:=ifF bj aH;refine Ws<|Rq z z z<|Rw z<|Wc z (fun aI=>?_) (fun aI=>?_)
 ·refine Wm z<|R z (lN (vs:=vR xh ao np cq ar ns ct au nv cw ai nj ck) G_ n_ z z fid<|hb.row 0 8 z)<|Rm z ?_
  have cp:∀k∈[H.z],¬B k:=or0 (f_ lr)<|m_<|zt' J h1.s;have cu:=(((h1.ag B).e h2).c G<|c_ cp).c h3<|c_<|f_ hBg
  have ax:=((h2.ag B).c G<|c_ cp).c h3<|c_<|f_ hBg
  obtain ⟨cv,_,dg,cQ⟩:=W_<|ifT bk aI;refine E z (fc call89 z<|dS.run (B:=B) dg ha (zt' J<|lt_ (lt_ (lt_ h1.s h2.s) G.s) h3.s) hBg (W.g cu) (Y.g cu) (iA _ _) a7 a8 hz (a1.g ax) (a9.g ax) (aa.g ax) (he.g ax) a0) ?_;rintro _ dh ⟨cx,rfl,di,dj,dk,dl⟩;have b5:=mmr<|Blk.lt hB1
  refine E0 (fs0 (cur':=[vI cv.at_,vI cv.code]) y_ z z ((((h6.e h2).c G<|djs<|mmr h6.lt).c h3<|atp b5).c cx<|atp b5) z z z z) ?_;rintro _ dm ⟨dn,dp⟩;have cy:=dp.one;refine Wn ?_;obtain rfl:=som cQ;exact Wr<|rtO<|e_ hr (o_ a_3 y_ z dn z) ⟨(cM (cM (cM (cM (d_ (d_ (cr [g1] w0) h1:Chg (· ∈ [g1]) w0 H) h2:Chg (· ∈ [g1]) w0 O) G (mor h1.s:∀k∈[H.z],k∈[g1]∨w0.z<=k):Chg (· ∈ [g1]) w0 V) h3 (io sr):Chg (· ∈ [g1]) w0 I) cx (io sr):Chg (· ∈ [g1]) w0 dh) cy (mor lr:∀k∈[w0.z],k∈[g1]∨w0.z<=k):Chg (· ∈ [g1]) w0 dm),z,di,dj,dk,dl.c cy<|djs b5⟩
 have bm:=ifF bk aI;refine Ws<|Rq z z z<|Rw z<|Wc z (fun aJ=>?_) (fun aJ=>?_)
 ·refine Wm z<|R z (lN (vs:=vR xh ao np cq ar ns ct au nv cw ai nj ck) G_ n_ z z fid<|hb.row 0 8 z)<|Rm z ?_
  have cz:∀k∈[H.z],¬B k:=or0 (f_ lr)<|m_<|zt' J h1.s;have cA:=(((h1.ag B).e h2).c G<|c_ cz).c h3<|c_<|f_ hBg
  have ay:=((h2.ag B).c G<|c_ cz).c h3<|c_<|f_ hBg
  obtain ⟨cB,_,dq,cR⟩:=W_<|ifT bm aJ;refine E z (fc call90 z<|dT.run (B:=B) dq ha (zt' J<|lt_ (lt_ (lt_ h1.s h2.s) G.s) h3.s) hBg (W.g cA) (Y.g cA) (iA _ _) a7 a8 hz (a1.g ay) (a9.g ay) (aa.g ay) (he.g ay) a0) ?_;rintro _ dr ⟨cC,rfl,dt,du,dv,dw⟩;have b6:=mmr<|Blk.lt hB1
  refine E0 (fs0 (cur':=[vI cB.at_,vI cB.code]) y_ z z ((((h6.e h2).c G<|djs<|mmr h6.lt).c h3<|atp b6).c cC<|atp b6) z z z z) ?_;rintro _ dx ⟨dy,dz⟩;have cD:=dz.one;refine Wn ?_;obtain rfl:=som cR;exact Wr<|rtO<|e_ hr (o_ a_3 y_ z dy z) ⟨(cM (cM (cM (cM (d_ (d_ (cr [g1] w0) h1:Chg (· ∈ [g1]) w0 H) h2:Chg (· ∈ [g1]) w0 O) G (mor h1.s:∀k∈[H.z],k∈[g1]∨w0.z<=k):Chg (· ∈ [g1]) w0 V) h3 (io sr):Chg (· ∈ [g1]) w0 I) cC (io sr):Chg (· ∈ [g1]) w0 dr) cD (mor lr:∀k∈[w0.z],k∈[g1]∨w0.z<=k):Chg (· ∈ [g1]) w0 dx),z,dt,du,dv,dw.c cD<|djs b6⟩
 refine Wk<|Wq (Wd (X:=noX) 0 (pl_ 17 [9]) mo (by kernel_rfl) fun cE sg _=>dM z z z<|dR z z (I_ z)<|dR z z (fd c_B z) ?_)
 have b7:=ha.e sg;refine dR z z (l0 T_ z<|b7.at z)<|dM z z z<|dR z z (fd a_I z)<|dR z z (l0 T_ z<|(hb.e sg).at z) ?_
 obtain ⟨_,dA,cS⟩:=bdS<|ifF bm aJ;have cF:∀k∈[H.z],¬B k:=or0 (f_ lr)<|m_<|zt' J h1.s;refine dRX z z (at_ (α:=UInt8) l_ z_5 z z z (a1.g<|(((h2.ag B).c G<|c_ cF).c h3<|c_<|f_ hBg).e sg) dA) ?_;rintro _ ⟨_,_,_,rfl,dB,dC,_⟩;obtain rfl:=u8 dC;refine dR z z (l0 g_5 z<|dB.at0 z) ?_;obtain ⟨_,cG,_,dD,bn⟩:=L_ cS;refine dE z z (fc call91 z<|W_w17 dD (zt' J<|lt_ (lt_ (lt_ (lt_ h1.s h2.s) G.s) h3.s) sg.s) (Y.g<|((((h1.ag B).e h2).c G<|c_ cF).c h3<|c_<|f_ hBg).e sg) a0) (.inr fun _ _ h=>F_<|h.1) ?_;rintro _ cH ⟨a6,_,_,_,_,rfl,_,dF,_,_⟩;refine dM z z z ?_
 iterate 3 refine dR z z (ext_ z z) ?_
 iterate 3 refine dQ z z z ?_
 refine pD<|Wo<|Wq<|Wm z<|R z (not_ z)<|Wx z (fun aK=>?_) (fun aK=>?_)
 ·refine Wm z<|R z (bP (parts:=[(0,.tmp 141),(1,.const<|.int .i64 1)]) (cs:=[vI x3,vI 1]) b_v z z) ?_
  have cI:=mmr<|Blk.lt hB1
  refine E0 (fs0 (cur':=[vI x3,vI 1]) y_ z z (((((h6.e h2).c G<|djs<|mmr h6.lt).c h3<|atp cI).e sg).e a6) z z z z) ?_;rintro _ dG ⟨dH,dI⟩;have cJ:=dI.one;refine Wn ?_;obtain rfl:=som<|ifT bn aK;exact Wr<|e_ hr (o_ a_3 y_ z dH z) ⟨(cM (d_ (d_ (cM (cM (d_ (d_ (cr [g1] w0) h1:Chg (· ∈ [g1]) w0 H) h2:Chg (· ∈ [g1]) w0 O) G (mor h1.s:∀k∈[H.z],k∈[g1]∨w0.z<=k):Chg (· ∈ [g1]) w0 V) h3 (io sr):Chg (· ∈ [g1]) w0 I) sg:Chg (· ∈ [g1]) w0 cE) a6:Chg (· ∈ [g1]) w0 cH) cJ (mor lr:∀k∈[w0.z],k∈[g1]∨w0.z<=k):Chg (· ∈ [g1]) w0 dG),z,a0,ii z,iA _ _,(b7.e a6).c cJ<|djs cI⟩
 refine Wk<|Wm z<|R z (bP (parts:=[(0,.tmp 143),(1,.const<|.int .i64 0)]) (cs:=[vI cG,vI 0]) b_v z z) ?_
 have cK:=mmr<|Blk.lt hB1
 refine E0 (fs0 (cur':=[vI cG,vI 0]) y_ z z (((((h6.e h2).c G<|djs<|mmr h6.lt).c h3<|atp cK).e sg).e a6) z z z z) ?_;rintro _ dJ ⟨dK,dL⟩;have cL:=dL.one;refine Wn ?_;obtain rfl:=som<|ifF bn aK;exact Wr<|e_ hr (o_ a_3 y_ z dK z) ⟨(cM (d_ (d_ (cM (cM (d_ (d_ (cr [g1] w0) h1:Chg (· ∈ [g1]) w0 H) h2:Chg (· ∈ [g1]) w0 O) G (mor h1.s:∀k∈[H.z],k∈[g1]∨w0.z<=k):Chg (· ∈ [g1]) w0 V) h3 (io sr):Chg (· ∈ [g1]) w0 I) sg:Chg (· ∈ [g1]) w0 cE) a6:Chg (· ∈ [g1]) w0 cH) cL (mor lr:∀k∈[w0.z],k∈[g1]∨w0.z<=k):Chg (· ∈ [g1]) w0 dJ),z,dF,ii z,iA _ _,(b7.e a6).c cL<|djs cK⟩
theorem T_w18 (ih:e_d n):i_x (f_T n<|a_h n):=by
 obtain ⟨aO,_,_,_,_⟩:=ih
 constructor
 intro A0 A1 A3 A4 A2 A5 N0 C0 N1 C1 g1 N3 C3 N4 C4 N2 C2 N5 C5 B x1 x2 x3 res w0 hm hB1 V hBg a1 a2 aD bt bu bv bw bx bz a3 a4;unfold f_T at hm
 refine goG func87 z z z fun fn hr=>Ws<|E z (fb z) ?_
 rintro _ I ⟨rfl,aa⟩;have h6:=aa.below;have ab:Blk I w0.z (vR x2 A3 N3 C3 A4 N4 C4 A2 N2 C2 A5 N5 C5):=aa.blk;refine E z (fa b_4) ?_;rintro _ wr ⟨rfl,ad⟩;have he:=ad.below;have hn:Blk wr I.z [vI 0,vI 0]:=ad.blk;refine Wn<|Wm z<|Rf z M_ z ?_
 have ae:=ab.e he;refine R z (l0 w_ z<|ae.at z) ?_;obtain ⟨_,aP,aE⟩:=bdS hm;have ho:=(h6.ag B).e he;refine RX z (at_ (α:=Int) r_ z_3 z z z (a3.g ho) aP) ?_;rintro _ ⟨_,_,_,rfl,aQ,aR,_⟩;obtain ⟨rfl,aS⟩:=O_ aR;refine R z (l0 g_3 z<|aQ.at0 z)<|Rm z ?_
 have hj:=lt_ h6.s he.s;obtain ⟨af,rs,_,aT,aF⟩:=L_ aE;refine E z (fc call84 z<|g_C (B:=B) aT ((hB1.e h6).e he) (zt' V hj) hBg (a1.g ho) (a2.g ho) aD aS a4) ?_;rintro _ h ⟨H,rfl,aU,aV,aW,ah,ai⟩;refine Rm z<|Re z z z<|Re z z z<|E z (fa b_4) ?_
 rintro _ wu ⟨rfl,aj⟩;have L:=aj.below;refine Ra z<|E0 (fs0 (cur':=[vI rs.at_,vI rs.code]) y_ z z (aj.blk:Blk wu h.z [vI 0,vI 0]) z z z z) ?_
 rintro _ wg ⟨ak,aX⟩;have O:=aX.one;refine Wn<|Wq<|Wq ?_
 obtain ⟨aY,a5,a6⟩:=bdS aF;refine Wt (fun a w=>∃(xv:Bool),xv=aY/\Sat 46 [(0,pt g1),(2,vI x3),(4,pt w0.z),(6,pt I.z),(7,vI af),(8,pt h.z),(25,vB xv)] a/\Below wg.z wg w) ?_ ?_
 ·refine Wg<|Rf z c_h z<|R z (l0 g_3 z<|ak.at z)<|Rq z z z<|Rm z ?_
  rcases bs (rs.code==0) with J | J
  ·exact Rh z J (mv z)<|Rh z J (a_b z z)<|R z (pT z J z)<|Wl (fun _ q=>⟨decide<|40<af,som<|ifT a5 J,q.k<|s7 z z z z z z z,br wg⟩)
  exact Nh z J<|Nh z J<|R z (pF z J z)<|Wl (fun _ q=>⟨false,som<|ifF a5 J,q.k<|s7 z z z z z z z,br wg⟩)
 rintro aZ G ⟨xv,rfl,_,s4⟩;revert aZ;refine Wo<|Wc z (fun hcw=>?_) (fun hcw=>?_)
 ·refine Wm z<|R z (bP (parts:=[(0,.tmp 26),(1,.const<|.int .i64 6)]) (cs:=[vI x3,vI 6]) b_v z z) ?_
  have al:=mm1 (Blk.lt hB1) h6.s;refine E0 (fs0 (cur':=[vI x3,vI 6]) y_ z z ((((hn.c H<|atp al).e L).c O<|djs<|mm1 hn.lt H.s).e s4) z z z z) ?_;rintro _ b0 ⟨b1,b2⟩;have am:=b2.one;refine Wn ?_;obtain rfl:=som<|ifT a6 hcw;have an:=lt_ hj H.s;exact Wr<|e_ hr (o_ a_3 y_ z b1 z) ⟨(cM (d_ (cM (d_ (cM (d_ (d_ (cr [g1] w0) h6:Chg (· ∈ [g1]) w0 I) he:Chg (· ∈ [g1]) w0 wr) H (io sr):Chg (· ∈ [g1]) w0 h) L:Chg (· ∈ [g1]) w0 wu) O (mor an:∀k∈[h.z],k∈[g1]∨w0.z<=k):Chg (· ∈ [g1]) w0 wg) s4:Chg (· ∈ [g1]) w0 G) am (mor h6.s:∀k∈[I.z],k∈[g1]∨w0.z<=k):Chg (· ∈ [g1]) w0 b0),z,a4,ii z,ah,(((ai.e L).c O<|djs<|mm1 (Blk.lt hB1) an).e s4).c am<|djs al⟩
 refine Wk<|Wq ?_
 obtain ⟨_,aG,a7⟩:=bdS<|ifF a6 hcw;refine c_F (σ:=Int×Int×Int×Int) (ρ:=B_×Int) (fun s a w=>un4 (fun xa xf xb x5=>Sat 46 [(0,pt g1),(4,pt w0.z),(6,pt I.z),(7,vI xa),(8,pt h.z)] a/\Chg (· ∈ ([g1]++[h.z])) G w/\inI xa/\inI xf/\inI xb/\inI x5/\Blk w g1 [sl A0 N0 C0,sl A1 N1 C1,vI xf]/\Blk w h.z [vI xb,vI x5]) s) (fun s a w=>un4 (fun xa xf xb x5=>Sat 46 [(6,pt I.z),(8,pt h.z)] a/\Chg (· ∈ ([g1]++[h.z])) G w/\inI xa/\inI xf/\inI xb/\inI x5/\Blk w g1 [sl A0 N0 C0,sl A1 N1 C1,vI xf]/\Blk w h.z [vI xb,vI x5]) s) (rQ prog fn<|Q16 w0 g1 B A0 N0 C0 A1 N1 C1 x1) aG ?_ ?_ ?_ ?_
 ·exact fun _ q=>⟨q.k<|s5 z z z z z,cr ([g1]++[h.z]) G,aU,ah,aV,aW,((ai.e L).c O<|djs<|mm1 (Blk.lt hB1)<|lt_ hj H.s).e s4,ak.e s4⟩
 ·rintro ⟨xa,xf,xb,x5⟩ _ wh _ ⟨aH,sk,ao,hp,hq,hx,ht,hl⟩ aI;refine Wu ?_ aH;refine Wq<|Wq ?_
  obtain ⟨b3,a8,a9⟩:=bdS<|un4S aI;refine Wt (fun a w=>∃(xy:Bool),xy=b3/\Sat 46 [(0,pt g1),(4,pt w0.z),(6,pt I.z),(7,vI xa),(8,pt h.z),(34,vB xy)] a/\Below wh.z wh w) ?_ ?_
  ·refine Wg<|Rm z<|R z (a_b z z)<|Rm z ?_
   rcases bs (decide<|0<xa) with hcc | hcc
   ·exact Rh z hcc (fd c_h z)<|Rh z hcc (l0 g_3 z<|hl.at z)<|Rh z hcc (eql z z)<|R z (pT z hcc z)<|Wl (fun _ q=>⟨x5==0,som<|ifT a8 hcc,q.k<|s6 z z z z z z,br wh⟩)
   iterate 3 refine Nh z hcc ?_
   exact R z (pF z hcc z)<|Wl (fun _ q=>⟨false,som<|ifF a8 hcc,q.k<|s6 z z z z z z,br wh⟩)
  rintro b4 ap ⟨xy,rfl,_,sd⟩;revert b4;refine Wo<|Wc z (fun hcz=>?_) (fun hcz=>?_)
  ·refine Wk<|Wq<|Wb (Wd (X:=noX) 384 (pl_ 9 [7,8]) mo (by kernel_rfl) fun b5 si _=>dM z z z<|dR z z (fd M_ z) ?_)
   have aq:=mmr<|Blk.lt hB1
   have ar:=mm1 ab.lt<|lt_ he.s H.s
   refine dR z z (l0 w_ z<|(((((((ae.c H<|atp aq).e L).c O<|djs ar).e s4).c sk<|atp<|nmA aq<|ds ar).e sd).e si).at z) ?_;obtain ⟨_,b6,aJ⟩:=bdS<|ifT a9 hcz;have W:=lt_ hj H.s;have au:∀k∈[h.z],¬B k:=or0 (f_ lr)<|m_<|zt' V W;have Y:=((((((ho.c H<|c_<|f_ hBg).e L).c O<|c_ au).e s4).c sk<|nmA (c_<|f_ hBg)<|c_ au).e sd).e si;refine dRX z z (at_ (α:=Int) r_ z_3 z z z (a3.g Y) b6) ?_;rintro _ ⟨_,_,_,rfl,b7,b8,_⟩;obtain ⟨rfl,b9⟩:=O_ b8;refine dR z z (l0 g_3 z<|b7.at0 z)<|dR z z (fd c_1 z) ?_
   have av:=(hl.e sd).e si;refine dR z z (l0 g_3 z<|av.at z) ?_;obtain ⟨rm,ba,bb,aK⟩:=W_ aJ;refine dE z z (fc call62 z<|aO.run (B:=B) bb ((ht.e sd).e si) (zt' V<|lt_ (lt_ (lt_ (lt_ (lt_ (lt_ W L.s) O.s) s4.s) sk.s) sd.s) si.s) hBg (a1.g Y) (a2.g Y) hp b9 hq) (.inl z) ?_;rintro _ bc ⟨aw,rfl,be,bf,bg,bh⟩;have ax:=mm1 (Blk.lt hB1) W;refine dE0 z (fs0 (cur':=[vI rm.at_,vI rm.code]) y_ z z (av.c aw<|atp ax) z z z z) (.inl z) ?_;rintro _ bi ⟨bj,bk⟩;have ay:=bk.one;refine pD<|Wo<|Wg<|Rm z<|R z (sb_ z z)<|Ra z<|Wl ?_
   exact fun _ q=>⟨(K_ xa 1,ba,rm.at_,rm.code),(som aK).symm,⟨q.k<|s5 z z z z z,(cM (cM (d_ (d_ (cM (cr ([g1]++[h.z]) G) sk (aa_ (io<|a_u sr)<|io<|Z_ sr):Chg (· ∈ ([g1]++[h.z])) G wh) sd:Chg (· ∈ ([g1]++[h.z])) G ap) si:Chg (· ∈ ([g1]++[h.z])) G b5) aw (io<|a_u sr):Chg (· ∈ ([g1]++[h.z])) G bc) ay (io<|Z_ sr):Chg (· ∈ ([g1]++[h.z])) G bi),iS _ _,bg,be,bf,bh.c ay<|djs ax,bj⟩⟩
  exact We<|fun _ q=>b_u (som<|ifF a9 hcz).symm ⟨q.k<|s2 z z,(d_ (cM (cr ([g1]++[h.z]) G) sk (aa_ (io<|a_u sr)<|io<|Z_ sr):Chg (· ∈ ([g1]++[h.z])) G wh) sd:Chg (· ∈ ([g1]++[h.z])) G ap),ao,hp,hq,hx,ht.e sd,hl.e sd⟩
 ·rintro ⟨xa,xf,xb,x5⟩ bm bn rfl ⟨_,az,ao,hp,hq,hx,ht,hl⟩;have aL:=elL a7;revert bm;refine Wo<|Ws<|R z (lN (vs:=[vI xb,vI x5]) a_3 y_ z z fid<|hl.row 0 2 z) ?_
  have a0:=mm1 (Blk.lt hB1) h6.s;have aA:=mm1 hn.lt H.s;refine E0 (fs0 (cur':=[vI xb,vI x5]) y_ z z (((((hn.c H<|atp a0).e L).c O<|djs aA).e s4).c az<|atp<|nmA a0<|ds aA) z z z z) ?_;rintro _ bo ⟨bp,bq⟩;have aB:=bq.one;refine Wn ?_;obtain rfl:=som<|un4S aL;have aC:∀k∈[h.z],k∈[g1]∨w0.z<=k:=mor<|lt_ hj H.s;exact Wr<|e_ hr (o_ a_3 y_ z bp z) ⟨(cM (cM (d_ (cM (d_ (cM (d_ (d_ (cr [g1] w0) h6:Chg (· ∈ [g1]) w0 I) he:Chg (· ∈ [g1]) w0 wr) H (io sr):Chg (· ∈ [g1]) w0 h) L:Chg (· ∈ [g1]) w0 wu) O aC:Chg (· ∈ [g1]) w0 wg) s4:Chg (· ∈ [g1]) w0 G) az (aa_ (io sr) aC):Chg (· ∈ [g1]) w0 bn) aB (mor h6.s:∀k∈[I.z],k∈[g1]∨w0.z<=k):Chg (· ∈ [g1]) w0 bo),z,hq,hx,hp,ht.c aB<|djs a0⟩
 rintro _ _ _ _ rfl ⟨rfl,aM⟩;have aN:=elR a7;obtain rfl:=som aN;exact ⟨aM,z⟩
theorem T_w19 (ih:e_d n):i_y (f_U n<|a_h n):=by
 obtain ⟨ap,_,_,_,_⟩:=ih
 constructor
 intro A0 A1 A3 A4 A2 A5 N0 C0 N1 C1 g1 N3 C3 N4 C4 N2 C2 N5 C5 B x1 x2 x3 res w0 hm hB1 O hBg V W ad b1 b2 b3 b4 b5 L Y a0;unfold f_U at hm
 refine goG func88 z z z fun fn hr=>Ws<|E z (fb z) ?_
 rintro _ G ⟨rfl,hq⟩;have h1:=hq.below;have ht:Blk G w0.z (vR x2 A3 N3 C3 A4 N4 C4 A2 N2 C2 A5 N5 C5):=hq.blk;refine E z (fa b_4) ?_;rintro _ wc ⟨rfl,hu⟩;have h6:=hu.below;have J:Blk wc G.z [vI 0,vI 0]:=hu.blk;refine Wn<|Wm z<|Rf z M_ z ?_
 have hv:=ht.e h6;refine R z (l0 w_ z<|hv.at z) ?_;obtain ⟨_,aq,ae⟩:=bdS hm;have he:=(h1.ag B).e h6;refine RX z (at_ (α:=Int) r_ z_3 z z z (Y.g he) aq) ?_;rintro _ ⟨_,_,_,rfl,ar,au,_⟩;obtain ⟨rfl,av⟩:=O_ au;refine R z (l0 g_3 z<|ar.at0 z)<|Rm z ?_
 have hg:=lt_ h1.s h6.s;obtain ⟨aw,rb,_,ax,hmr⟩:=L_ ae;refine E z (fc call84 z<|g_C (B:=B) ax ((hB1.e h1).e h6) (zt' O hg) hBg (V.g he) (W.g he) ad av a0) ?_;rintro _ H ⟨h,rfl,_,hw,ay,hh,hi⟩;refine Rm z<|Re z z z<|Re z z z<|E z (fa b_4) ?_
 rintro _ wf ⟨rfl,hx⟩;have h2:=hx.below;refine Ra z<|E0 (fs0 (cur':=[vI rb.at_,vI rb.code]) y_ z z (hx.blk:Blk wf H.z [vI 0,vI 0]) z z z z) ?_
 rintro _ I ⟨hj,az⟩;have h3:=az.one;refine Wn<|Wq<|Ws<|Rf z c_h z<|R z (l0 g_3 z<|hj.at z)<|R z (nq z z)<|Wx z (fun hck=>?_) (fun hck=>?_)
 ·refine Ws<|R z (lN (vs:=[vI rb.at_,vI rb.code]) a_3 y_ z z fid<|hj.row 0 2 z) ?_
  have hy:=mm1 (Blk.lt hB1) h1.s;refine E0 (fs0 (cur':=[vI rb.at_,vI rb.code]) y_ z z (((J.c h<|atp hy).e h2).c h3<|djs<|mm1 J.lt h.s) z z z z) ?_;rintro _ aA ⟨aB,aC⟩;have hz:=aC.one;refine Wn ?_;obtain rfl:=som<|ifT hmr hck;have a2:=lt_ hg h.s;exact Wr<|e_ hr (o_ a_3 y_ z aB z) ⟨(cM (cM (d_ (cM (d_ (d_ (cr [g1] w0) h1:Chg (· ∈ [g1]) w0 G) h6:Chg (· ∈ [g1]) w0 wc) h (io sr):Chg (· ∈ [g1]) w0 H) h2:Chg (· ∈ [g1]) w0 wf) h3 (mor a2:∀k∈[H.z],k∈[g1]∨w0.z<=k):Chg (· ∈ [g1]) w0 I) hz (mor h1.s:∀k∈[G.z],k∈[g1]∨w0.z<=k):Chg (· ∈ [g1]) w0 aA),z,hw,ay,hh,((hi.e h2).c h3<|djs<|mm1 (Blk.lt hB1) a2).c hz<|djs hy⟩
 refine Wk<|Wq<|Ws<|Rf z a_D z ?_
 have a3:=((hv.c h<|atp<|mmr<|Blk.lt hB1).e h2).c h3<|djs<|mm1 ht.lt<|lt_ h6.s h.s
 refine R z (l0 w_ z<|a3.at z) ?_;have hd:=lt_ hg h.s;have a4:=((he.c h<|c_<|f_ hBg).e h2).c h3<|c_ (or0 (f_ lr) (m_<|zt' O hd):∀k∈[H.z],¬B k)
 refine R z (lnR r_ z<|L.g a4)<|Rm z<|Wn ?_
 obtain ⟨_,af,hms⟩:=bdS<|ifF hmr hck;refine Wf (σ:=Unit) (ρ:=B_×Int) (fun (a5:Nat)(_:Unit) a w=>Sat 49 [(0,pt g1),(2,vI x3),(4,pt w0.z),(6,pt G.z),(7,vI aw),(8,pt H.z),(26,sl A2 N2 C2),(27,vI (x2.tags.length:Int)),(28,vI ((a5:Nat):Int))] a/\Below I.z I w) (fun (_:Unit) a w=>Sat 49 [(2,vI x3),(6,pt G.z)] a/\Below I.z I w) (rQ prog fn<|Q16 w0 g1 B A0 N0 C0 A1 N1 C1 x1) af ?_ ?_ ?_ ?_ ?_
 ·exact fun _ q=>⟨q.k<|s9 z z z z z z z z z,br I⟩
 ·rintro a5 _ _ aD _ hkl ⟨ah,s8⟩ ai;refine Wu ?_ ah;refine Ws<|Rl z z z<|Wn<|Wq<|Wc z (fun _=>?_) (fun hc=>(X_ hkl hc).elim)
  refine Wk<|Wq<|Wb<|Wm z ?_
  obtain ⟨_,aE,a1⟩:=bdS ai;have a6:=a4.e s8;refine RX z (at_ (α:=Int) r_ z_3 z z z (L.g a6) aE) ?_;rintro _ ⟨_,_,_,rfl,aF,aG,_⟩;obtain ⟨rfl,_⟩:=O_ aG;refine R z (l0 g_3 z<|aF.at0 z)<|Ra z<|Rw z<|Wm z<|Rm z<|Rq z z z<|Wx z (fun hcm=>?_) (fun hcm=>?_)
  ·refine Wq (Wd (X:=noX) 1536 (pl_ 11 [9,10]) mo (by kernel_rfl) fun aH sa _=>dM z z z<|dR z z (fd M_ z)<|dR z z (l0 w_ z<|((a3.e s8).e sa).at z)<|dM z z z<|dR z z (inc_ hkl (lt_ (repS.len L) H_) z z) ?_);obtain ⟨_,aI,aj⟩:=bdS<|ifT a1 hcm;have hn:=a6.e sa;refine dRX z z (at_ (α:=Int) r_ z_3 z z z (Y.g hn) aI) ?_;rintro _ ⟨_,_,_,rfl,aJ,aK,_⟩;obtain ⟨rfl,aL⟩:=O_ aK;refine dR z z (l0 g_3 z<|aJ.at0 z)<|dR z z (fd c_1 z)<|dR z z (l0 g_3 z<|((hj.e s8).e sa).at z) ?_
   obtain ⟨a7,_,aM,ak⟩:=W_ aj;refine dE z z (fc call62 z<|ap.run (B:=B) aM ((((hi.e h2).c h3<|djs<|mm1 (Blk.lt hB1) hd).e s8).e sa) (zt' O<|lt_ (lt_ (lt_ (lt_ hd h2.s) h3.s) s8.s) sa.s) hBg (V.g hn) (W.g hn) hh aL hw) (.inl z) ?_;rintro _ aN ⟨a8,rfl,aO,aP,aQ,aR⟩;have ho:=mm1 (Blk.lt hB1) h1.s;refine dE0 z (fs0 (cur':=[vI a7.at_,vI a7.code]) y_ z z ((((((J.c h<|atp ho).e h2).c h3<|djs<|mm1 J.lt h.s).e s8).e sa).c a8<|atp ho) z z z z) (.inl z) ?_;rintro _ aS ⟨aT,aU⟩;have a9:=aU.one;refine pD<|Wo ?_
   exact Wr<|rtO<|qL (som ak).symm<|e_ hr (o_ a_3 y_ z aT z) ⟨(cM (cM (d_ (d_ (cM (d_ (cM (d_ (d_ (cr [g1] w0) h1:Chg (· ∈ [g1]) w0 G) h6:Chg (· ∈ [g1]) w0 wc) h (io sr):Chg (· ∈ [g1]) w0 H) h2:Chg (· ∈ [g1]) w0 wf) h3 (mor hd:∀k∈[H.z],k∈[g1]∨w0.z<=k):Chg (· ∈ [g1]) w0 I) s8:Chg (· ∈ [g1]) w0 aD) sa:Chg (· ∈ [g1]) w0 aH) a8 (io sr):Chg (· ∈ [g1]) w0 aN) a9 (mor h1.s:∀k∈[G.z],k∈[g1]∨w0.z<=k):Chg (· ∈ [g1]) w0 aS),z,aO,aP,aQ,aR.c a9<|djs ho⟩
  exact Wk<|Wg<|R z (inc_ hkl (lt_ (repS.len L) H_) z z)<|Rm z<|Wl (fun _ q=>⟨(),(som<|ifF a1 hcm).symm,⟨q.k<|s9 z z z z z z z z z,s8⟩⟩)
 ·rintro _ _ _ ⟨al,aV⟩;refine Wu ?_ al;refine Ws<|Rl z z z<|Wn<|Wq<|Wc z (fun hc=>(Y_ hc).elim) (fun _=>?_)
  exact We<|fun _ q=>⟨rfl,⟨q.k<|s2 z z,aV⟩⟩
 ·rintro _ aW aX rfl ⟨_,sp⟩;have am:=elL hms;revert aW;refine Wo<|Wm z<|R z (bP (parts:=[(0,.tmp 47),(1,.const<|.int .i64 3)]) (cs:=[vI x3,vI 3]) b_v z z) ?_
  have aa:=mm1 (Blk.lt hB1) h1.s;refine E0 (fs0 (cur':=[vI x3,vI 3]) y_ z z ((((J.c h<|atp aa).e h2).c h3<|djs<|mm1 J.lt h.s).e sp) z z z z) ?_;rintro _ aY ⟨aZ,b0⟩;have ab:=b0.one;refine Wn ?_;obtain rfl:=som am;exact Wr<|e_ hr (o_ a_3 y_ z aZ z) ⟨(cM (d_ (cM (d_ (cM (d_ (d_ (cr [g1] w0) h1:Chg (· ∈ [g1]) w0 G) h6:Chg (· ∈ [g1]) w0 wc) h (io sr):Chg (· ∈ [g1]) w0 H) h2:Chg (· ∈ [g1]) w0 wf) h3 (mor hd:∀k∈[H.z],k∈[g1]∨w0.z<=k):Chg (· ∈ [g1]) w0 I) sp:Chg (· ∈ [g1]) w0 aX) ab (mor h1.s:∀k∈[G.z],k∈[g1]∨w0.z<=k):Chg (· ∈ [g1]) w0 aY),z,a0,ii z,hh,(((hi.e h2).c h3<|djs<|mm1 (Blk.lt hB1) hd).e sp).c ab<|djs aa⟩
 rintro _ _ _ _ rfl ⟨rfl,an⟩;have ao:=elR hms;obtain rfl:=som ao;exact ⟨an,z⟩
theorem T_w1a (ih:e_d n):i_z (f_V n<|a_h n):=by
 obtain ⟨ae,_,_,_,_⟩:=ih
 constructor
 intro A0 A1 A3 A4 A2 A5 N0 C0 N1 C1 g1 N3 C3 N4 C4 N2 C2 N5 C5 B x1 x2 x3 res w0 hm hB1 O hBg Y V W aO aP aQ aR aS aT a8 a0;unfold f_V at hm
 refine goG func89 z z z fun fn hr=>Ws<|E z (fb z) ?_
 rintro _ I ⟨rfl,hq⟩;have h5:=hq.below;have ht:Blk I w0.z (vR x2 A3 N3 C3 A4 N4 C4 A2 N2 C2 A5 N5 C5):=hq.blk;refine E z (fa b_4) ?_;rintro _ we ⟨rfl,hu⟩;have J:=hu.below;have hc:Blk we I.z [vI 0,vI 0]:=hu.blk;refine Wn<|Wm z<|Rm z ?_
 have hf:=(hB1.e h5).e J;have hg:=(h5.ag B).e J;have hh:=lt_ h5.s J.s;obtain ⟨L,af,a9⟩:=bdS hm;refine E z (fc call86 z<|f_1 (B:=w0.z) af (a_E hh) (repS.mono (Y.g hg) O) (repS.mono (V.g hg) O) W (hf.row 0 3 z) (Blk.lt hB1) a0<|ii z) ?_;rintro _ H ⟨h,rfl,hv,ah⟩;refine E z (fa b_4) ?_;rintro _ wi ⟨rfl,hw⟩;have h2:=hw.below;refine E0 (fs0 (cur':=[vI L.at_,vI L.code]) y_ z z (hw.blk:Blk wi H.z [vI 0,vI 0]) z z z z) ?_;rintro _ wa ⟨hj,ai⟩;have h3:=ai.one;refine Wn<|Wq<|Wb<|Wq ?_
 obtain ⟨aj,hur,hms⟩:=bdS a9;refine Wt (fun a w=>∃(xk:Bool),xk=aj/\Sat 45 [(0,pt g1),(2,vI x3),(4,pt w0.z),(6,pt I.z),(7,pt H.z),(11,vB xk)] a/\Below wa.z wa w) ?_ ?_
 ·refine Wg<|Rf z c_h z<|R z (l0 g_3 z<|hj.at z)<|R z (nq z z)<|Rm z ?_
  rcases bs (L.code != 0) with G | G
  ·iterate 8 refine Nh z G ?_
   exact R z (pT z G z)<|Ra z<|Wl (fun _ q=>⟨true,som<|ifT hur G,q.k<|s6 z z z z z z,br wa⟩)
  refine Rh z G (mv z)<|Rh z G (I_ z)<|Rh z G (fd c_B z) ?_
  have hx:=lt_ hh h.s;refine Rh z G (l0 T_ z<|(((hf.e h).e h2).c h3<|djs<|mm1 (Blk.lt hB1) hx).at z)<|Rh z G (mv z) ?_
  obtain ⟨ak,al,aa⟩:=bdS<|ifF hur G;refine RXg z z G z (at_ (α:=UInt8) l_ z_5 z z z (V.g<|((hg.e h).e h2).c h3<|c_ (or0 (f_ lr) (m_<|zt' O hx):∀k∈[H.z],¬B k)) al) ?_;rintro _ ⟨_,_,_,rfl,am,an,_⟩;obtain rfl:=u8 an;exact Rh z G (l0 g_5 z<|am.at0 z)<|Rh z G (eql z z)<|R z (pF z G z)<|Ra z<|Wl (fun _ q=>⟨(byteI ak)==(byteI (0:UInt8)),som aa,q.k<|s6 z z z z z z,br wa⟩)
 rintro ao wl ⟨xk,rfl,_,s4⟩;revert ao;refine Wo<|Wc z (fun hcm=>?_) (fun hcm=>?_)
 ·refine Ws<|R z (lN (vs:=[vI L.at_,vI L.code]) a_3 y_ z z fid<|(hj.e s4).row 0 2 z)<|E0 (fs0 (cur':=[vI L.at_,vI L.code]) y_ z z ((((hc.e h).e h2).c h3<|djs<|mm1 hc.lt h.s).e s4) z z z z) ?_
  rintro _ ap ⟨aq,ar⟩;have hy:=ar.one;refine Wn ?_;obtain rfl:=som<|ifT hms hcm;have hz:=lt_ hh h.s;exact Wr<|rtO<|e_ hr (o_ a_3 y_ z aq z) ⟨(cM (d_ (cM (d_ (d_ (d_ (d_ (cr [g1] w0) h5:Chg (· ∈ [g1]) w0 I) J:Chg (· ∈ [g1]) w0 we) h:Chg (· ∈ [g1]) w0 H) h2:Chg (· ∈ [g1]) w0 wi) h3 (mor hz:∀k∈[H.z],k∈[g1]∨w0.z<=k):Chg (· ∈ [g1]) w0 wa) s4:Chg (· ∈ [g1]) w0 wl) hy (mor h5.s:∀k∈[I.z],k∈[g1]∨w0.z<=k):Chg (· ∈ [g1]) w0 ap),z,hv,ah,W,((((hf.e h).e h2).c h3<|djs<|mm1 (Blk.lt hB1) hz).e s4).c hy<|djs<|mm1 (Blk.lt hB1) h5.s⟩
 refine Wm z<|R z (I_ z)<|Rf z c_B z ?_
 have hd:=lt_ hh h.s;have hn:=(((hf.e h).e h2).c h3<|djs<|mm1 (Blk.lt hB1) hd).e s4;refine R z (l0 T_ z<|hn.at z)<|Rm z ?_
 obtain ⟨_,au,a1⟩:=bdS<|ifF hms hcm;have a2:=(((hg.e h).e h2).c h3<|c_ (or0 (f_ lr) (m_<|zt' O hd):∀k∈[H.z],¬B k)).e s4;refine RX z (at_ (α:=UInt8) l_ z_5 z z z (V.g a2) au) ?_;rintro _ ⟨_,_,_,rfl,av,aw,_⟩;obtain rfl:=u8 aw;refine R z (l0 g_5 z<|av.at0 z)<|R z (a_b z z)<|Rw z<|Wc z (fun hco=>?_) (fun hco=>?_)
 ·refine Wm z<|R z (bP (parts:=[(0,.tmp 35),(1,.const<|.int .i64 4)]) (cs:=[vI x3,vI 4]) b_v z z)<|E0 (fs0 (cur':=[vI x3,vI 4]) y_ z z ((((hc.e h).e h2).c h3<|djs<|mm1 hc.lt h.s).e s4) z z z z) ?_
  rintro _ ax ⟨ay,az⟩;have a3:=az.one;refine Wn ?_;obtain rfl:=som<|ifT a1 hco;exact Wr<|rtO<|e_ hr (o_ a_3 y_ z ay z) ⟨(cM (d_ (cM (d_ (d_ (d_ (d_ (cr [g1] w0) h5:Chg (· ∈ [g1]) w0 I) J:Chg (· ∈ [g1]) w0 we) h:Chg (· ∈ [g1]) w0 H) h2:Chg (· ∈ [g1]) w0 wi) h3 (mor hd:∀k∈[H.z],k∈[g1]∨w0.z<=k):Chg (· ∈ [g1]) w0 wa) s4:Chg (· ∈ [g1]) w0 wl) a3 (mor h5.s:∀k∈[I.z],k∈[g1]∨w0.z<=k):Chg (· ∈ [g1]) w0 ax),z,a0,ii z,W,hn.c a3<|djs<|mm1 (Blk.lt hB1) h5.s⟩
 refine Wk<|Wq (Wd (X:=noX) 384 (pl_ 9 [7,8]) mo (by kernel_rfl) fun aA sb _=>dM z z z<|dR z z (fd M_ z)<|dR z z (l0 w_ z<|((((((ht.e J).e h).e h2).c h3<|djs<|mm1 ht.lt<|lt_ J.s h.s).e s4).e sb).at z) ?_)
 obtain ⟨_,aB,ab⟩:=bdS<|ifF a1 hco;have hp:=a2.e sb;refine dRX z z (at_ (α:=Int) r_ z_3 z z z (a8.g hp) aB) ?_;rintro _ ⟨_,_,_,rfl,aC,aD,_⟩;obtain ⟨rfl,aE⟩:=O_ aD;refine dR z z (l0 g_3 z<|aC.at0 z)<|dR z z (fd c_1 z)<|dR z z (l0 g_3 z<|((hj.e s4).e sb).at z) ?_
 obtain ⟨a4,_,aF,ad⟩:=W_ ab;refine dE z z (fc call62 z<|ae.run (B:=B) aF (hn.e sb) (zt' O<|lt_ (lt_ (lt_ (lt_ hd h2.s) h3.s) s4.s) sb.s) hBg (Y.g hp) (V.g hp) W aE hv) (.inl z) ?_;rintro _ aG ⟨a5,rfl,aH,aI,aJ,aK⟩;have a6:=mm1 (Blk.lt hB1) h5.s;refine dE0 z (fs0 (cur':=[vI a4.at_,vI a4.code]) y_ z z ((((((hc.e h).e h2).c h3<|djs<|mm1 hc.lt h.s).e s4).e sb).c a5<|atp a6) z z z z) (.inl z) ?_;rintro _ aL ⟨aM,aN⟩;have a7:=aN.one;refine pD<|Wo ?_
 obtain rfl:=som ad;exact Wr<|e_ hr (o_ a_3 y_ z aM z) ⟨(cM (cM (d_ (d_ (cM (d_ (d_ (d_ (d_ (cr [g1] w0) h5:Chg (· ∈ [g1]) w0 I) J:Chg (· ∈ [g1]) w0 we) h:Chg (· ∈ [g1]) w0 H) h2:Chg (· ∈ [g1]) w0 wi) h3 (mor hd:∀k∈[H.z],k∈[g1]∨w0.z<=k):Chg (· ∈ [g1]) w0 wa) s4:Chg (· ∈ [g1]) w0 wl) sb:Chg (· ∈ [g1]) w0 aA) a5 (io sr):Chg (· ∈ [g1]) w0 aG) a7 (mor h5.s:∀k∈[I.z],k∈[g1]∨w0.z<=k):Chg (· ∈ [g1]) w0 aL),z,aH,aI,aJ,aK.c a7<|djs a6⟩
theorem T_w1b (ih:e_d n):i_A (f_W n<|a_h n):=by
 obtain ⟨aw,_,_,_,_⟩:=ih
 constructor
 intro A0 A1 A3 A4 A2 A5 N0 C0 N1 C1 g1 N3 C3 N4 C4 N2 C2 N5 C5 B x1 x2 x3 res w0 hm hB1 L hBg V O am b2 b3 b4 b5 b6 b7 an ao;unfold f_W at hm
 refine goG func90 z z z fun fn hr=>Ws<|E z (fb z) ?_
 rintro _ I ⟨rfl,a1⟩;have h4:=a1.below;refine E z (fa b_4) ?_;rintro _ wj ⟨rfl,a2⟩;have hd:=a2.below;have ha:Blk wj I.z [vI 0,vI 0]:=a2.blk;refine Wn<|Wm z<|Rf z M_ z<|R z (l0 w_ z<|((a1.blk:Blk I w0.z (vR x2 A3 N3 C3 A4 N4 C4 A2 N2 C2 A5 N5 C5)).e hd).at z) ?_
 obtain ⟨_,ax,ap⟩:=bdS hm;have hk:=(h4.ag B).e hd;refine RX z (at_ (α:=Int) r_ z_3 z z z (an.g hk) ax) ?_;rintro _ ⟨_,_,_,rfl,ay,az,_⟩;obtain ⟨rfl,aA⟩:=O_ az;refine R z (l0 g_3 z<|ay.at0 z)<|Rm z ?_
 have hq:=lt_ h4.s hd.s;obtain ⟨rb,_,aB,W⟩:=W_ ap;refine E z (fc call62 z<|aw.run (B:=B) aB ((hB1.e h4).e hd) (zt' L hq) hBg (V.g hk) (O.g hk) am aA ao) ?_;rintro _ J ⟨s2,rfl,ht,aC,hl,a3⟩;refine E z (fa b_4) ?_;rintro _ wm ⟨rfl,a4⟩;have h5:=a4.below;have hu:Blk wm J.z [vI 0,vI 0]:=a4.blk;refine E0 (fs0 (cur':=[vI rb.at_,vI rb.code]) y_ z z hu z z z z) ?_;rintro _ wr ⟨hh,aD⟩;have h3:=aD.one;refine Wn<|Wq<|Ws<|Rf z c_h z<|R z (l0 g_3 z<|hh.at z)<|R z (nq z z)<|Wx z (fun hcs=>?_) (fun hcs=>?_)
 ·refine Ws<|R z (lN (vs:=[vI rb.at_,vI rb.code]) a_3 y_ z z fid<|hh.row 0 2 z) ?_
  have a5:=mm1 (Blk.lt hB1) h4.s;refine E0 (fs0 (cur':=[vI rb.at_,vI rb.code]) y_ z z (((ha.c s2<|atp a5).e h5).c h3<|djs<|mm1 ha.lt s2.s) z z z z) ?_;rintro _ aE ⟨aF,aG⟩;have a6:=aG.one;refine Wn ?_;obtain rfl:=som<|ifT W hcs;have a7:=lt_ hq s2.s;exact Wr<|e_ hr (o_ a_3 y_ z aF z) ⟨(cM (cM (d_ (cM (d_ (d_ (cr [g1] w0) h4:Chg (· ∈ [g1]) w0 I) hd:Chg (· ∈ [g1]) w0 wj) s2 (io sr):Chg (· ∈ [g1]) w0 J) h5:Chg (· ∈ [g1]) w0 wm) h3 (mor a7:∀k∈[J.z],k∈[g1]∨w0.z<=k):Chg (· ∈ [g1]) w0 wr) a6 (mor h4.s:∀k∈[I.z],k∈[g1]∨w0.z<=k):Chg (· ∈ [g1]) w0 aE),z,ht,aC,hl,((a3.e h5).c h3<|djs<|mm1 (Blk.lt hB1) a7).c a6<|djs a5⟩
 refine Wk<|Wm z<|Rf z c_1 z<|R z (l0 g_3 z<|hh.at z) ?_
 have hi:=lt_ hq s2.s;have hn:=(a3.e h5).c h3<|djs<|mm1 (Blk.lt hB1) hi
 have hv:=((hk.c s2<|c_<|f_ hBg).e h5).c h3<|c_ (or0 (f_ lr) (m_<|zt' L hi):∀k∈[J.z],¬B k)
 have ho:=lt_ (lt_ hi h5.s) h3.s;obtain ⟨re,aH,aq⟩:=bdS<|ifF W hcs;refine E z (fc call86 z<|f_1 (B:=w0.z) aH (a_E ho) (repS.mono (V.g hv) L) (repS.mono (O.g hv) L) hl (hn.row 0 3 z) (Blk.lt hB1) ht<|ii z) ?_;rintro _ wf ⟨s1,rfl,aI,aJ⟩;refine E z (fa b_4) ?_;rintro _ ww ⟨rfl,a8⟩;have h6:=a8.below;refine E0 (fs0 (cur':=[vI re.at_,vI re.code]) y_ z z (a8.blk:Blk ww wf.z [vI 0,vI 0]) z z z z) ?_;rintro _ wp ⟨a9,aK⟩;have H:=aK.one;refine Wn<|Wq<|Wq ?_
 obtain ⟨aL,Y,a0⟩:=bdS aq;refine Wt (fun a w=>∃(xx:Bool),xx=aL/\Sat 52 [(6,pt I.z),(7,pt J.z),(8,pt wf.z),(47,vB xx)] a/\Below wp.z wp w) ?_ ?_
 ·refine Wd (X:=noX) 0 (pl_ 24 [21]) mo (by kernel_rfl) fun b8 sg _=>dR z z (fd c_h z)<|dR z z (l0 g_3 z<|(a9.e sg).at z)<|dR z z (eql z z)<|dM z z z ?_
  rcases bs (re.code==0) with G | G
  ·refine dRg z z z G z (mv z)<|dRg z z z G z (I_ z)<|dRg z z z G z (fd c_B z) ?_
   have hy:=lt_ ho s1.s;have aa:=(((hn.e s1).e h6).c H<|djs<|mm1 (Blk.lt hB1) hy).e sg;refine dRg z z z G z (l0 T_ z<|aa.at z)<|dRg z z z G z (fd c_1 z) ?_
   have ab:=(((hh.e s1).e h6).c H<|djs<|mm1 hu.lt<|lt_ h3.s s1.s).e sg;refine dRg z z z G z (l0 g_3 z<|ab.at z) ?_;obtain ⟨aM,aN,ar⟩:=bdS<|ifT Y G;have ad:=O.g<|(((hv.e s1).e h6).c H<|c_ (or0 (f_ lr) (m_<|zt' L hy):∀k∈[wf.z],¬B k)).e sg
   refine c_0 z z z G z (at_ (α:=UInt8) l_ z_5 z z z ad aN) ?_;rintro _ ⟨_,_,_,rfl,aO,aP,_⟩;obtain rfl:=u8 aP;refine dRg z z z G z (l0 g_5 z<|aO.at0 z)<|dRg z z z G z (c_c d_5 d_3 z)<|dRg z z z G z (mv z)<|dRg z z z G z (I_ z)<|dRg z z z G z (fd c_B z)<|dRg z z z G z (l0 T_ z<|aa.at z)<|dRg z z z G z (mv z)<|dRg z z z G z (fd c_1 z)<|dRg z z z G z (l0 g_3 z<|ab.at z) ?_
   obtain ⟨_,aQ,au⟩:=bdS ar;refine c_0 z z z G z (rX l_ z_5 z z ad z z aQ) ?_;rintro _ ⟨_,_,_,rfl,aR⟩;obtain ⟨aS,aT,av⟩:=bdS au;refine dEg z z z G z (fc call21 z<|i_v aT (zt' L<|lt_ (lt_ (lt_ hy h6.s) H.s) sg.s) aR) (.inr fun _ _ h=>F_<|h.1) ?_;rintro _ _ ⟨aU,rfl,_⟩;exact dRg z z z G z (nq z z)<|dR z z (pT z G z)<|pD (fun _ q=>⟨(byteI aM) != aS,som av,q.k<|s4 z z z z,bup sg aU⟩)
  iterate 17 refine dRn z z z G z ?_
  exact dEn z z z G z<|dRn z z z G z<|dR z z (pF z G z)<|pD (fun _ q=>⟨false,som<|ifF Y G,q.k<|s4 z z z z,sg⟩)
 rintro aV ae ⟨xx,rfl,_,sc⟩;revert aV;refine Wo<|Wc z (fun hcz=>?_) (fun hcz=>?_)
 ·refine Ws<|Rf z c_1 z<|R z (l0 g_3 z<|((((hh.e s1).e h6).c H<|djs<|mm1 hu.lt<|lt_ h3.s s1.s).e sc).at z)<|R z (bP (parts:=[(0,.tmp 49),(1,.const<|.int .i64 5)]) (cs:=[vI rb.at_,vI 5]) b_v z z) ?_
  have af:=mm1 (Blk.lt hB1) h4.s;refine E0 (fs0 (cur':=[vI rb.at_,vI 5]) y_ z z (((((((ha.c s2<|atp af).e h5).c h3<|djs<|mm1 ha.lt s2.s).e s1).e h6).c H<|djs<|mm1 ha.lt<|lt_ (lt_ (lt_ s2.s h5.s) h3.s) s1.s).e sc) z z z z) ?_;rintro _ aW ⟨aX,aY⟩;have ah:=aY.one;refine Wn ?_;obtain rfl:=som<|ifT a0 hcz;have ai:=lt_ ho s1.s;exact Wr<|e_ hr (o_ a_3 y_ z aX z) ⟨(cM (d_ (cM (d_ (d_ (cM (d_ (cM (d_ (d_ (cr [g1] w0) h4:Chg (· ∈ [g1]) w0 I) hd:Chg (· ∈ [g1]) w0 wj) s2 (io sr):Chg (· ∈ [g1]) w0 J) h5:Chg (· ∈ [g1]) w0 wm) h3 (mor hi:∀k∈[J.z],k∈[g1]∨w0.z<=k):Chg (· ∈ [g1]) w0 wr) s1:Chg (· ∈ [g1]) w0 wf) h6:Chg (· ∈ [g1]) w0 ww) H (mor ai:∀k∈[wf.z],k∈[g1]∨w0.z<=k):Chg (· ∈ [g1]) w0 wp) sc:Chg (· ∈ [g1]) w0 ae) ah (mor h4.s:∀k∈[I.z],k∈[g1]∨w0.z<=k):Chg (· ∈ [g1]) w0 aW),z,ht,ii z,hl,((((hn.e s1).e h6).c H<|djs<|mm1 (Blk.lt hB1) ai).e sc).c ah<|djs af⟩
 refine Wk<|Ws<|R z (lN (vs:=[vI re.at_,vI re.code]) a_3 y_ z z fid<|(a9.e sc).row 0 2 z) ?_
 have aj:=mm1 (Blk.lt hB1) h4.s;refine E0 (fs0 (cur':=[vI re.at_,vI re.code]) y_ z z (((((((ha.c s2<|atp aj).e h5).c h3<|djs<|mm1 ha.lt s2.s).e s1).e h6).c H<|djs<|mm1 ha.lt<|lt_ (lt_ (lt_ s2.s h5.s) h3.s) s1.s).e sc) z z z z) ?_;rintro _ aZ ⟨b0,b1⟩;have ak:=b1.one;refine Wn ?_;obtain rfl:=som<|ifF a0 hcz;have al:=lt_ ho s1.s;exact Wr<|e_ hr (o_ a_3 y_ z b0 z) ⟨(cM (d_ (cM (d_ (d_ (cM (d_ (cM (d_ (d_ (cr [g1] w0) h4:Chg (· ∈ [g1]) w0 I) hd:Chg (· ∈ [g1]) w0 wj) s2 (io sr):Chg (· ∈ [g1]) w0 J) h5:Chg (· ∈ [g1]) w0 wm) h3 (mor hi:∀k∈[J.z],k∈[g1]∨w0.z<=k):Chg (· ∈ [g1]) w0 wr) s1:Chg (· ∈ [g1]) w0 wf) h6:Chg (· ∈ [g1]) w0 ww) H (mor al:∀k∈[wf.z],k∈[g1]∨w0.z<=k):Chg (· ∈ [g1]) w0 wp) sc:Chg (· ∈ [g1]) w0 ae) ak (mor h4.s:∀k∈[I.z],k∈[g1]∨w0.z<=k):Chg (· ∈ [g1]) w0 aZ),z,aI,aJ,hl,((((hn.e s1).e h6).c H<|djs<|mm1 (Blk.lt hB1) al).e sc).c ak<|djs aj⟩
theorem c_j:∀n,e_d n
  | 0=>⟨⟨fun hm=>by intros;exact nomatch (show none=some _ from hm)⟩,⟨fun hm=>by intros;exact nomatch (show none=some _ from hm)⟩,⟨fun hm=>by intros;exact nomatch (show none=some _ from hm)⟩,⟨fun hm=>by intros;exact nomatch (show none=some _ from hm)⟩,⟨fun hm=>by intros;exact nomatch (show none=some _ from hm)⟩⟩
  | n+1=>⟨T_w03<|c_j n,T_w18<|c_j n,T_w19<|c_j n,T_w1a<|c_j n,T_w1b<|c_j n⟩
theorem W_w03:i_w (a_h n).impl_checker_value:=(c_j n).1
theorem W_w18:i_x (a_h n).impl_checker_array:=(c_j n).2.1
theorem W_w19:i_y (a_h n).impl_checker_choice:=(c_j n).2.2.1
theorem W_w1a:i_z (a_h n).impl_checker_option:=(c_j n).2.2.2.1
theorem W_w1b:i_A (a_h n).impl_checker_checked:=(c_j n).2.2.2.2
theorem g_D {x1:g_}{x2:Int}{x3:List UInt8}{x4:Int}{res:Int×Int}(hm:c_9 n x1 x2 x3 x4=some res)(I:B<=w0.z)(W:repS w0 B (sl A0 N0 C0) x1.rules)(Y:inI x2)(a0:repS w0 B (sl A7 N7 C7) x3)(a1:inI x4):j_ prog 45 [(.agg #[sl A0 N0 C0]),vI x2,sl A7 N7 C7,vI x4] w0 (Q11 w0 B res):=by
 unfold c_9 at hm
 refine goG func45 z z z fun fn hr=>Ws<|E z (fb z) ?_
 rintro _ L ⟨rfl,hb⟩;have h3:=hb.below;have hc:Blk L w0.z [sl A0 N0 C0]:=hb.blk;refine Ra z<|Rw z<|Wq<|Wq ?_
 obtain ⟨ur,hus,hmd⟩:=bdS hm;refine Wt (fun a w=>∃(O:Bool),O=ur/\Sat 43 [(1,vI x2),(2,sl A7 N7 C7),(3,vI x4),(4,pt w0.z),(30,vB O)] a/\Below L.z L w) ?_ ?_
 ·refine Wg<|R z (lN (vs:=[sl A0 N0 C0]) D_ C_ z z fid<|hc.row 0 1 z)<|Rm z ?_
  obtain ⟨rt,eu,hme⟩:=bdS hus;refine E z (fc call61 z<|i_u eu (zt' I h3.s) (W.e h3) Y) ?_;rintro _ _ ⟨s4,rfl⟩;refine R z (not_ z)<|Rm z ?_
  rcases bs (!rt) with G | G
  ·exact Nh z G<|Nh z G<|R z (pT z G z)<|Rm z<|Nh z z<|Nh z z<|Nh z z<|Nh z z<|R z (pT z z z)<|Rm z<|Nh z z<|Nh z z<|Nh z z<|R z (pT z z z)<|Wl (fun _ q=>⟨true,som<|ifT hme G,q.k<|s5 z z z z z,s4⟩)
  have hmf:=ifF hme G;refine Rh z G (mv z)<|Rh z G (lss z z)<|R z (pF z G z)<|Rm z ?_
  rcases bs (decide<|x4<0) with h | h
  ·iterate 4 refine Nh z h ?_
   exact R z (pT z h z)<|Rm z<|Nh z z<|Nh z z<|Nh z z<|R z (pT z z z)<|Wl (fun _ q=>⟨true,som<|ifT hmf h,q.k<|s5 z z z z z,s4⟩)
  have hmg:=ifF hmf h;refine Rh z h (mv z)<|Rh z h (mv z) ?_
  have hh:=a0.g<|(h3.ag B).e s4
  refine Rh z h (lnR l_ z hh)<|Rh z h (a_b z z)<|R z (pF z h z)<|Rm z ?_
  rcases bs (decide<|(x3.length:Int)<x4) with H | H
  ·iterate 3 refine Nh z H ?_
   exact R z (pT z H z)<|Wl (fun _ q=>⟨true,som<|ifT hmg H,q.k<|s5 z z z z z,s4⟩)
  exact Rh z H (mv z)<|Rh z H (lnR l_ z hh)<|Rh z H (a_b z z)<|R z (pF z H z)<|Wl (fun _ q=>⟨decide<|400<(x3.length:Int),som<|ifF hmg H,q.k<|s5 z z z z z,s4⟩)
 rintro av wi ⟨O,rfl,_,s6⟩;revert av;refine Wo<|Wc z (fun J=>?_) (fun J=>?_)
 ·refine Ws<|Ra z<|Rw z ?_
  obtain rfl:=som<|ifT hmd J;exact Wr<|a_o hr z z ⟨bup h3 s6,z,ii z,ii z⟩
 refine Wk<|Ws<|R z (lN (vs:=[sl A0 N0 C0]) D_ C_ z z fid<|(hc.e s6).row 0 1 z)<|Rm z<|R z (bP (parts:=[(0,.tmp 31),(1,.tmp 32)]) (cs:=[sl A0 N0 C0,sl A7 N7 C7,vI 0]) n_p z z)<|E z (fb z) ?_
 rintro _ ww ⟨rfl,hj⟩;have V:=hj.below;refine Rw z<|Wm z<|RM z z ?_
 have hk:=((h3.ag B).e s6).e V;have ha:=lt_ h3.s s6.s;have hl:=lt_ ha V.s;obtain ⟨rm,_,ez,a2⟩:=W_<|ifF hmd J;refine E z (fc call62 z<|W_w03.run (B:=B) ez (hj.blk:Blk ww wi.z [sl A0 N0 C0,sl A7 N7 C7,vI 0]) (zt' I hl) (atp (or0 (f_ lr) (m_<|zt' I ha):∀k∈[wi.z],¬B k)) (W.g hk) (a0.g hk) (ii z) Y a1) ?_;rintro _ a3 ⟨sn,rfl,a4,a5,_,_⟩;refine E z (fa b_4) ?_;rintro _ a6 ⟨rfl,ho⟩;refine E0 (fs0 (cur':=[vI rm.at_,vI rm.code]) y_ z z (ho.blk:Blk a6 a3.z [vI 0,vI 0]) z z z z) ?_;rintro _ _ ⟨a7,a8⟩;refine Wn<|Wq (Wd (X:=noX) 0 (pl_ 6 []) mo (by kernel_rfl) fun a9 sp _=>dR z z (fd c_1 z) ?_)
 have hq:=a7.e sp;refine dR z z (l0 g_3 z<|hq.at z)<|dR z z (fd c_h z)<|dR z z (l0 g_3 z<|hq.at z)<|dQ z z z<|dQ z z z<|pD<|Wo ?_
 obtain rfl:=som a2;exact Wr<|a_o hr z z ⟨bup (bM (bup (bM (bup (bup h3 s6) V) sn<|m1 ha) ho.below) a8.one<|m1<|lt_ hl sn.s) sp,z,a4,a5⟩
theorem W_w2j {x1:g_}{x2:List UInt8}{res:Int×Int}(hm:f_4 n x1 x2=some res)(Y:B<=w0.z)(V:repS w0 B (sl A0 N0 C0) x1.rules)(W:repS w0 B (sl A6 N6 C6) x2):j_ prog 28 [(.agg #[sl A0 N0 C0]),sl A6 N6 C6] w0 (Q11 w0 B res):=by
 unfold f_4 at hm
 refine goG func28 z z z fun fn hr=>Ws<|E z (fb z) ?_
 rintro _ wj ⟨rfl,hb⟩;have h3:=hb.below;refine Ra z<|Rw z<|Wq (Wd (X:=noX) 0 (.rd 0<|.rd 1<|.rd 3<|.ef 2<|.ef 4<|.rd 5<|.rd 6<|.rd 7<|.rd 8<|.rd 9 .done) mo (by kernel_rfl) fun ws s1 _=>?_)
 have hc:=(hb.blk:Blk wj w0.z [sl A0 N0 C0]).e s1;refine dR z z (lN (vs:=[sl A0 N0 C0]) D_ C_ z z fid<|hc.row 0 1 z)<|dR z z (lN (vs:=[sl A0 N0 C0]) D_ C_ z z fid<|hc.row 0 1 z)<|dM z z z ?_
 have hd:=(h3.ag B).e s1;have he:=lt_ h3.s s1.s;obtain ⟨_,el,hmm⟩:=bdS hm;refine dE z z (fc call29 z<|e_c el (zt' Y he)<|V.g hd) (.inr fun _ _ h=>F_<|h.1) ?_;rintro _ _ ⟨s4,rfl,hn⟩;have L:=hd.e s4;obtain ⟨I,H,eo,hmp⟩:=W_ hmm;refine dE z z (fc call45 z<|g_D eo (zt' Y<|lt_ he s4.s) (V.g L) hn (W.g L)<|ii z) (.inr fun _ _ h=>F_<|h.1) ?_;rintro _ J ⟨s8,rfl,hf,hq⟩;refine dM z z z<|dR z z (ext_ z z)<|dR z z (ext_ z z)<|dQ z z z<|dQ z z z<|pD<|Wo<|Wq<|Wq ?_
 obtain ⟨ur,hug,hmh⟩:=bdS hmp;refine Wt (fun a w=>∃(O:Bool),O=ur/\Sat 30 [(6,vI I),(7,vI H),(26,vB O)] a/\Below J.z J w) ?_ ?_
 ·refine Wg<|RM z z<|R z (bP (parts:=[(0,.tmp 16),(1,.tmp 17)]) (cs:=[vI I,vI H]) b_v z z)<|Rm z<|R z (lnR l_ z<|W.g<|L.e s8)<|R z (bP (parts:=[(0,.tmp 20),(1,.const<|.int .i64 0)]) (cs:=[vI (x2.length:Int),vI 0]) b_v z z)<|R z (m_n (a:=((⟨I,H⟩:B_):B_)) (b:=((⟨(x2.length:Int),0⟩:B_):B_)) eqa_85 z z)<|Rm z ?_
  rcases bs (!decide (((⟨I,H⟩:B_):B_)=((⟨(x2.length:Int),0⟩:B_):B_))) with G | G
  ·exact Rh z G (mv z)<|Rh z G (eql z z)<|R z (pT z G z)<|Wl (fun _ q=>⟨H==0,som<|ifT hug G,q.k<|s3 z z z,br J⟩)
  exact Nh z G<|Nh z G<|R z (pF z G z)<|Wl (fun _ q=>⟨false,som<|ifF hug G,q.k<|s3 z z z,br J⟩)
 rintro au _ ⟨O,rfl,_,si⟩;revert au;refine Wo<|Wc z (fun hca=>?_) (fun hca=>?_)
 ·refine Wm z<|Ra z<|Rw z ?_
  obtain rfl:=som<|ifT hmh hca;exact Wr<|a_o hr z z ⟨bup (bup (bup (bup h3 s1) s4) s8) si,z,hf,ii z⟩
 refine Wk<|Wm z<|Rm z<|Ra z<|Rw z ?_
 obtain rfl:=som<|ifF hmh hca;exact Wr<|a_o hr z z ⟨bup (bup (bup (bup h3 s1) s4) s8) si,z,hf,hq⟩
def Q17 (w0:World)(B:Zone)(r:Str)(v:Value)(w':World):Prop:=Bw w0 w'/\(fun h=>(Str.v h)=v/\h.b.length<=LEN) r
theorem W_w2k {x1:Int}{res:Str}(hm:h_z x1=some res)(G:B<=w0.z)(hG:Gl w0 B)(h:inI x1):j_ prog 92 [vI x1] w0 (Q17 w0 B res):=by
 unfold h_z at hm
 refine goG func92 z z z fun fn hr=>Ws<|Rw z<|Wm z ?_
 obtain ⟨_,I,H⟩:=bdS hm;refine E z (fc call114 z<|m_W (B:=B) I G hG h) ?_;rintro _ _ ⟨s2,rfl,h3⟩;refine Rw z ?_
 obtain rfl:=som H;exact Wr<|e_ hr z ⟨s2,z,h3⟩
theorem W_w2l {x1:g_}{x2:Int}{x3:Int}{res:Str}(hm:d_w n x1 x2 x3=some res)(I:B<=w0.z)(hG:Gl w0 B)(V:repS w0 B (sl A0 N0 C0) x1.rules)(ad:inI x2)(ae:inI x3):j_ prog 63 [(.agg #[sl A0 N0 C0]),vI x2,vI x3] w0 (Q17 w0 B res):=by
 unfold d_w at hm
 refine goG func63 z z z fun fn hr=>Ws<|E z (fb z) ?_
 rintro _ wb ⟨rfl,hn⟩;have h:=hn.below;have ho:Blk wb w0.z [sl A0 N0 C0]:=hn.blk;refine Rw z<|Wq<|Wq ?_
 obtain ⟨aj,af,hmp⟩:=bdS hm;refine Wt (fun a w=>∃(xc:Bool),xc=aj/\Sat 58 [(1,vI x2),(2,vI x3),(3,pt w0.z),(15,vB xc)] a/\Below wb.z wb w) ?_ ?_
 ·refine Wg<|R z (lN (vs:=[sl A0 N0 C0]) D_ C_ z z fid<|ho.row 0 1 z)<|Rm z ?_
  obtain ⟨ak,al,hmq⟩:=bdS af;refine E z (fc call61 z<|i_u al (zt' I h.s) (V.e h) ad) ?_;rintro _ _ ⟨sr,rfl⟩;refine R z (not_ z)<|Rm z ?_
  rcases bs (!ak) with H | H
  ·exact Nh z H<|Nh z H<|R z (pT z H z)<|Wl (fun _ q=>⟨true,som<|ifT hmq H,q.k<|s4 z z z z,sr⟩)
  exact Rh z H (mv z)<|Rh z H (lss z z)<|R z (pF z H z)<|Wl (fun _ q=>⟨decide<|x3<0,som<|ifF hmq H,q.k<|s4 z z z z,sr⟩)
 rintro am J ⟨xc,rfl,_,s1⟩;revert am;refine Wo<|Wc z (fun hcd=>?_) (fun hcd=>?_)
 ·refine Ws<|Rw z ?_
  obtain rfl:=som<|ifT hmp hcd;exact Wr<|e_ hr z ⟨bup h s1,z,lb z⟩
 refine Wk<|Ws<|Rf z a_9 z<|R z (l0 a_c z<|(ho.e s1).at z)<|Rm z ?_
 obtain ⟨O,an,hms⟩:=bdS<|ifF hmp hcd;refine RX z (at_ (α:=a_) Q_ n_ z z z (V.g<|(h.ag B).e s1) an) ?_;rintro _ ⟨_,_,_,rfl,ao,ap,_⟩;obtain ⟨au,nt,cv,aw,nx,cy,az,a4,a5,a6,a7,a8,rfl,_,_,_,_,a9,_,_⟩:=a_y ap;refine R z (lN (vs:=vR O au nt cv aw nx cy az a4 a5 a6 a7 a8) G_ n_ z z fid ao)<|E z (fa b_w) ?_
 rintro _ aq ⟨rfl,aa⟩;have h2:=aa.below;refine E0 (fs0 (cur':=vR O au nt cv aw nx cy az a4 a5 a6 a7 a8) n_ z z (aa.blk:Blk aq J.z [(Str.v (⟨[]⟩:Str)),vI 0,vI 0,vB false,sl none 0 0,sl none 0 0,sl none 0 0,sl none 0 0]) z z z z) ?_;rintro _ wa ⟨L,ar⟩;have h3:=ar.one;refine Wn<|Wq<|Wb<|Ws<|Rf z a_s z<|R z (l0 g_3 z<|L.at z)<|Rq z z z<|Rw z<|Wc z (fun hce=>?_) (fun hce=>?_)
 ·refine Wm z ?_
  have hf:=lt_ h.s s1.s;obtain ⟨_,av,ah⟩:=bdS<|ifT hms hce;refine E z (fc call92 z<|W_w2k av (zt' I<|lt_ (lt_ hf h2.s) h3.s) ((((hG.e h).e s1).e h2).c h3<|c_ (or0 (f_ lr) (m_<|zt' I hf):∀k∈[J.z],¬B k)) ae) ?_;rintro _ _ ⟨ax,rfl,ay⟩;refine Rw z ?_
  obtain rfl:=som ah;exact Wr<|rtO<|e_ hr z ⟨bup (bM (bup (bup h s1) h2) h3<|m1 hf) ax,z,ay⟩
 refine Wq ?_;obtain ⟨aA,W,Y⟩:=bdS<|ifF hms hce;refine Wt (fun a w=>∃(xg:Bool),xg=aA/\Sat 58 [(2,vI x3),(7,pt J.z),(27,vB xg)] a/\Below wa.z wa w) ?_ ?_
 ·refine Wg<|Rf z a_s z<|R z (l0 g_3 z<|L.at z)<|Rq z z z<|Rm z ?_
  rcases bs (O.kind==6) with G | G
  ·refine Rh z G (mv z)<|Rh z G (fd b_m z)<|Rh z G (l0 a_B z<|L.at z) ?_
   exact Rh z G (lnR a_0 z<|a9.g<|(h2.ag B).c h3<|c_ (or0 (f_ lr) (m_<|zt' I<|lt_ h.s s1.s):∀k∈[J.z],¬B k))<|Rh z G (lss z z)<|R z (pT z G z)<|Ra z<|Wl (fun _ q=>⟨decide<|x3<(O.names.length:Int),som<|ifT W G,q.k<|s3 z z z,br wa⟩)
  iterate 5 refine Nh z G ?_
  exact R z (pF z G z)<|Ra z<|Wl (fun _ q=>⟨false,som<|ifF W G,q.k<|s3 z z z,br wa⟩)
 rintro aB _ ⟨xg,rfl,_,s6⟩;revert aB;refine Wo<|Wc z (fun hch=>?_) (fun hch=>?_)
 ·refine Ws<|Rf z b_m z<|R z (l0 a_B z<|(L.e s6).at z)<|Rm z ?_
  obtain ⟨_,aC,ai⟩:=bdS<|ifT Y hch;have ab:=lt_ h.s s1.s;refine RX z (at_ (α:=Str) a_0 z_9 z z z (a9.g<|((h2.ag B).c h3<|c_ (or0 (f_ lr) (m_<|zt' I ab):∀k∈[J.z],¬B k)).e s6) aC) ?_;rintro _ ⟨_,_,_,rfl,aD,aE,_⟩;obtain ⟨rfl,aF⟩:=b_s aE;refine R z (l0 g_9 z<|aD.at0 z)<|Rw z ?_
  obtain rfl:=som ai;exact Wr<|rtO<|e_ hr z ⟨bup (bM (bup (bup h s1) h2) h3<|m1 ab) s6,z,aF⟩
 have a0:=ifF Y hch;refine Wm z<|R z (a_b z z)<|Rw z<|Wc z (fun hci=>?_) (fun hci=>?_)
 ·refine Ws<|Rw z ?_
  obtain rfl:=som<|ifT a0 hci;exact Wr<|rtO<|e_ hr z ⟨bup (bM (bup (bup h s1) h2) h3<|m1<|lt_ h.s s1.s) s6,z,lb z⟩
 have a1:=ifF a0 hci;refine Ws<|Rf z a_s z ?_
 have hj:=L.e s6;refine R z (l0 g_3 z<|hj.at z)<|Rq z z z<|Rw z<|Wc z (fun hck=>?_) (fun hck=>?_)
 ·refine Ws<|Rw z ?_
  obtain rfl:=som<|ifT a1 hck;exact Wr<|rtO<|e_ hr z ⟨bup (bM (bup (bup h s1) h2) h3<|m1<|lt_ h.s s1.s) s6,z,lb z⟩
 have a2:=ifF a1 hck;refine Ws<|Rf z a_s z<|R z (l0 g_3 z<|hj.at z)<|Rq z z z<|Rw z<|Wc z (fun hcl=>?_) (fun hcl=>?_)
 ·refine Ws<|Rw z ?_
  obtain rfl:=som<|ifT a2 hcl;exact Wr<|rtO<|e_ hr z ⟨bup (bM (bup (bup h s1) h2) h3<|m1<|lt_ h.s s1.s) s6,z,lb z⟩
 have a3:=ifF a2 hcl;refine Ws<|Rf z a_s z<|R z (l0 g_3 z<|hj.at z)<|Rq z z z<|Rw z<|Wc z (fun hcm=>?_) (fun hcm=>?_)
 ·refine Ws<|Rw z ?_
  obtain rfl:=som<|ifT a3 hcm;exact Wr<|rtO<|e_ hr z ⟨bup (bM (bup (bup h s1) h2) h3<|m1<|lt_ h.s s1.s) s6,z,lb z⟩
 refine Wk<|Ws<|Rw z ?_
 obtain rfl:=som<|ifF a3 hcm;exact Wr<|e_ hr z ⟨bup (bM (bup (bup h s1) h2) h3<|m1<|lt_ h.s s1.s) s6,z,lb z⟩
theorem W_w2m {x1:Int}{x2:Int}{h G:Nat}{res:Bool}(hm:g_Q x1 x2=some res)(O:B<=w0.z)(I:inI x1)(J:inI x2)(H:N_ w0 h G [vI x2])(L:B h):j_ prog 49 [vI x1,(.pointer<|some ⟨h,G,none⟩)] w0 (Q7 w0 B res):=by
 unfold g_Q at hm
 refine goG func49 z z z fun fn hr=>Ws<|Rw z<|Wm z<|R z (l0 g_3 z<|H.at0 z)<|Rq z z z<|Rw z ?_
 obtain rfl:=som hm;exact Wr<|e_ hr z ⟨br w0,z⟩
theorem W_w2n {x1:List Int}{I:Int}{G J:Nat}{res:Int}(hm:f_5 x1 I=some res)(a1:B<=w0.z)(H:repS w0 B (sl A0 N0 C0) x1)(p2c0_0:inI I)(a0:N_ w0 G J [vI I])(Y:B G):j_ prog 48 [sl A0 N0 C0,(.func (.func 49) #[] #[(.pointer<|some ⟨G,J,none⟩)])] w0 (Q0 w0 B res):=by
 unfold f_5 at hm
 refine goG func48 z z z fun fn hr=>Ws<|Rw z<|Wq<|Wm z<|R z (lnR r_ z H)<|Rm z<|Wn ?_
 obtain ⟨_,a2,V⟩:=bdS hm;refine Wf (σ:=Unit) (ρ:=Int) (fun (k4:Nat)(_:Unit) a w=>Sat 19 [(1,.func (.func 49) #[] #[(.pointer<|some ⟨G,J,none⟩)]),(7,sl A0 N0 C0),(8,vI (x1.length:Int)),(9,vI ((k4:Nat):Int))] a/\Below w0.z w0 w) (fun (_:Unit) a w=>Sat 19 [] a/\Below w0.z w0 w) (rQ prog fn<|Q0 w0 B) a2 ?_ ?_ ?_ ?_ ?_
 ·exact fun _ q=>⟨q.k<|s4 z z z z,br w0⟩
 ·rintro k4 _ _ _ _ L ⟨a3,h⟩ a4;refine Wu ?_ a3;refine Ws<|Rl z z z<|Wn<|Wq<|Wc z (fun _=>?_) (fun hc=>(X_ L hc).elim)
  refine Wk<|Wq<|Wb<|Wm z ?_
  obtain ⟨_,ea,hmb⟩:=bdS a4;refine RX z (at_ (α:=Int) r_ z_3 z z z (H.e h) ea) ?_;rintro _ ⟨_,_,_,rfl,hd,he,_⟩;obtain ⟨rfl,hf⟩:=O_ he;refine R z (l0 g_3 z<|hd.at0 z)<|Ra z<|Rw z<|Wm z<|Rm z ?_
  obtain ⟨_,ec,W⟩:=bdS hmb;refine E z (h_J call49 z z<|W_w2m ec (zt' a1 h.s) hf p2c0_0 (a0.e h) Y) ?_;rintro _ _ ⟨s6,rfl⟩;refine Wx z (fun O=>?_) (fun O=>?_)
  ·exact Wm z<|Rw z<|Wr<|rtO<|qL (som<|ifT W O).symm<|e_ hr z ⟨bup h s6,z,ic (Nat.le_of_lt L)<|lt_ (repS.len H) H_⟩
  exact Wk<|Wg<|R z (inc_ L (lt_ (repS.len H) H_) z z)<|Rm z<|Wl (fun _ q=>⟨(),(som<|ifF W O).symm,⟨q.k<|s4 z z z z,bup h s6⟩⟩)
 ·rintro _ _ _ ⟨hSg,sh⟩;refine Wu ?_ hSg;refine Ws<|Rl z z z<|Wn<|Wq<|Wc z (fun hc=>(Y_ hc).elim) (fun _=>?_)
  exact We<|fun _ q=>⟨rfl,⟨q.k sn,sh⟩⟩
 ·rintro _ ai _ rfl ⟨_,sj⟩;have hmk:=elL V;revert ai;refine Wo<|Ws<|Rw z ?_
  obtain rfl:=som hmk;exact Wr<|e_ hr z ⟨sj,z,ii z⟩
 rintro _ _ _ _ rfl ⟨rfl,hql⟩;have hmm:=elR V;obtain rfl:=som hmm;exact ⟨hql,z⟩
def Q18 (w0:World)(g1:Nat)(B:Zone)(A0:Option Addr)(N0 C0:Nat)(A1:Option Addr)(N1 C1:Nat)(x1:b_3)(r:Str×Int)(v:Value)(w':World):Prop:=Chg (· ∈ [g1]) w0 w'/\un2 (fun h G=>v = .tuple #[]/\h.b.length<=LEN/\inI G/\Blk w' g1 [sl A0 N0 C0,sl A1 N1 C1,Str.v h,vI G]) r
def Q19 (w0:World)(g1:Nat)(B:Zone)(A0:Option Addr)(N0 C0:Nat)(A1:Option Addr)(N1 C1:Nat)(x1:b_3)(r:Int×Bool×Str×Int)(v:Value)(w':World):Prop:=Chg (· ∈ [g1]) w0 w'/\un4 (fun h I G H=>v = .tuple #[vI h,vB I]/\inI h/\G.b.length<=LEN/\inI H/\Blk w' g1 [sl A0 N0 C0,sl A1 N1 C1,Str.v G,vI H]) r
structure i_B (f:b_3->Str->Int->Int->Option (Str×Int)):Prop where
  run:∀{A0 A1:Option Addr}{N0 C0 N1 C1 g1:Nat}{B:Zone}{x1:b_3}{x2:Str}{x3:Int}{x4:Int}{res:Str×Int}{w0:World}(hm:f x1 x2 x3 x4=some res)(hB1:Blk w0 g1 [sl A0 N0 C0,sl A1 N1 C1,Str.v x1.path,vI x1.rule])(hBw:B<=w0.z)(hBg:¬B g1)(hG:Gl w0 B)(p1_0:repS w0 B (sl A0 N0 C0) x1.d.rules)(p1_1:repS w0 B (sl A1 N1 C1) x1.b)(p1_2:x1.path.b.length<=LEN)(p1_3:inI x1.rule)(p2_0:x2.b.length<=LEN)(p3_0:inI x3)(p4_0:inI x4),j_ prog 30 [pt g1,Str.v x2,vI x3,vI x4] w0<|Q18 w0 g1 B A0 N0 C0 A1 N1 C1 x1 res
structure i_C (f:b_3->Str->Int->(List Int)->Int->Option (Int×Bool×Str×Int)):Prop where
  run:∀{A0 A1 AE:Option Addr}{N0 C0 N1 C1 g1 NE CE:Nat}{B:Zone}{x1:b_3}{x2:Str}{x3:Int}{x4:List Int}{x5:Int}{res:Int×Bool×Str×Int}{w0:World}(hm:f x1 x2 x3 x4 x5=some res)(hB1:Blk w0 g1 [sl A0 N0 C0,sl A1 N1 C1,Str.v x1.path,vI x1.rule])(hBw:B<=w0.z)(hBg:¬B g1)(hG:Gl w0 B)(p1_0:repS w0 B (sl A0 N0 C0) x1.d.rules)(p1_1:repS w0 B (sl A1 N1 C1) x1.b)(p1_2:x1.path.b.length<=LEN)(p1_3:inI x1.rule)(p2_0:x2.b.length<=LEN)(p3_0:inI x3)(p4_0:repS w0 B (sl AE NE CE) x4)(p5_0:inI x5),j_ prog 46 [pt g1,Str.v x2,vI x3,sl AE NE CE,vI x5] w0<|Q19 w0 g1 B A0 N0 C0 A1 N1 C1 x1 res
abbrev i_D (n:Nat):Prop:=i_B (a_t n).impl_tracer_part/\i_C (a_t n).impl_tracer_kids
theorem T_w07 (ih:i_D n):i_B (d_H n<|a_t n):=by
 obtain ⟨_,ae⟩:=ih
 constructor
 intro A0 A1 N0 C0 N1 C1 g1 B x1 x2 x3 x4 res w0 hm hB1 V hBg hG a0 a1 f8 f9 W Y aY;unfold d_H at hm
 refine goG func30 z z z fun fn hr=>Wm z<|RM z z<|Rm z<|R z (I_ z)<|Rf z k_0 z<|E0 (fs0 (cur':=[sl A0 N0 C0,sl A1 N1 C1,Str.v x2,vI x1.rule]) z_9 z z hB1 z z z z) ?_
 rintro _ aL ⟨cW,cX⟩;have L:=cX.one;refine R z (I_ z)<|Rf z k_1 z<|E0 (fs0 (cur':=[sl A0 N0 C0,sl A1 N1 C1,Str.v x2,vI x3]) z_3 z z cW z z z z) ?_
 rintro _ J ⟨hl,cY⟩;have O:=cY.one;refine Wn<|Wm z<|R z (I_ z)<|Rf z e_X z<|Rf z a_9 z<|R z (l0 a_c z<|hl.at z)<|Rm z ?_
 obtain ⟨xm,cZ,c3⟩:=bdS hm;have hu:=(L.agc B<|c_<|f_ hBg).c O<|c_<|f_ hBg
 refine RX z (at_ (α:=a_) Q_ n_ z z z (a0.g hu) cZ) ?_;rintro _ ⟨_,_,_,rfl,d0,d1,_⟩;obtain ⟨bf,bg,bh,bi,bj,bk,bm,bn,bo,bp,bq,bt,rfl,_,_,_,_,_,d2,hq⟩:=a_y d1;refine R z (lN (vs:=vR xm bf bg bh bi bj bk bm bn bo bp bq bt) G_ n_ z z fid d0)<|E z (fa b_w) ?_
 rintro _ af ⟨rfl,bu⟩;have h4:=bu.below;have bv:Blk af J.z [(Str.v (⟨[]⟩:Str)),vI 0,vI 0,vB false,sl none 0 0,sl none 0 0,sl none 0 0,sl none 0 0]:=bu.blk;refine E0 (fs0 (cur':=vR xm bf bg bh bi bj bk bm bn bo bp bq bt) n_ z z bv z z z z) ?_;rintro _ wn ⟨ah,d3⟩;have h3:=d3.one;refine Wn<|Ws<|Rf z a_s z<|R z (l0 g_3 z<|ah.at z)<|Wn<|Wb<|Wq<|Ws<|Rq z z z<|Rw z ?_
 obtain ⟨d4,aZ,c4⟩:=bdS c3;refine Wt (fun a w=>∃(aM:Bool),aM=d4/\Sat 156 [(0,pt g1),(1,Str.v x2),(2,vI x3),(3,vI x4),(8,pt J.z),(32,vI xm.kind),(33,vB aM)] a/\Below wn.z wn w) ?_ ?_
 ·refine Wc z (fun aB=>?_)<|fun aB=>?_
  ·exact a_q<|fun _ q=>⟨xm.kind==6,som<|ifT aZ aB,q.k<|s7 z z z z z z z,br wn⟩
  exact Wg<|Rq z z z<|Ra z<|Wl (fun _ q=>⟨xm.kind==9,som<|ifF aZ aB,q.k<|s7 z z z z z z z,br wn⟩)
 rintro d5 I ⟨aM,rfl,_,H⟩;revert d5;refine Wo ?_;obtain ⟨d6,b0,aa⟩:=bdS c4;refine Wt (fun a w=>∃(ai:Str)(aj:Int),Sum.inl (ai,aj)=d6/\Sat 156 [] a/\Chg (· ∈ [g1]) I w/\ai.b.length<=LEN/\inI aj/\Blk w g1 [sl A0 N0 C0,sl A1 N1 C1,Str.v ai,vI aj]) ?_ ?_
 ·refine Wc z (fun aC=>?_)<|fun aC=>?_
  ·refine Wg<|RM z z<|Rm z<|Rf z M_ z<|R z (l0 w_ z<|(ah.e H).at z)<|Rm z ?_
   have aN:=lt_ L.s O.s;have aO:∀k∈[J.z],¬B k:=or0 (f_ lr)<|m_<|zt' V aN;have bw:=((hu.e h4).c h3<|c_ aO).e H;obtain ⟨_,_,d7,d8,d9,c5⟩:=bd4S<|ifT b0 aC;refine E z (fc call46 z<|ae.run (B:=B) d9 (((hl.e h4).c h3<|djs<|mm1 (Blk.lt hB1) aN).e H) (zt' V<|lt_ (lt_ (lt_ aN h4.s) h3.s) H.s) hBg (((((hG.c L<|c_<|f_ hBg).c O<|c_<|f_ hBg).e h4).c h3<|c_ aO).e H) (a0.g bw) (a1.g bw) W Y W Y (hq.g<|((h4.ag B).c h3<|c_ aO).e H) aY) ?_;rintro _ da ⟨db,rfl,_,dc,dd,de⟩;refine Wl ?_;exact fun _ q=>⟨d7,d8,som c5,q.k sn,(cM (cr [g1] I) db (io sr):Chg (· ∈ [g1]) I da),dc,dd,de⟩
  refine Ws<|Rq z z z<|Rw z ?_
  obtain ⟨df,b1,ab⟩:=bdS<|ifF b0 aC;refine Wt (fun a w=>∃(xs:Str)(xv:Int),Sum.inl (xs,xv)=df/\Sat 156 [] a/\Chg (· ∈ [g1]) I w/\xs.b.length<=LEN/\inI xv/\Blk w g1 [sl A0 N0 C0,sl A1 N1 C1,Str.v xs,vI xv]) ?_ ?_
  ·refine Wc z (fun aD=>?_)<|fun aD=>?_
   ·refine Wq ?_;obtain ⟨dg,b2,c6⟩:=bdS<|ifT b1 aD;refine Wt (fun a w=>∃(aP:Bool),aP=dg/\Sat 156 [(0,pt g1),(1,Str.v x2),(2,vI x3),(3,vI x4),(8,pt J.z),(61,vB aP)] a/\Below I.z I w) ?_ ?_
    ·refine Wg<|RM z z<|R z (I_ z)<|Rf z e_Y z ?_
     have bx:=lt_ L.s O.s;have bz:=((hl.e h4).c h3<|djs<|mm1 (Blk.lt hB1) bx).e H;refine R z (l0 T_ z<|bz.at z) ?_;have bA:=a1.g<|((hu.e h4).c h3<|c_ (or0 (f_ lr) (m_<|zt' V bx):∀k∈[J.z],¬B k)).e H
     refine R z (lnR l_ z bA)<|Rl z z z<|Rm z ?_
     rcases bs (decide<|x4<(x1.b.length:Int)) with hca | hca
     ·refine Rh z hca (mv z)<|Rh z hca (I_ z)<|Rh z hca (fd e_Y z)<|Rh z hca (l0 T_ z<|bz.at z)<|Rh z hca (mv z) ?_
      obtain ⟨dh,di,c7⟩:=bdS<|ifT b2 hca;refine RXg z z hca z (at_ (α:=UInt8) l_ z_5 z z z bA di) ?_;rintro _ ⟨_,_,_,rfl,dj,dk,_⟩;obtain rfl:=u8 dk;exact Rh z hca (l0 g_5 z<|dj.at0 z)<|Rh z hca (eql z z)<|R z (pT z hca z)<|Wl (fun _ q=>⟨(byteI dh)==(byteI (1:UInt8)),som c7,q.k<|s6 z z z z z z,br I⟩)
     iterate 8 refine Nh z hca ?_
     exact R z (pF z hca z)<|Wl (fun _ q=>⟨false,som<|ifF b2 hca,q.k<|s6 z z z z z z,br I⟩)
    rintro dl ww ⟨aP,rfl,_,sh⟩;revert dl;refine Wo ?_;obtain ⟨dm,b3,c8⟩:=bdS c6;refine Wt (fun a w=>∃(xx:Str)(xy:Int),(xx,xy)=dm/\Sat 156 [] a/\Chg (· ∈ [g1]) ww w/\xx.b.length<=LEN/\inI xy/\Blk w g1 [sl A0 N0 C0,sl A1 N1 C1,Str.v xx,vI xy]) ?_ ?_
    ·refine Wc z (fun aE=>?_)<|fun aE=>?_
     ·refine Wg<|RM z z<|Rm z<|Rf z M_ z<|R z (l0 w_ z<|((ah.e H).e sh).at z)<|Rm z<|R z (add_ z z) ?_
      have aQ:=lt_ L.s O.s;have aR:∀k∈[J.z],¬B k:=or0 (f_ lr)<|m_<|zt' V aQ;have bB:=(((hu.e h4).c h3<|c_ aR).e H).e sh;obtain ⟨_,_,dn,dp,dq,c9⟩:=bd4S<|ifT b3 aE;refine E z (fc call46 z<|ae.run (B:=B) dq ((((hl.e h4).c h3<|djs<|mm1 (Blk.lt hB1) aQ).e H).e sh) (zt' V<|lt_ (lt_ (lt_ (lt_ aQ h4.s) h3.s) H.s) sh.s) hBg ((((((hG.c L<|c_<|f_ hBg).c O<|c_<|f_ hBg).e h4).c h3<|c_ aR).e H).e sh) (a0.g bB) (a1.g bB) W Y W Y (hq.g<|(((h4.ag B).c h3<|c_ aR).e H).e sh)<|iA _ _) ?_;rintro _ dr ⟨ds,rfl,_,dt,du,dv⟩;refine Wl ?_;exact fun _ q=>⟨dn,dp,som c9,q.k sn,(cM (cr [g1] ww) ds (io sr):Chg (· ∈ [g1]) ww dr),dt,du,dv⟩
     exact a_q<|fun _ q=>⟨x2,x3,som<|ifF b3 aE,q.k sn,cr [g1] ww,W,Y,(((hl.e h4).c h3<|djs<|mm1 (Blk.lt hB1)<|lt_ L.s O.s).e H).e sh⟩
    rintro dw dx ⟨xx,xy,rfl,_,dy,dz,dA,dB⟩;revert dw;exact fun _ q=>⟨xx,xy,som<|a_H c8,q.k sn,(cM (d_ (cr [g1] I) sh:Chg (· ∈ [g1]) I ww) dy (io sr):Chg (· ∈ [g1]) I dx),dz,dA,dB⟩
   refine Wq<|Ws<|Rq z z z<|Rw z ?_
   obtain ⟨dC,b4,ca⟩:=bdS<|ifF b1 aD;refine Wt (fun a w=>∃(aS:Bool),aS=dC/\Sat 156 [(0,pt g1),(1,Str.v x2),(2,vI x3),(3,vI x4),(8,pt J.z),(70,vB aS)] a/\Below I.z I w) ?_ ?_
   ·refine Wc z (fun aF=>?_)<|fun aF=>?_
    ·exact a_q<|fun _ q=>⟨xm.kind==5,som<|ifT b4 aF,q.k<|s6 z z z z z z,br I⟩
    exact Wg<|Rq z z z<|Ra z<|Wl (fun _ q=>⟨xm.kind==7,som<|ifF b4 aF,q.k<|s6 z z z z z z,br I⟩)
   rintro dD wf ⟨aS,rfl,_,sd⟩;revert dD;refine Wo ?_;obtain ⟨dF,b5,ad⟩:=bdS ca;refine Wt (fun a w=>∃(xz:Str)(a2:Int),Sum.inl (xz,a2)=dF/\Sat 156 [] a/\Chg (· ∈ [g1]) wf w/\xz.b.length<=LEN/\inI a2/\Blk w g1 [sl A0 N0 C0,sl A1 N1 C1,Str.v xz,vI a2]) ?_ ?_
   ·refine Wc z (fun aG=>?_)<|fun aG=>?_
    ·refine Wq (Wd (X:=noX) 0 (pl_ 19 [13]) mo (by kernel_rfl) fun aT se _=>dM z z z<|dR z z (I_ z)<|dR z z (fd e_X z) ?_);have a3:=lt_ L.s O.s;have hi:=((((hl.e h4).c h3<|djs<|mm1 (Blk.lt hB1) a3).e H).e sd).e se;refine dR z z (lN (vs:=[sl A0 N0 C0]) D_ C_ z z fid<|hi.row 0 1 z)<|dR z z (fd M_ z) ?_
     have aU:=((ah.e H).e sd).e se;refine dR z z (l0 w_ z<|aU.at z) ?_;obtain ⟨_,dG,cb⟩:=bdS<|ifT b5 aG;have ak:∀k∈[J.z],¬B k:=or0 (f_ lr)<|m_<|zt' V a3;have al:=((((h4.ag B).c h3<|c_ ak).e H).e sd).e se;refine dRX z z (at_ (α:=Int) r_ z_3 z z z (hq.g al) dG) ?_;rintro _ ⟨_,_,_,rfl,dH,dI,_⟩;obtain ⟨rfl,dJ⟩:=O_ dI;refine dR z z (l0 g_3 z<|dH.at0 z)<|dM z z z<|dR z z (I_ z)<|dR z z (fd e_Y z)<|dR z z (l0 T_ z<|hi.at z)<|dM z z z ?_
     have a4:=((((hu.e h4).c h3<|c_ ak).e H).e sd).e se;have ht:=lt_ (lt_ (lt_ (lt_ (lt_ a3 h4.s) h3.s) H.s) sd.s) se.s;obtain ⟨aV,_,dK,b6⟩:=W_ cb;refine dE z z (fc call45 z<|g_D (B:=B) (x1:=(⟨x1.d.rules⟩:g_)) dK (zt' V ht) (a0.g a4) dJ (a1.g a4) aY) (.inr fun _ _ h=>F_<|h.1) ?_;rintro _ wo ⟨s2,rfl,bC,_⟩;refine dM z z z<|dR z z (ext_ z z)<|dR z z (ext_ z z)<|dQ z z z<|dQ z z z<|pD<|Wo<|Wq<|Wm z<|R z (nq z z)<|Wx z (fun aH=>?_) (fun aH=>?_)
     ·obtain rfl:=som<|ifT b6 aH;have cc:=elR ad;obtain rfl:=som cc;have cd:=elR ab;obtain rfl:=som cd;have ce:=elR aa;obtain rfl:=som ce;exact Wr<|rtO<|ret0 hr ⟨(d_ (d_ (d_ (d_ (cM (d_ (cM (cM (cr [g1] w0) L (io sr):Chg (· ∈ [g1]) w0 aL) O (io sr):Chg (· ∈ [g1]) w0 J) h4:Chg (· ∈ [g1]) w0 af) h3 (mor a3:∀k∈[J.z],k∈[g1]∨w0.z<=k):Chg (· ∈ [g1]) w0 wn) H:Chg (· ∈ [g1]) w0 I) sd:Chg (· ∈ [g1]) w0 wf) se:Chg (· ∈ [g1]) w0 aT) s2:Chg (· ∈ [g1]) w0 wo),z,W,Y,hi.e s2⟩
     refine Wk<|Wq ?_
     obtain ⟨dL,cf,b7⟩:=bdS<|ifF b6 aH;refine Wt (fun a w=>∃(am:Int),am=dL/\∃(an:Nat),Sat 156 [(0,pt g1),(1,Str.v x2),(2,vI x3),(8,pt J.z),(9,vI aV),(11,pt an)] a/\Below wo.z wo w/\inI am/\Blk w an [vI am]/\wo.z<=an) ?_ ?_
     ·refine Wd (X:=noX) 2097152 (.rd 0<|.rd 1<|.rd 2<|.rd 3<|.rd 4<|.rd 5<|.rd 6<|.rd 7<|.rd 8<|.rd 9<|.rd 10<|.rd 11<|.rd 12<|.rd 13<|.rd 14<|.rd 15<|.rd 16<|.rd 17<|.rd 18<|.br 19 (.ef 20<|.ef 21 .done) 20<|.ef 19<|.ef 21 .done) mo (by kernel_rfl) fun bD sg _=>dM z z z<|dR z z (I_ z)<|dR z z (fd e_Y z) ?_
      have bE:=(hi.e s2).e sg;refine dR z z (l0 T_ z<|bE.at z)<|dM z z z<|dM z z z ?_
      obtain ⟨_,dN,cg⟩:=bdS cf;have bF:=(a4.e s2).e sg;refine dRX z z (rX l_ z_5 z z (a1.g bF) z z dN) ?_;rintro _ ⟨_,_,_,rfl,bG⟩;refine dM z z z<|dR z z (I_ z)<|dR z z (fd e_X z)<|dR z z (fd a_9 z)<|dR z z (l0 a_c z<|bE.at z)<|dR z z (fd M_ z)<|dR z z (l0 w_ z<|((aU.e s2).e sg).at z) ?_
      obtain ⟨_,dO,ch⟩:=bdS cg;refine dRX z z (at_ (α:=Int) r_ z_3 z z z (hq.g<|(al.e s2).e sg) dO) ?_;rintro _ ⟨_,_,_,rfl,dP,dS,_⟩;obtain ⟨rfl,_⟩:=O_ dS;refine dR z z (l0 g_3 z<|dP.at0 z) ?_;obtain ⟨_,dT,b8⟩:=bdS ch;refine dRX z z (at_ (α:=a_) Q_ n_ z z z (a0.g bF) dT) ?_;rintro _ ⟨_,_,_,rfl,dU,dV,_⟩;obtain ⟨_,_,_,_,_,_,_,_,_,_,_,_,rfl,_,_,_,_,_,_,_⟩:=a_y dV;refine dR z z (fd b_D z)<|dR z z (l0 g_4 z<|dU.at (j:=3) z)<|d_z ?_ ?_
      ·obtain ⟨bH,dW,ci⟩:=bdS b8;refine dE z z (fc call47 z<|f_2 dW (zt' V<|lt_ (lt_ ht s2.s) sg.s) bG) (.inr fun _ _ h=>F_<|h.1) ?_;rintro _ bI ⟨bJ,rfl,dX⟩;refine dE z z (fa i_e) (.inr fun _ _ h=>F_<|h.2.below) ?_;rintro _ dY ⟨rfl,bK⟩;refine dE0 z (fs0 (cur':=[vI bH]) z_3 z z (bK.blk:Blk dY bI.z [vI 0]) z z z z) (.inl z) ?_;rintro _ _ ⟨dZ,e0⟩;refine pD ?_;have bL:=m1<|lt_ sg.s bJ.s
       exact fun _ q=>⟨bH,som ci,bI.z,q.k<|s6 z z z z z z,bM (bup (bup sg bJ) bK.below) e0.one bL,dX,dZ,atp bL⟩
      refine dE z z (fa i_e) (.inr fun _ _ h=>F_<|h.2.below) ?_;rintro _ e1 ⟨rfl,bN⟩;have aW:=bN.below;obtain ⟨bO,e2,cj⟩:=bdS b8;refine dE z z (fc call47 z<|f_2 e2 (zt' V<|lt_ (lt_ (lt_ ht s2.s) sg.s) aW.s)<|bG.e aW) (.inr fun _ _ h=>F_<|h.1) ?_;rintro _ _ ⟨bP,rfl,e3⟩;refine dE0 z (fs0 (cur':=[vI bO]) z_3 z z ((bN.blk:Blk e1 bD.z [vI 0]).e bP) z z z z) (.inl z) ?_;rintro _ _ ⟨e4,e5⟩;refine pD ?_;have bQ:=m1 sg.s;exact fun _ q=>⟨bO,som cj,bD.z,q.k<|s6 z z z z z z,bM (bup (bup sg aW) bP) e5.one bQ,e3,e4,atp bQ⟩
     rintro e6 G ⟨am,rfl,an,_,s9,e7,ao,e8⟩;revert e6;refine Wo<|Wq<|Ws<|Rf z a_s z ?_
     have ap:=(aU.e s2).e s9;refine R z (l0 g_3 z<|ap.at z)<|Rq z z z<|Wx z (fun aI=>?_) (fun aI=>?_)
     ·refine Wq<|Ws<|Rf z a_D z<|R z (l0 w_ z<|ap.at z)<|R z (h_I z) ?_
      have bR:=(al.e s2).e s9;have bS:=lt_ (lt_ ht s2.s) s9.s;obtain ⟨_,e9,ck⟩:=bdS<|ifT b7 aI;refine E z (fc call48 z<|W_w2n (B:=zn B wo.z G.z) e9 (zn_bl (zt' V bS) lr) (repS.mono (d2.g bR) zn_l) e7 (ao.row 0 1 z)<|atp<|zin (B:=B) (f_ e8)<|f_<|Blk.lt ao) ?_;rintro _ a5 ⟨sj,rfl,_⟩;refine Rw z<|Wm z<|R z (b_f z z)<|Wn ?_
      obtain ⟨ea,b9,cl⟩:=bdS ck;refine Wt (fun a w=>∃(aq:Str)(ar:Int),(aq,ar)=ea/\Sat 156 [] a/\Chg (· ∈ [g1]) a5 w/\aq.b.length<=LEN/\inI ar/\Blk w g1 [sl A0 N0 C0,sl A1 N1 C1,Str.v aq,vI ar]) ?_ ?_
      ·refine Wc z (fun aJ=>?_)<|fun aJ=>?_
       ·refine Wg<|RM z z<|Rm z<|Rf z M_ z<|R z (l0 w_ z<|(ap.e sj).at z)<|Rm z<|R z (add_ z z)<|Rm z<|R z (add_ z z) ?_
        obtain ⟨_,eb,cm⟩:=bdS<|ifT b9 aJ;refine RX z (rX r_ z_3 z z (hq.g<|bR.e sj) z z eb) ?_;rintro _ ⟨_,_,_,rfl,ec⟩;refine Rm z ?_;have bT:=((a4.e s2).e s9).e sj;obtain ⟨_,_,ed,ee,eg,cn⟩:=bd4S cm;refine E z (fc call46 z<|ae.run (B:=B) eg (((hi.e s2).e s9).e sj) (zt' V<|lt_ bS sj.s) hBg ((((((((((hG.c L<|c_<|f_ hBg).c O<|c_<|f_ hBg).e h4).c h3<|c_ ak).e H).e sd).e se).e s2).e s9).e sj) (a0.g bT) (a1.g bT) W Y W Y ec bC) ?_;rintro _ eh ⟨ei,rfl,_,ej,ek,em⟩;refine Wl ?_;exact fun _ q=>⟨ed,ee,som cn,q.k sn,(cM (cr [g1] a5) ei (io sr):Chg (· ∈ [g1]) a5 eh),ej,ek,em⟩
       exact a_q<|fun _ q=>⟨x2,x3,som<|ifF b9 aJ,q.k sn,cr [g1] a5,W,Y,((hi.e s2).e s9).e sj⟩
      rintro en eo ⟨aq,ar,rfl,_,ep,er,es,eu⟩;revert en;refine Wo ?_;obtain rfl:=som<|a_H cl;have co:=elR ad;obtain rfl:=som co;have cp:=elR ab;obtain rfl:=som cp;have cq:=elR aa;obtain rfl:=som cq;exact Wr<|rtO<|ret0 hr ⟨(cM (d_ (d_ (d_ (d_ (d_ (d_ (cM (d_ (cM (cM (cr [g1] w0) L (io sr):Chg (· ∈ [g1]) w0 aL) O (io sr):Chg (· ∈ [g1]) w0 J) h4:Chg (· ∈ [g1]) w0 af) h3 (mor a3:∀k∈[J.z],k∈[g1]∨w0.z<=k):Chg (· ∈ [g1]) w0 wn) H:Chg (· ∈ [g1]) w0 I) sd:Chg (· ∈ [g1]) w0 wf) se:Chg (· ∈ [g1]) w0 aT) s2:Chg (· ∈ [g1]) w0 wo) s9:Chg (· ∈ [g1]) w0 G) sj:Chg (· ∈ [g1]) w0 a5) ep (io sr):Chg (· ∈ [g1]) w0 eo),z,er,es,eu⟩
     refine Wk<|Ws<|R z (l0 g_3 z<|ao.at z)<|R z (c_J z z)<|Wn ?_
     obtain ⟨ew,ba,bb⟩:=bdS<|ifF b7 aI;refine Wt (fun a w=>∃(a6:Str)(a7:Int),Sum.inl (a6,a7)=ew/\Sat 156 [] a/\Chg (· ∈ [g1]) G w/\a6.b.length<=LEN/\inI a7/\Blk w g1 [sl A0 N0 C0,sl A1 N1 C1,Str.v a6,vI a7]) ?_ ?_
     ·refine Wc z (fun aK=>?_)<|fun aK=>?_
      ·refine Ws<|R z (l0 g_3 z<|ao.at z) ?_
       obtain ⟨ex,ey,ct⟩:=bdS<|ifT ba aK;refine E z (e_7 (α:=Int) i_c (fun _=>c_w<|ii z) ey z z) ?_;rintro _ wb ⟨au,av,aw,rfl,sk,ax⟩;refine Rw z<|Wq<|Wm z<|R z (lnR r_ z<|or_ ax<|zin (B:=B) (f_ lr)<|b_.lt ax)<|Rm z<|Wn ?_
       obtain ⟨_,cu,bc⟩:=bdS ct;refine Wf (σ:=List Int) (ρ:=Str×Int) (fun (bU:Nat)(xr:List Int) a w=>∃(Sc:List Nat),Sat 156 [(0,pt g1),(1,Str.v x2),(2,vI x3),(8,pt J.z),(9,vI aV),(13,sl au av aw),(138,vI (ex.length:Int)),(139,vI ((bU:Nat):Int))] a/\Chg (· ∈ [G.z]) wb w/\b_ w Sc (sl au av aw) xr/\Sc.Nodup/\(∀k∈Sc,k∈[G.z]∨wb.z<=k)) (fun (xr:List Int) a w=>∃(Sc:List Nat),Sat 156 [(0,pt g1),(1,Str.v x2),(2,vI x3),(9,vI aV),(13,sl au av aw)] a/\Chg (· ∈ [G.z]) wb w/\b_ w Sc (sl au av aw) xr/\Sc.Nodup/\(∀k∈Sc,k∈[G.z]∨wb.z<=k)) (rQ prog fn<|Q18 w0 g1 B A0 N0 C0 A1 N1 C1 x1) cu ?_ ?_ ?_ ?_ ?_
       ·exact fun _ q=>⟨[G.z],q.k<|s8 z z z z z z z z,cr [G.z] wb,ax,a_X,io sr⟩
       ·rintro bU xr _ ez _ be ⟨Sc,cv,ay,hp,az,a8⟩ cw;refine Wu ?_ cv;refine Ws<|Rl z z z<|Wn<|Wq<|Wc z (fun _=>?_) (fun hc=>(X_ be hc).elim)
        refine Wk<|Wq<|Wb<|Wm z<|Rw z<|Wg<|RM z z<|Rf z M_ z<|R z (l0 w_ z<|((ap.e sk).c ay<|djs<|mm1 bv.lt<|lt_ (lt_ (lt_ (lt_ (lt_ h3.s H.s) sd.s) se.s) s2.s) s9.s).at z) ?_
        obtain ⟨_,eA,cx⟩:=bdS cw;refine RX z (at_ (α:=Int) r_ z_3 z z z (hq.g<|(((al.e s2).e s9).e sk).c ay<|c_ (or0 (f_ lr) (m_<|zt' V<|lt_ (lt_ ht s2.s) s9.s):∀k∈[G.z],¬B k)) eA) ?_;rintro _ ⟨_,_,_,rfl,eB,eC,_⟩;obtain ⟨rfl,eD⟩:=O_ eC;refine R z (l0 g_3 z<|eB.at0 z) ?_;obtain ⟨eE,bV,cy⟩:=bdS cx;refine RX z (b_P (α:=Int) r_ z_3 z z hp bV) ?_;rintro _ ⟨_,eF,rfl⟩;refine E0 (b_Q (α:=Int) z_3 z eF z z z bV hp az (c_w eD) an_ a_f) ?_;rintro _ eG ⟨bW,eH,eI,eJ,eK⟩;refine Wn<|Wg<|R z (inc_ be (lt_ (b_.len ax) H_) z z)<|Rm z<|Wl ?_
        have bX:∀k∈Sc,k∈[G.z]∨wb.z<=k:=or1 a8 (io sr)<|x_ lr;exact fun _ q=>⟨eE,(som cy).symm,⟨bW,q.k<|s8 z z z z z z z z,(cM (cM (cr [G.z] wb) ay (io sr):Chg (· ∈ [G.z]) wb ez) eH bX:Chg (· ∈ [G.z]) wb eG),eI,eJ,(or2 eK bX an_ (x_ ay.s):∀k∈bW,k∈[G.z]∨wb.z<=k)⟩⟩
       ·rintro xr _ eL ⟨Sc,cz,eM,hp,az,a8⟩;refine Wu ?_ cz;refine Ws<|Rl z z z<|Wn<|Wq<|Wc z (fun hc=>(Y_ hc).elim) (fun _=>?_)
        exact We<|fun _ q=>⟨rfl,⟨Sc,q.k<|s5 z z z z z,(cM (cr [G.z] wb) eM (io sr):Chg (· ∈ [G.z]) wb eL),hp,az,(or1 a8 (io sr) (x_ lr):∀k∈Sc,k∈[G.z]∨wb.z<=k)⟩⟩
       ·rintro xr eN aX rfl ⟨Sc,_,a9,hp,az,a8⟩;have cA:=elL bc;revert eN;refine Wo<|Wg<|RM z z<|RM z z<|Rm z ?_
        have aA:=lt_ (lt_ ht s2.s) s9.s;have bY:∀k∈[G.z],¬B k:=or0 (f_ lr)<|m_<|zt' V aA;have bZ:=(((a4.e s2).e s9).e sk).c a9<|c_ bY
        obtain ⟨_,_,eO,eP,eQ,cB⟩:=bd4S cA;refine E z (fc call46 z<|ae.run (B:=zn B G.z aX.z) eQ ((((hi.e s2).e s9).e sk).c a9<|djs<|mm1 (Blk.lt hB1) aA) (zn_bl (zt' V<|lt_ (lt_ aA sk.s) a9.s) lr) (atp ((nznL (f_ hBg) (f_<|Blk.lt hB1) aA):∀k∈[g1],¬(zn B G.z aX.z) k)) ((((((((((((hG.c L<|c_<|f_ hBg).c O<|c_<|f_ hBg).e h4).c h3<|c_ ak).e H).e sd).e se).e s2).e s9).e sk).c a9<|c_ bY).mono zn_l) (repS.mono (a0.g bZ) zn_l) (repS.mono (a1.g bZ) zn_l) W Y W Y (or_ hp<|zin (B:=B) (or1 a8 (f_ lr) (b_O sk.s):∀k∈Sc,G.z<=k)<|b_.lt hp) bC) ?_;rintro _ eR ⟨eS,rfl,_,eT,eU,eV⟩;refine Wl ?_;exact fun _ q=>⟨eO,eP,som cB,q.k sn,(cM (cM (d_ (cr [g1] G) sk:Chg (· ∈ [g1]) G wb) a9 (mor lr:∀k∈[G.z],k∈[g1]∨G.z<=k):Chg (· ∈ [g1]) G aX) eS (io sr):Chg (· ∈ [g1]) G eR),eT,eU,eV⟩
       rintro _ _ _ _ rfl ⟨rfl,cC⟩;have cD:=elR bc;obtain rfl:=som cD;have cE:=elR bb;obtain rfl:=som cE;have cF:=elR ad;obtain rfl:=som cF;have cG:=elR ab;obtain rfl:=som cG;have cH:=elR aa;obtain rfl:=som cH;exact ⟨cC,z⟩
      exact a_q<|fun _ q=>⟨x2,x3,som<|ifF ba aK,q.k sn,cr [g1] G,W,Y,(hi.e s2).e s9⟩
     rintro eW eX ⟨a6,a7,rfl,_,eY,eZ,f0,f1⟩;have cI:=elL bb;revert eW;exact fun _ q=>⟨a6,a7,som<|a_H cI,q.k sn,(cM (d_ (d_ (d_ (cr [g1] wf) se:Chg (· ∈ [g1]) wf aT) s2:Chg (· ∈ [g1]) wf wo) s9:Chg (· ∈ [g1]) wf G) eY (io sr):Chg (· ∈ [g1]) wf eX),eZ,f0,f1⟩
    exact a_q<|fun _ q=>⟨x2,x3,som<|ifF b5 aG,q.k sn,cr [g1] wf,W,Y,(((hl.e h4).c h3<|djs<|mm1 (Blk.lt hB1)<|lt_ L.s O.s).e H).e sd⟩
   rintro f2 f3 ⟨xz,a2,rfl,_,f4,f5,f6,f7⟩;have c0:=elL ad;revert f2;exact fun _ q=>⟨xz,a2,som<|a_H c0,q.k sn,(cM (d_ (cr [g1] I) sd:Chg (· ∈ [g1]) I wf) f4 (io sr):Chg (· ∈ [g1]) I f3),f5,f6,f7⟩
  rintro cJ cK ⟨xs,xv,rfl,_,cL,cN,cO,cP⟩;have c1:=elL ab;revert cJ;exact fun _ q=>⟨xs,xv,som<|a_H c1,q.k sn,(cM (cr [g1] I) cL (io sr):Chg (· ∈ [g1]) I cK),cN,cO,cP⟩
 rintro cQ cR ⟨ai,aj,rfl,_,cS,cT,cU,cV⟩;have c2:=elL aa;revert cQ;obtain rfl:=som<|a_H c2;exact ret0 hr ⟨(cM (d_ (cM (d_ (cM (cM (cr [g1] w0) L (io sr):Chg (· ∈ [g1]) w0 aL) O (io sr):Chg (· ∈ [g1]) w0 J) h4:Chg (· ∈ [g1]) w0 af) h3 (mor (lt_ L.s O.s):∀k∈[J.z],k∈[g1]∨w0.z<=k):Chg (· ∈ [g1]) w0 wn) H:Chg (· ∈ [g1]) w0 I) cS (io sr):Chg (· ∈ [g1]) w0 cR),z,cT,cU,cV⟩
theorem T_w1c (ih:i_D n):i_C (c_I n<|a_t n):=by
 obtain ⟨ab,_⟩:=ih
 constructor
 intro A0 A1 AE N0 C0 N1 C1 g1 NE CE B x1 x2 x3 x4 x5 res w0 hm hB1 I hBg hG H W Y a0 ap a1 G a2;unfold c_I at hm
 refine goG func46 z z z fun fn hr=>Ws<|Ra z<|Rw z<|Wq<|Wm z<|R z (lnR r_ z G)<|Rm z<|Wn ?_
 obtain ⟨_,hul,hma⟩:=bdS hm;refine Wf (σ:=Int) (ρ:=Int×Bool×Str×Int) (fun (kb:Nat)(x0:Int) a w=>Sat 57 [(0,pt g1),(1,Str.v x2),(2,vI x3),(4,vI x0),(16,sl AE NE CE),(17,vI (x4.length:Int)),(18,vI ((kb:Nat):Int))] a/\Below w0.z w0 w/\inI x0) (fun (x0:Int) a w=>Sat 57 [(4,vI x0)] a/\Below w0.z w0 w/\inI x0) (rQ prog fn<|Q19 w0 g1 B A0 N0 C0 A1 N1 C1 x1) hul ?_ ?_ ?_ ?_ ?_
 ·exact fun _ q=>⟨q.k<|s7 z z z z z z z,br w0,a2⟩
 ·rintro kb x0 _ wn _ J ⟨hSo,s2,h1⟩ hmp;refine Wu ?_ hSo;refine Ws<|Rl z z z<|Wn<|Wq<|Wc z (fun _=>?_) (fun hc=>(X_ J hc).elim)
  refine Wk<|Wq<|Wb<|Wm z ?_
  obtain ⟨_,eq,hmr⟩:=bdS hmp;refine RX z (at_ (α:=Int) r_ z_3 z z z (G.e s2) eq) ?_;rintro _ ⟨_,_,_,rfl,ht,hu,_⟩;obtain ⟨rfl,hd⟩:=O_ hu;refine R z (l0 g_3 z<|ht.at0 z)<|Ra z<|Rw z<|Wq (Wd (X:=noX) 0 (pl_ 16 [10]) mo (by kernel_rfl) fun ws s3 _=>dM z z z<|dR z z (I_ z)<|dR z z (fd e_X z) ?_)
  have O:=(hB1.e s2).e s3;refine dR z z (lN (vs:=[sl A0 N0 C0]) D_ C_ z z fid<|O.row 0 1 z)<|dM z z z<|dM z z z<|dR z z (I_ z)<|dR z z (fd e_Y z)<|dR z z (l0 T_ z<|O.at z)<|dM z z z ?_
  have V:=(s2.ag B).e s3;have he:=lt_ s2.s s3.s;obtain ⟨rv,_,ew,hmc⟩:=W_ hmr;refine dE z z (fc call45 z<|g_D (B:=B) (x1:=(⟨x1.d.rules⟩:g_)) ew (zt' I he) (H.g V) hd (W.g V) h1) (.inr fun _ _ h=>F_<|h.1) ?_;rintro _ wx ⟨s4,rfl,hy,_⟩;refine dM z z z<|dR z z (ext_ z z)<|dR z z (ext_ z z)<|dQ z z z<|dQ z z z<|pD<|Wo<|Wq<|Wm z<|R z (nq z z)<|Wx z (fun L=>?_) (fun L=>?_)
  ·refine Wm z<|Rm z ?_
   obtain ⟨_,ez,a3⟩:=bdS<|ifT hmc L;refine R z (g_t z z ez)<|Rm z<|R z (I_ z)<|Rf z e_X z ?_
   have hf:=O.e s4;refine R z (lN (vs:=[sl A0 N0 C0]) D_ C_ z z fid<|hf.row 0 1 z)<|RM z z ?_
   have hg:=V.e s4;have hh:=((hG.e s2).e s3).e s4;have hi:=lt_ he s4.s;obtain ⟨_,ad,a4⟩:=bdS a3;refine E z (fc call63 z<|W_w2l (B:=B) (x1:=(⟨x1.d.rules⟩:g_)) ad (zt' I hi) hh (H.g hg) a1<|ic (Nat.le_of_lt J)<|lt_ (repS.len G) H_) ?_;rintro _ ae ⟨s5,rfl,_⟩;obtain ⟨_,ej,a5⟩:=bdS a4;refine R z (g_t z z ej)<|RM z z ?_
   have hk:=hg.e s5;obtain ⟨_,_,af,a6⟩:=W_ a5;refine E z (fc call30 z<|ab.run (B:=B) af (hf.e s5) (zt' I<|lt_ hi s5.s) hBg (hh.e s5) (H.g hk) (W.g hk) Y a0 (h_P ej) hd h1) ?_;rintro _ ah ⟨ai,rfl,aj,ak,al⟩;refine Wn<|Wm z<|Ra z<|Rw z ?_
   exact Wr<|rtO<|qL (som a6).symm<|a_o hr z z ⟨(cM (d_ (d_ (d_ (d_ (cr [g1] w0) s2:Chg (· ∈ [g1]) w0 wn) s3:Chg (· ∈ [g1]) w0 ws) s4:Chg (· ∈ [g1]) w0 wx) s5:Chg (· ∈ [g1]) w0 ae) ai (io sr):Chg (· ∈ [g1]) w0 ah),z,h1,aj,ak,al⟩
  exact Wk<|Wg<|Rm z<|Rw z<|Wg<|R z (inc_ J (lt_ (repS.len G) H_) z z)<|Rm z<|Wl (fun _ q=>⟨rv,(som<|ifF hmc L).symm,⟨q.k<|s7 z z z z z z z,bup (bup s2 s3) s4,hy⟩⟩)
 ·rintro x0 _ _ ⟨a7,am,h1⟩;refine Wu ?_ a7;refine Ws<|Rl z z z<|Wn<|Wq<|Wc z (fun hc=>(Y_ hc).elim) (fun _=>?_)
  exact We<|fun _ q=>⟨rfl,⟨q.k<|s1 z,am,h1⟩⟩
 ·rintro x0 an ao rfl ⟨_,sm,h1⟩;have a8:=elL hma;revert an;refine Wo<|Wm z<|Ra z<|Rw z ?_
  obtain rfl:=som a8;exact Wr<|a_o hr z z ⟨(d_ (cr [g1] w0) sm:Chg (· ∈ [g1]) w0 ao),z,h1,Y,a0,hB1.e sm⟩
 rintro _ _ _ _ rfl ⟨rfl,a9⟩;have aa:=elR hma;obtain rfl:=som aa;exact ⟨a9,z⟩
theorem g_E:∀n,i_D n
  | 0=>⟨⟨fun hm=>by intros;exact nomatch (show none=some _ from hm)⟩,⟨fun hm=>by intros;exact nomatch (show none=some _ from hm)⟩⟩
  | n+1=>⟨T_w07<|g_E n,T_w1c<|g_E n⟩
theorem W_w07:i_B (a_t n).impl_tracer_part:=(g_E n).1
theorem W_w1c:i_C (a_t n).impl_tracer_kids:=(g_E n).2
def Q20 (w0:World)(B:Zone)(r:e_2)(v:Value)(w':World):Prop:=Bw w0 w'/\(fun h=>(.agg #[vI h.code,vI h.position,Str.v h.path,vI h.rule])=v/\inI h.code/\inI h.position/\h.path.b.length<=LEN/\inI h.rule) r
theorem W_w2o {x1:g_}{x2:List UInt8}{res:e_2}(hm:e_g n x1 x2=some res)(O:B<=w0.z)(hG:Gl w0 B)(W:repS w0 B (sl A0 N0 C0) x1.rules)(Y:repS w0 B (sl A6 N6 C6) x2):j_ prog 19 [(.agg #[sl A0 N0 C0]),sl A6 N6 C6] w0 (Q20 w0 B res):=by
 unfold e_g at hm
 refine goG func19 z z z fun fn hr=>Ws<|E z (fb z) ?_
 rintro _ wf ⟨rfl,hu⟩;have hg:=hu.below;have hv:Blk wf w0.z [sl A0 N0 C0]:=hu.blk;refine E z (fa i_g) ?_;rintro _ ax ⟨rfl,hw⟩;have V:=hw.below;have hx:Blk ax wf.z [vI 0,vI 0,Str.v (⟨[]⟩:Str),vI 0]:=hw.blk;refine Wn<|Ws ?_
 have hy:=hv.e V;refine R z (lN (vs:=[sl A0 N0 C0]) D_ C_ z z fid<|hy.row 0 1 z)<|Rm z ?_
 have hk:=(hg.ag B).e V;have hz:=lt_ hg.s V.s;obtain ⟨L,I,ay,ao⟩:=W_ hm;refine E z (fc call28 z<|W_w2j ay (zt' O hz) (W.g hk)<|Y.g hk) ?_;rintro _ _ ⟨s7,rfl,az,aA⟩;refine Rm z<|Re z z z<|Re z z z<|Ra z<|Rw z<|Wm z<|Rm z ?_
 have a3:=hy.e s7;refine R z (lN (vs:=[sl A0 N0 C0]) D_ C_ z z fid<|a3.row 0 1 z) ?_;have a4:=hk.e s7;have hl:=lt_ hz s7.s;obtain ⟨rj,aB,ap⟩:=bdS ao;refine E z (fc call29 z<|e_c aB (zt' O hl)<|W.g a4) ?_;rintro _ G ⟨s6,rfl,aC⟩;refine R z (bP (parts:=[(0,.tmp 15),(1,.tmp 16),(3,.tmp 18)]) (cs:=[vI I,vI L,Str.v (⟨[]⟩:Str),vI rj]) n_m z z)<|E z (fa i_g) ?_
 rintro _ aD ⟨rfl,a5⟩;have ha:=a5.below;have a6:Blk aD G.z [vI 0,vI 0,Str.v (⟨[]⟩:Str),vI 0]:=a5.blk;refine E0 (fs0 (cur':=[vI I,vI L,Str.v (⟨[]⟩:Str),vI rj]) z_46 z z a6 z z z z) ?_;rintro _ J ⟨hn,aE⟩;have h5:=aE.one;refine Wn<|Wq<|Wm z<|Wn<|Wb<|Ws<|Rq z z z<|Rw z ?_
 obtain ⟨aF,a0,aq⟩:=bdS ap;refine Wt (fun a w=>∃(xb:Str)(xc:Int),(xb,xc)=aF/\Sat 46 [(4,pt wf.z),(7,pt G.z)] a/\Chg (· ∈ [G.z]) J w/\xb.b.length<=LEN/\inI xc/\Blk w G.z [vI I,vI L,Str.v xb,vI xc]) ?_ ?_
 ·refine Wc z (fun hcm=>?_)<|fun hcm=>?_
  ·refine Wg<|Rf z j_U z<|E0 (fs0 (cur':=[vI I,vI L,Str.v (⟨[]⟩:Str),vI (-1)]) z_3 z z hn z z z z) ?_
   rintro _ aG ⟨aH,aI⟩;refine Wl ?_;exact fun _ q=>⟨(⟨[]⟩:Str),(-1),som<|ifT a0 hcm,q.k<|s2 z z,(cM (cr [G.z] J) aI.one (io sr):Chg (· ∈ [G.z]) J aG),lb z,ii z,aH⟩
  refine Wq<|Ws<|Rq z z z<|Rw z ?_
  obtain ⟨aJ,a1,ar⟩:=bdS<|ifF a0 hcm;refine Wt (fun a w=>∃(xo:Bool),xo=aJ/\Sat 46 [(1,sl A6 N6 C6),(2,pt w0.z),(4,pt wf.z),(7,pt G.z),(42,vB xo)] a/\Below J.z J w) ?_ ?_
  ·refine Wc z (fun hcp=>?_)<|fun hcp=>?_
   ·exact a_q<|fun _ q=>⟨I==0,som<|ifT a1 hcp,q.k<|s5 z z z z z,br J⟩
   exact Wg<|Rq z z z<|Ra z<|Wl (fun _ q=>⟨I==7,som<|ifF a1 hcp,q.k<|s5 z z z z z,br J⟩)
  rintro aK H ⟨xo,rfl,_,s8⟩;revert aK;refine Wo ?_;obtain ⟨aL,a2,au⟩:=bdS ar;refine Wt (fun a w=>∃(xh:Str)(xi:Int),(xh,xi)=aL/\Sat 46 [(4,pt wf.z),(7,pt G.z)] a/\Chg (· ∈ [G.z]) H w/\xh.b.length<=LEN/\inI xi/\Blk w G.z [vI I,vI L,Str.v xh,vI xi]) ?_ ?_
  ·refine Wc z (fun hcq=>?_)<|fun hcq=>?_
   ·exact a_q<|fun _ q=>⟨(⟨[]⟩:Str),rj,som<|ifT a2 hcq,q.k<|s2 z z,cr [G.z] H,lb z,aC,hn.e s8⟩
   refine Ws ?_;have a7:=(((a3.e s6).e ha).c h5<|djs<|mm1 hv.lt<|lt_ (lt_ V.s s7.s) s6.s).e s8;refine R z (lN (vs:=[sl A0 N0 C0]) D_ C_ z z fid<|a7.row 0 1 z)<|Rm z<|R z (bP (parts:=[(0,.tmp 21),(1,.tmp 22)]) (cs:=[sl A0 N0 C0,sl A6 N6 C6,Str.v (⟨[]⟩:Str),vI 0]) n_n z z)<|E z (fb z) ?_
   rintro _ a8 ⟨rfl,a9⟩;have hd:=a9.below;refine Rw z<|Wm z<|R z (lN (vs:=[sl A0 N0 C0]) D_ C_ z z fid<|(a7.e hd).row 0 1 z) ?_
   have aa:=lt_ hl s6.s;have ab:∀k∈[G.z],¬B k:=or0 (f_ lr)<|m_<|zt' O aa;have ad:=((((a4.e s6).e ha).c h5<|c_ ab).e s8).e hd;have ae:=lt_ (lt_ (lt_ aa ha.s) h5.s) s8.s;have af:=lt_ ae hd.s;obtain ⟨_,aM,av⟩:=bdS<|ifF a2 hcq;refine E z (fc call29 z<|e_c aM (zt' O af)<|W.g ad) ?_;rintro _ aN ⟨se,rfl,aO⟩;have ah:=ad.e se;obtain ⟨rr,ai,aP,aw⟩:=W_ av;refine E z (fc call30 z<|W_w07.run (B:=B) aP ((a9.blk:Blk a8 H.z [sl A0 N0 C0,sl A6 N6 C6,Str.v (⟨[]⟩:Str),vI 0]).e se) (zt' O<|lt_ af se.s) (atp (or0 (f_ lr) (m_<|zt' O ae):∀k∈[H.z],¬B k)) (((((((((hG.e hg).e V).e s7).e s6).e ha).c h5<|c_ ab).e s8).e hd).e se) (W.g ah) (Y.g ah) (lb z) (ii z) (lb z) aO<|ii z) ?_;rintro _ aQ ⟨aj,rfl,aR,aS,aT⟩;refine Wn (Wd (X:=(· ∈ [G.z])) 0 (pl_ 12 [9,11]) mo (by kernel_rfl) fun aU ss _=>dM z z z<|dR z z (I_ z)<|dR z z (fd k_0 z) ?_);have ak:=aT.e ss;have ht:=mm1 a6.lt<|lt_ h5.s s8.s
   refine dR z z (l1 g_9 z (atp ht)<|ak.at z)<|dM z z z<|dR z z (I_ z)<|dR z z (fd k_1 z)<|dR z z (l1 g_3 z (atp ht)<|ak.at z)<|dR z z (fd j_T z)<|dE0 z (fs0 (cur':=[vI I,vI L,Str.v rr,vI rj]) z_9 z z (((((hn.e s8).e hd).e se).c aj<|djs ht).e ss) z z z z) (.inr fun _ _ h=>g_v (List.mem_singleton.2 z) h.2) ?_
   rintro _ aV ⟨aW,aX⟩;refine dR z z (fd j_U z)<|dE0 z (fs0 (cur':=[vI I,vI L,Str.v rr,vI ai]) z_3 z z aW z z z z) (.inr fun _ _ h=>g_v (List.mem_singleton.2 z) h.2) ?_
   rintro _ aY ⟨aZ,b0⟩;refine pD ?_;exact fun _ q=>⟨rr,ai,som aw,q.k<|s2 z z,(cM (cM (d_ (cM (d_ (d_ (cr [G.z] H) hd:Chg (· ∈ [G.z]) H a8) se:Chg (· ∈ [G.z]) H aN) aj (mor lr:∀k∈[H.z],k∈[G.z]∨H.z<=k):Chg (· ∈ [G.z]) H aQ) ss:Chg (· ∈ [G.z]) H aU) aX.one (io sr):Chg (· ∈ [G.z]) H aV) b0.one (io sr):Chg (· ∈ [G.z]) H aY),aR,aS,aZ⟩
  rintro b1 b2 ⟨xh,xi,rfl,_,b3,b4,b5,b6⟩;revert b1;exact fun _ q=>⟨xh,xi,som<|a_H au,q.k<|s2 z z,(cM (d_ (cr [G.z] J) s8:Chg (· ∈ [G.z]) J H) b3 (io sr):Chg (· ∈ [G.z]) J b2),b4,b5,b6⟩
 rintro b7 _ ⟨xb,xc,rfl,_,al,b8,b9,ba⟩;revert b7;refine Wo<|Ws<|R z (lN (vs:=[vI I,vI L,Str.v xb,vI xc]) g_46 z_46 z z fid<|ba.row 0 4 z) ?_
 have am:=mm1 hx.lt<|lt_ s7.s s6.s
 refine E0 (fs0 (cur':=[vI I,vI L,Str.v xb,vI xc]) z_46 z z (((((hx.e s7).e s6).e ha).c h5<|djs am).c al<|djs am) z z z z) ?_;rintro _ _ ⟨bb,bc⟩;refine Wn ?_;obtain rfl:=som<|a_H aq;have an:=m1<|lt_ hl s6.s
 exact Wr<|e_ hr (o_ g_46 z_46 z bb z) ⟨bM (bM (bM (bup (bup (bup (bup hg V) s7) s6) ha) h5 an) al an) bc.one<|m1 hg.s,z,aA,az,b8,b9⟩
theorem W_w2p {x1:Str}{x2:UInt8}{res:(List Str)}(hm:e_B x1 x2=some res)(aV:B<=w0.z)(J:x1.b.length<=LEN):j_ prog 94 [Str.v x1,vU<|byteI x2] w0 (Q2 w0 B res):=by
 unfold e_B at hm
 refine goG func94 z z z fun fn hr=>Ws<|Rw z<|Ws<|E z (f0 (α:=Str) c_f) ?_
 rintro _ G ⟨ai,aj,ak,rfl,sk,al⟩;refine Rw z<|Ws<|Rw z<|Wq<|Ws<|Rw z ?_
 obtain ⟨_,a1,hmr⟩:=bdS hm;refine Wf (σ:=(List Str)×Int) (ρ:=List Str) (fun (kd:Nat) s a w=>un2 (fun O x5=>∃a2 H I h,Sat 35 [(0,Str.v x1),(1,vU<|byteI x2),(5,sl a2 H I),(6,vI x5),(7,vI ((kd:Nat):Int))] a/\Chg (· ∈ [w0.z]) G w/\b_ w h (sl a2 H I) O/\h.Nodup/\(∀k∈h,k∈[w0.z]∨G.z<=k)/\inI x5) s) (fun s a w=>un2 (fun O x5=>∃a2 H I h,Sat 35 [(0,Str.v x1),(5,sl a2 H I),(6,vI x5)] a/\Chg (· ∈ [w0.z]) G w/\b_ w h (sl a2 H I) O/\h.Nodup/\(∀k∈h,k∈[w0.z]∨G.z<=k)/\inI x5) s) (rQ prog fn<|Q2 w0 B) a1 ?_ ?_ ?_ ?_ ?_
 ·exact fun _ q=>⟨ai,aj,ak,[w0.z],q.k<|s5 z z z z z,cr [w0.z] G,al,a_X,io sr,ii z⟩
 ·rintro kd ⟨O,x5⟩ _ L _ hke ⟨a2,H,I,h,a3,ss,V,W,hb,hf⟩ a4;refine Wu ?_ a3;refine Wq<|Wm z<|Rm z<|R z (lnT d_9 z)<|Rl z z z<|Wx z (fun _=>?_) (fun hc=>(X_ hke hc).elim)
  refine Wk<|Wq<|Wb<|Wm z<|Rm z ?_
  obtain ⟨_,eu,a5⟩:=bdS<|a_H a4;refine R z (c_l d_9 z z (a_n eu).1 (a_n eu).2.1)<|Rm z<|Rq z z z<|Wn ?_
  obtain ⟨am,huv,a6⟩:=bdS a5;refine Wt (fun a w=>∃(xg:List Str)(xc:Int),(xg,xc)=am/\∃ah ni cj Sa,Sat 35 [(0,Str.v x1),(1,vU<|byteI x2),(5,sl ah ni cj),(6,vI xc),(7,vI ((kd:Nat):Int))] a/\Chg (· ∈ h) L w/\b_ w Sa (sl ah ni cj) xg/\Sa.Nodup/\(∀k∈Sa,k∈h∨L.z<=k)/\inI xc) ?_ ?_
  ·refine Wc z (fun hcl=>?_)<|fun hcl=>?_
   ·refine Wm z<|RM z z<|Rm z ?_
    obtain ⟨an,em,a7⟩:=bdS<|ifT huv hcl;refine R z (k_c d_9 z z z J em)<|E z (fS [(.tmp 24)] c_f z z z (c_Z z) (lb z)<|lb z) ?_
    rintro _ ww ⟨rfl,hn⟩;have ho:=hn.below;have aW:=e_T hn<|c_x<|g_u em J
    obtain ⟨ao,ap,a8⟩:=bdS a7;refine E z (d_D (α:=Str) c_f ap z z (V.e ho) W (hn.blk:Blk ww L.z [Str.v an]) (c_x<|g_u em J) an_ a_f) ?_;rintro _ aq ⟨Sx,ar,au,av,rfl,aw,ax,ay,az⟩;refine Rw z<|Wg<|Rm z<|R z (inc_ hke (lt_ J H_) z z)<|Ra z<|Wl ?_
    exact fun _ q=>⟨ao,((kd+1:Nat):Int),som a8,ar,au,av,Sx,q.k<|s5 z z z z z,(cM (d_ (cr h L) ho:Chg (· ∈ h) L ww) aw (io sr):Chg (· ∈ h) L aq),ax,ay,(or2 az (io sr) an_ (x_ ho.s):∀k∈Sx,k∈h∨L.z<=k),ic (Nat.succ_le_of_lt hke)<|lt_ J H_⟩
   exact a_q<|fun _ q=>⟨O,x5,som<|ifF huv hcl,a2,H,I,h,q.k<|s5 z z z z z,cr h L,V,W,io sr,hf⟩
  rintro aA aB ⟨xg,xc,rfl,ah,ni,cj,Sa,_,aC,aD,aE,aF,aG⟩;revert aA;refine Wo<|Wg<|Rm z<|R z (inc_ hke (lt_ J H_) z z)<|Ra z<|Wl ?_
  have hy:∀k∈h,k∈[w0.z]∨G.z<=k:=or1 hb (io sr)<|x_ lr;exact fun _ q=>⟨(xg,xc),(som<|a_H a6).symm,⟨ah,ni,cj,Sa,q.k<|s5 z z z z z,(cM (cM (cr [w0.z] G) ss (io sr):Chg (· ∈ [w0.z]) G L) aC hy:Chg (· ∈ [w0.z]) G aB),aD,aE,(or1 aF hy (x_ ss.s):∀k∈Sa,k∈[w0.z]∨G.z<=k),aG⟩⟩
 ·rintro ⟨O,x5⟩ _ aH ⟨a2,H,I,h,a9,aI,V,W,hb,hf⟩;refine Wu ?_ a9;refine Wq<|Wm z<|Rm z<|R z (lnT d_9 z)<|Rl z z z<|Wx z (fun hc=>(Y_ hc).elim) (fun _=>?_)
  exact We<|fun _ q=>⟨rfl,⟨a2,H,I,h,q.k<|s3 z z z,(cM (cr [w0.z] G) aI (io sr):Chg (· ∈ [w0.z]) G aH),V,W,(or1 hb (io sr) (x_ lr):∀k∈h,k∈[w0.z]∨G.z<=k),hf⟩⟩
 ·rintro ⟨O,x5⟩ aJ aK rfl ⟨a2,H,I,h,_,sz,V,W,hb,hf⟩;have aa:=elL hmr;revert aJ;refine Wo<|Wm z<|RM z z ?_
  obtain ⟨aL,ep,ab⟩:=bdS<|a_H aa;refine R z (k_c d_9 z z z J ep)<|E z (fS [(.tmp 32)] c_f z z z (c_Z z) (lb z)<|lb z) ?_
  rintro _ aM ⟨rfl,hq⟩;have ht:=hq.below;have aX:=e_T hq<|c_x<|g_u ep J
  obtain ⟨_,aN,ad⟩:=bdS ab;refine E z (d_D (α:=Str) c_f aN z z (V.e ht) W (hq.blk:Blk aM aK.z [Str.v aL]) (c_x<|g_u ep J) an_ a_f) ?_;rintro _ _ ⟨Y,aO,aP,aQ,rfl,aR,aS,aT,aU⟩;refine Rw z ?_
  obtain rfl:=som ad;have a0:∀k∈h,w0.z<=k:=or1 hb (f_ lr)<|b_O sk.s;exact Wr<|e_ hr z ⟨bM (bup (bM sk sz<|f_ lr) ht) aR a0,aO,aP,aQ,Y,z,aS,aT,(or2 aU a0 an_ (b_O<|lt_ (lt_ sk.s sz.s) ht.s):∀k∈Y,w0.z<=k)⟩
 rintro _ _ _ _ rfl ⟨rfl,ae⟩;have af:=elR hmr;obtain rfl:=som af;exact ⟨ae,z⟩
def Q21 (w0:World)(B:Zone)(r:Int×Bool)(v:Value)(w':World):Prop:=Bw w0 w'/\un2 (fun h G=>v = .tuple #[vI h,vB G]/\inI h) r
theorem W_w1d {x1:Str}{res:Int×Bool}(hm:e_C x1=some res)(ae:B<=w0.z)(W:x1.b.length<=LEN):j_ prog 66 [Str.v x1] w0 (Q21 w0 B res):=by
 unfold e_C at hm
 refine goG func66 z z z fun fn hr=>Ws<|Ra z<|Rw z<|Wq<|Wq ?_
 obtain ⟨uv,huf,hmg⟩:=bdS hm;refine Wt (fun a w=>∃(V:Bool),V=uv/\Sat 50 [(0,Str.v x1),(22,vB V)] a/\Below w0.z w0 w) ?_ ?_
 ·refine Wg<|Rm z<|R z (b_E z z)<|Rm z ?_
  rcases bs (x1.b==(⟨[]⟩:Str).b) with H | H
  ·iterate 3 refine Nh z H ?_
   exact R z (pT z H z)<|Rm z<|Nh z z<|Nh z z<|Nh z z<|Nh z z<|Nv z<|Nv z<|Nv z<|Nh z z<|R z (pT z z z)<|Wl (fun _ q=>⟨true,som<|ifT huf H,q.k<|s2 z z,br w0⟩)
  have hmh:=ifF huf H;refine Rh z H (mv z)<|Rh z H (lnT d_9 z)<|Rh z H (a_b z z)<|R z (pF z H z)<|Rm z ?_
  rcases bs (decide<|13<(x1.b.length:Int)) with h | h
  ·iterate 4 refine Nh z h ?_
   exact Nv z<|Nv z<|Nv z<|Nh z h<|R z (pT z h z)<|Wl (fun _ q=>⟨true,som<|ifT hmh h,q.k<|s2 z z,br w0⟩)
  refine Rh z h (mv z) ?_;obtain ⟨xw,ei,hmj⟩:=bdS<|ifF hmh h;refine Rh z h (c_l d_9 z z (a_n ei).1 (a_n ei).2.1)<|Rh z h (eql z z)<|Rh z h (mv z) ?_
  rcases bs ((byteI xw)==(byteI (48:UInt8))) with I | I
  ·exact Rh z I (mv z)<|Rh z I (lnT d_9 z)<|Rh z I (a_b z z)<|Rh z h (pT z I z)<|R z (pF z h z)<|Wl (fun _ q=>⟨decide<|1<(x1.b.length:Int),som<|ifT hmj I,q.k<|s2 z z,br w0⟩)
  iterate 3 refine Nh z I ?_
  exact Rh z h (pF z I z)<|R z (pF z h z)<|Wl (fun _ q=>⟨false,som<|ifF hmj I,q.k<|s2 z z,br w0⟩)
 rintro ax J ⟨V,rfl,_,s6⟩;revert ax;refine Wo<|Wc z (fun hca=>?_) (fun hca=>?_)
 ·refine Ws<|Ra z<|Rw z ?_
  obtain rfl:=som<|ifT hmg hca;exact Wr<|a_o hr z z ⟨s6,z,ii z⟩
 refine Wk<|Ws<|Rw z<|Wq<|Ws<|Rw z ?_
 obtain ⟨_,huy,hmk⟩:=bdS<|ifF hmg hca;refine Wf (σ:=Int) (ρ:=Int×Bool) (fun (kb:Nat)(x2:Int) a w=>Sat 50 [(0,Str.v x1),(4,vI x2),(5,vI ((kb:Nat):Int))] a/\Below J.z J w/\inI x2) (fun (x2:Int) a w=>Sat 50 [(4,vI x2)] a/\Below J.z J w/\inI x2) (rQ prog fn<|Q21 w0 B) huy ?_ ?_ ?_ ?_ ?_
 ·exact fun _ q=>⟨q.k<|s3 z z z,br J,ii z⟩
 ·rintro kb x2 _ L _ hkl ⟨hSz,sm,O⟩ Y;refine Wu ?_ hSz;refine Wq<|Wm z<|Rm z<|R z (lnT d_9 z)<|Rl z z z<|Wx z (fun _=>?_) (fun hc=>(X_ hkl hc).elim)
  refine Wk<|Wq<|Wb<|Wq<|Wq ?_
  obtain ⟨a6,a0,hmn⟩:=bdS Y;refine Wt (fun a w=>∃(xc:Bool),xc=a6/\Sat 50 [(0,Str.v x1),(4,vI x2),(5,vI ((kb:Nat):Int)),(38,vB xc)] a/\Below L.z L w) ?_ ?_
  ·refine Wg<|RM z z ?_
   obtain ⟨a7,eo,hmp⟩:=bdS a0;refine R z (c_l d_9 z z (a_n eo).1 (a_n eo).2.1)<|Rl z z z<|Rm z ?_
   rcases bs (decide<|(byteI a7)<(byteI (48:UInt8))) with G | G
   ·iterate 4 refine Nh z G ?_
    exact R z (pT z G z)<|Wl (fun _ q=>⟨true,som<|ifT hmp G,q.k<|s4 z z z z,br L⟩)
   refine Rh z G (mv z)<|Rh z G (mv z) ?_
   obtain ⟨a8,eq,a1⟩:=bdS<|ifF hmp G;exact Rh z G (c_l d_9 z z (a_n eq).1 (a_n eq).2.1)<|Rh z G (a_b z z)<|R z (pF z G z)<|Wl (fun _ q=>⟨decide<|(byteI (57:UInt8))<(byteI a8),som a1,q.k<|s4 z z z z,br L⟩)
  rintro a9 _ ⟨xc,rfl,_,sr⟩;revert a9;refine Wo<|Wc z (fun hcd=>?_) (fun hcd=>?_)
  ·exact Ws<|Ra z<|Rw z<|Wr<|rtO<|qL (som<|ifT hmn hcd).symm<|a_o hr z z ⟨bup (bup s6 sm) sr,z,ii z⟩
  refine Wk<|Wg<|Rm z<|R z (g_V z z)<|RM z z ?_
  obtain ⟨aa,es,a2⟩:=bdS<|ifF hmn hcd;exact R z (c_l d_9 z z (a_n es).1 (a_n es).2.1)<|R z (m_r z z)<|R z (c_c d_5 d_3 z)<|R z (add_ z z)<|Rw z<|Wg<|Rm z<|R z (inc_ hkl (lt_ W H_) z z)<|Ra z<|Wl (fun _ q=>⟨h_ (b_e 10 x2)<|byteI<|mkB (byteI aa - byteI (48:UInt8)),(som a2).symm,⟨q.k<|s3 z z z,bup sm sr,iA _ _⟩⟩)
 ·rintro x2 _ _ ⟨a3,ab,O⟩;refine Wu ?_ a3;refine Wq<|Wm z<|Rm z<|R z (lnT d_9 z)<|Rl z z z<|Wx z (fun hc=>(Y_ hc).elim) (fun _=>?_)
  exact We<|fun _ q=>⟨rfl,⟨q.k<|s1 z,ab,O⟩⟩
 ·rintro x2 ad _ rfl ⟨_,st,O⟩;have hmu:=elL hmk;revert ad;refine Wo<|Wq<|Wm z<|R z (a_b z z)<|Wx z (fun hce=>?_) (fun hce=>?_)
  ·refine Ws<|Ra z<|Rw z ?_
   obtain rfl:=som<|ifT hmu hce;exact Wr<|a_o hr z z ⟨bup s6 st,z,ii z⟩
  refine Wk<|Wm z<|Ra z<|Rw z ?_
  obtain rfl:=som<|ifF hmu hce;exact Wr<|a_o hr z z ⟨bup s6 st,z,O⟩
 rintro _ _ _ _ rfl ⟨rfl,a4⟩;have a5:=elR hmk;obtain rfl:=som a5;exact ⟨a4,z⟩
theorem W_w2q {x1:Str}{res:Bool}(hm:d_V n x1=some res)(L:B<=w0.z)(J:x1.b.length<=LEN):j_ prog 51 [Str.v x1] w0 (Q7 w0 B res):=by
 unfold d_V at hm
 refine goG func51 z z z fun fn hr=>Ws<|Rw z<|Wq<|Wq ?_
 obtain ⟨ub,huc,O⟩:=bdS hm;refine Wt (fun a w=>∃(x4:Bool),x4=ub/\Sat 25 [(0,Str.v x1),(18,vB x4)] a/\Below w0.z w0 w) ?_ ?_
 ·refine Wg<|Rm z ?_
  obtain ⟨rd,ee,V⟩:=bdS huc;refine E z (fc call65 z<|i_s (B:=B) ee L J) ?_;rintro _ _ ⟨s3,rfl⟩;refine Rm z ?_
  rcases bs rd with h | h
  ·exact Nh z h<|Nh z h<|R z (pT z h z)<|Rm z<|Nh z z<|Nh z z<|R z (pT z z z)<|Rm z<|Nh z z<|Nh z z<|R z (pT z z z)<|Wl (fun _ q=>⟨true,som<|ifT V h,q.k<|s2 z z,s3⟩)
  have W:=ifF V h;refine Rh z h (mv z)<|Rh z h (b_E z z)<|R z (pF z h z)<|Rm z ?_
  rcases bs (x1.b==(⟨[42]⟩:Str).b) with G | G
  ·exact Nh z G<|Nh z G<|R z (pT z G z)<|Rm z<|Nh z z<|Nh z z<|R z (pT z z z)<|Wl (fun _ q=>⟨true,som<|ifT W G,q.k<|s2 z z,s3⟩)
  have hma:=ifF W G;refine Rh z G (mv z)<|Rh z G (b_E z z)<|R z (pF z G z)<|Rm z ?_
  rcases bs (x1.b==(⟨[63]⟩:Str).b) with H | H
  ·exact Nh z H<|Nh z H<|R z (pT z H z)<|Wl (fun _ q=>⟨true,som<|ifT hma H,q.k<|s2 z z,s3⟩)
  exact Rh z H (mv z)<|Rh z H (b_E z z)<|R z (pF z H z)<|Wl (fun _ q=>⟨x1.b==(⟨[43]⟩:Str).b,som<|ifF hma H,q.k<|s2 z z,s3⟩)
 rintro af _ ⟨x4,rfl,_,s5⟩;revert af;refine Wo<|Wc z (fun I=>?_) (fun I=>?_)
 ·refine Ws<|Rw z ?_
  obtain rfl:=som<|ifT O I;exact Wr<|e_ hr z ⟨s5,z⟩
 refine Wk<|Wm z ?_
 obtain ⟨_,_,eg,hmh⟩:=W_<|ifF O I;refine E z (fc call66 z<|W_w1d eg (zt' L s5.s) J) ?_;rintro _ _ ⟨si,rfl,_⟩;refine Rm z<|Re z z z<|Re z z z<|Ra z<|Rw z<|Wm z<|Rw z ?_
 obtain rfl:=som hmh;exact Wr<|e_ hr z ⟨bup s5 si,z⟩
def Q22 (w0:World)(B:Zone)(r:(List Str)×Bool)(v:Value)(w':World):Prop:=Bw w0 w'/\un2 (fun H I=>∃(a1:Option Addr)(h G:Nat)(S1:List Nat),v = .tuple #[(sl a1 h G),(vB I)]/\b_ w' S1 (sl a1 h G) H/\S1.Nodup/\(∀k∈S1,w0.heap.size<=k)) r
theorem n_z {w:World}{gp b:Nat}{s:Str}{l0 parts:List Str}(hs:s.b.length<=LEN)(hm:e_B s (47:UInt8)=some l0)(hsl:slc l0 1 (l0.length:Int)=some parts)(hp:Blk w gp [Str.v s])(hb:b<w.heap.size)(hrow:∀g,c_8 w b g->g<w.heap.size) :
    SeqStopsK (α:={x:Str // x∈parts/\x.b.length<=LEN}) Fence.wide 1 Tryz.prog 93 [pt gp].toArray (fun x=>#[x.1.v]) (KpS b) (fun xs=>xs.map (·.1)=parts) (fun _=>True) parts.length w:=by
  intro l J Jx W hW hJ hJx hY h0;have hpW:=hp.ext hW
  have hrowW:∀g,c_8 W b g->g<W.heap.size:=fun g ⟨n,c,h⟩=>by
    have h':w.cell? ⟨b,0,none⟩=some (sl (some ⟨g,0,none⟩) n c):=(World.cell?_of_block (w:=w) (w':=W) (a:=⟨b,0,none⟩)<|hW.block b hb).symm.trans h;exact Nat.lt_of_lt_of_le (hrow g ⟨n,c,h'⟩) hW.size
  have hbW:=Nat.lt_of_lt_of_le hb hW.size
  have hc:j_ Tryz.prog 93 [.func (.yield l) #[] #[],pt gp] W (fun _ W'=>(∃xs:List {x:Str // x∈parts/\x.b.length<=LEN},xs.map (·.1)=parts/\J xs W')∨(∃pre,True/\Jx pre W')):=by
    obtain ⟨fn,hf,hbd,hN,hr⟩:=fnE Tryz.func93;refine i_Q hf (hbd.trans rfl) (hN.trans rfl) (Nat.le_of_ble_eq_true rfl) ?_;refine a_L<|b_7 ?_;refine R rfl (c_3 g_9 rfl (fun h=>h)<|hpW.at rfl) ?_;refine E rfl (e_Q Tryz.call94 rfl<|W_w2p (B:=W.heap.size) hm zr hs) ?_;rintro _ W1 ⟨s1,a1,n1,c1,S1,rfl,ho,nd,hge⟩;refine RX rfl (q_0 a_0 z_9 rfl ho rfl rfl hsl) ?_;intro v7 hv7;obtain ⟨ao7,c7,rfl,_⟩:=id hv7;refine R rfl (g_q a_0 rfl<|hv7.repS (B:=W1.heap.size)<|fun k hk=>ho.lt k hk) ?_;refine R rfl (b_y rfl) ?_;refine a_M<|WC.of_KC ?_;have hJ1:J [] W1:=hJ [] W W1 none h0 (Below.grows s1) (fun r h=>by cases h);have hb1:b∉S1:=fun h=>absurd (hge b h)<|Nat.not_le.2 hbW
    have hr1:∀g,c_8 W1 b g->g∉S1:=fun g ⟨n,c,h⟩ hg=>by
      have h':W.cell? ⟨b,0,none⟩=some (sl (some ⟨g,0,none⟩) n c):=(World.cell?_of_block (w:=W) (w':=W1) (a:=⟨b,0,none⟩)<|s1.block b hbW).symm.trans h;exact absurd (hge g hg)<|Nat.not_le.2<|hrowW g ⟨n,c,h'⟩
    have hlenL:parts.length<=9223372036854775807:=Nat.le_trans (by obtain ⟨_,_,_,_,h,_⟩:=hv7;exact h) H_;refine d_y fun a ha=>?_
    refine Code.wp_mono (Q:=Exit.then noK<|fun ex a w=>(ex = .exit 0/\b_x Tryz.prog fn (fun _ W'=>(∃xs:List {x:Str // x∈parts/\x.b.length<=LEN},xs.map (·.1)=parts/\J xs W')∨(∃pre,True/\Jx pre W')) a w)∨(ex = .ret/\b_x Tryz.prog fn (fun _ W'=>(∃xs:List {x:Str // x∈parts/\x.b.length<=LEN},xs.map (·.1)=parts/\J xs W')∨(∃pre,True/\Jx pre W')) a w)) (fun ex a' w' q=>?_)<|wp_loop_ghost (fun m a w=>∃(k:Nat)(pre:List {x:Str // x∈parts/\x.b.length<=LEN}),k+m=parts.length/\pre.map (·.1)=parts.take k/\Sat 18 [(9,vI (k:Int)),(8,vI (parts.length:Int)),(7,sl ao7 parts.length c7),(0,.func (.yield l) #[] #[])] a/\J pre w/\b_ w S1 (sl a1 n1 c1) l0/\(∀g,c_8 w b g->g∉S1)/\c_N w (· ∈ S1) (sl ao7 parts.length c7) parts) parts.length ?_ ?_
    · cases ex with
      | normal=>exact (show False from q).elim
      | exit i =>
        rcases q with ⟨h,q⟩ | ⟨h,_⟩
        · cases h;exact q
        · cases h
      | ret =>
        rcases q with ⟨h,_⟩ | ⟨_,q⟩
        · cases h
        · exact q
      | _=>rcases q with ⟨h,_⟩ | ⟨h,_⟩ <;> cases h
    · exact ⟨0,[],by omega,by simp,ha.weaken<|sc rfl<|sc rfl<|sc rfl<|sc rfl sn,hJ1,ho,hr1,hv7⟩
    · rintro m a w ⟨k,pre,hkm,hpre,hsat,hJw,how,hrw,hvw⟩
      refine g_N (N:=18) (e:=[(9,vI (k:Int)),(8,vI (parts.length:Int)),(7,sl ao7 parts.length c7),(0,.func (.yield l) #[] #[])]) ?_ hsat;refine a_L<|b_7<|R rfl (f_8 rfl rfl)<|a_M<|WC.of_KC ?_;refine a_L<|c_t rfl (fun hc=>?_)<|fun hc=>?_
      · have hk:k<parts.length:=by simpa using hc
        obtain ⟨m,rfl⟩:∃m',m=m'+1:=⟨m - 1,by omega⟩;refine a_q<|WC.of_KC ?_;refine a_L<|d_y ?_;refine a_L<|b_7 ?_;have hrep:=hvw.repS (B:=w.heap.size)<|fun k hk=>how.lt k hk;have hidx:idx parts (k:Int)=some parts[k]:=by rw [j_J];simp [hk]
        refine RX rfl (g_r (α:=Str) a_0 z_9 rfl rfl rfl hrep hidx) ?_;rintro _ ⟨bb,oo,cs,rfl,hc1,hrr,hlt⟩;obtain ⟨rfl,hxl⟩:=b_s hrr;refine R rfl (c_3 g_9 rfl (fun h=>h)<|hc1.at0 rfl) ?_;refine R rfl (d_c rfl) ?_;refine a_M<|WC.of_KC ?_;refine a_L<|p_T ?_;refine h_o rfl (b_y rfl) ?_;refine h_o rfl (b_y rfl) ?_
        have hpl:pre.length=k:=by
          have:=congrArg List.length hpre
          simp at this;omega
        refine p_U (S:=fun v w'=>(v=vB true/\J (pre++[⟨parts[k],List.getElem_mem hk,hxl⟩]) w'/\KpS b w w')∨(v=vB false/\Jx (pre++[⟨parts[k],List.getElem_mem hk,hxl⟩]) w')) rfl rfl rfl (hY pre ⟨parts[k],List.getElem_mem hk,hxl⟩ w hJw (by omega)) (fun e w' h=>?_) ?_
        · rcases h with ⟨rfl,h⟩ | ⟨rfl,h⟩
          · exact ⟨_,rfl,.inl ⟨rfl,h⟩⟩
          · exact ⟨_,rfl,.inr ⟨rfl,h⟩⟩
        rintro v w' (⟨rfl,hJ',hK⟩ | ⟨rfl,hX⟩)
        · refine h_o rfl (e_i rfl) ?_
          refine l_G<|WC.of_KC ?_;refine c_t rfl (fun h=>by cases h)<|fun _=>?_;refine a_q<|WC.of_KC ?_;refine b_7<|R rfl (g_m hk hlenL rfl rfl)<|R rfl (b_y rfl) ?_;obtain ⟨ho',hr'⟩:=hK.own how hb1 hrw
          have hv':c_N w' (· ∈ S1) (sl ao7 parts.length c7) parts:=hvw.stay fun g hg=>hK.chg.block g (how.lt g hg) fun hm=>by
            rcases hm with rfl | hm | ⟨o,ho2,hcl⟩
            · exact hb1 hg
            · exact hrw g hm hg
            · obtain ⟨cur,hB⟩:=e_s how g hg
              rw [hB.isCells ho2] at hcl;cases hcl
          refine a_M fun a' ha'=>⟨m,Nat.lt_succ_self _,k+1,pre++[⟨parts[k],List.getElem_mem hk,hxl⟩],by omega,?_,ha'.weaken<|sc rfl<|sc rfl<|sc rfl<|sc rfl sn,hJ',ho',hr',hv'⟩
          rw [List.map_append,hpre,List.take_add_one,List.getElem?_eq_getElem hk];rfl
        · refine h_o rfl (e_i rfl) ?_
          refine l_G<|WC.of_KC ?_;refine c_t rfl (fun _=>?_) (fun h=>by cases h);exact d_x<|rtO fun a' ha'=>.inr ⟨rfl,ret0 hr (.inr ⟨_,trivial,hX⟩) a' ha'⟩
      · have hk:¬k<parts.length:=by simpa using hc
        have:k=parts.length:=by omega
        subst this;refine g_j fun a' ha'=>.inl ⟨rfl,ret0 hr (.inl ⟨pre,?_,hJw⟩) a' ha'⟩
        rw [hpre,List.take_length]
  refine callsIn_wide.2<|hc.run.mono fun e w' ⟨v,he,h⟩=>⟨⟨v,he⟩,h⟩
theorem k_5 {w0 W W':World}{row:Option Nat}(h:Below w0.heap.size w0 W)(hg:W.grownBy W' row)(hr:∀r,row=some r->w0.heap.size<=r):Below w0.heap.size w0 W':=c_X h (j_t hg) fun k hk e=>absurd (hr k e)<|Nat.not_le.2 hk
def n_A (w0:World)(s:Str)(v:Value)(w':World):Prop:=v = .func (.func 93) #[] #[pt w0.heap.size]/\Blk w' w0.heap.size [Str.v s]/\Bw w0 w'
theorem n_B {w0:World}{s:Str}:j_ Tryz.prog 64 [Str.v s] w0 (n_A w0 s):=by
  obtain ⟨_,hf,hb,hN,hr⟩:=fnE Tryz.func64;refine i_Q hf (hb.trans rfl) (hN.trans rfl) (Nat.le_of_ble_eq_true rfl) ?_;refine a_L<|b_7 ?_;refine E rfl (e_P rfl) ?_;rintro _ h ⟨rfl,h1⟩;refine R rfl (d_c rfl) ?_;refine a_M<|WC.of_KC ?_;refine a_L<|b_7 ?_;refine R rfl (h_I rfl) ?_;refine R rfl (d_c rfl) ?_;refine a_M<|WC.of_KC ?_;exact d_x<|e_ hr rfl ⟨rfl,(h1.blk:Blk h w0.heap.size [Str.v s]),h1.below⟩
theorem W_w2r {n:Nat}{B:Zone}{x1:Str}{res:(List Str)×Bool}{w0:World}(hm:h_v n x1=some res)(hBw:B<=w0.heap.size)(p1_0:x1.b.length<=LEN):j_ Tryz.prog 50 [(Str.v x1),.func (.func 51) #[] #[]] w0 (Q22 w0 B res):=by
  unfold h_v at hm
  obtain ⟨fn,hf,hb,hN,hr⟩:=fnE Tryz.func50;refine p_X hf (hb.trans rfl) (hN.trans rfl) (Nat.le_of_ble_eq_true rfl) ?_
  -- the cells
  refine a_L<|b_7 ?_;refine E rfl (e_P rfl) ?_;rintro _ w1 ⟨rfl,h1⟩;have b3:Blk w1 w0.heap.size [.func (.func 51) #[] #[]]:=h1.blk;refine E rfl (e_3 k_3) ?_;rintro _ w2 ⟨rfl,h2⟩;have b4:Blk w2 w1.heap.size [.slice none 0 0]:=h2.blk;refine E rfl (e_3 zero_4) ?_;rintro _ w3 ⟨rfl,h3⟩;have b5:Blk w3 w2.heap.size [vB false]:=h3.blk;refine a_M<|WC.of_KC ?_;refine a_L<|b_7 ?_;refine E rfl (e_U (α:=Str) c_f) ?_;rintro _ w4 ⟨a,m,c,rfl,s4,ho4⟩;refine E rfl (e_3 k_3) ?_;rintro _ w5 ⟨rfl,h5⟩;have b6:Blk w5 w4.heap.size [.slice none 0 0]:=h5.blk;refine E0 (b_d (cur':=[.slice a m c]) d_E rfl rfl b6 rfl (Nat.le_of_ble_eq_true rfl) (b_t rfl) rfl) ?_;rintro _ w6 ⟨c6,s6⟩;have t6:=s6.one;refine a_M<|WC.of_KC ?_
  -- what is known behind
  have g1:=h1.below;have g2:=h2.below;have g3:=h3.below;have g5:=h5.below;have z1:=h1.size;have z2:=h2.size;have z3:=h3.size;have z5:=h5.size;have z4:=s4.size;have z6:=s6.size
  have hz:w0.heap.size<w1.heap.size/\w1.heap.size<w2.heap.size/\w2.heap.size<w3.heap.size/\w3.heap.size<w4.heap.size/\w4.heap.size<w6.heap.size:=by
    have:=ho4.lt _ List.mem_cons_self
    omega
  have k3:Blk w6 w0.heap.size [.func (.func 51) #[] #[]]:=((((b3.ext g2).ext g3).ext s4).ext g5).chg s6 (by omega);have k4:Blk w6 w1.heap.size [.slice none 0 0]:=(((b4.ext g3).ext s4).ext g5).chg s6 (by omega);have k5:Blk w6 w2.heap.size [vB false]:=((b5.ext s4).ext g5).chg s6 (by omega);have kS:b_ w6 [w3.heap.size] (sl a m c) ([]:List Str):=(ho4.ext g5).chg s6 (fun k hk=>by have:=List.mem_singleton.1 hk;omega);have kB:Below w0.heap.size w0 w6:=c_Y (bup (bup (bup (bup g1 g2) g3) s4) g5) t6 (fun k hk=>by have:=List.mem_singleton.1 hk;omega)
  clear b3 b4 b5 b6 ho4 h1 h2 h3 h5 s4 s6 t6 g1 g2 g3 g5 z1 z2 z3 z4 z5 z6
  -- the first look
  refine a_L<|a_L<|b_7 ?_;refine R rfl (b_y rfl) ?_;refine R rfl (b_E rfl rfl) ?_;refine a_M<|WC.of_KC ?_;refine c_t rfl (fun hc=>?_)<|fun hc=>?_
  · obtain rfl:=som (ifT hm hc)
    refine a_L<|b_7 ?_;refine R rfl (c_3 a_B rfl (fun h=>h)<|c6.at rfl) ?_;refine E0 (b_d (cur':=[.slice a m c]) d_E rfl rfl k4 rfl (Nat.le_of_ble_eq_true rfl) (b_t rfl) rfl) ?_;rintro _ w7 ⟨c7,s7⟩;refine E0 (b_d (cur':=[vB true]) z_4 rfl rfl (k5.chg s7 (by omega)) rfl (Nat.le_of_ble_eq_true rfl) (b_t rfl) rfl) ?_;rintro _ w8 ⟨c8,s8⟩;refine a_M<|WC.of_KC ?_;refine d_x fun a' ha'=>retM<|a_o hr (d_0 (n:=1) a_B rfl<|c7.chg s8 (by omega)) (d_0 (n:=1) g_4 rfl c8) ⟨c_Y (c_Y kB s7.one (fun k hk=>by have:=List.mem_singleton.1 hk;omega)) s8.one (fun k hk=>by have:=List.mem_singleton.1 hk;omega),?_⟩ a' ha'
    exact ⟨a,m,c,_,rfl,(kS.chg s7 (fun k hk=>by have:=List.mem_singleton.1 hk;omega)).chg s8 (fun k hk=>by have:=List.mem_singleton.1 hk;omega),(by simp),fun k hk=>by have:=List.mem_singleton.1 hk;omega⟩
  replace hm:=ifF hm hc;refine a_q<|WC.of_KC ?_
  -- the first byte
  refine a_L<|a_L<|b_7 ?_;refine R rfl (b_y rfl) ?_;obtain ⟨x13,e13,hm⟩:=bdS hm;refine R rfl (c_l d_9 rfl rfl (a_n e13).1 (a_n e13).2.1) ?_;refine R rfl (g_Z rfl rfl) ?_;refine a_M<|WC.of_KC ?_;refine c_t rfl (fun hc=>?_)<|fun hc=>?_
  · obtain rfl:=som (ifT hm hc)
    refine a_L<|b_7 ?_;refine R rfl (c_3 a_B rfl (fun h=>h)<|c6.at rfl) ?_;refine E0 (b_d (cur':=[.slice a m c]) d_E rfl rfl k4 rfl (Nat.le_of_ble_eq_true rfl) (b_t rfl) rfl) ?_;rintro _ w7 ⟨c7,s7⟩;refine E0 (b_d (cur':=[vB false]) z_4 rfl rfl (k5.chg s7 (by omega)) rfl (Nat.le_of_ble_eq_true rfl) (b_t rfl) rfl) ?_;rintro _ w8 ⟨c8,s8⟩;refine a_M<|WC.of_KC ?_;refine d_x fun a' ha'=>retM<|a_o hr (d_0 (n:=1) a_B rfl<|c7.chg s8 (by omega)) (d_0 (n:=1) g_4 rfl c8) ⟨c_Y (c_Y kB s7.one (fun k hk=>by have:=List.mem_singleton.1 hk;omega)) s8.one (fun k hk=>by have:=List.mem_singleton.1 hk;omega),?_⟩ a' ha'
    exact ⟨a,m,c,_,rfl,(kS.chg s7 (fun k hk=>by have:=List.mem_singleton.1 hk;omega)).chg s8 (fun k hk=>by have:=List.mem_singleton.1 hk;omega),(by simp),fun k hk=>by have:=List.mem_singleton.1 hk;omega⟩
  replace hm:=ifF hm hc;refine a_q<|WC.of_KC ?_;obtain ⟨l0,hsp,hm⟩:=bdS hm;obtain ⟨parts,hsl,hm⟩:=bdS hm;obtain ⟨oks,hok,hm⟩:=bdS hm
  split at hm
  case isFalse=>cases hm
  rename_i hlim
  obtain rfl:=som hm;obtain ⟨hacc,hall⟩:=l_M hok
  -- the loop
  refine a_L<|a_L<|b_7 ?_;refine R rfl (b_y rfl) ?_;refine E rfl (e_Q Tryz.call64 rfl n_B) ?_;rintro _ w7 ⟨rfl,bp,s7⟩;refine a_M<|WC.of_KC ?_;replace k3:=k3.ext s7;replace k4:=k4.ext s7;replace k5:=k5.ext s7;replace c6:=c6.ext s7;replace kS:=kS.ext s7;replace kB:=bup kB<|s7.mono<|Nat.le_refl _;have z7:=s7.size
  have hrow:∀g,c_8 w7 w4.heap.size g->g<w7.heap.size:=fun g hg=>by
    have h1:=l_J c6 hg;exact kS.lt _<|(h_p kS).2 g 0 none h1
  generalize w1.heap.size=q4 at *
  generalize w2.heap.size=q5 at *
  generalize w4.heap.size=q6 at *
  refine p_Y (α:={x:Str // x∈parts/\x.b.length<=LEN}) (f:=fun x=>x.1) (gf:=93) (lb:=[pt w6.heap.size]) (b:=q6) (M:=parts.length) (S:=fun xs=>xs.map (·.1)=parts) (Sp:=fun _=>True) rfl Tryz.call93 rfl rfl (by omega)
    (n_z p1_0 hsp hsl bp (by omega) hrow)
    (fun pre W=>(∀x∈pre,(d_V n x.1).getD false=true)/\(∃(a:Option Addr)(m c:Nat)(S:List Nat),Blk W q6 [.slice a m c]/\b_ W S (sl a m c) (pre.map (·.1))/\S.Nodup/\(∀k∈S,q5<k/\k ≠ q6))/\Blk W w0.heap.size [.func (.func 51) #[] #[]]/\Blk W q4 [.slice none 0 0]/\Blk W q5 [vB false]/\Below w0.heap.size w0 W)
    (fun pre W=>(∃x∈pre,(d_V n x.1).getD false=false)/\(∃(a:Option Addr)(m c:Nat)(S:List Nat),Blk W q4 [.slice a m c]/\b_ W S (sl a m c) ([]:List Str)/\S.Nodup/\(∀k∈S,w0.heap.size<=k))/\Blk W q5 [vB false]/\Below w0.heap.size w0 W)
    ?_ ?_ ?_ ?_ ?_ ?_
  · rintro pre W W' row ⟨h1,⟨a,m,c,S,h2,h3,h4,h5⟩,h6,h7,h8,h9⟩ hg hr
    have hr':=fun r e=>(hr r e).2
    exact ⟨h1,⟨a,m,c,S,h2.grown hg hr',l_L h3 hg hr',h4,h5⟩,h6.grown hg hr',h7.grown hg hr',h8.grown hg hr',k_5 h9 hg fun r e=>Nat.le_trans (by omega) (hr r e).1⟩
  · rintro pre W W' row ⟨h1,⟨a,m,c,S,h2,h3,h4,h5⟩,h8,h9⟩ hg hr
    have hr':=fun r e=>(hr r e).2
    exact ⟨h1,⟨a,m,c,S,h2.grown hg hr',l_L h3 hg hr',h4,h5⟩,h8.grown hg hr',k_5 h9 hg fun r e=>Nat.le_trans (by omega) (hr r e).1⟩
  · exact ⟨fun x hx=>(by cases hx),⟨a,m,c,_,c6,kS,(by simp),fun k hk=>by have:=List.mem_singleton.1 hk;omega⟩,k3,k4,k5,kB⟩
  · rintro l pre ⟨x,hx,hxl⟩ W ⟨h1,⟨a,m,c,S,h2,h3,h4,h5⟩,h6,h7,h8,h9⟩ hlt
    refine p_S<|j_s<|j_s<|j_r rfl (fun _ _ h=>by cases h.1) ?_;refine R rfl (c_3 g_75 rfl (fun h=>h)<|h6.at rfl) ?_;refine R rfl (b_y rfl) ?_;refine E rfl (h_J (caps:=[]) Tryz.call51 rfl rfl<|W_w2q (hacc x hx) zr hxl) ?_;rintro _ W1 ⟨s1,rfl⟩;refine R rfl (e_i rfl) ?_;refine a_M<|WCI.of_KC ?_;have y1:=s1.size;have hq6:=h2.lt;have hw0.heap.size:=h6.lt;have hq4:=h7.lt;have hq5:=h8.lt;refine p_P rfl (fun hc=>?_)<|fun hc=>?_
    · refine j_s (j_r rfl (fun _ _ h=>by cases h.1) ?_)
      refine E rfl (e_U (α:=Str) c_f) ?_;rintro _ W2 ⟨a2,m2,c2,rfl,s2,ho2⟩;refine E0 (b_d (cur':=[.slice a2 m2 c2]) d_E rfl rfl ((h7.ext s1).ext s2) rfl (Nat.le_of_ble_eq_true rfl) (b_t rfl) rfl) ?_;rintro _ W3 ⟨c3,s3⟩;refine E0 (b_d (cur':=[vB false]) z_4 rfl rfl (((h8.ext s1).ext s2).chg s3 (by omega)) rfl (Nat.le_of_ble_eq_true rfl) (b_t rfl) rfl) ?_;rintro _ W4 ⟨c4,s4⟩;refine a_M<|WCI.of_KC ?_;have hW:Below W.heap.size W W2:=bup s1 s2
      have hc4:Chg (fun k=>k=q4∨k=q5) W W4:=by
        have e1:Chg (fun k=>k=q4∨k=q5) W W2:=(Chg.refl _ W).ext hW;refine (e1.comp s3 fun k _ hk=>.inl hk).comp s4 fun k _ hk=>.inr hk
      refine p_R fun _ q=>⟨rfl,l_K hc4 fun k _ hk=>?_,⟨⟨x,hx,hxl⟩,by simp,by simpa using hc⟩,⟨a2,m2,c2,_,c3.chg s4 (by omega),(ho2.chg s3 fun k hk=>by have:=List.mem_singleton.1 hk;omega).chg s4 fun k hk=>by have:=List.mem_singleton.1 hk;omega,(by simp),fun k hk=>by have:=List.mem_singleton.1 hk;omega⟩,c4,?_⟩
      · rcases hk with rfl | rfl
        · exact ⟨_,h7⟩
        · exact ⟨_,h8⟩
      · exact c_X h9 hc4 fun k hk hm=>by rcases hm with rfl | rfl <;> omega
    · refine p_Q (WCI.of_KC ?_)
      refine j_r rfl (fun _ _ h=>by cases h.1) ?_
      have hpsh:psh (pre.map (·.1)) x=some (pre.map (·.1)++[x]):=by
        unfold psh
        rw [if_pos (by rw [List.length_map];omega)]
      refine R rfl (c_3 a_B rfl (fun h=>h)<|(h2.ext s1).at rfl) ?_;refine R rfl (b_y rfl) ?_;refine E rfl (g_l [(.tmp 25)] c_f rfl rfl rfl (c_Z rfl) (Nat.le_of_ble_eq_true rfl)<|Nat.le_of_ble_eq_true rfl) ?_;rintro _ W2 ⟨rfl,hb⟩;have s2:=hb.below;have y2:=s2.size;refine E rfl (d_D (α:=Str) c_f hpsh rfl rfl ((h3.ext s1).ext s2) h4 hb.blk (c_x hxl) all_nil a_f) ?_;rintro _ W3 ⟨S',a',n',c',rfl,s3,ho3,nd3,hs3⟩;have y3:=s3.size
      have n3:∀k,k<W.heap.size->k<=q5∨k=q6->k∉S':=fun k hk hq hm=>by
        rcases hs3 k hm with h | h | h
        · have:=h5 k h;omega
        · cases h
        · omega
      refine E0 (b_d (cur':=[.slice a' n' c']) d_E rfl rfl (((h2.ext s1).ext s2).chg s3 (fun hm=>(h5 _ hm).2 rfl)) rfl (Nat.le_of_ble_eq_true rfl) (b_t rfl) rfl) ?_;rintro _ W4 ⟨c4,s4⟩;have hW:Below W.heap.size W W2:=bup s1 s2
      have hc4:Chg (fun k=>k=q6∨k∈S) W W4:=by
        have e1:Chg (fun k=>k=q6∨k∈S) W W2:=(Chg.refl _ W).ext hW;refine (e1.comp s3 fun k _ hk=>.inr hk).comp s4 fun k _ hk=>.inl hk
      have ho4:b_ W4 S' (sl a' n' c') (pre.map (·.1)++[x]):=ho3.chg s4 fun k hk he=>n3 q6 hq6 (.inr rfl)<|he ▸ hk
      have hs4:∀k∈S',k∈S∨W.heap.size<=k:=fun k hk=>by
        rcases hs3 k hk with h | h | h
        · exact .inl h
        · cases h
        · exact .inr (by omega)
      have k4:∀k,k<=q5->¬(k=q6∨k∈S):=fun k hk hm=>by
        rcases hm with rfl | hm
        · omega
        · have:=h5 k hm;omega
      refine a_M fun a'' ha''=>⟨l_K hc4 fun k _ hk=>?_,KpS.of_chg h2 h3 c4 ho4 hs4 hc4,fun y hy=>?_,⟨a',n',c',S',c4,by simpa using ho4,nd3,fun k hk=>?_⟩,h6.chg hc4<|k4 _ (by omega),h7.chg hc4<|k4 _ (by omega),h8.chg hc4<|k4 _ (by omega),c_X h9 hc4 fun k hk hm=>k4 k (by omega) hm⟩
      · rcases hk with rfl | hk
        · exact ⟨_,h2⟩
        · exact e_s h3 k hk
      · rcases List.mem_append.1 hy with hy | hy
        · exact h1 y hy
        · obtain rfl:=List.mem_singleton.1 hy
          simpa using hc
      · rcases hs4 k hk with h | h
        · exact h5 k h
        · omega
  · rintro D xs W hD hxs ⟨h1,⟨a,m,c,S,h2,h3,h4,h5⟩,h6,h7,h8,h9⟩ hdef a0 ha0
    have hw0.heap.size:=h6.lt;have hq4:=h7.lt;have hq5:=h8.lt;refine tailD ?_ ha0;refine R rfl (c_3 a_B rfl (fun h=>h)<|h2.at rfl) ?_;refine E0 (b_d (cur':=[.slice a m c]) d_E rfl rfl h7 rfl (Nat.le_of_ble_eq_true rfl) (b_t rfl) rfl) ?_;rintro _ W1 ⟨c7,s7⟩;refine E0 (b_d (cur':=[vB true]) z_4 rfl rfl (h8.chg s7 (by omega)) rfl (Nat.le_of_ble_eq_true rfl) (b_t rfl) rfl) ?_;rintro _ W2 ⟨c8,s8⟩;have hDlt:=(Array.getElem?_eq_some_iff.1 hdef).1;have hdef2:W2.heap[D]? = some (.deferred<|some []):=((s8.block D (Nat.lt_of_lt_of_le hDlt s7.size) (by omega)).trans (s7.block D hDlt (by omega))).trans hdef
    have hDS:∀k∈S,k ≠ D:=fun k hk e=>by
      obtain ⟨cur,hB⟩:=e_s h3 k hk;have:=(e ▸ hB).isCells hdef
      cases this
    have hoks:oks.all id=true:=hall.2 fun y hy=>by
      rw [← hxs] at hy
      obtain ⟨z,hz,rfl⟩:=List.mem_map.1 hy;exact h1 z hz
    rw [if_pos hoks]
    refine a_M fun a' ha'=>⟨ha'.defers,hdef2,?_⟩
    have hp:=l_H W2 D<|.deferred none;obtain ⟨_,v,e1,e2⟩:=a_o (R:=Q22 w0 B (parts,true)) hr (d_0 (n:=1) a_B rfl<|(c7.chg s8 (by omega)).chg hp (by omega)) (d_0 (n:=1) g_4 rfl<|c8.chg hp (by omega)) ⟨c_X (c_X (c_X h9 s7 fun k hk e=>by omega) s8 fun k hk e=>by omega) hp fun k hk e=>by omega,a,m,c,S,rfl,((hxs ▸ h3).chg s7 fun k hk e=>by have:=h5 k hk;omega).chg s8 (fun k hk e=>by have:=h5 k hk;omega) |>.chg hp fun k hk e=>hDS k hk e,h4,fun k hk=>by have:=h5 k hk;omega⟩ a' ha';exact ⟨v,e1,e2⟩
  · rintro D pre W hD _ ⟨⟨⟨x,hx,hxl⟩,hxm,hxb⟩,⟨a,m,c,S,h2,h3,h4,h5⟩,h8,h9⟩ hdef a0 ha0
    have hq4:=h2.lt;have hq5:=h8.lt
    have hDS:∀k∈S,k ≠ D:=fun k hk e=>by
      obtain ⟨cur,hB⟩:=e_s h3 k hk;have:=(e ▸ hB).isCells hdef
      cases this
    have hoks:¬oks.all id=true:=fun h=>by
      have:=hall.1 h x hx
      rw [this] at hxb;cases hxb
    rw [if_neg hoks]
    have hp:=l_H W D<|.deferred none;obtain ⟨_,v,e1,e2⟩:=a_o (R:=Q22 w0 B ([],false)) hr (d_0 (n:=1) a_B rfl<|h2.chg hp (by omega)) (d_0 (n:=1) g_4 rfl<|h8.chg hp (by omega)) ⟨c_X h9 hp fun k hk e=>by omega,a,m,c,S,rfl,h3.chg hp fun k hk e=>hDS k hk e,h4,h5⟩ a0 ha0;exact retD ha0.defers hdef e1 e2
def Q23 (w0:World)(B:Zone)(r:(List Str)×Bool)(v:Value)(w':World):Prop:=Bw w0 w'/\un2 (fun H I=>∃a1 h G S1,v = .tuple #[sl a1 h G,vB I]/\b_ w' S1 (sl a1 h G) H/\S1.Nodup/\(∀k∈S1,w0.z<=k)) r
theorem W_w2s {x1:Str}{res:(List Str)×Bool}(hm:f_L n x1=some res)(G:B<=w0.z)(h:x1.b.length<=LEN):j_ prog 31 [Str.v x1] w0 (Q23 w0 B res):=by
 unfold f_L at hm
 refine goG func31 z z z fun fn hr=>Ws<|Ra z<|Rw z<|Wm z ?_
 obtain ⟨_,_,I,H⟩:=W_ hm;refine E z (fc call50 z<|W_w2r (B:=B) I G h) ?_;rintro _ _ ⟨s2,J,L,O,V,rfl,W,Y,h9⟩;refine Re z z z<|Re z z z<|Ra z<|Rw z ?_
 obtain rfl:=som H;exact Wr<|a_o hr z z ⟨s2,J,L,O,V,z,W,Y,h9⟩
def Q24 (w0:World)(g1:Nat)(B:Zone)(A0:Option Addr)(N0 C0:Nat)(A1:Option Addr)(N1 C1:Nat)(x1:a_N)(r:Bool×Int)(v:Value)(w':World):Prop:=Chg (· ∈ [g1]) w0 w'/\un2 (fun G h=>(vB G)=v/\inI h/\Blk w' g1 [sl A0 N0 C0,sl A1 N1 C1,vI x1.rule,vI h]) r
theorem i_E {x1:a_N}{g1:Nat}{x2:Int}{res:Bool×Int}(hm:c_S n x1 x2=some res)(hB1:Blk w0 g1 [sl A0 N0 C0,sl A1 N1 C1,vI x1.rule,vI x1.at_])(O:B<=w0.z)(hBg:¬B g1)(H:repS w0 B (sl A0 N0 C0) x1.d.rules)(I:repS w0 B (sl A1 N1 C1) x1.b)(a0:inI x1.rule)(J:inI x1.at_)(L:inI x2):j_ prog 68 [pt g1,vI x2] w0 (Q24 w0 g1 B A0 N0 C0 A1 N1 C1 x1 res):=by
 unfold c_S at hm
 refine goG func68 z z z fun fn hr=>Ws<|Rw z<|Wq (Wd (X:=noX) 0 (pl_ 19 [13]) mo (by kernel_rfl) fun W G _=>dM z z z<|dR z z (I_ z)<|dR z z (fd i_d z) ?_)
 have h1:=hB1.e G;refine dR z z (lN (vs:=[sl A0 N0 C0]) D_ C_ z z fid<|h1.row 0 1 z)<|dM z z z<|dM z z z<|dR z z (I_ z)<|dR z z (fd g_y z)<|dR z z (l0 T_ z<|h1.at z)<|dM z z z<|dR z z (I_ z)<|dR z z (fd c_A z)<|dR z z (l0 g_3 z<|h1.at z) ?_
 obtain ⟨Y,_,e5,V⟩:=W_ hm;refine dE z z (fc call45 z<|g_D (B:=B) (x1:=(⟨x1.d.rules⟩:g_)) e5 (zt' O G.s) (H.e G) L (I.e G) J) (.inr fun _ _ h=>F_<|h.1) ?_;rintro _ w7 ⟨s2,rfl,h8,_⟩;refine dM z z z<|dR z z (ext_ z z)<|dR z z (ext_ z z)<|dQ z z z<|dQ z z z<|pD<|Wo<|Wm z<|Rm z<|R z (I_ z)<|Rf z c_A z<|E0 (fs0 (cur':=[sl A0 N0 C0,sl A1 N1 C1,vI x1.rule,vI Y]) z_3 z z (h1.e s2) z z z z) ?_
 rintro _ w9 ⟨ha,sb⟩;refine Wn<|Wm z<|Rq z z z<|Rw z ?_
 obtain rfl:=som V;exact Wr<|e_ hr z ⟨(cM (d_ (d_ (cr [g1] w0) G:Chg (· ∈ [g1]) w0 W) s2:Chg (· ∈ [g1]) w0 w7) sb.one (io sr):Chg (· ∈ [g1]) w0 w9),z,h8,ha⟩
def Q25 (w0:World)(g1:Nat)(B:Zone)(A0:Option Addr)(N0 C0:Nat)(A1:Option Addr)(N1 C1:Nat)(x1:a_N)(r:Int×Bool×Int)(v:Value)(w':World):Prop:=Chg (· ∈ [g1]) w0 w'/\un3 (fun h H G=>v = .tuple #[vI h,vB H]/\inI h/\inI G/\Blk w' g1 [sl A0 N0 C0,sl A1 N1 C1,vI x1.rule,vI G]) r
theorem W_w1e {x1:a_N}{g1:Nat}{x2:Int}{res:Int×Bool×Int}(hm:e_F n x1 x2=some res)(hB1:Blk w0 g1 [sl A0 N0 C0,sl A1 N1 C1,vI x1.rule,vI x1.at_])(L:B<=w0.z)(hBg:¬B g1)(I:repS w0 B (sl A0 N0 C0) x1.d.rules)(J:repS w0 B (sl A1 N1 C1) x1.b)(a0:inI x1.rule)(a1:inI x1.at_)(a2:inI x2):j_ prog 67 [pt g1,vI x2] w0 (Q25 w0 g1 B A0 N0 C0 A1 N1 C1 x1 res):=by
 unfold e_F at hm
 refine goG func67 z z z fun fn hr=>Ws<|Ra z<|Rw z<|Wm z<|R z (I_ z)<|Rf z c_A z<|R z (l0 g_3 z<|hB1.at z)<|Rw z<|Wq<|Wm z<|Rm z ?_
 obtain ⟨_,_,ea,O⟩:=W_ hm;refine E z (fc call68 z<|i_E (B:=B) ea hB1 L hBg I J a0 a1 a2) ?_;rintro _ V ⟨G,rfl,h6,W⟩;refine R z (not_ z)<|Wx z (fun H=>?_) (fun H=>?_)
 ·refine Ws<|Ra z<|Rw z ?_
  obtain rfl:=som<|ifT O H;exact Wr<|a_o hr z z ⟨(cM (cr [g1] w0) G (io sr):Chg (· ∈ [g1]) w0 V),z,ii z,h6,W⟩
 refine Wk<|Wq (Wd (X:=noX) 0 (pl_ 22 [19]) mo (by kernel_rfl) fun wc s1 _=>dM z z z<|dR z z (I_ z)<|dR z z (fd g_y z) ?_)
 have h2:=W.e s1;refine dR z z (l0 T_ z<|h2.at z)<|dM z z z<|dM z z z<|dR z z (I_ z)<|dR z z (fd c_A z)<|dR z z (l0 g_3 z<|h2.at z) ?_
 obtain ⟨_,ed,hme⟩:=bdS<|ifF O H;have Y:=(G.agc B<|c_<|f_ hBg).e s1;refine dRX z z (rX l_ z_5 z z (J.g Y) z z ed) ?_;rintro _ ⟨_,_,_,rfl,hf⟩;refine dM z z z<|dR z z (I_ z)<|dR z z (fd i_d z)<|dR z z (fd a_9 z)<|dR z z (l0 a_c z<|h2.at z)<|dM z z z ?_
 obtain ⟨_,eg,hmh⟩:=bdS hme;refine dRX z z (at_ (α:=a_) Q_ n_ z z z (I.g Y) eg) ?_;rintro _ ⟨_,_,_,rfl,hi,hj,_⟩;obtain ⟨_,_,_,_,_,_,_,_,_,_,_,_,rfl,_,_,_,_,_,_,_⟩:=a_y hj;refine dR z z (fd b_D z)<|dR z z (l0 g_4 z<|hi.at (j:=3) z) ?_
 obtain ⟨_,ek,hml⟩:=bdS hmh;refine dE z z (fc call47 z<|f_2 ek (zt' L<|lt_ G.s s1.s) hf) (.inr fun _ _ h=>F_<|h.1) ?_;rintro _ wm ⟨s9,rfl,hn⟩;refine dQ z z z<|dQ z z z<|pD<|Wo ?_
 obtain rfl:=som hml;exact Wr<|a_o hr z z ⟨(d_ (d_ (cM (cr [g1] w0) G (io sr):Chg (· ∈ [g1]) w0 V) s1:Chg (· ∈ [g1]) w0 wc) s9:Chg (· ∈ [g1]) w0 wm),z,hn,h6,h2.e s9⟩
def Q26 (w0:World)(g1:Nat)(B:Zone)(A0:Option Addr)(N0 C0:Nat)(A1:Option Addr)(N1 C1:Nat)(x1:a_N)(r:Bool×Int×Int)(v:Value)(w':World):Prop:=Chg (· ∈ [g1]) w0 w'/\un3 (fun H h G=>(vB H)=v/\inI h/\inI G/\Blk w' g1 [sl A0 N0 C0,sl A1 N1 C1,vI h,vI G]) r
theorem W_w2t {x1:a_N}{g1:Nat}{x2:a_}{x3:Str}{res:Bool×Int×Int}(hm:f_X n x1 x2 x3=some res)(hB1:Blk w0 g1 [sl A0 N0 C0,sl A1 N1 C1,vI x1.rule,vI x1.at_])(Y:B<=w0.z)(hBg:¬B g1)(a0:repS w0 B (sl A0 N0 C0) x1.d.rules)(a1:repS w0 B (sl A1 N1 C1) x1.b)(V:inI x1.rule)(a8:inI x1.at_)(aN:x2.name.b.length<=LEN)(aO:inI x2.kind)(aP:inI x2.size)(aQ:repS w0 B (sl A3 N3 C3) x2.bytes)(aR:repS w0 B (sl A4 N4 C4) x2.names)(aS:repS w0 B (sl A2 N2 C2) x2.tags)(W:repS w0 B (sl A5 N5 C5) x2.kids)(a9:x3.b.length<=LEN):j_ prog 52 [pt g1,.agg #[Str.v x2.name,vI x2.kind,vI x2.size,vB x2.little,sl A3 N3 C3,sl A4 N4 C4,sl A2 N2 C2,sl A5 N5 C5],Str.v x3] w0 (Q26 w0 g1 B A0 N0 C0 A1 N1 C1 x1 res):=by
 unfold f_X at hm
 refine goG func52 z z z fun fn hr=>Ws<|E z (fb z) ?_
 rintro _ wb ⟨rfl,hn⟩;have O:=hn.below;refine Rw z<|m_S 0 z<|Wm z ?_
 obtain ⟨rm,am,an,aa⟩:=W_ hm;refine E z (fc call66 z<|W_w1d an (zt' Y O.s) a9) ?_;rintro _ we ⟨s9,rfl,ao⟩;refine Rm z<|Re z z z<|Re z z z<|Ra z<|Rw z<|Wm z<|Rf z M_ z ?_
 have hf:=(hn.blk:Blk wb w0.z (vR x2 A3 N3 C3 A4 N4 C4 A2 N2 C2 A5 N5 C5)).e s9;refine R z (l0 w_ z<|hf.at z) ?_;obtain ⟨_,ap,ab⟩:=bdS aa;have ha:=(O.ag B).e s9;refine RX z (at_ (α:=Int) r_ z_3 z z z (W.g ha) ap) ?_;rintro _ ⟨_,_,_,rfl,aq,ar,_⟩;obtain ⟨rfl,au⟩:=O_ ar;refine R z (l0 g_3 z<|aq.at0 z) ?_;have ho:=lt_ O.s s9.s;obtain ⟨rp,av,_,aw,ad⟩:=L_ ab;refine E z (fc call67 z<|W_w1e (B:=B) aw ((hB1.e O).e s9) (zt' Y ho) hBg (a0.g ha) (a1.g ha) V a8 au) ?_;rintro _ J ⟨s5,rfl,_,hq,ht⟩;refine Rm z<|Re z z z<|Re z z z<|Ra z<|Rw z<|Wq<|Wq ?_
 obtain ⟨ax,hur,hms⟩:=bdS ad;refine Wt (fun a w=>∃(xg:Bool),xg=ax/\Sat 58 [(0,pt g1),(4,pt w0.z),(7,vI rm),(39,vB xg)] a/\Below J.z J w) ?_ ?_
 ·refine Wg<|Rm z<|R z (not_ z)<|Rm z ?_
  rcases bs (!am) with G | G
  ·exact Nh z G<|Nh z G<|R z (pT z G z)<|Rm z<|Nh z z<|Nh z z<|R z (pT z z z)<|Rm z<|Nh z z<|Nh z z<|Nh z z<|R z (pT z z z)<|Wl (fun _ q=>⟨true,som<|ifT hur G,q.k<|s4 z z z z,br J⟩)
  have hmu:=ifF hur G;refine Rh z G (mv z)<|Rh z G (not_ z)<|R z (pF z G z)<|Rm z ?_
  rcases bs (!av) with H | H
  ·exact Nh z H<|Nh z H<|R z (pT z H z)<|Rm z<|Nh z z<|Nh z z<|Nh z z<|R z (pT z z z)<|Wl (fun _ q=>⟨true,som<|ifT hmu H,q.k<|s4 z z z z,br J⟩)
  have hmv:=ifF hmu H;refine Rh z H (mv z)<|Rh z H (a_b z z)<|R z (pF z H z)<|Rm z ?_
  rcases bs (decide<|40<rp) with I | I
  ·iterate 3 refine Nh z I ?_
   exact R z (pT z I z)<|Wl (fun _ q=>⟨true,som<|ifT hmv I,q.k<|s4 z z z z,br J⟩)
  exact Rh z I (mv z)<|Rh z I (mv z)<|Rh z I (b_f z z)<|R z (pF z I z)<|Wl (fun _ q=>⟨decide<|rp<=rm,som<|ifF hmv I,q.k<|s4 z z z z,br J⟩)
 rintro ay L ⟨xg,rfl,_,h⟩;revert ay;refine Wo<|Wc z (fun hch=>?_) (fun hch=>?_)
 ·refine Ws<|Rw z ?_
  obtain rfl:=som<|ifT hms hch;exact i_b<|e_ hr z ⟨(d_ (cM (d_ (d_ (cr [g1] w0) O:Chg (· ∈ [g1]) w0 wb) s9:Chg (· ∈ [g1]) w0 we) s5 (io sr):Chg (· ∈ [g1]) w0 J) h:Chg (· ∈ [g1]) w0 L),z,V,hq,ht.e h⟩
 refine Wk ?_;obtain ⟨_,ae,af⟩:=gotoS<|ifF hms hch;refine m_T (σ:=Int×Int) (ρ:=Bool×Int×Int) (fun s a w=>un2 (fun xc xd=>Sat 58 [(0,pt g1),(4,pt w0.z),(7,vI xc)] a/\Chg (· ∈ [g1]) L w/\inI xc/\inI xd/\Blk w g1 [sl A0 N0 C0,sl A1 N1 C1,vI x1.rule,vI xd]) s) (rQ prog fn<|Q26 w0 g1 B A0 N0 C0 A1 N1 C1 x1) ae ?_ ?_ ?_
 ·exact fun _ q=>⟨q.k<|s3 z z z,cr [g1] L,ao,hq,ht.e h⟩
 ·rintro ⟨xc,xd⟩ _ wi _ ⟨ah,s7,_,hw,hx⟩ ai;have hmy:=a_H ai;refine Wu ?_ ah;refine Wq<|Wm z<|R z (a_b z z)<|Wx z (fun hcj=>?_) (fun hcj=>?_)
  ·refine Wq<|Wm z<|Rf z M_ z ?_
   have hz:=mmr<|Blk.lt hB1
   refine R z (l0 w_ z<|(((hf.c s5<|atp hz).e h).c s7<|atp hz).at z) ?_;obtain ⟨_,az,aj⟩:=bdS<|ifT hmy hcj;have hk:=((ha.c s5<|c_<|f_ hBg).e h).c s7<|c_<|f_ hBg
   refine RX z (at_ (α:=Int) r_ z_3 z z z (W.g hk) az) ?_;rintro _ ⟨_,_,_,rfl,aA,aB,_⟩;obtain ⟨rfl,aC⟩:=O_ aB;refine R z (l0 g_3 z<|aA.at0 z) ?_;obtain ⟨_,aD,aE,a2⟩:=W_ aj;refine E z (fc call68 z<|i_E (B:=B) aE hx (zt' Y<|lt_ (lt_ (lt_ ho s5.s) h.s) s7.s) hBg (a0.g hk) (a1.g hk) V hw aC) ?_;rintro _ a3 ⟨a4,rfl,a5,a6⟩;refine R z (not_ z)<|Wx z (fun hcl=>?_) (fun hcl=>?_)
   ·refine Ws<|Rw z ?_
    exact i_b<|qL (som<|ifT a2 hcl).symm<|e_ hr z ⟨(cM (cM (d_ (cM (d_ (d_ (cr [g1] w0) O:Chg (· ∈ [g1]) w0 wb) s9:Chg (· ∈ [g1]) w0 we) s5 (io sr):Chg (· ∈ [g1]) w0 J) h:Chg (· ∈ [g1]) w0 L) s7 (io sr):Chg (· ∈ [g1]) w0 wi) a4 (io sr):Chg (· ∈ [g1]) w0 a3),z,V,a5,a6⟩
   refine Wk<|Wm z<|R z (sb_ z z)<|Rw z ?_
   exact m_U fun _ q=>⟨rfl,(K_ xc 1,aD),(som<|ifF a2 hcl).symm,⟨q.k<|s3 z z z,(cM (cM (cr [g1] L) s7 (io sr):Chg (· ∈ [g1]) L wi) a4 (io sr):Chg (· ∈ [g1]) L a3),iS _ _,a5,a6⟩⟩
  refine Wk<|Wm z<|Rf z M_ z ?_
  have a7:=mmr<|Blk.lt hB1
  refine R z (l0 w_ z<|(((hf.c s5<|atp a7).e h).c s7<|atp a7).at z) ?_;obtain ⟨aF,aG,ak⟩:=bdS<|ifF hmy hcj;refine RX z (at_ (α:=Int) r_ z_3 z z z (W.g<|((ha.c s5<|c_<|f_ hBg).e h).c s7<|c_<|f_ hBg) aG) ?_;rintro _ ⟨_,_,_,rfl,aH,aI,_⟩;obtain ⟨rfl,aJ⟩:=O_ aI;refine R z (l0 g_3 z<|aH.at0 z)<|R z (I_ z)<|Rf z e_Z z<|E0 (fs0 (cur':=[sl A0 N0 C0,sl A1 N1 C1,vI aF,vI xd]) z_3 z z hx z z z z) ?_
  rintro _ aK ⟨aL,aM⟩;refine Wn<|Ws<|Rw z ?_
  exact i_b<|qL (som ak).symm<|e_ hr z ⟨(cM (cM (d_ (cM (d_ (d_ (cr [g1] w0) O:Chg (· ∈ [g1]) w0 wb) s9:Chg (· ∈ [g1]) w0 we) s5 (io sr):Chg (· ∈ [g1]) w0 J) h:Chg (· ∈ [g1]) w0 L) s7 (io sr):Chg (· ∈ [g1]) w0 wi) aM.one (io sr):Chg (· ∈ [g1]) w0 aK),z,aJ,hw,aL⟩
 rintro _ _ _ ⟨rfl,al⟩;obtain rfl:=som af;exact ⟨al,z⟩
theorem W_w2u {x1:a_N}{g1:Nat}{x2:a_}{x3:Str}{res:Bool×Int×Int}(hm:f_Y n x1 x2 x3=some res)(hB1:Blk w0 g1 [sl A0 N0 C0,sl A1 N1 C1,vI x1.rule,vI x1.at_])(W:B<=w0.z)(hBg:¬B g1)(Y:repS w0 B (sl A0 N0 C0) x1.d.rules)(a0:repS w0 B (sl A1 N1 C1) x1.b)(L:inI x1.rule)(a1:inI x1.at_)(aJ:x2.name.b.length<=LEN)(aK:inI x2.kind)(aL:inI x2.size)(aM:repS w0 B (sl A3 N3 C3) x2.bytes)(O:repS w0 B (sl A4 N4 C4) x2.names)(aN:repS w0 B (sl A2 N2 C2) x2.tags)(V:repS w0 B (sl A5 N5 C5) x2.kids)(a2:x3.b.length<=LEN):j_ prog 53 [pt g1,.agg #[Str.v x2.name,vI x2.kind,vI x2.size,vB x2.little,sl A3 N3 C3,sl A4 N4 C4,sl A2 N2 C2,sl A5 N5 C5],Str.v x3] w0 (Q26 w0 g1 B A0 N0 C0 A1 N1 C1 x1 res):=by
 unfold f_Y at hm
 refine goG func53 z z z fun fn hr=>Ws<|E z (fb z) ?_
 rintro _ G ⟨rfl,hh⟩;have h3:=hh.below;have ha:Blk G w0.z (vR x2 A3 N3 C3 A4 N4 C4 A2 N2 C2 A5 N5 C5):=hh.blk;refine Rw z<|Wq<|Ws<|Rf z b_m z<|R z (l0 a_B z<|ha.at z)<|R z (lnR a_0 z<|O.e h3)<|Rm z<|Wn ?_
 obtain ⟨_,huv,hmi⟩:=bdS hm;refine Wf (σ:=Int) (ρ:=Bool×Int×Int) (fun (kb:Nat)(x4:Int) a w=>Sat 44 [(0,pt g1),(2,Str.v x3),(4,pt w0.z),(10,sl A4 N4 C4),(11,vI (x2.names.length:Int)),(12,vI ((kb:Nat):Int))] a/\Chg (· ∈ [g1]) G w/\inI x4/\Blk w g1 [sl A0 N0 C0,sl A1 N1 C1,vI x1.rule,vI x4]) (fun (x4:Int) a w=>Sat 44 [] a/\Chg (· ∈ [g1]) G w/\inI x4/\Blk w g1 [sl A0 N0 C0,sl A1 N1 C1,vI x1.rule,vI x4]) (rQ prog fn<|Q26 w0 g1 B A0 N0 C0 A1 N1 C1 x1) huv ?_ ?_ ?_ ?_ ?_
 ·exact fun _ q=>⟨q.k<|s6 z z z z z z,cr [g1] G,a1,hB1.e h3⟩
 ·rintro kb x4 _ H _ hkj ⟨hSw,s5,h6,I⟩ hmx;refine Wu ?_ hSw;refine Ws<|Rl z z z<|Wn<|Wq<|Wc z (fun _=>?_) (fun hc=>(X_ hkj hc).elim)
  refine Wk<|Wq<|Wb<|Wm z ?_
  obtain ⟨_,ey,hmk⟩:=bdS hmx;have hd:=(h3.ag B).c s5<|c_<|f_ hBg
  have hl:=O.g hd;refine RX z (at_ (α:=Str) a_0 z_9 z z z hl ey) ?_;rintro _ ⟨_,_,_,rfl,hz,ad,_⟩;obtain ⟨rfl,_⟩:=b_s ad;refine R z (l0 g_9 z<|hz.at0 z)<|Ra z<|Rw z<|Wq<|Wm z<|Rm z<|R z (b_E z z)<|Wx z (fun hcc=>?_) (fun hcc=>?_)
  ·refine Wm z<|Rf z M_ z<|R z (l0 w_ z<|(ha.c s5<|atp<|mmr<|Blk.lt hB1).at z)<|Rm z ?_
   obtain ⟨ae,af,a3⟩:=bdS<|ifT hmk hcc;refine RX z (at_ (α:=Int) r_ z_3 z z z (V.g hd) af) ?_;rintro _ ⟨_,_,_,rfl,ah,ai,_⟩;obtain ⟨rfl,aj⟩:=O_ ai;refine R z (l0 g_3 z<|ah.at0 z)<|R z (I_ z)<|Rf z e_Z z<|E0 (fs0 (cur':=[sl A0 N0 C0,sl A1 N1 C1,vI ae,vI x4]) z_3 z z I z z z z) ?_
   rintro _ ak ⟨al,am⟩;refine Wn<|Ws<|Rw z ?_
   exact Wr<|rtO<|qL (som a3).symm<|e_ hr z ⟨(cM (cM (d_ (cr [g1] w0) h3:Chg (· ∈ [g1]) w0 G) s5 (io sr):Chg (· ∈ [g1]) w0 H) am.one (io sr):Chg (· ∈ [g1]) w0 ak),z,aj,h6,al⟩
  refine Wk<|Wq ?_
  obtain ⟨an,a4,a5⟩:=bdS<|ifF hmk hcc;refine Wt (fun a w=>∃(xe:Bool)(J:Int),(xe,J)=an/\Sat 44 [(0,pt g1),(2,Str.v x3),(4,pt w0.z),(10,sl A4 N4 C4),(11,vI (x2.names.length:Int)),(12,vI ((kb:Nat):Int)),(42,vB xe)] a/\Chg (· ∈ [g1]) H w/\inI J/\Blk w g1 [sl A0 N0 C0,sl A1 N1 C1,vI x1.rule,vI J]) ?_ ?_
  ·refine Wg<|Rf z b_m z ?_
   have hn:=ha.c s5<|atp<|mmr<|Blk.lt hB1
   refine R z (l0 a_B z<|hn.at z)<|Rm z ?_
   have ho:=lt_ h3.s s5.s;obtain ⟨ao,ap,hmm⟩:=bdS a4;refine E z (fc call69 z<|W_w16 ap (zt' W ho) hl a2) ?_;rintro _ wp ⟨s8,rfl⟩;refine R z (not_ z)<|Rm z ?_
   rcases bs (!ao) with h | h
   ·iterate 8 refine Nh z h ?_
    refine R z (pT z h z)<|Wl ?_
    exact fun _ q=>⟨true,x4,som<|ifT hmm h,q.k<|s7 z z z z z z z,(d_ (cr [g1] H) s8:Chg (· ∈ [g1]) H wp),h6,I.e s8⟩
   refine Rh z h (mv z)<|Rh z h (fd M_ z)<|Rh z h (l0 w_ z<|(hn.e s8).at z)<|Rh z h (mv z) ?_
   obtain ⟨_,aq,a6⟩:=bdS<|ifF hmm h;have hf:=hd.e s8;refine RXg z z h z (at_ (α:=Int) r_ z_3 z z z (V.g hf) aq) ?_;rintro _ ⟨_,_,_,rfl,ar,au,_⟩;obtain ⟨rfl,av⟩:=O_ au;refine Rh z h (l0 g_3 z<|ar.at0 z) ?_;obtain ⟨aw,ax,ay,a7⟩:=W_ a6;refine Eg z z h z (fc call68 z<|i_E (B:=B) ay (I.e s8) (zt' W<|lt_ ho s8.s) hBg (Y.g hf) (a0.g hf) L h6 av) ?_;rintro _ az ⟨aA,rfl,aB,aC⟩;refine Rh z h (not_ z)<|R z (pF z h z)<|Wl ?_
   exact fun _ q=>⟨!aw,ax,som a7,q.k<|s7 z z z z z z z,(cM (d_ (cr [g1] H) s8:Chg (· ∈ [g1]) H wp) aA (io sr):Chg (· ∈ [g1]) H az),aB,aC⟩
  rintro aD wq ⟨xe,J,rfl,_,ss,ht,hu⟩;have hmr:=a_H a5;revert aD;refine Wo<|Wc z (fun hcg=>?_) (fun hcg=>?_)
  ·refine Ws<|Rw z ?_
   exact Wr<|rtO<|qL (som<|ifT hmr hcg).symm<|e_ hr z ⟨(cM (cM (d_ (cr [g1] w0) h3:Chg (· ∈ [g1]) w0 G) s5 (io sr):Chg (· ∈ [g1]) w0 H) ss (io sr):Chg (· ∈ [g1]) w0 wq),z,L,ht,hu⟩
  refine Wk<|Wg<|R z (inc_ hkj (lt_ (repS.len O) H_) z z)<|Rm z<|Wl ?_
  exact fun _ q=>⟨J,(som<|ifF hmr hcg).symm,⟨q.k<|s6 z z z z z z,(cM (cM (cr [g1] G) s5 (io sr):Chg (· ∈ [g1]) G H) ss (io sr):Chg (· ∈ [g1]) G wq),ht,hu⟩⟩
 ·rintro x4 _ aE ⟨a8,aF,h6,I⟩;refine Wu ?_ a8;refine Ws<|Rl z z z<|Wn<|Wq<|Wc z (fun hc=>(Y_ hc).elim) (fun _=>?_)
  exact We<|fun _ q=>⟨rfl,⟨q.k sn,(cM (cr [g1] G) aF (io sr):Chg (· ∈ [g1]) G aE),h6,I⟩⟩
 ·rintro x4 aG aH rfl ⟨_,aI,h6,I⟩;have a9:=elL hmi;revert aG;refine Wo<|Ws<|Rw z ?_
  obtain rfl:=som a9;exact Wr<|e_ hr z ⟨(cM (d_ (cr [g1] w0) h3:Chg (· ∈ [g1]) w0 G) aI (io sr):Chg (· ∈ [g1]) w0 aH),z,L,h6,I⟩
 rintro _ _ _ _ rfl ⟨rfl,aa⟩;have ab:=elR hmi;obtain rfl:=som ab;exact ⟨aa,z⟩
theorem W_w2v {x1:Int}{x2:Int}{h G:Nat}{res:Bool}(hm:h_w x1 x2=some res)(O:B<=w0.z)(I:inI x1)(J:inI x2)(H:N_ w0 h G [vI x2])(L:B h):j_ prog 70 [vI x1,(.pointer<|some ⟨h,G,none⟩)] w0 (Q7 w0 B res):=by
 unfold h_w at hm
 refine goG func70 z z z fun fn hr=>Ws<|Rw z<|Wm z<|R z (l0 g_3 z<|H.at0 z)<|Rq z z z<|Rw z ?_
 obtain rfl:=som hm;exact Wr<|e_ hr z ⟨br w0,z⟩
theorem W_w2w {x1:List Int}{I:Int}{G J:Nat}{res:Int}(hm:f_Z x1 I=some res)(a1:B<=w0.z)(H:repS w0 B (sl A0 N0 C0) x1)(p2c0_0:inI I)(a0:N_ w0 G J [vI I])(Y:B G):j_ prog 48 [sl A0 N0 C0,(.func (.func 70) #[] #[(.pointer<|some ⟨G,J,none⟩)])] w0 (Q0 w0 B res):=by
 unfold f_Z at hm
 refine goG func48 z z z fun fn hr=>Ws<|Rw z<|Wq<|Wm z<|R z (lnR r_ z H)<|Rm z<|Wn ?_
 obtain ⟨_,a2,V⟩:=bdS hm;refine Wf (σ:=Unit) (ρ:=Int) (fun (k4:Nat)(_:Unit) a w=>Sat 19 [(1,.func (.func 70) #[] #[(.pointer<|some ⟨G,J,none⟩)]),(7,sl A0 N0 C0),(8,vI (x1.length:Int)),(9,vI ((k4:Nat):Int))] a/\Below w0.z w0 w) (fun (_:Unit) a w=>Sat 19 [] a/\Below w0.z w0 w) (rQ prog fn<|Q0 w0 B) a2 ?_ ?_ ?_ ?_ ?_
 ·exact fun _ q=>⟨q.k<|s4 z z z z,br w0⟩
 ·rintro k4 _ _ _ _ L ⟨a3,h⟩ a4;refine Wu ?_ a3;refine Ws<|Rl z z z<|Wn<|Wq<|Wc z (fun _=>?_) (fun hc=>(X_ L hc).elim)
  refine Wk<|Wq<|Wb<|Wm z ?_
  obtain ⟨_,ea,hmb⟩:=bdS a4;refine RX z (at_ (α:=Int) r_ z_3 z z z (H.e h) ea) ?_;rintro _ ⟨_,_,_,rfl,hd,he,_⟩;obtain ⟨rfl,hf⟩:=O_ he;refine R z (l0 g_3 z<|hd.at0 z)<|Ra z<|Rw z<|Wm z<|Rm z ?_
  obtain ⟨_,ec,W⟩:=bdS hmb;refine E z (h_J call70 z z<|W_w2v ec (zt' a1 h.s) hf p2c0_0 (a0.e h) Y) ?_;rintro _ _ ⟨s6,rfl⟩;refine Wx z (fun O=>?_) (fun O=>?_)
  ·exact Wm z<|Rw z<|Wr<|rtO<|qL (som<|ifT W O).symm<|e_ hr z ⟨bup h s6,z,ic (Nat.le_of_lt L)<|lt_ (repS.len H) H_⟩
  exact Wk<|Wg<|R z (inc_ L (lt_ (repS.len H) H_) z z)<|Rm z<|Wl (fun _ q=>⟨(),(som<|ifF W O).symm,⟨q.k<|s4 z z z z,bup h s6⟩⟩)
 ·rintro _ _ _ ⟨hSg,sh⟩;refine Wu ?_ hSg;refine Ws<|Rl z z z<|Wn<|Wq<|Wc z (fun hc=>(Y_ hc).elim) (fun _=>?_)
  exact We<|fun _ q=>⟨rfl,⟨q.k sn,sh⟩⟩
 ·rintro _ ai _ rfl ⟨_,sj⟩;have hmk:=elL V;revert ai;refine Wo<|Ws<|Rw z ?_
  obtain rfl:=som hmk;exact Wr<|e_ hr z ⟨sj,z,ii z⟩
 rintro _ _ _ _ rfl ⟨rfl,hql⟩;have hmm:=elR V;obtain rfl:=som hmm;exact ⟨hql,z⟩
theorem W_w2x {x1:a_N}{g1:Nat}{x2:a_}{res:Bool×Int×Int}(hm:g_0 n x1 x2=some res)(hB1:Blk w0 g1 [sl A0 N0 C0,sl A1 N1 C1,vI x1.rule,vI x1.at_])(J:B<=w0.z)(hBg:¬B g1)(V:repS w0 B (sl A0 N0 C0) x1.d.rules)(W:repS w0 B (sl A1 N1 C1) x1.b)(L:inI x1.rule)(Y:inI x1.at_)(ak:x2.name.b.length<=LEN)(al:inI x2.kind)(am:inI x2.size)(an:repS w0 B (sl A3 N3 C3) x2.bytes)(ao:repS w0 B (sl A4 N4 C4) x2.names)(a0:repS w0 B (sl A2 N2 C2) x2.tags)(O:repS w0 B (sl A5 N5 C5) x2.kids):j_ prog 54 [pt g1,(.agg #[Str.v x2.name,vI x2.kind,vI x2.size,vB x2.little,sl A3 N3 C3,sl A4 N4 C4,sl A2 N2 C2,sl A5 N5 C5])] w0 (Q26 w0 g1 B A0 N0 C0 A1 N1 C1 x1 res):=by
 unfold g_0 at hm
 refine goG func54 z z z fun fn hr=>Ws<|E z (fb z) ?_
 rintro _ wb ⟨rfl,hf⟩;have G:=hf.below;have hc:Blk wb w0.z (vR x2 A3 N3 C3 A4 N4 C4 A2 N2 C2 A5 N5 C5):=hf.blk;refine Rw z<|Wm z<|Rf z M_ z<|R z (l0 w_ z<|hc.at z) ?_
 obtain ⟨_,er,hms⟩:=bdS hm;refine RX z (at_ (α:=Int) r_ z_3 z z z (O.e G) er) ?_;rintro _ ⟨_,_,_,rfl,ht,hu,_⟩;obtain ⟨rfl,hv⟩:=O_ hu;refine R z (l0 g_3 z<|ht.at0 z) ?_;obtain ⟨rx,ry,rz,ew,a1⟩:=L_ hms;refine E z (fc call67 z<|W_w1e (B:=B) ew (hB1.e G) (zt' J G.s) hBg (V.e G) (W.e G) L Y hv) ?_;rintro _ H ⟨s5,rfl,a4,hg,hh⟩;refine Rm z<|Re z z z<|Re z z z<|E z (fa i_e) ?_
 rintro _ wa ⟨rfl,hi⟩;have h2:=hi.below;have hj:Blk wa H.z [vI 0]:=hi.blk;refine E0 (fs0 (cur':=[vI rx]) z_3 z z hj z z z z) ?_;rintro _ wk ⟨a5,a6⟩;have h3:=a6.one;refine Rw z<|Ws<|Rf z a_D z ?_
 have hl:=((hc.c s5<|atp<|mmr<|Blk.lt hB1).e h2).c h3<|djs<|mm1 hc.lt s5.s
 refine R z (l0 w_ z<|hl.at z)<|R z (h_I z) ?_
 have h6:=lt_ G.s s5.s;have hn:=(((G.ag B).c s5<|c_<|f_ hBg).e h2).c h3<|c_ (or0 (f_ lr) (m_<|zt' J h6):∀k∈[H.z],¬B k)
 obtain ⟨rm,a7,a2⟩:=bdS a1;refine E z (fc call48 z<|W_w2w (B:=wa.z) a7 (a_E h3.s) (repS.mono (a0.g hn)<|zt' J<|lt_ h6 h2.s) a4 (a5.row 0 1 z) hj.lt) ?_;rintro _ I ⟨s8,rfl,_⟩;refine Rw z<|Wq<|Wq ?_
 obtain ⟨a8,huo,hmp⟩:=bdS a2;refine Wt (fun a w=>∃(xd:Bool),xd=a8/\Sat 36 [(0,pt g1),(3,pt w0.z),(7,vI rm),(26,vB xd)] a/\Below I.z I w) ?_ ?_
 ·refine Wg<|Rm z<|R z (not_ z)<|Rm z ?_
  rcases bs (!ry) with h | h
  ·exact Nh z h<|Nh z h<|R z (pT z h z)<|Wl (fun _ q=>⟨true,som<|ifT huo h,q.k<|s4 z z z z,br I⟩)
  exact Rh z h (mv z)<|Rh z h (lss z z)<|R z (pF z h z)<|Wl (fun _ q=>⟨decide<|rm<0,som<|ifF huo h,q.k<|s4 z z z z,br I⟩)
 rintro a9 wq ⟨xd,rfl,_,s9⟩;revert a9;refine Wo<|Wc z (fun hce=>?_) (fun hce=>?_)
 ·refine Ws<|Rw z ?_
  obtain rfl:=som<|ifT hmp hce;exact Wr<|e_ hr z ⟨(d_ (d_ (cM (d_ (cM (d_ (cr [g1] w0) G:Chg (· ∈ [g1]) w0 wb) s5 (io sr):Chg (· ∈ [g1]) w0 H) h2:Chg (· ∈ [g1]) w0 wa) h3 (mor h6:∀k∈[H.z],k∈[g1]∨w0.z<=k):Chg (· ∈ [g1]) w0 wk) s8:Chg (· ∈ [g1]) w0 I) s9:Chg (· ∈ [g1]) w0 wq),z,L,hg,(((hh.e h2).c h3<|djs<|mm1 (Blk.lt hB1) h6).e s8).e s9⟩
 refine Wk<|Wm z<|Rf z M_ z<|R z (l0 w_ z<|((hl.e s8).e s9).at z)<|Rm z<|R z (add_ z z) ?_
 obtain ⟨aa,ab,a3⟩:=bdS<|ifF hmp hce;refine RX z (at_ (α:=Int) r_ z_3 z z z (O.g<|(hn.e s8).e s9) ab) ?_;rintro _ ⟨_,_,_,rfl,ad,ae,_⟩;obtain ⟨rfl,af⟩:=O_ ae;refine R z (l0 g_3 z<|ad.at0 z)<|R z (I_ z)<|Rf z e_Z z<|E0 (fs0 (cur':=[sl A0 N0 C0,sl A1 N1 C1,vI aa,vI rz]) z_3 z z ((((hh.e h2).c h3<|djs<|mm1 (Blk.lt hB1) h6).e s8).e s9) z z z z) ?_
 rintro _ ah ⟨ai,aj⟩;refine Wn<|Ws<|Rw z ?_
 obtain rfl:=som a3;exact Wr<|e_ hr z ⟨(cM (d_ (d_ (cM (d_ (cM (d_ (cr [g1] w0) G:Chg (· ∈ [g1]) w0 wb) s5 (io sr):Chg (· ∈ [g1]) w0 H) h2:Chg (· ∈ [g1]) w0 wa) h3 (mor h6:∀k∈[H.z],k∈[g1]∨w0.z<=k):Chg (· ∈ [g1]) w0 wk) s8:Chg (· ∈ [g1]) w0 I) s9:Chg (· ∈ [g1]) w0 wq) aj.one (io sr):Chg (· ∈ [g1]) w0 ah),z,af,hg,ai⟩
theorem W_w2y {x1:a_N}{g1:Nat}{x2:Str}{res:Bool×Int×Int}(hm:e_G n x1 x2=some res)(hB1:Blk w0 g1 [sl A0 N0 C0,sl A1 N1 C1,vI x1.rule,vI x1.at_])(V:B<=w0.z)(hBg:¬B g1)(a0:repS w0 B (sl A0 N0 C0) x1.d.rules)(a1:repS w0 B (sl A1 N1 C1) x1.b)(Y:inI x1.rule)(W:inI x1.at_)(au:x2.b.length<=LEN):j_ prog 32 [pt g1,Str.v x2] w0 (Q26 w0 g1 B A0 N0 C0 A1 N1 C1 x1 res):=by
 unfold e_G at hm
 refine goG func32 z z z fun fn hr=>Ws<|Rw z<|Wq (Wd (X:=noX) 4096 (pl_ 13 [11,12]) mo (by kernel_rfl) fun H G _=>dM z z z<|dR z z (I_ z)<|dR z z (fd i_d z)<|dR z z (fd a_9 z) ?_)
 have L:=hB1.e G;refine dR z z (l0 a_c z<|L.at z)<|dM z z z<|dR z z (I_ z)<|dR z z (fd e_Z z)<|dR z z (l0 g_3 z<|L.at z) ?_
 obtain ⟨xe,aZ,av⟩:=bdS hm;refine dRX z z (at_ (α:=a_) Q_ n_ z z z (a0.e G) aZ) ?_;rintro _ ⟨_,_,_,rfl,b0,b1,_⟩;obtain ⟨ah,ni,cj,ak,nl,cm,an,no,cp,aq,nr,cs,rfl,ab,ad,ae,af,ai,aj,hu⟩:=a_y b1;refine dR z z (lN (vs:=vR xe ah ni cj ak nl cm an no cp aq nr cs) G_ n_ z z fid b0)<|dE z z (fa b_w) (.inr fun _ _ h=>F_<|h.2.below) ?_
 rintro _ wg ⟨rfl,aF⟩;have h1:=aF.below;refine dE0 z (fs0 (cur':=vR xe ah ni cj ak nl cm an no cp aq nr cs) n_ z z (aF.blk:Blk wg H.z [(Str.v (⟨[]⟩:Str)),vI 0,vI 0,vB false,sl none 0 0,sl none 0 0,sl none 0 0,sl none 0 0]) z z z z) (.inl z) ?_;rintro _ O ⟨ha,b2⟩;have h2:=b2.one;refine pD<|Wo<|Wq<|Wb<|Ws<|Rf z a_s z<|R z (l0 g_3 z<|ha.at z)<|Rq z z z<|Rw z<|Wc z (fun a4=>?_) (fun a4=>?_)
 ·refine Wm z<|R z (lN (vs:=vR xe ah ni cj ak nl cm an no cp aq nr cs) G_ n_ z z fid<|ha.row 0 8 z)<|Rm z ?_
  have aG:∀k∈[H.z],¬B k:=or0 (f_ lr)<|m_<|zt' V G.s;have aH:=((G.ag B).e h1).c h2<|c_ aG
  have hv:=(h1.ag B).c h2<|c_ aG
  obtain ⟨_,_,_,b3,aQ⟩:=L_<|ifT av a4;refine E z (fc call52 z<|W_w2t (B:=B) b3 ((L.e h1).c h2<|djs<|mm1 (Blk.lt hB1) G.s) (zt' V<|lt_ (lt_ G.s h1.s) h2.s) hBg (a0.g aH) (a1.g aH) Y W ab ad ae (af.g hv) (ai.g hv) (aj.g hv) (hu.g hv) au) ?_;rintro _ b4 ⟨b5,rfl,b6,b7,b8⟩;refine Rw z ?_
  obtain rfl:=som aQ;exact Wr<|rtO<|e_ hr z ⟨(cM (cM (d_ (d_ (cr [g1] w0) G:Chg (· ∈ [g1]) w0 H) h1:Chg (· ∈ [g1]) w0 wg) h2 (mor G.s:∀k∈[H.z],k∈[g1]∨w0.z<=k):Chg (· ∈ [g1]) w0 O) b5 (io sr):Chg (· ∈ [g1]) w0 b4),z,b6,b7,b8⟩
 have aw:=ifF av a4;refine Ws<|Rf z a_s z<|R z (l0 g_3 z<|ha.at z)<|Rq z z z<|Rw z<|Wc z (fun a5=>?_) (fun a5=>?_)
 ·refine Wm z<|R z (lN (vs:=vR xe ah ni cj ak nl cm an no cp aq nr cs) G_ n_ z z fid<|ha.row 0 8 z)<|Rm z ?_
  have aI:∀k∈[H.z],¬B k:=or0 (f_ lr)<|m_<|zt' V G.s;have aJ:=((G.ag B).e h1).c h2<|c_ aI
  have hw:=(h1.ag B).c h2<|c_ aI
  obtain ⟨_,_,_,b9,aR⟩:=L_<|ifT aw a5;refine E z (fc call53 z<|W_w2u (B:=B) b9 ((L.e h1).c h2<|djs<|mm1 (Blk.lt hB1) G.s) (zt' V<|lt_ (lt_ G.s h1.s) h2.s) hBg (a0.g aJ) (a1.g aJ) Y W ab ad ae (af.g hw) (ai.g hw) (aj.g hw) (hu.g hw) au) ?_;rintro _ ba ⟨bb,rfl,bc,be,bf⟩;refine Rw z ?_
  obtain rfl:=som aR;exact Wr<|rtO<|e_ hr z ⟨(cM (cM (d_ (d_ (cr [g1] w0) G:Chg (· ∈ [g1]) w0 H) h1:Chg (· ∈ [g1]) w0 wg) h2 (mor G.s:∀k∈[H.z],k∈[g1]∨w0.z<=k):Chg (· ∈ [g1]) w0 O) bb (io sr):Chg (· ∈ [g1]) w0 ba),z,bc,be,bf⟩
 refine Wq ?_;obtain ⟨bg,ax,ay⟩:=bdS<|ifF aw a5;refine Wt (fun a w=>∃(al:Bool),al=bg/\Sat 97 [(0,pt g1),(1,Str.v x2),(5,pt H.z),(33,vB al)] a/\Below O.z O w) ?_ ?_
 ·refine Wg<|Rf z a_s z<|R z (l0 g_3 z<|ha.at z)<|Rq z z z<|Rm z ?_
  rcases bs (xe.kind==7) with hcb | hcb
  ·exact Rh z hcb (mv z)<|Rh z hcb (b_E z z)<|R z (pT z hcb z)<|Ra z<|Wl (fun _ q=>⟨x2.b==(⟨[42]⟩:Str).b,som<|ifT ax hcb,q.k<|s4 z z z z,br O⟩)
  exact Nh z hcb<|Nh z hcb<|R z (pF z hcb z)<|Ra z<|Wl (fun _ q=>⟨false,som<|ifF ax hcb,q.k<|s4 z z z z,br O⟩)
 rintro bh wf ⟨al,rfl,_,s5⟩;revert bh;refine Wo<|Wc z (fun a6=>?_) (fun a6=>?_)
 ·refine Wm z<|R z (lN (vs:=vR xe ah ni cj ak nl cm an no cp aq nr cs) G_ n_ z z fid<|(ha.e s5).row 0 8 z) ?_
  have aK:∀k∈[H.z],¬B k:=or0 (f_ lr)<|m_<|zt' V G.s;have aL:=(((G.ag B).e h1).c h2<|c_ aK).e s5;have hx:=((h1.ag B).c h2<|c_ aK).e s5;obtain ⟨_,_,_,bi,aS⟩:=L_<|ifT ay a6;refine E z (fc call54 z<|W_w2x (B:=B) bi (((L.e h1).c h2<|djs<|mm1 (Blk.lt hB1) G.s).e s5) (zt' V<|lt_ (lt_ (lt_ G.s h1.s) h2.s) s5.s) hBg (a0.g aL) (a1.g aL) Y W ab ad ae (af.g hx) (ai.g hx) (aj.g hx)<|hu.g hx) ?_;rintro _ bj ⟨bk,rfl,bm,bn,bo⟩;refine Rw z ?_
  obtain rfl:=som aS;exact Wr<|rtO<|e_ hr z ⟨(cM (d_ (cM (d_ (d_ (cr [g1] w0) G:Chg (· ∈ [g1]) w0 H) h1:Chg (· ∈ [g1]) w0 wg) h2 (mor G.s:∀k∈[H.z],k∈[g1]∨w0.z<=k):Chg (· ∈ [g1]) w0 O) s5:Chg (· ∈ [g1]) w0 wf) bk (io sr):Chg (· ∈ [g1]) w0 bj),z,bm,bn,bo⟩
 refine Wq ?_;obtain ⟨bp,az,aT⟩:=bdS<|ifF ay a6;refine Wt (fun a w=>∃(am:Bool),am=bp/\Sat 97 [(0,pt g1),(1,Str.v x2),(5,pt H.z),(44,vB am)] a/\Below wf.z wf w) ?_ ?_
 ·refine Wg<|Rf z a_s z<|R z (l0 g_3 z<|(ha.e s5).at z)<|Rq z z z<|Rm z ?_
  rcases bs (xe.kind==8) with hcc | hcc
  ·exact Rh z hcc (mv z)<|Rh z hcc (b_E z z)<|R z (pT z hcc z)<|Ra z<|Wl (fun _ q=>⟨x2.b==(⟨[63]⟩:Str).b,som<|ifT az hcc,q.k<|s4 z z z z,br wf⟩)
  exact Nh z hcc<|Nh z hcc<|R z (pF z hcc z)<|Ra z<|Wl (fun _ q=>⟨false,som<|ifF az hcc,q.k<|s4 z z z z,br wf⟩)
 rintro bq J ⟨am,rfl,_,s7⟩;revert bq;refine Wo ?_;obtain ⟨bt,aA,a7⟩:=bdS aT;refine Wt (fun a w=>∃(xt:Int),Sum.inl xt=bt/\Sat 97 [(0,pt g1),(5,pt H.z)] a/\Chg (· ∈ [g1]) J w/\inI xt/\Blk w g1 [sl A0 N0 C0,sl A1 N1 C1,vI x1.rule,vI xt]) ?_ ?_
 ·refine Wc z (fun a8=>?_)<|fun a8=>?_
  ·refine Wq<|Wq ?_
   obtain ⟨bu,aB,aC⟩:=bdS<|ifT aA a8;refine Wt (fun a w=>∃(ao:Bool),ao=bu/\Sat 97 [(0,pt g1),(5,pt H.z),(74,vB ao)] a/\Below J.z J w) ?_ ?_
   ·refine Wd (X:=noX) 0 (pl_ 23 []) mo (by kernel_rfl) fun bS sy _=>dM z z z<|dR z z (I_ z)<|dR z z (fd c_A z) ?_
    have hz:=((((L.e h1).c h2<|djs<|mm1 (Blk.lt hB1) G.s).e s5).e s7).e sy;refine dR z z (l0 g_3 z<|hz.at z)<|dM z z z<|dR z z (I_ z)<|dR z z (fd g_y z)<|dR z z (l0 T_ z<|hz.at z) ?_
    have aM:=a1.g<|(((((G.ag B).e h1).c h2<|c_ (or0 (f_ lr) (m_<|zt' V G.s):∀k∈[H.z],¬B k)).e s5).e s7).e sy
    refine dR z z (lnR l_ z aM)<|dR z z (b_f z z)<|dM z z z ?_
    rcases bs (decide<|(x1.b.length:Int)<=x1.at_) with I | I
    ·iterate 11 refine dRn z z z I z ?_
     exact dR z z (pT z I z)<|pD (fun _ q=>⟨true,som<|ifT aB I,q.k<|s3 z z z,sy⟩)
    refine dRg z z z I z (mv z)<|dRg z z z I z (I_ z)<|dRg z z z I z (fd g_y z)<|dRg z z z I z (l0 T_ z<|hz.at z)<|dRg z z z I z (mv z)<|dRg z z z I z (I_ z)<|dRg z z z I z (fd c_A z)<|dRg z z z I z (l0 g_3 z<|hz.at z) ?_
    obtain ⟨bv,bw,aU⟩:=bdS<|ifF aB I;refine c_0 z z z I z (at_ (α:=UInt8) l_ z_5 z z z aM bw) ?_;rintro _ ⟨_,_,_,rfl,bx,bz,_⟩;obtain rfl:=u8 bz;exact dRg z z z I z (l0 g_5 z<|bx.at0 z)<|dRg z z z I z (nq z z)<|dR z z (pF z I z)<|pD (fun _ q=>⟨(byteI bv) != (byteI (1:UInt8)),som aU,q.k<|s3 z z z,sy⟩)
   rintro bA aN ⟨ao,rfl,_,a2⟩;revert bA;refine Wo<|Wc z (fun a9=>?_) (fun a9=>?_)
   ·refine Ws<|Rw z ?_
    obtain rfl:=som<|ifT aC a9;have aV:=elR a7;obtain rfl:=som aV;exact Wr<|rtO<|e_ hr z ⟨(d_ (d_ (d_ (cM (d_ (d_ (cr [g1] w0) G:Chg (· ∈ [g1]) w0 H) h1:Chg (· ∈ [g1]) w0 wg) h2 (mor G.s:∀k∈[H.z],k∈[g1]∨w0.z<=k):Chg (· ∈ [g1]) w0 O) s5:Chg (· ∈ [g1]) w0 wf) s7:Chg (· ∈ [g1]) w0 J) a2:Chg (· ∈ [g1]) w0 aN),z,Y,W,((((L.e h1).c h2<|djs<|mm1 (Blk.lt hB1) G.s).e s5).e s7).e a2⟩
   refine Wk<|Wg<|Rm z<|R z (I_ z)<|Rf z c_A z ?_
   have aO:=((((L.e h1).c h2<|djs<|mm1 (Blk.lt hB1) G.s).e s5).e s7).e a2;refine R z (l0 g_3 z<|aO.at z)<|R z (add_ z z)<|R z (I_ z)<|Rf z c_A z<|E0 (fs0 (cur':=[sl A0 N0 C0,sl A1 N1 C1,vI x1.rule,vI<|h_ x1.at_ 1]) z_3 z z aO z z z z) ?_
   rintro _ bB ⟨bC,bD⟩;refine Wl ?_;exact fun _ q=>⟨h_ x1.at_ 1,som<|ifF aC a9,q.k<|s2 z z,(cM (d_ (cr [g1] J) a2:Chg (· ∈ [g1]) J aN) bD.one (io sr):Chg (· ∈ [g1]) J bB),iA _ _,bC⟩
  refine Wq ?_;obtain ⟨bE,aD,aE⟩:=bdS<|ifF aA a8;refine Wt (fun a w=>∃(ap:Bool),ap=bE/\Sat 97 [(0,pt g1),(5,pt H.z),(82,vB ap)] a/\Below J.z J w) ?_ ?_
  ·refine Wg<|Rf z a_s z<|R z (l0 g_3 z<|((ha.e s5).e s7).at z)<|Rq z z z<|Rm z ?_
   rcases bs (xe.kind==9) with hcd | hcd
   ·exact Rh z hcd (mv z)<|Rh z hcd (b_E z z)<|R z (pT z hcd z)<|Ra z<|Wl (fun _ q=>⟨x2.b==(⟨[43]⟩:Str).b,som<|ifT aD hcd,q.k<|s3 z z z,br J⟩)
   exact Nh z hcd<|Nh z hcd<|R z (pF z hcd z)<|Ra z<|Wl (fun _ q=>⟨false,som<|ifF aD hcd,q.k<|s3 z z z,br J⟩)
  rintro bF aP ⟨ap,rfl,_,a3⟩;revert bF;refine Wo<|Wc z (fun aa=>?_) (fun aa=>?_)
  ·refine a_q ?_;exact fun _ q=>⟨x1.at_,som<|ifT aE aa,q.k<|s2 z z,(d_ (cr [g1] J) a3:Chg (· ∈ [g1]) J aP),W,((((L.e h1).c h2<|djs<|mm1 (Blk.lt hB1) G.s).e s5).e s7).e a3⟩
  refine Ws<|Rw z ?_
  obtain rfl:=som<|ifF aE aa;have aW:=elR a7;obtain rfl:=som aW;exact Wr<|rtO<|e_ hr z ⟨(d_ (d_ (d_ (cM (d_ (d_ (cr [g1] w0) G:Chg (· ∈ [g1]) w0 H) h1:Chg (· ∈ [g1]) w0 wg) h2 (mor G.s:∀k∈[H.z],k∈[g1]∨w0.z<=k):Chg (· ∈ [g1]) w0 O) s5:Chg (· ∈ [g1]) w0 wf) s7:Chg (· ∈ [g1]) w0 J) a3:Chg (· ∈ [g1]) w0 aP),z,Y,W,((((L.e h1).c h2<|djs<|mm1 (Blk.lt hB1) G.s).e s5).e s7).e a3⟩
 rintro bG bH ⟨xt,rfl,_,ar,bI,bJ⟩;have aX:=elL a7;revert bG;refine Wo<|Wm z<|Rf z M_ z<|R z (l0 w_ z<|(((ha.e s5).e s7).c ar<|atp<|mm1 (Blk.lt hB1) G.s).at z) ?_
 obtain ⟨bK,bL,aY⟩:=bdS aX;refine RX z (at_ (α:=Int) r_ z_3 z z z (hu.g<|((((h1.ag B).c h2<|c_ (or0 (f_ lr) (m_<|zt' V G.s):∀k∈[H.z],¬B k)).e s5).e s7).c ar<|c_<|f_ hBg) bL) ?_;rintro _ ⟨_,_,_,rfl,bM,bN,_⟩;obtain ⟨rfl,bO⟩:=O_ bN;refine R z (l0 g_3 z<|bM.at0 z)<|R z (I_ z)<|Rf z e_Z z<|E0 (fs0 (cur':=[sl A0 N0 C0,sl A1 N1 C1,vI bK,vI xt]) z_3 z z bJ z z z z) ?_
 rintro _ bP ⟨bQ,bR⟩;refine Wn<|Ws<|Rw z ?_
 obtain rfl:=som aY;exact Wr<|e_ hr z ⟨(cM (cM (d_ (d_ (cM (d_ (d_ (cr [g1] w0) G:Chg (· ∈ [g1]) w0 H) h1:Chg (· ∈ [g1]) w0 wg) h2 (mor G.s:∀k∈[H.z],k∈[g1]∨w0.z<=k):Chg (· ∈ [g1]) w0 O) s5:Chg (· ∈ [g1]) w0 wf) s7:Chg (· ∈ [g1]) w0 J) ar (io sr):Chg (· ∈ [g1]) w0 bH) bR.one (io sr):Chg (· ∈ [g1]) w0 bP),z,bO,bI,bQ⟩
theorem W_w2z {x1:g_}{x2:List UInt8}{x3:Str}{res:Int×Bool}(hm:e_h n x1 x2 x3=some res)(O:B<=w0.z)(V:repS w0 B (sl A0 N0 C0) x1.rules)(a0:repS w0 B (sl A6 N6 C6) x2)(a1:x3.b.length<=LEN):j_ prog 20 [(.agg #[sl A0 N0 C0]),sl A6 N6 C6,Str.v x3] w0 (Q21 w0 B res):=by
 unfold e_h at hm
 refine goG func20 z z z fun fn hr=>Ws<|E z (fb z) ?_
 rintro _ af ⟨rfl,hn⟩;have hf:=hn.below;refine Ra z<|Rw z<|Wm z ?_
 obtain ⟨rm,_,ah,a2⟩:=W_ hm;refine E z (fc call31 z<|W_w2s ah (zt' O hf.s) a1) ?_;rintro _ _ ⟨sg,ao,np,cq,_,rfl,ha,_,_⟩;refine Rm z<|Re z z z<|Re z z z<|Ra z<|Rw z<|Wq (Wd (X:=noX) 0 (pl_ 7 [3,5]) mo (by kernel_rfl) fun aL s6 _=>?_)
 have ht:=((hn.blk:Blk af w0.z [sl A0 N0 C0]).e sg).e s6;refine dR z z (lN (vs:=[sl A0 N0 C0]) D_ C_ z z fid<|ht.row 0 1 z)<|dM z z z<|dR z z (lN (vs:=[sl A0 N0 C0]) D_ C_ z z fid<|ht.row 0 1 z) ?_
 have hu:=((hf.ag B).e sg).e s6;have hk:=lt_ (lt_ hf.s sg.s) s6.s;obtain ⟨rr,ai,a3⟩:=bdS a2;refine dE z z (fc call29 z<|e_c ai (zt' O hk)<|V.g hu) (.inr fun _ _ h=>F_<|h.1) ?_;rintro _ G ⟨s7,rfl,aj⟩;refine dR z z (bP (parts:=[(0,.tmp 18),(1,.tmp 19),(2,.tmp 21)]) (cs:=[sl A0 N0 C0,sl A6 N6 C6,vI rr,vI 0]) n_o z z)<|dE z z (fb z) (.inr fun _ _ h=>F_<|h.2.below) ?_
 rintro _ I ⟨rfl,hv⟩;have hh:=hv.below;refine dQ z z z<|pD<|Wo<|Wq<|Wm z ?_
 have hw:=((ha.e s6).e s7).e hh;refine R z (lnR a_0 z<|or_ hw<|b_.lt ha)<|Rm z<|Wn ?_
 obtain ⟨_,a4,hms⟩:=bdS a3;refine Wf (σ:=Bool×Int×Int) (ρ:=Int×Bool) (fun (kl:Nat) s a w=>un3 (fun x5 x0 x4=>Sat 42 [(9,vB x5),(10,pt G.z),(24,sl ao np cq),(25,vI (rm.length:Int)),(26,vI ((kl:Nat):Int))] a/\Chg (· ∈ [G.z]) I w/\inI x0/\inI x4/\Blk w G.z [sl A0 N0 C0,sl A6 N6 C6,vI x0,vI x4]) s) (fun s a w=>un3 (fun x5 x0 x4=>Sat 42 [(9,vB x5),(10,pt G.z)] a/\Chg (· ∈ [G.z]) I w/\inI x0/\inI x4/\Blk w G.z [sl A0 N0 C0,sl A6 N6 C6,vI x0,vI x4]) s) (rQ prog fn<|Q21 w0 B) a4 ?_ ?_ ?_ ?_ ?_
 ·exact fun _ q=>⟨q.k<|s5 z z z z z,cr [G.z] I,aj,ii z,(hv.blk:Blk I G.z [sl A0 N0 C0,sl A6 N6 C6,vI rr,vI 0])⟩
 ·rintro kl ⟨x5,x0,x4⟩ _ wb _ hkx ⟨a5,si,hd,J,L⟩ a6;refine Wu ?_ a5;refine Ws<|Rl z z z<|Wn<|Wq<|Wc z (fun _=>?_) (fun hc=>(X_ hkx hc).elim)
  refine Wk<|Wq<|Wb<|Ws ?_
  obtain ⟨_,ak,a7⟩:=bdS<|b_C a6;refine RX z (at_ (α:=Str) a_0 z_9 z z z (or_ (hw.c si<|ds<|mno (b_.lt ha)<|lt_ s6.s s7.s)<|b_.lt ha) ak) ?_;rintro _ ⟨_,_,_,rfl,al,am,_⟩;obtain ⟨rfl,an⟩:=b_s am;refine R z (l0 g_9 z<|al.at0 z)<|Rw z ?_
  obtain ⟨ap,huy,a8⟩:=bdS a7;refine Wt (fun a w=>∃(xj:Bool)(xc:Int)(xe:Int),(xj,xc,xe)=ap/\Sat 42 [(9,vB xj),(10,pt G.z),(24,sl ao np cq),(25,vI (rm.length:Int)),(26,vI ((kl:Nat):Int))] a/\Chg (· ∈ [G.z]) wb w/\inI xc/\inI xe/\Blk w G.z [sl A0 N0 C0,sl A6 N6 C6,vI xc,vI xe]) ?_ ?_
  ·refine Wg<|RM z z ?_
   rcases bs x5 with H | H
   ·refine Rh z H (mv z)<|Rh z H (mv z) ?_
    have hz:=lt_ hk s7.s;have W:∀k∈[G.z],¬B k:=or0 (f_ lr)<|m_<|zt' O hz;have Y:=((hu.e s7).e hh).c si<|c_ W
    obtain ⟨aq,ar,au,av,a9⟩:=L_<|ifT huy H;refine Eg z z H z (fc call32 z<|W_w2y (B:=B) av L (zt' O<|lt_ (lt_ hz hh.s) si.s) (atp W) (V.g Y) (a0.g Y) hd J an) ?_;rintro _ aw ⟨ax,rfl,ay,az,aA⟩;refine R z (pT z H z)<|Ra z<|Wl ?_
    exact fun _ q=>⟨aq,ar,au,som a9,q.k<|s5 z z z z z,(cM (cr [G.z] wb) ax (io sr):Chg (· ∈ [G.z]) wb aw),ay,az,aA⟩
   iterate 3 refine Nh z H ?_
   exact R z (pF z H z)<|Ra z<|Wl (fun _ q=>⟨false,x0,x4,som<|ifF huy H,q.k<|s5 z z z z z,cr [G.z] wb,hd,J,L⟩)
  rintro aB aC ⟨xj,xc,xe,rfl,_,aD,aE,aF,aG⟩;revert aB;refine Wo<|Wg<|R z (inc_ hkx (lt_ (b_.len ha) H_) z z)<|Rm z<|Wl ?_
  exact fun _ q=>⟨(xj,xc,xe),(som<|b_C a8).symm,⟨q.k<|s5 z z z z z,(cM (cM (cr [G.z] I) si (io sr):Chg (· ∈ [G.z]) I wb) aD (io sr):Chg (· ∈ [G.z]) I aC),aE,aF,aG⟩⟩
 ·rintro ⟨x5,x0,x4⟩ _ aH ⟨aa,aI,hd,J,L⟩;refine Wu ?_ aa;refine Ws<|Rl z z z<|Wn<|Wq<|Wc z (fun hc=>(Y_ hc).elim) (fun _=>?_)
  exact We<|fun _ q=>⟨rfl,⟨q.k<|s2 z z,(cM (cr [G.z] I) aI (io sr):Chg (· ∈ [G.z]) I aH),hd,J,L⟩⟩
 ·rintro ⟨x5,x0,x4⟩ aJ _ rfl ⟨_,aK,hd,J,L⟩;have ab:=elL hms;revert aJ;refine Wo<|Wm z<|R z (I_ z)<|Rf z c_A z<|R z (l0 g_3 z<|L.at z)<|Rm z<|Ra z<|Rw z ?_
  obtain rfl:=som<|b_C ab;exact Wr<|a_o hr z z ⟨bM (bup (bup (bup (bup hf sg) s6) s7) hh) aK<|m1<|lt_ hk s7.s,z,J⟩
 rintro _ _ _ _ rfl ⟨rfl,ad⟩;have ae:=elR hms;obtain rfl:=som ae;exact ⟨ad,z⟩
def Q27 (w0:World)(B:Zone)(r:(Option<|Int×Int))(v:Value)(w':World):Prop:=Bw w0 w'/\(fun h=>∃(v1:Value)(S1:List Nat),v1=v/\a_m 116 w' S1 v1 h/\(∀k∈S1,w0.z<=k)) r
theorem d_7 {x1:Int}{x2:Int}{res:(Option<|Int×Int)}(hm:b_l x1 x2=some res)(L:B<=w0.z)(H:inI x1)(I:inI x2):j_ prog 103 [vI x1,vI x2] w0 (Q27 w0 B res):=by
 unfold b_l at hm
 refine goG func103 z z z fun fn hr=>Ws<|Rw z<|Wm z<|Rm z<|R z (bP (parts:=[(0,.tmp 5),(1,.tmp 6)]) (cs:=[vI x1,vI x2]) n_l z z)<|E z (fb z) ?_
 rintro _ J ⟨rfl,G⟩;refine R z (k_h d_116 (fun _ h=>by cases h) z)<|Rw z ?_
 obtain rfl:=som hm;exact Wr<|e_ hr z ⟨G.below,.iface 116<|pt w0.z,[w0.z],z,m_K (G.blk:Blk J w0.z [vI x1,vI x2]) H I z,f_ lr⟩
def Q28 (w0:World)(B:Zone)(r:(List UInt8)×(Option<|Int×Int))(v:Value)(w':World):Prop:=Bw w0 w'/\un2 (fun H I=>∃(a1:Option Addr)(h G:Nat)(v2:Value)(S2:List Nat),v = .tuple #[sl a1 h G,v2]/\repS w' w'.z (sl a1 h G) H/\a_m 116 w' S2 v2 I/\(∀k∈S2,w0.z<=k)) r
theorem g_F {x1:a_e}{b1 o1:Nat}{x2:Int}{x3:Int}{res:(List UInt8)×(Option<|Int×Int)}(hm:d_u x1 x2 x3=some res)(H:B<=w0.z)(a0:repS w0 B (sl A0 N0 C0) x1.d.rules)(G:repS w0 B (sl A1 N1 C1) x1.b)(hC1:N_ w0 b1 o1 [sl A0 N0 C0,sl A1 N1 C1])(hC1b:B b1)(I:inI x2)(a1:inI x3):j_ prog 115 [(.pointer<|some ⟨b1,o1,none⟩),vI x2,vI x3] w0 (Q28 w0 B res):=by
 unfold d_u at hm
 refine goG func115 z z z fun fn hr=>Ws<|Ra z<|Rw z<|Wq<|Wm z<|Rm z<|R z (I_ z)<|Rf z e_a z<|R z (l0 T_ z<|hC1.at (j:=1) z)<|R z (lnR l_ z G)<|Rm z<|R z (sb_ z z)<|R z (a_b z z)<|Wx z (fun h=>?_) (fun h=>?_)
 ·refine Wm z ?_
  obtain ⟨_,O,J⟩:=bdS<|ifT hm h;refine E z (fc call103 z<|d_7 (B:=B) O H I<|ii z) ?_;rintro _ _ ⟨s1,v4,V,rfl,h6,W⟩;refine Ra z<|Rw z ?_
  obtain rfl:=som J;exact Wr<|a_o hr z z ⟨s1,none,0,0,v4,V,z,repS.mono (or_ onL an_)<|a_E s1.s,h6,W⟩
 refine Wk<|Wm z<|R z (I_ z)<|Rf z e_a z<|R z (l0 T_ z<|hC1.at (j:=1) z)<|RM z z<|Rm z<|R z (add_ z z) ?_
 obtain ⟨_,Y,L⟩:=bdS<|ifF hm h;refine RX z (rX l_ z_5 z z G z z Y) ?_;rintro _ ⟨aa,nb,cc,rfl,hd⟩;refine Ra z<|Rw z ?_
 obtain rfl:=som L;exact Wr<|a_o hr z z ⟨br w0,aa,nb,cc,.nilIface,([]:List Nat),z,repS.mono hd H,d_1,an_⟩
def Q29 (w0:World)(B:Zone)(r:Int×Int×(Option<|Int×Int))(v:Value)(w':World):Prop:=Bw w0 w'/\un3 (fun h G H=>∃(v1:Value)(S1:List Nat),v = .tuple #[vI h,vI G,v1]/\inI h/\inI G/\a_m 116 w' S1 v1 H/\(∀k∈S1,w0.z<=k)) r
theorem g_G {x1:a_e}{b1 o1:Nat}{x2:Int}{x3:Int}{res:Int×Int×(Option<|Int×Int)}(hm:d_v x1 x2 x3=some res)(L:B<=w0.z)(I:repS w0 B (sl A0 N0 C0) x1.d.rules)(a0:repS w0 B (sl A1 N1 C1) x1.b)(hC1:N_ w0 b1 o1 [sl A0 N0 C0,sl A1 N1 C1])(hC1b:B b1)(ab:inI x2)(J:inI x3):j_ prog 95 [(.pointer<|some ⟨b1,o1,none⟩),vI x2,vI x3] w0 (Q29 w0 B res):=by
 unfold d_v at hm
 refine goG func95 z z z fun fn hr=>Ws<|RA z z<|Rw z<|Wm z<|R z (I_ z)<|Rf z j_Q z<|Rf z a_9 z<|R z (l0 a_c z<|hC1.at (j:=0) z)<|Rm z ?_
 obtain ⟨x5,eq,hmr⟩:=bdS hm;refine RX z (at_ (α:=a_) Q_ n_ z z z I eq) ?_;rintro _ ⟨_,_,_,rfl,ht,hu,_⟩;obtain ⟨O,V,W,Y,na,cb,ac,nd,ce,af,ng,ch,rfl,_,_,hv,_,_,_,_⟩:=a_y hu;refine R z (lN (vs:=vR x5 O V W Y na cb ac nd ce af ng ch) G_ n_ z z fid ht)<|E z (fa b_w) ?_
 rintro _ ws ⟨rfl,hi⟩;have G:=hi.below;refine E0 (fs0 (cur':=vR x5 O V W Y na cb ac nd ce af ng ch) n_ z z (hi.blk:Blk ws w0.z [(Str.v (⟨[]⟩:Str)),vI 0,vI 0,vB false,sl none 0 0,sl none 0 0,sl none 0 0,sl none 0 0]) z z z z) ?_;rintro _ _ ⟨hj,sx⟩;have h1:=sx.one;refine Wn<|Wm z<|Rm z<|Rf z a_z z<|R z (l0 g_3 z<|hj.at z) ?_
 have hk:∀k∈[w0.z],¬B k:=or0 (f_ lr)<|m_ L;have hl:=(G.ag B).c h1<|c_ hk
 have hn:=lt_ G.s h1.s;obtain ⟨_,_,ey,hmm⟩:=W_ hmr;refine E z (fc call115 z<|g_F ey (zt' L hn) (I.g hl) (a0.g hl) ((hC1.e G).c h1<|(c_ hk) _ hC1b) hC1b J hv) ?_;rintro _ wz ⟨s3,_,_,_,a2,a3,rfl,a4,ho,a5⟩;refine Rm z<|Re z z z<|Re z z z<|Ra z<|Rw z<|Wq<|Wm z<|R z (c_z c_C z z ho)<|Wx z (fun H=>?_) (fun H=>?_)
 ·refine Wm z<|Rm z<|RA z z<|Rw z ?_
  obtain rfl:=som<|ifT hmm H;exact Wr<|A_ hr z z z ⟨bup (bM G h1<|f_ lr) s3,a2,a3,z,ii z,J,ho,k_ a5 hn⟩
 refine Wk<|Wq (Wd (X:=noX) 0 (.rd 0<|.rd 1<|.rd 2<|.rd 4<|.rd 5<|.rd 6<|.rd 7<|.ef 3<|.rd 8<|.rd 9<|.rd 10 .done) mo (by kernel_rfl) fun ad s2 _=>dM z z z<|dR z z (fd b_D z) ?_)
 have hp:=(hj.e s3).e s2;refine dR z z (l0 g_4 z<|hp.at z)<|dM z z z<|dR z z (fd a_z z)<|dR z z (l0 g_3 z<|hp.at z)<|dR z z (add_ z z) ?_
 obtain ⟨_,a7,a1⟩:=bdS<|ifF hmm H;refine dE z z (fc call47 z<|f_2 (B:=wz.z) a7 (a_E s2.s)<|a4.e s2) (.inr fun _ _ h=>F_<|h.1) ?_;rintro _ _ ⟨a8,rfl,aa⟩
 iterate 3 refine dQ z z z ?_
 refine pD<|Wo ?_
 obtain rfl:=som a1;exact Wr<|A_ hr z z z ⟨bup (bup (bup (bM G h1<|f_ lr) s3) s2) a8,.nilIface,([]:List Nat),z,aa,iA _ _,d_1,an_⟩
def Q30 (w0:World)(B:Zone)(r:Int×(Option<|Int×Int))(v:Value)(w':World):Prop:=Bw w0 w'/\un2 (fun h G=>∃(v1:Value)(S1:List Nat),v = .tuple #[vI h,v1]/\inI h/\a_m 116 w' S1 v1 G/\(∀k∈S1,w0.z<=k)) r
theorem W_w30 {x1:a_e}{b1 o1:Nat}{x2:a_}{x3:Int}{res:Int×(Option<|Int×Int)}(hm:g_1 x1 x2 x3=some res)(O:B<=w0.z)(ab:repS w0 B (sl A0 N0 C0) x1.d.rules)(Y:repS w0 B (sl A1 N1 C1) x1.b)(hC1:N_ w0 b1 o1 [sl A0 N0 C0,sl A1 N1 C1])(hC1b:B b1)(ad:x2.name.b.length<=LEN)(ae:inI x2.kind)(af:inI x2.size)(H:repS w0 B (sl A3 N3 C3) x2.bytes)(ah:repS w0 B (sl A4 N4 C4) x2.names)(ai:repS w0 B (sl A2 N2 C2) x2.tags)(aj:repS w0 B (sl A5 N5 C5) x2.kids)(I:inI x3):j_ prog 96 [(.pointer<|some ⟨b1,o1,none⟩),.agg #[Str.v x2.name,vI x2.kind,vI x2.size,vB x2.little,sl A3 N3 C3,sl A4 N4 C4,sl A2 N2 C2,sl A5 N5 C5],vI x3] w0 (Q30 w0 B res):=by
 unfold g_1 at hm
 refine goG func96 z z z fun fn hr=>Ws<|E z (fb z) ?_
 rintro _ G ⟨rfl,h6⟩;have h:=h6.below;have W:Blk G w0.z (vR x2 A3 N3 C3 A4 N4 C4 A2 N2 C2 A5 N5 C5):=h6.blk;refine Ra z<|Rw z<|Wq<|Ws<|Rf z a_I z<|R z (l0 T_ z<|W.at z)<|R z (lnR l_ z<|H.e h)<|Rm z<|Wn ?_
 obtain ⟨_,hui,V⟩:=bdS hm;refine Wf (σ:=Unit) (ρ:=Int×(Option<|Int×Int)) (fun (k9:Nat)(_:Unit) a w=>Sat 52 [(0,.pointer<|some ⟨b1,o1,none⟩),(2,vI x3),(4,pt w0.z),(11,sl A3 N3 C3),(12,vI (x2.bytes.length:Int)),(13,vI ((k9:Nat):Int))] a/\Below G.z G w) (fun (_:Unit) a w=>Sat 52 [(2,vI x3),(4,pt w0.z)] a/\Below G.z G w) (rQ prog fn<|Q30 w0 B) hui ?_ ?_ ?_ ?_ ?_
 ·exact fun _ q=>⟨q.k<|s6 z z z z z z,br G⟩
 ·rintro k9 _ _ _ _ hka ⟨hSj,s1⟩ hmk;refine Wu ?_ hSj;refine Ws<|Rl z z z<|Wn<|Wq<|Wc z (fun _=>?_) (fun hc=>(X_ hka hc).elim)
  refine Wk<|Wq<|Wb<|Wm z ?_
  obtain ⟨_,el,hmb⟩:=bdS hmk;have hd:=(h.ag B).e s1;refine RX z (at_ (α:=UInt8) l_ z_5 z z z (H.g hd) el) ?_;rintro _ ⟨_,_,_,rfl,hn,ho,_⟩;obtain rfl:=u8 ho;refine R z (l0 g_5 z<|hn.at0 z)<|Ra z<|Rw z<|Wq<|Wm z<|Rm z<|R z (add_ z z)<|Rm z<|R z (I_ z)<|Rf z e_a z ?_
  have he:=(hC1.e h).e s1;refine R z (l0 T_ z<|he.at (j:=1) z) ?_;have hf:=Y.g hd;refine R z (lnR l_ z hf)<|R z (b_f z z)<|Wx z (fun J=>?_) (fun J=>?_)
  ·refine Wm z<|Rm z ?_
   have hg:=lt_ h.s s1.s;obtain ⟨_,em,hmp⟩:=bdS<|ifT hmb J;refine E z (fc call103 z<|d_7 em (zt' O hg) I<|ii z) ?_;rintro _ _ ⟨sq,vr,Ss,rfl,ht,hu⟩;exact Ra z<|Rw z<|Wr<|rtO<|qL (som hmp).symm<|a_o hr z z ⟨bup (bup h s1) sq,vr,Ss,z,I,ht,k_ hu hg⟩
  refine Wk<|Wm z<|R z (I_ z)<|Rf z e_a z<|R z (l0 T_ z<|he.at (j:=1) z)<|RM z z<|R z (add_ z z) ?_
  obtain ⟨_,ev,hmc⟩:=bdS<|ifF hmb J;refine RX z (at_ (α:=UInt8) l_ z_5 z z z hf ev) ?_;rintro _ ⟨_,_,_,rfl,hw,hx,_⟩;obtain rfl:=u8 hx;refine R z (l0 g_5 z<|hw.at0 z)<|Rm z<|R z (nq z z)<|Wx z (fun L=>?_) (fun L=>?_)
  ·refine Wm z<|RM z z<|R z (add_ z z) ?_
   have hh:=lt_ h.s s1.s;obtain ⟨_,ey,hmz⟩:=bdS<|ifT hmc L;refine E z (fc call103 z<|d_7 ey (zt' O hh) (iA _ _)<|ii z) ?_;rintro _ _ ⟨a4,a5,a6,rfl,a7,a8⟩;exact Ra z<|Rw z<|Wr<|rtO<|qL (som hmz).symm<|a_o hr z z ⟨bup (bup h s1) a4,a5,a6,z,I,a7,k_ a8 hh⟩
  exact Wk<|Wg<|R z (inc_ hka (lt_ (repS.len H) H_) z z)<|Rm z<|Wl (fun _ q=>⟨(),(som<|ifF hmc L).symm,⟨q.k<|s6 z z z z z z,s1⟩⟩)
 ·rintro _ _ _ ⟨a0,a9⟩;refine Wu ?_ a0;refine Ws<|Rl z z z<|Wn<|Wq<|Wc z (fun hc=>(Y_ hc).elim) (fun _=>?_)
  exact We<|fun _ q=>⟨rfl,⟨q.k<|s2 z z,a9⟩⟩
 ·rintro _ aa _ rfl ⟨_,s5⟩;have a1:=elL V;revert aa;refine Wo<|Wm z<|Rf z a_I z<|R z (l0 T_ z<|(W.e s5).at z)<|R z (lnR l_ z<|H.g<|(h.ag B).e s5)<|R z (add_ z z)<|Ra z<|Rw z ?_
  obtain rfl:=som a1;exact Wr<|a_o hr z z ⟨bup h s5,.nilIface,([]:List Nat),z,iA _ _,d_1,an_⟩
 rintro _ _ _ _ rfl ⟨rfl,a2⟩;have a3:=elR V;obtain rfl:=som a3;exact ⟨a2,z⟩
def Q31 (w0:World)(B:Zone)(r:Val×Int×(Option<|Int×Int))(v:Value)(w':World):Prop:=Bw w0 w'/\un3 (fun h G O=>∃(a1:Option Addr)(H I:Nat)(S1:List Nat)(a2:Option Addr)(J L:Nat)(S2:List Nat)(v3:Value)(S3:List Nat),v = .tuple #[(.agg #[vI h.number,sl a1 H I,sl a2 J L]),vI G,v3]/\inI h.number/\b_ w' S1 (sl a1 H I) h.bytes/\b_ w' S2 (sl a2 J L) h.items/\inI G/\a_m 116 w' S3 v3 O/\(∀k∈S3,w0.z<=k)/\(S1++S2).Nodup/\(∀k∈(S1++S2),w0.z<=k)) r
theorem W_w1f {x1:a_e}{b1 o1:Nat}{x2:Int}{x3:Int}{res:Val×Int×(Option<|Int×Int)}(hm:e_H x1 x2 x3=some res)(a1:B<=w0.z)(W:repS w0 B (sl A0 N0 C0) x1.d.rules)(Y:repS w0 B (sl A1 N1 C1) x1.b)(hC1:N_ w0 b1 o1 [sl A0 N0 C0,sl A1 N1 C1])(hC1b:B b1)(L:inI x2)(a0:inI x3):j_ prog 97 [(.pointer<|some ⟨b1,o1,none⟩),vI x2,vI x3] w0 (Q31 w0 B res):=by
 unfold e_H at hm
 refine goG func97 z z z fun fn hr=>Ws<|E z (fa a_a) ?_
 rintro _ wk ⟨rfl,V⟩;have h:=V.below;have h2:Blk wk w0.z [vI 0,sl none 0 0,sl none 0 0]:=V.blk;refine Ra z<|Rw z<|Wm z<|RM z z ?_
 obtain ⟨_,_,el,O⟩:=W_ hm;refine E z (fc call115 z<|g_F el (zt' a1 h.s) (W.e h) (Y.e h) (hC1.e h) hC1b L a0) ?_;rintro _ _ ⟨s1,_,_,_,vm,Sn,rfl,ho,ha,hb⟩;refine Rm z<|Re z z z<|Re z z z<|Ra z<|Rw z<|Wq<|Wm z<|R z (c_z c_C z z ha)<|Wx z (fun G=>?_) (fun G=>?_)
 ·refine Ws<|R z (bP (parts:=[]) (cs:=[vI 0,sl none 0 0,sl none 0 0]) U_ z z)<|RM z z<|E0 (fs0 (cur':=[vI 0,sl none 0 0,sl none 0 0]) i_ z z (h2.e s1) z z z z) ?_
  rintro _ _ ⟨hp,sq⟩;have hc:=sq.one;refine Ra z<|Rw z ?_
  obtain rfl:=som<|ifT O G;exact Wr<|A_ hr (o_ z_ i_ z hp z) z z ⟨bM (bup h s1) hc<|f_ lr,none,0,0,[],none,0,0,[],vm,Sn,z,ii z,onL,onL,L,ha.c hc<|p_ hb h2.lt lr,k_ hb h.s,nd0,al0⟩
 refine Wk<|Ws<|E z (f0 (α:=UInt8) a_C) ?_
 rintro _ _ ⟨_,_,_,rfl,s3,ht⟩;refine Rm z ?_;obtain ⟨_,er,hms⟩:=bdS<|ifF O G;refine E z (fN (α:=UInt8) a_C er z z ht a_X<|ho.e s3) ?_;rintro _ _ ⟨Sd,H,I,J,rfl,se,hu,hv,hf⟩;refine R z (bP (parts:=[(1,.tmp 25)]) (cs:=[vI 0,sl H I J,sl none 0 0]) U_ z z)<|RM z z<|R z (add_ z z) ?_
 have hg:=mm1 h2.lt s1.s;refine E0 (fs0 (cur':=[vI 0,sl H I J,sl none 0 0]) i_ z z (((h2.e s1).e s3).c se<|djs hg) z z z z) ?_;rintro _ _ ⟨hw,sx⟩;have hh:=sx.one;refine Ra z<|Rw z ?_
 obtain rfl:=som hms;have hi:=lt_ h.s s1.s;have hj:=m1 hi;exact Wr<|A_ hr (o_ z_ i_ z hw z) z z ⟨bM (bM (bup (bup h s1) s3) se hj) hh<|f_ lr,H,I,J,Sd,none,0,0,[],.nilIface,([]:List Nat),z,ii z,hu.c hh (or1 hf hg (a_x (f_ h2.lt)<|lt_ s1.s s3.s):∀k∈Sd,k∉[w0.z]),onL,iA _ _,d_1,an_,na_ hv a_f<|nmN _,aa_ (a_Q hf hj<|lt_ hi s3.s) an_⟩
def Q32 (w0:World)(B:Zone)(S2_1:List Nat)(S2_2:List Nat)(r:Val×Int×(Option<|Int×Int))(v:Value)(w':World):Prop:=Chg (· ∈ (S2_1++S2_2)) w0 w'/\un3 (fun h G O=>∃(a1:Option Addr)(H I:Nat)(S1:List Nat)(a2:Option Addr)(J L:Nat)(S2:List Nat)(v3:Value)(S3:List Nat),v = .tuple #[(.agg #[vI h.number,sl a1 H I,sl a2 J L]),vI G,v3]/\inI h.number/\b_ w' S1 (sl a1 H I) h.bytes/\b_ w' S2 (sl a2 J L) h.items/\inI G/\a_m 116 w' S3 v3 O/\(∀k∈S3,w0.z<=k)/\(S1++S2).Nodup/\(∀k∈(S1++S2),k∈(S2_1++S2_2)∨w0.z<=k)) r
structure i_F (f:a_e->Int->Int->Option (Val×Int×(Option<|Int×Int))):Prop where
  run:∀{A0 A1:Option Addr}{N0 C0 N1 C1 b1 o1:Nat}{B:Zone}{x1:a_e}{x2:Int}{x3:Int}{res:Val×Int×(Option<|Int×Int)}{w0:World}(hm:f x1 x2 x3=some res)(hBw:B<=w0.z)(p1_0:repS w0 B (sl A0 N0 C0) x1.d.rules)(p1_1:repS w0 B (sl A1 N1 C1) x1.b)(hC1:N_ w0 b1 o1 [sl A0 N0 C0,sl A1 N1 C1])(hC1b:B b1)(p2_0:inI x2)(p3_0:inI x3),j_ prog 71 [(.pointer<|some ⟨b1,o1,none⟩),vI x2,vI x3] w0<|Q31 w0 B res
structure i_G (f:a_e->a_->Int->Option (Val×Int×(Option<|Int×Int))):Prop where
  run:∀{A0 A1 A3 A4 A2 A5:Option Addr}{N0 C0 N1 C1 b1 o1 N3 C3 N4 C4 N2 C2 N5 C5:Nat}{B:Zone}{x1:a_e}{x2:a_}{x3:Int}{res:Val×Int×(Option<|Int×Int)}{w0:World}(hm:f x1 x2 x3=some res)(hBw:B<=w0.z)(p1_0:repS w0 B (sl A0 N0 C0) x1.d.rules)(p1_1:repS w0 B (sl A1 N1 C1) x1.b)(hC1:N_ w0 b1 o1 [sl A0 N0 C0,sl A1 N1 C1])(hC1b:B b1)(p2_0:x2.name.b.length<=LEN)(p2_1:inI x2.kind)(p2_2:inI x2.size)(p2_4:repS w0 B (sl A3 N3 C3) x2.bytes)(p2_5:repS w0 B (sl A4 N4 C4) x2.names)(p2_6:repS w0 B (sl A2 N2 C2) x2.tags)(p2_7:repS w0 B (sl A5 N5 C5) x2.kids)(p3_0:inI x3),j_ prog 98 [(.pointer<|some ⟨b1,o1,none⟩),.agg #[Str.v x2.name,vI x2.kind,vI x2.size,vB x2.little,sl A3 N3 C3,sl A4 N4 C4,sl A2 N2 C2,sl A5 N5 C5],vI x3] w0<|Q31 w0 B res
structure i_H (f:a_e->Val->(List Int)->Int->Option (Val×Int×(Option<|Int×Int))):Prop where
  run:∀{A0 A1 AC AF A7:Option Addr}{N0 C0 N1 C1 b1 o1 NC CC NF CF N7 C7:Nat}{S2_1 S2_2:List Nat}{B:Zone}{x1:a_e}{x2:Val}{x3:List Int}{x4:Int}{res:Val×Int×(Option<|Int×Int)}{w0:World}(hm:f x1 x2 x3 x4=some res)(hBw:B<=w0.z)(p1_0:repS w0 B (sl A0 N0 C0) x1.d.rules)(p1_1:repS w0 B (sl A1 N1 C1) x1.b)(hC1:N_ w0 b1 o1 [sl A0 N0 C0,sl A1 N1 C1])(hC1b:B b1)(p2_0:inI x2.number)(p2_1:b_ w0 S2_1 (sl AC NC CC) x2.bytes)(p2_1n:S2_1.Nodup)(p2_1g:∀k∈S2_1,¬B k)(p2_2:b_ w0 S2_2 (sl AF NF CF) x2.items)(p2_2n:S2_2.Nodup)(p2_2g:∀k∈S2_2,¬B k)(p2_2d1:∀k∈S2_2,k∉S2_1)(p3_0:repS w0 B (sl A7 N7 C7) x3)(p4_0:inI x4),j_ prog 99 [(.pointer<|some ⟨b1,o1,none⟩),.agg #[vI x2.number,sl AC NC CC,sl AF NF CF],sl A7 N7 C7,vI x4] w0<|Q32 w0 B S2_1 S2_2 res
structure i_I (f:a_e->a_->Int->Option (Val×Int×(Option<|Int×Int))):Prop where
  run:∀{A0 A1 A3 A4 A2 A5:Option Addr}{N0 C0 N1 C1 b1 o1 N3 C3 N4 C4 N2 C2 N5 C5:Nat}{B:Zone}{x1:a_e}{x2:a_}{x3:Int}{res:Val×Int×(Option<|Int×Int)}{w0:World}(hm:f x1 x2 x3=some res)(hBw:B<=w0.z)(p1_0:repS w0 B (sl A0 N0 C0) x1.d.rules)(p1_1:repS w0 B (sl A1 N1 C1) x1.b)(hC1:N_ w0 b1 o1 [sl A0 N0 C0,sl A1 N1 C1])(hC1b:B b1)(p2_0:x2.name.b.length<=LEN)(p2_1:inI x2.kind)(p2_2:inI x2.size)(p2_4:repS w0 B (sl A3 N3 C3) x2.bytes)(p2_5:repS w0 B (sl A4 N4 C4) x2.names)(p2_6:repS w0 B (sl A2 N2 C2) x2.tags)(p2_7:repS w0 B (sl A5 N5 C5) x2.kids)(p3_0:inI x3),j_ prog 100 [(.pointer<|some ⟨b1,o1,none⟩),.agg #[Str.v x2.name,vI x2.kind,vI x2.size,vB x2.little,sl A3 N3 C3,sl A4 N4 C4,sl A2 N2 C2,sl A5 N5 C5],vI x3] w0<|Q31 w0 B res
structure i_J (f:a_e->a_->Int->Option (Val×Int×(Option<|Int×Int))):Prop where
  run:∀{A0 A1 A3 A4 A2 A5:Option Addr}{N0 C0 N1 C1 b1 o1 N3 C3 N4 C4 N2 C2 N5 C5:Nat}{B:Zone}{x1:a_e}{x2:a_}{x3:Int}{res:Val×Int×(Option<|Int×Int)}{w0:World}(hm:f x1 x2 x3=some res)(hBw:B<=w0.z)(p1_0:repS w0 B (sl A0 N0 C0) x1.d.rules)(p1_1:repS w0 B (sl A1 N1 C1) x1.b)(hC1:N_ w0 b1 o1 [sl A0 N0 C0,sl A1 N1 C1])(hC1b:B b1)(p2_0:x2.name.b.length<=LEN)(p2_1:inI x2.kind)(p2_2:inI x2.size)(p2_4:repS w0 B (sl A3 N3 C3) x2.bytes)(p2_5:repS w0 B (sl A4 N4 C4) x2.names)(p2_6:repS w0 B (sl A2 N2 C2) x2.tags)(p2_7:repS w0 B (sl A5 N5 C5) x2.kids)(p3_0:inI x3),j_ prog 101 [(.pointer<|some ⟨b1,o1,none⟩),.agg #[Str.v x2.name,vI x2.kind,vI x2.size,vB x2.little,sl A3 N3 C3,sl A4 N4 C4,sl A2 N2 C2,sl A5 N5 C5],vI x3] w0<|Q31 w0 B res
structure i_K (f:a_e->a_->Int->Option (Val×Int×(Option<|Int×Int))):Prop where
  run:∀{A0 A1 A3 A4 A2 A5:Option Addr}{N0 C0 N1 C1 b1 o1 N3 C3 N4 C4 N2 C2 N5 C5:Nat}{B:Zone}{x1:a_e}{x2:a_}{x3:Int}{res:Val×Int×(Option<|Int×Int)}{w0:World}(hm:f x1 x2 x3=some res)(hBw:B<=w0.z)(p1_0:repS w0 B (sl A0 N0 C0) x1.d.rules)(p1_1:repS w0 B (sl A1 N1 C1) x1.b)(hC1:N_ w0 b1 o1 [sl A0 N0 C0,sl A1 N1 C1])(hC1b:B b1)(p2_0:x2.name.b.length<=LEN)(p2_1:inI x2.kind)(p2_2:inI x2.size)(p2_4:repS w0 B (sl A3 N3 C3) x2.bytes)(p2_5:repS w0 B (sl A4 N4 C4) x2.names)(p2_6:repS w0 B (sl A2 N2 C2) x2.tags)(p2_7:repS w0 B (sl A5 N5 C5) x2.kids)(p3_0:inI x3),j_ prog 102 [(.pointer<|some ⟨b1,o1,none⟩),.agg #[Str.v x2.name,vI x2.kind,vI x2.size,vB x2.little,sl A3 N3 C3,sl A4 N4 C4,sl A2 N2 C2,sl A5 N5 C5],vI x3] w0<|Q31 w0 B res
abbrev d_F (n:Nat):Prop:=i_F (a_1 n).impl_fileReader_value/\i_G (a_1 n).impl_fileReader_array/\i_H (a_1 n).impl_fileReader_items/\i_I (a_1 n).impl_fileReader_choice/\i_J (a_1 n).impl_fileReader_option/\i_K (a_1 n).impl_fileReader_checked
theorem T_w00 (ih:d_F n):i_F (g_2 n<|a_1 n):=by
 obtain ⟨_,d5,d6,d7,d8,d9⟩:=ih
 constructor
 intro A0 A1 N0 C0 N1 C1 b1 o1 B x1 x2 x3 res w0 hm H L O hC1 hC1b cS I;unfold g_2 at hm
 refine goG func71 z z z fun fn hr=>Ws<|E z (fa a_a) ?_
 rintro _ J ⟨rfl,bh⟩;have h2:=bh.below;have h3:Blk J w0.z [vI 0,sl none 0 0,sl none 0 0]:=bh.blk;refine Ra z<|Rw z<|Wm z<|R z (I_ z)<|Rf z j_Q z<|Rf z a_9 z ?_
 have h5:=hC1.e h2;refine R z (l0 a_c z<|h5.at (j:=0) z)<|Rm z ?_
 obtain ⟨W,da,b5⟩:=bdS hm;refine RX z (at_ (α:=a_) Q_ n_ z z z (L.e h2) da) ?_;rintro _ ⟨_,_,_,rfl,db,dc,_⟩;obtain ⟨aa,nb,cc,ad,ne,cf,ah,ng,ci,aj,nk,cl,rfl,hq,ht,ho,hp,hu,hv,hn⟩:=a_y dc;refine R z (lN (vs:=vR W aa nb cc ad ne cf ah ng ci aj nk cl) G_ n_ z z fid db)<|E z (fa b_w) ?_
 rintro _ dd ⟨rfl,bi⟩;have G:=bi.below;refine E0 (fs0 (cur':=vR W aa nb cc ad ne cf ah ng ci aj nk cl) n_ z z (bi.blk:Blk dd J.z [(Str.v (⟨[]⟩:Str)),vI 0,vI 0,vB false,sl none 0 0,sl none 0 0,sl none 0 0,sl none 0 0]) z z z z) ?_;rintro _ _ ⟨V,de⟩;have h1:=de.one;refine Wn<|Wq<|Ws<|Rf z a_s z<|R z (l0 g_3 z<|V.at z)<|Wn<|Wb<|Ws<|Rq z z z<|Rw z<|Wc z (fun hcr=>?_) (fun hcr=>?_)
 ·refine Wm z<|RM z z ?_
  have bj:∀k∈[J.z],¬B k:=or0 (f_ lr)<|m_<|zt' H h2.s;have bk:=((h2.ag B).e G).c h1<|c_ bj
  have bm:=lt_ (lt_ h2.s G.s) h1.s;obtain ⟨bn,_,_,df,cT⟩:=L_<|ifT b5 hcr;refine E z (fc call95 z<|g_G df (zt' H bm) (L.g bk) (O.g bk) ((h5.e G).c h1<|(c_ bj) _ hC1b) hC1b cS I) ?_;rintro _ _ ⟨bo,dg,dh,rfl,di,dj,dk,bp⟩;refine Rm z ?_
  iterate 3 refine Re z z z ?_
  refine RA z z<|Rw z<|Wm z<|R z (bP (parts:=[(0,.tmp 41)]) (cs:=[vI bn,sl none 0 0,sl none 0 0]) U_ z z)<|RM z z<|E0 (fs0 (cur':=[vI bn,sl none 0 0,sl none 0 0]) i_ z z (((h3.e G).c h1<|djs<|mmr h3.lt).e bo) z z z z) ?_
  rintro _ _ ⟨dl,dm⟩;have bq:=dm.one;refine Ra z<|Rw z ?_
  obtain rfl:=som cT;exact Wr<|rtO<|A_ hr (o_ z_ i_ z dl z) z z ⟨bM (bup (bM (bup h2 G) h1<|m1 h2.s) bo) bq<|f_ lr,none,0,0,[],none,0,0,[],dg,dh,z,di,onL,onL,dj,dk.c bq<|p_ bp h3.lt<|lt_ G.s h1.s,k_ bp bm,nd0,al0⟩
 have b6:=ifF b5 hcr;refine Ws<|Rq z z z<|Rw z<|Wc z (fun hcs=>?_) (fun hcs=>?_)
 ·refine Wm z<|R z (lN (vs:=vR W aa nb cc ad ne cf ah ng ci aj nk cl) G_ n_ z z fid<|V.row 0 8 z)<|Rm z ?_
  have aC:∀k∈[J.z],¬B k:=or0 (f_ lr)<|m_<|zt' H h2.s;have br:=((h2.ag B).e G).c h1<|c_ aC
  have hw:=(G.ag B).c h1<|c_ aC
  have bs:=lt_ (lt_ h2.s G.s) h1.s;obtain ⟨_,_,dn,cU⟩:=W_<|ifT b6 hcs;refine E z (fc call96 z<|W_w30 dn (zt' H bs) (L.g br) (O.g br) ((h5.e G).c h1<|(c_ aC) _ hC1b) hC1b hq ht ho (hp.g hw) (hu.g hw) (hv.g hw) (hn.g hw) I) ?_;rintro _ _ ⟨bt,dp,dq,rfl,dr,ds,bu⟩;refine Rm z<|Re z z z<|Re z z z<|Ra z<|Rw z<|Ws<|R z (bP (parts:=[]) (cs:=[vI 0,sl none 0 0,sl none 0 0]) U_ z z)<|RM z z<|E0 (fs0 (cur':=[vI 0,sl none 0 0,sl none 0 0]) i_ z z (((h3.e G).c h1<|djs<|mmr h3.lt).e bt) z z z z) ?_
  rintro _ _ ⟨dt,du⟩;have bv:=du.one;refine Ra z<|Rw z ?_
  obtain rfl:=som cU;exact Wr<|rtO<|A_ hr (o_ z_ i_ z dt z) z z ⟨bM (bup (bM (bup h2 G) h1<|m1 h2.s) bt) bv<|f_ lr,none,0,0,[],none,0,0,[],dp,dq,z,ii z,onL,onL,dr,ds.c bv<|p_ bu h3.lt<|lt_ G.s h1.s,k_ bu bs,nd0,al0⟩
 have b7:=ifF b6 hcs;refine Ws<|Rq z z z<|Rw z<|Wc z (fun ar=>?_) (fun ar=>?_)
 ·refine Wm z<|Rm z<|Rf z a_z z<|R z (l0 g_3 z<|V.at z) ?_
  have bw:∀k∈[J.z],¬B k:=or0 (f_ lr)<|m_<|zt' H h2.s;have bx:=((h2.ag B).e G).c h1<|c_ bw
  have hx:=lt_ (lt_ h2.s G.s) h1.s;obtain ⟨dv,_,_,dw,cV⟩:=L_<|ifT b7 ar;refine E z (fc call97 z<|W_w1f dw (zt' H hx) (L.g bx) (O.g bx) ((h5.e G).c h1<|(c_ bw) _ hC1b) hC1b I ho) ?_;rintro _ _ ⟨bz,bA,bB,bC,dx,bD,bE,bF,dy,dz,dA,rfl,dB,dC,dD,dF,dG,bG,aD,hy⟩
  iterate 3 refine Re z z z ?_
  refine E0 (fs0 (cur':=[vI dv.number,sl bA bB bC,sl bD bE bF]) i_ z z (((h3.e G).c h1<|djs<|mmr h3.lt).e bz) z z z z) ?_;rintro _ _ ⟨dH,dI⟩;have hz:=dI.one;refine Ra z<|Rw z ?_
  obtain rfl:=som cV;have aE:=lt_ G.s h1.s;exact Wr<|rtO<|A_ hr (o_ z_ i_ z dH z) z z ⟨bM (bup (bM (bup h2 G) h1<|m1 h2.s) bz) hz<|f_ lr,bA,bB,bC,dx,bD,bE,bF,dy,dz,dA,z,dB,dC.c hz<|p_ (al_ hy) h3.lt aE,dD.c hz<|p_ (ar_ hy) h3.lt aE,dF,dG.c hz<|p_ bG h3.lt aE,k_ bG hx,na_ (nl_ aD) (nr_ aD)<|nj aD,aa_ (k_ (al_ hy) hx)<|k_ (ar_ hy) hx⟩
 have b8:=ifF b7 ar;refine Ws<|Rq z z z<|Rw z<|Wc z (fun au=>?_) (fun au=>?_)
 ·refine Wm z<|Rf z M_ z<|R z (l0 w_ z<|V.at z) ?_
  obtain ⟨_,dJ,cW⟩:=bdS<|ifT b8 au;have aF:∀k∈[J.z],¬B k:=or0 (f_ lr)<|m_<|zt' H h2.s;refine RX z (at_ (α:=Int) r_ z_3 z z z (hn.g<|(G.ag B).c h1<|c_ aF) dJ) ?_;rintro _ ⟨_,_,_,rfl,dK,dL,_⟩;obtain ⟨rfl,dN⟩:=O_ dL;refine R z (l0 g_3 z<|dK.at0 z)<|Rm z ?_
  have bH:=(h5.e G).c h1<|(c_ aF) _ hC1b
  have aG:=((h2.ag B).e G).c h1<|c_ aF
  have aH:=lt_ (lt_ h2.s G.s) h1.s;obtain ⟨_,_,_,dO,b9⟩:=L_ cW;refine E z (fc call95 z<|g_G dO (zt' H aH) (L.g aG) (O.g aG) bH hC1b dN I) ?_;rintro _ _ ⟨s8,dP,dS,rfl,dT,dU,bI,bJ⟩;refine Rm z ?_
  iterate 3 refine Re z z z ?_
  refine RA z z<|Rw z<|Wq<|Wm z<|R z (c_z c_C z z bI)<|Wx z (fun av=>?_) (fun av=>?_)
  ·refine Ws<|R z (bP (parts:=[]) (cs:=[vI 0,sl none 0 0,sl none 0 0]) U_ z z)<|RM z z<|E0 (fs0 (cur':=[vI 0,sl none 0 0,sl none 0 0]) i_ z z (((h3.e G).c h1<|djs<|mmr h3.lt).e s8) z z z z) ?_
   rintro _ _ ⟨dV,dW⟩;have bK:=dW.one;refine Ra z<|Rw z ?_
   obtain rfl:=som<|ifT b9 av;exact Wr<|rtO<|A_ hr (o_ z_ i_ z dV z) z z ⟨bM (bup (bM (bup h2 G) h1<|m1 h2.s) s8) bK<|f_ lr,none,0,0,[],none,0,0,[],dP,dS,z,ii z,onL,onL,I,bI.c bK<|p_ bJ h3.lt<|lt_ G.s h1.s,k_ bJ aH,nd0,al0⟩
  refine Wk<|Wm z<|RM z z ?_
  have bL:=aG.e s8;have Y:=lt_ aH s8.s;obtain ⟨dX,_,_,dY,cX⟩:=L_<|ifF b9 av;refine E z (fc call97 z<|W_w1f dY (zt' H Y) (L.g bL) (O.g bL) (bH.e s8) hC1b dU dT) ?_;rintro _ _ ⟨bN,bO,bQ,bR,dZ,bS,bT,bU,e0,e1,e2,rfl,e3,e4,e5,e6,e7,bV,aI,a0⟩
  iterate 3 refine Re z z z ?_
  refine E0 (fs0 (cur':=[vI dX.number,sl bO bQ bR,sl bS bT bU]) i_ z z ((((h3.e G).c h1<|djs<|mmr h3.lt).e s8).e bN) z z z z) ?_;rintro _ _ ⟨e8,e9⟩;have a1:=e9.one;refine Ra z<|Rw z ?_
  obtain rfl:=som cX;have aJ:=lt_ (lt_ G.s h1.s) s8.s;exact Wr<|rtO<|A_ hr (o_ z_ i_ z e8 z) z z ⟨bM (bup (bup (bM (bup h2 G) h1<|m1 h2.s) s8) bN) a1<|f_ lr,bO,bQ,bR,dZ,bS,bT,bU,e0,e1,e2,z,e3,e4.c a1<|p_ (al_ a0) h3.lt aJ,e5.c a1<|p_ (ar_ a0) h3.lt aJ,e6,e7.c a1<|p_ bV h3.lt aJ,k_ bV Y,na_ (nl_ aI) (nr_ aI)<|nj aI,aa_ (k_ (al_ a0) Y)<|k_ (ar_ a0) Y⟩
 have ba:=ifF b8 au;refine Ws<|Rq z z z<|Rw z<|Wc z (fun aw=>?_) (fun aw=>?_)
 ·refine Wm z<|R z (lN (vs:=vR W aa nb cc ad ne cf ah ng ci aj nk cl) G_ n_ z z fid<|V.row 0 8 z)<|Rm z ?_
  have aK:∀k∈[J.z],¬B k:=or0 (f_ lr)<|m_<|zt' H h2.s;have bW:=((h2.ag B).e G).c h1<|c_ aK
  have a2:=(G.ag B).c h1<|c_ aK
  have a3:=lt_ (lt_ h2.s G.s) h1.s;obtain ⟨ea,_,_,eb,cY⟩:=L_<|ifT ba aw;refine E z (fc call98 z<|d5.run eb (zt' H a3) (L.g bW) (O.g bW) ((h5.e G).c h1<|(c_ aK) _ hC1b) hC1b hq ht ho (hp.g a2) (hu.g a2) (hv.g a2) (hn.g a2) I) ?_;rintro _ _ ⟨bX,bY,bZ,c0,ec,c1,c2,c3,ed,ee,ef,rfl,eg,eh,ei,ej,ek,c4,aL,a4⟩
  iterate 3 refine Re z z z ?_
  refine E0 (fs0 (cur':=[vI ea.number,sl bY bZ c0,sl c1 c2 c3]) i_ z z (((h3.e G).c h1<|djs<|mmr h3.lt).e bX) z z z z) ?_;rintro _ _ ⟨em,en⟩;have a5:=en.one;refine Ra z<|Rw z ?_
  obtain rfl:=som cY;have aM:=lt_ G.s h1.s;exact Wr<|rtO<|A_ hr (o_ z_ i_ z em z) z z ⟨bM (bup (bM (bup h2 G) h1<|m1 h2.s) bX) a5<|f_ lr,bY,bZ,c0,ec,c1,c2,c3,ed,ee,ef,z,eg,eh.c a5<|p_ (al_ a4) h3.lt aM,ei.c a5<|p_ (ar_ a4) h3.lt aM,ej,ek.c a5<|p_ c4 h3.lt aM,k_ c4 a3,na_ (nl_ aL) (nr_ aL)<|nj aL,aa_ (k_ (al_ a4) a3)<|k_ (ar_ a4) a3⟩
 have bb:=ifF ba aw;refine Ws<|Rq z z z<|Rw z<|Wc z (fun ax=>?_) (fun ax=>?_)
 ·refine Wm z<|R z (bP (parts:=[]) (cs:=[vI 0,sl none 0 0,sl none 0 0]) U_ z z)<|Rf z M_ z<|R z (l0 w_ z<|V.at z)<|Rm z ?_
  have aN:∀k∈[J.z],¬B k:=or0 (f_ lr)<|m_<|zt' H h2.s;have c5:=((h2.ag B).e G).c h1<|c_ aN
  have a6:=lt_ (lt_ h2.s G.s) h1.s;obtain ⟨eo,_,_,ep,cZ⟩:=L_<|ifT bb ax;refine E z (fc call99 z<|d6.run (B:=B) (x2:=(⟨0,([]:List UInt8),([]:List Val)⟩:Val)) ep (zt' H a6) (L.g c5) (O.g c5) ((h5.e G).c h1<|(c_ aN) _ hC1b) hC1b (ii z) onL a_f an_ onL a_f an_ an_ (hn.g<|(G.ag B).c h1<|c_ aN) I) ?_;rintro _ _ ⟨c6,c7,c8,c9,ca,cb,cd,ce,cg,er,es,rfl,eu,ew,ex,ey,ez,ch,aO,a7⟩
  iterate 3 refine Re z z z ?_
  refine E0 (fs0 (cur':=[vI eo.number,sl c7 c8 c9,sl cb cd ce]) i_ z z (((h3.e G).c h1<|djs<|mmr h3.lt).c c6<|atp<|nmA (nmN _)<|nmN _) z z z z) ?_;rintro _ _ ⟨eA,eB⟩;have a8:=eB.one;refine Ra z<|Rw z ?_
  obtain rfl:=som cZ;have aP:=lt_ G.s h1.s;exact Wr<|rtO<|A_ hr (o_ z_ i_ z eA z) z z ⟨bM (bM (bM (bup h2 G) h1<|m1 h2.s) c6 al0) a8<|f_ lr,c7,c8,c9,ca,cb,cd,ce,cg,er,es,z,eu,ew.c a8 (or1 (al_ a7) al0 (a_x (f_ h3.lt) aP):∀k∈ca,k∉[w0.z]),ex.c a8 (or1 (ar_ a7) al0 (a_x (f_ h3.lt) aP):∀k∈cg,k∉[w0.z]),ey,ez.c a8<|p_ ch h3.lt aP,k_ ch a6,na_ (nl_ aO) (nr_ aO)<|nj aO,aa_ (a_Q (al_ a7) al0 a6)<|a_Q (ar_ a7) al0 a6⟩
 have bc:=ifF bb ax;refine Ws<|Rq z z z<|Rw z<|Wc z (fun ay=>?_) (fun ay=>?_)
 ·refine Wm z<|R z (lN (vs:=vR W aa nb cc ad ne cf ah ng ci aj nk cl) G_ n_ z z fid<|V.row 0 8 z)<|Rm z ?_
  have aQ:∀k∈[J.z],¬B k:=or0 (f_ lr)<|m_<|zt' H h2.s;have cj:=((h2.ag B).e G).c h1<|c_ aQ
  have a9:=(G.ag B).c h1<|c_ aQ
  have ab:=lt_ (lt_ h2.s G.s) h1.s;obtain ⟨eC,_,_,eD,d0⟩:=L_<|ifT bc ay;refine E z (fc call100 z<|d7.run eD (zt' H ab) (L.g cj) (O.g cj) ((h5.e G).c h1<|(c_ aQ) _ hC1b) hC1b hq ht ho (hp.g a9) (hu.g a9) (hv.g a9) (hn.g a9) I) ?_;rintro _ _ ⟨ck,cm,cn,co,eE,cp,cq,cr,eF,eG,eH,rfl,eI,eJ,eK,eL,eM,ct,aR,ae⟩
  iterate 3 refine Re z z z ?_
  refine E0 (fs0 (cur':=[vI eC.number,sl cm cn co,sl cp cq cr]) i_ z z (((h3.e G).c h1<|djs<|mmr h3.lt).e ck) z z z z) ?_;rintro _ _ ⟨eN,eO⟩;have af:=eO.one;refine Ra z<|Rw z ?_
  obtain rfl:=som d0;have aS:=lt_ G.s h1.s;exact Wr<|rtO<|A_ hr (o_ z_ i_ z eN z) z z ⟨bM (bup (bM (bup h2 G) h1<|m1 h2.s) ck) af<|f_ lr,cm,cn,co,eE,cp,cq,cr,eF,eG,eH,z,eI,eJ.c af<|p_ (al_ ae) h3.lt aS,eK.c af<|p_ (ar_ ae) h3.lt aS,eL,eM.c af<|p_ ct h3.lt aS,k_ ct ab,na_ (nl_ aR) (nr_ aR)<|nj aR,aa_ (k_ (al_ ae) ab)<|k_ (ar_ ae) ab⟩
 have be:=ifF bc ay;refine Ws<|Rq z z z<|Rw z<|Wc z (fun az=>?_) (fun az=>?_)
 ·refine Wm z<|R z (lN (vs:=vR W aa nb cc ad ne cf ah ng ci aj nk cl) G_ n_ z z fid<|V.row 0 8 z)<|Rm z ?_
  have aT:∀k∈[J.z],¬B k:=or0 (f_ lr)<|m_<|zt' H h2.s;have cu:=((h2.ag B).e G).c h1<|c_ aT
  have ai:=(G.ag B).c h1<|c_ aT
  have ak:=lt_ (lt_ h2.s G.s) h1.s;obtain ⟨eP,_,_,eQ,d1⟩:=L_<|ifT be az;refine E z (fc call101 z<|d8.run eQ (zt' H ak) (L.g cu) (O.g cu) ((h5.e G).c h1<|(c_ aT) _ hC1b) hC1b hq ht ho (hp.g ai) (hu.g ai) (hv.g ai) (hn.g ai) I) ?_;rintro _ _ ⟨cv,cw,cx,cy,eR,cz,cA,cB,eS,eT,eU,rfl,eV,eW,eX,eY,eZ,cC,aU,al⟩
  iterate 3 refine Re z z z ?_
  refine E0 (fs0 (cur':=[vI eP.number,sl cw cx cy,sl cz cA cB]) i_ z z (((h3.e G).c h1<|djs<|mmr h3.lt).e cv) z z z z) ?_;rintro _ _ ⟨f0,f1⟩;have am:=f1.one;refine Ra z<|Rw z ?_
  obtain rfl:=som d1;have aV:=lt_ G.s h1.s;exact Wr<|rtO<|A_ hr (o_ z_ i_ z f0 z) z z ⟨bM (bup (bM (bup h2 G) h1<|m1 h2.s) cv) am<|f_ lr,cw,cx,cy,eR,cz,cA,cB,eS,eT,eU,z,eV,eW.c am<|p_ (al_ al) h3.lt aV,eX.c am<|p_ (ar_ al) h3.lt aV,eY,eZ.c am<|p_ cC h3.lt aV,k_ cC ak,na_ (nl_ aU) (nr_ aU)<|nj aU,aa_ (k_ (al_ al) ak)<|k_ (ar_ al) ak⟩
 have bf:=ifF be az;refine Ws<|Rq z z z<|Rw z<|Wc z (fun aA=>?_) (fun aA=>?_)
 ·refine Wm z<|R z (lN (vs:=vR W aa nb cc ad ne cf ah ng ci aj nk cl) G_ n_ z z fid<|V.row 0 8 z)<|Rm z ?_
  have aW:∀k∈[J.z],¬B k:=or0 (f_ lr)<|m_<|zt' H h2.s;have cD:=((h2.ag B).e G).c h1<|c_ aW
  have an:=(G.ag B).c h1<|c_ aW
  have ao:=lt_ (lt_ h2.s G.s) h1.s;obtain ⟨f2,_,_,f3,d2⟩:=L_<|ifT bf aA;refine E z (fc call102 z<|d9.run f3 (zt' H ao) (L.g cD) (O.g cD) ((h5.e G).c h1<|(c_ aW) _ hC1b) hC1b hq ht ho (hp.g an) (hu.g an) (hv.g an) (hn.g an) I) ?_;rintro _ _ ⟨cE,cF,cG,cH,f4,cI,cJ,cK,f5,f6,f7,rfl,f8,f9,fb,fe,ff,cL,aX,ap⟩
  iterate 3 refine Re z z z ?_
  refine E0 (fs0 (cur':=[vI f2.number,sl cF cG cH,sl cI cJ cK]) i_ z z (((h3.e G).c h1<|djs<|mmr h3.lt).e cE) z z z z) ?_;rintro _ _ ⟨fg,fh⟩;have aq:=fh.one;refine Ra z<|Rw z ?_
  obtain rfl:=som d2;have aY:=lt_ G.s h1.s;exact Wr<|rtO<|A_ hr (o_ z_ i_ z fg z) z z ⟨bM (bup (bM (bup h2 G) h1<|m1 h2.s) cE) aq<|f_ lr,cF,cG,cH,f4,cI,cJ,cK,f5,f6,f7,z,f8,f9.c aq<|p_ (al_ ap) h3.lt aY,fb.c aq<|p_ (ar_ ap) h3.lt aY,fe,ff.c aq<|p_ cL h3.lt aY,k_ cL ao,na_ (nl_ aX) (nr_ aX)<|nj aX,aa_ (k_ (al_ ap) ao)<|k_ (ar_ ap) ao⟩
 refine Wk<|Wq (Wd (X:=noX) 0 (pl_ 17 [9]) mo (by kernel_rfl) fun fz s6 _=>dM z z z<|dR z z (I_ z)<|dR z z (fd e_a z) ?_)
 have aZ:∀k∈[J.z],¬B k:=or0 (f_ lr)<|m_<|zt' H h2.s;refine dR z z (l0 T_ z<|(((h5.e G).c h1<|(c_ aZ) _ hC1b).e s6).at (j:=1) z)<|dM z z z<|dR z z (fd a_I z)<|dR z z (l0 T_ z<|(V.e s6).at z) ?_
 obtain ⟨_,fi,d3⟩:=bdS<|ifF bf aA;refine dRX z z (at_ (α:=UInt8) l_ z_5 z z z (hp.g<|((G.ag B).c h1<|c_ aZ).e s6) fi) ?_;rintro _ ⟨_,_,_,rfl,fj,fk,_⟩;obtain rfl:=u8 fk;refine dR z z (l0 g_5 z<|fj.at0 z) ?_;have b0:=lt_ (lt_ (lt_ h2.s G.s) h1.s) s6.s;obtain ⟨_,_,_,fl,bg⟩:=L_ d3;refine dE z z (fc call91 z<|W_w17 fl (zt' H b0) (O.g<|(((h2.ag B).e G).c h1<|c_ aZ).e s6) I) (.inr fun _ _ h=>F_<|h.1) ?_;rintro _ _ ⟨sm,b2,b3,b4,fm,rfl,fo,fp,fq,cM⟩;refine dM z z z ?_
 iterate 3 refine dR z z (ext_ z z) ?_
 iterate 3 refine dQ z z z ?_
 refine pD<|Wo<|Wq<|Wm z<|R z (not_ z)<|Wx z (fun aB=>?_) (fun aB=>?_)
 ·refine Ws<|R z (bP (parts:=[]) (cs:=[vI 0,sl none 0 0,sl none 0 0]) U_ z z)<|RM z z ?_
  have cN:=lt_ b0 sm.s;obtain ⟨_,fr,d4⟩:=bdS<|ifT bg aB;refine E z (fc call103 z<|d_7 fr (zt' H cN) I<|ii z) ?_;rintro _ _ ⟨cO,fs,ft,rfl,fu,cP⟩;refine E0 (fs0 (cur':=[vI 0,sl none 0 0,sl none 0 0]) i_ z z (((((h3.e G).c h1<|djs<|mmr h3.lt).e s6).e sm).e cO) z z z z) ?_;rintro _ _ ⟨fv,fw⟩;have cQ:=fw.one;refine Ra z<|Rw z ?_
  obtain rfl:=som d4;exact Wr<|A_ hr (o_ z_ i_ z fv z) z z ⟨bM (bup (bup (bup (bM (bup h2 G) h1<|m1 h2.s) s6) sm) cO) cQ<|f_ lr,none,0,0,[],none,0,0,[],fs,ft,z,ii z,onL,onL,I,fu.c cQ<|p_ cP h3.lt<|lt_ (lt_ (lt_ G.s h1.s) s6.s) sm.s,k_ cP cN,nd0,al0⟩
 refine Wk<|Wm z<|R z (bP (parts:=[(1,.tmp 159)]) (cs:=[vI 0,sl b2 b3 b4,sl none 0 0]) U_ z z)<|Rm z<|E0 (fs0 (cur':=[vI 0,sl b2 b3 b4,sl none 0 0]) i_ z z ((((h3.e G).c h1<|djs<|mmr h3.lt).e s6).e sm) z z z z) ?_
 rintro _ _ ⟨fx,fy⟩;have cR:=fy.one;refine Ra z<|Rw z ?_
 obtain rfl:=som<|ifF bg aB;exact Wr<|A_ hr (o_ z_ i_ z fx z) z z ⟨bM (bup (bup (bM (bup h2 G) h1<|m1 h2.s) s6) sm) cR<|f_ lr,b2,b3,b4,fm,none,0,0,[],.nilIface,([]:List Nat),z,ii z,fo.c cR<|p_ cM h3.lt<|lt_ (lt_ G.s h1.s) s6.s,onL,fp,d_1,an_,na_ fq a_f<|nmN _,aa_ (k_ cM b0) an_⟩
theorem T_w1g (ih:d_F n):i_G (g_6 n<|a_1 n):=by
 obtain ⟨_,_,aI,_,_,_⟩:=ih
 constructor
 intro A0 A1 A3 A4 A2 A5 N0 C0 N1 C1 b1 o1 N3 C3 N4 C4 N2 C2 N5 C5 B x1 x2 x3 res w0 hm L V W hC1 hC1b bw bx bz bA bB bC Y O;unfold g_6 at hm
 refine goG func98 z z z fun fn hr=>Ws<|E z (fb z) ?_
 rintro _ I ⟨rfl,hw⟩;have h4:=hw.below;have hx:Blk I w0.z (vR x2 A3 N3 C3 A4 N4 C4 A2 N2 C2 A5 N5 C5):=hw.blk;refine E z (fa a_a) ?_;rintro _ aJ ⟨rfl,hy⟩;have h6:=hy.below;have h5:Blk aJ I.z [vI 0,sl none 0 0,sl none 0 0]:=hy.blk;refine Ra z<|Rw z<|Wm z<|Rf z M_ z ?_
 have hz:=hx.e h6;refine R z (l0 w_ z<|hz.at z) ?_;obtain ⟨_,aK,av⟩:=bdS hm;have hd:=(h4.ag B).e h6;refine RX z (at_ (α:=Int) r_ z_3 z z z (Y.g hd) aK) ?_;rintro _ ⟨_,_,_,rfl,aL,aM,_⟩;obtain ⟨rfl,aN⟩:=O_ aM;refine R z (l0 g_3 z<|aL.at0 z)<|Rm z ?_
 have a3:=(hC1.e h4).e h6;have he:=lt_ h4.s h6.s;obtain ⟨_,rr,_,aO,hms⟩:=L_ av;refine E z (fc call95 z<|g_G aO (zt' L he) (V.g hd) (W.g hd) a3 hC1b aN O) ?_;rintro _ G ⟨h,aP,aQ,rfl,_,aR,a4,a5⟩;refine Rm z ?_
 iterate 3 refine Re z z z ?_
 refine RA z z<|Rw z<|Wq<|Wm z<|R z (c_z c_C z z a4)<|Wx z (fun hcm=>?_) (fun hcm=>?_)
 ·refine Ws<|R z (bP (parts:=[]) (cs:=[vI 0,sl none 0 0,sl none 0 0]) U_ z z)<|RM z z<|E0 (fs0 (cur':=[vI 0,sl none 0 0,sl none 0 0]) i_ z z (h5.e h) z z z z) ?_
  rintro _ _ ⟨aS,aT⟩;have a6:=aT.one;refine Ra z<|Rw z ?_
  obtain rfl:=som<|ifT hms hcm;exact Wr<|A_ hr (o_ z_ i_ z aS z) z z ⟨bM (bup (bup h4 h6) h) a6<|m1 h4.s,none,0,0,[],none,0,0,[],aP,aQ,z,ii z,onL,onL,O,a4.c a6<|p_ a5 h5.lt lr,k_ a5 he,nd0,al0⟩
 have a0:=ifF hms hcm;refine Wk<|Wq<|Wm z<|R z (a_b z z)<|Wx z (fun hco=>?_) (fun hco=>?_)
 ·refine Ws<|R z (bP (parts:=[]) (cs:=[vI 0,sl none 0 0,sl none 0 0]) U_ z z)<|RM z z ?_
  have a7:=lt_ he h.s;obtain ⟨_,aU,aw⟩:=bdS<|ifT a0 hco;refine E z (fc call103 z<|d_7 aU (zt' L a7) O<|ii z) ?_;rintro _ _ ⟨a8,aV,aW,rfl,aX,a9⟩;refine E0 (fs0 (cur':=[vI 0,sl none 0 0,sl none 0 0]) i_ z z ((h5.e h).e a8) z z z z) ?_;rintro _ _ ⟨aY,aZ⟩;have aa:=aZ.one;refine Ra z<|Rw z ?_
  obtain rfl:=som aw;exact Wr<|A_ hr (o_ z_ i_ z aY z) z z ⟨bM (bup (bup (bup h4 h6) h) a8) aa<|m1 h4.s,none,0,0,[],none,0,0,[],aV,aW,z,ii z,onL,onL,O,aX.c aa<|p_ a9 h5.lt h.s,k_ a9 a7,nd0,al0⟩
 refine Wk<|Wm z ?_
 obtain ⟨b0,b2,ax⟩:=bdS<|ifF a0 hco;refine E z (e_7 (α:=Int) i_c (fun _=>c_w<|ii z) b2 z z) ?_;rintro _ H ⟨ac,nf,cg,rfl,s8,hp⟩;refine Rw z<|Wq<|Wm z<|R z (lnR r_ z<|b_.rep hp)<|Rm z<|Wn ?_
 obtain ⟨_,ay,a1⟩:=bdS ax;refine Wf (σ:=List Int) (ρ:=Val×Int×(Option<|Int×Int)) (fun (ab:Nat)(J:List Int) a w=>∃(S3:List Nat),Sat 59 [(0,.pointer<|some ⟨b1,o1,none⟩),(4,pt w0.z),(6,pt I.z),(10,vI rr),(12,sl ac nf cg),(39,vI (b0.length:Int)),(40,vI ((ab:Nat):Int))] a/\Chg (· ∈ [G.z]) H w/\b_ w S3 (sl ac nf cg) J/\S3.Nodup/\(∀k∈S3,k∈[G.z]∨H.z<=k)) (fun (J:List Int) a w=>∃(S3:List Nat),Sat 59 [(0,.pointer<|some ⟨b1,o1,none⟩),(6,pt I.z),(10,vI rr),(12,sl ac nf cg)] a/\Chg (· ∈ [G.z]) H w/\b_ w S3 (sl ac nf cg) J/\S3.Nodup/\(∀k∈S3,k∈[G.z]∨H.z<=k)) (rQ prog fn<|Q31 w0 B) ay ?_ ?_ ?_ ?_ ?_
 ·exact fun _ q=>⟨[G.z],q.k<|s7 z z z z z z z,cr [G.z] H,hp,a_X,io sr⟩
 ·rintro ab J _ b3 _ a2 ⟨S3,az,sh,ha,hi,hj⟩ aA;refine Wu ?_ az;refine Ws<|Rl z z z<|Wn<|Wq<|Wc z (fun _=>?_) (fun hc=>(X_ a2 hc).elim)
  refine Wk<|Wq<|Wb<|Wm z<|Rw z<|Wg<|RM z z<|Rf z M_ z<|R z (l0 w_ z<|(((hz.e h).e s8).c sh<|djs<|mm1 hx.lt<|lt_ h6.s h.s).at z) ?_
  obtain ⟨_,b4,aB⟩:=bdS aA;refine RX z (at_ (α:=Int) r_ z_3 z z z (Y.g<|((hd.e h).e s8).c sh<|c_ (or0 (f_ lr) (m_<|zt' L<|lt_ he h.s):∀k∈[G.z],¬B k)) b4) ?_;rintro _ ⟨_,_,_,rfl,b5,b6,_⟩;obtain ⟨rfl,b7⟩:=O_ b6;refine R z (l0 g_3 z<|b5.at0 z) ?_;obtain ⟨b8,ad,aC⟩:=bdS aB;refine RX z (b_P (α:=Int) r_ z_3 z z ha ad) ?_;rintro _ ⟨_,b9,rfl⟩;refine E0 (b_Q (α:=Int) z_3 z b9 z z z ad ha hi (c_w b7) an_ a_f) ?_;rintro _ ba ⟨ae,bb,bc,be,bf⟩;refine Wn<|Wg<|R z (inc_ a2 (lt_ (b_.len hp) H_) z z)<|Rm z<|Wl ?_
  have af:∀k∈S3,k∈[G.z]∨H.z<=k:=or1 hj (io sr)<|x_ lr;exact fun _ q=>⟨b8,(som aC).symm,⟨ae,q.k<|s7 z z z z z z z,(cM (cM (cr [G.z] H) sh (io sr):Chg (· ∈ [G.z]) H b3) bb af:Chg (· ∈ [G.z]) H ba),bc,be,(or2 bf af an_ (x_ sh.s):∀k∈ae,k∈[G.z]∨H.z<=k)⟩⟩
 ·rintro J _ bg ⟨S3,aD,bh,ha,hi,hj⟩;refine Wu ?_ aD;refine Ws<|Rl z z z<|Wn<|Wq<|Wc z (fun hc=>(Y_ hc).elim) (fun _=>?_)
  exact We<|fun _ q=>⟨rfl,⟨S3,q.k<|s4 z z z z,(cM (cr [G.z] H) bh (io sr):Chg (· ∈ [G.z]) H bg),ha,hi,(or1 hj (io sr) (x_ lr):∀k∈S3,k∈[G.z]∨H.z<=k)⟩⟩
 ·rintro J bi bj rfl ⟨S3,_,sb,ha,hi,hj⟩;have aE:=elL a1;revert bi;refine Wo<|Wm z<|R z (bP (parts:=[]) (cs:=[vI 0,sl none 0 0,sl none 0 0]) U_ z z)<|RM z z ?_
  have hq:=lt_ he h.s;have ah:∀k∈[G.z],¬B k:=or0 (f_ lr)<|m_<|zt' L hq;have ai:=((hd.e h).e s8).c sb<|c_ ah
  have hk:=lt_ (lt_ hq s8.s) sb.s;have ht:=zt' L hk;obtain ⟨bk,_,_,bm,aF⟩:=L_ aE;refine E z (fc call99 z<|aI.run (B:=bj.z) (x2:=(⟨0,([]:List UInt8),([]:List Val)⟩:Val)) bm zr (repS.mono (V.g ai) ht) (repS.mono (W.g ai) ht) (((a3.e h).e s8).c sb<|(c_ ah) _ hC1b) (zap' ht hC1b) (ii z) onL a_f (nbl an_) onL a_f (nbl an_) an_ (b_.rep ha) aR) ?_;rintro _ _ ⟨aj,ak,al,am,an,ao,ap,aq,ar,bn,bo,rfl,bp,bq,br,bs,bt,au,hu,hl⟩
  iterate 3 refine Re z z z ?_
  refine E0 (fs0 (cur':=[vI bk.number,sl ak al am,sl ao ap aq]) i_ z z ((((h5.e h).e s8).c sb<|djs<|mm1 h5.lt h.s).c aj<|atp<|nmA (nmN _)<|nmN _) z z z z) ?_;rintro _ _ ⟨bu,bv⟩;have hn:=bv.one;refine Ra z<|Rw z ?_
  obtain rfl:=som aF;have hv:=lt_ (lt_ h.s s8.s) sb.s;exact Wr<|A_ hr (o_ z_ i_ z bu z) z z ⟨bM (bM (bM (bup (bup (bup h4 h6) h) s8) sb<|m1 hq) aj al0) hn<|m1 h4.s,ak,al,am,an,ao,ap,aq,ar,bn,bo,z,bp,bq.c hn (or1 (al_ hl) al0 (a_x (f_ h5.lt) hv):∀k∈an,k∉[I.z]),br.c hn (or1 (ar_ hl) al0 (a_x (f_ h5.lt) hv):∀k∈ar,k∉[I.z]),bs,bt.c hn<|p_ au h5.lt hv,k_ au hk,na_ (nl_ hu) (nr_ hu)<|nj hu,aa_ (a_Q (al_ hl) al0 hk)<|a_Q (ar_ hl) al0 hk⟩
 rintro _ _ _ _ rfl ⟨rfl,aG⟩;have aH:=elR a1;obtain rfl:=som aH;exact ⟨aG,z⟩
theorem T_w1h (ih:d_F n):i_H (g_7 n<|a_1 n):=by
 obtain ⟨aX,_,_,_,_,_⟩:=ih
 constructor
 intro A0 A1 AC AF A7 N0 C0 N1 C1 b1 o1 NC CC NF CF N7 C7 S2_1 S2_2 B x1 x2 x3 x4 res w0 hm ad aK aL hC1 hC1b aM W p2_1n p2_1g Y p2_2n p2_2g p2_2d1 a0 aN;unfold g_7 at hm
 refine goG func99 z z z fun fn hr=>Ws<|E z (fb z) ?_
 rintro _ wb ⟨rfl,ae⟩;have h2:=ae.below;have he:Blk wb w0.z [vI x2.number,sl AC NC CC,sl AF NF CF]:=ae.blk;refine E z (fa a_a) ?_;rintro _ h ⟨rfl,af⟩;have V:=af.below;have hk:Blk h wb.z [vI 0,sl none 0 0,sl none 0 0]:=af.blk;refine Ra z<|Rw z<|Wq<|Wm z ?_
 have ah:=(h2.ag B).e V;refine R z (lnR r_ z<|a0.g ah)<|Rm z<|Wn ?_
 obtain ⟨_,aO,a9⟩:=bdS hm;refine Wf (σ:=Int×(List Val)) (ρ:=Val×Int×(Option<|Int×Int)) (fun (ai:Nat) s a w=>un2 (fun xc xh=>∃H I J G,Sat 45 [(0,.pointer<|some ⟨b1,o1,none⟩),(3,vI xc),(5,pt w0.z),(8,pt wb.z),(16,sl A7 N7 C7),(17,vI (x3.length:Int)),(18,vI ((ai:Nat):Int))] a/\Chg (· ∈ (S2_2++[w0.z])) h w/\inI xc/\b_ w G (sl H I J) xh/\G.Nodup/\(∀k∈G,k∈S2_2∨h.z<=k)/\Blk w w0.z [vI x2.number,sl AC NC CC,sl H I J]) s) (fun s a w=>un2 (fun xc xh=>∃H I J G,Sat 45 [(3,vI xc),(5,pt w0.z),(8,pt wb.z)] a/\Chg (· ∈ (S2_2++[w0.z])) h w/\inI xc/\b_ w G (sl H I J) xh/\G.Nodup/\(∀k∈G,k∈S2_2∨h.z<=k)/\Blk w w0.z [vI x2.number,sl AC NC CC,sl H I J]) s) (rQ prog fn<|Q32 w0 B S2_1 S2_2) aO ?_ ?_ ?_ ?_ ?_
 ·exact fun _ q=>⟨AF,NF,CF,S2_2,q.k<|s7 z z z z z z z,cr (S2_2++[w0.z]) h,aN,(Y.e h2).e V,p2_2n,io sr,he.e V⟩
 ·rintro ai ⟨xc,xh⟩ _ aj _ aa ⟨H,I,J,G,aP,s6,hi,hf,hl,hd,hn⟩ aQ;refine Wu ?_ aP;refine Ws<|Rl z z z<|Wn<|Wq<|Wc z (fun _=>?_) (fun hc=>(X_ aa hc).elim)
  refine Wk<|Wq<|Wb<|Ws ?_
  obtain ⟨_,aY,aR⟩:=bdS<|a_H aQ;have ak:∀k∈[w0.z],¬B k:=or0 (f_ lr)<|m_ ad;have ht:=ah.c s6<|nmA (c_ p2_2g)<|c_ ak
  refine RX z (at_ (α:=Int) r_ z_3 z z z (a0.g ht) aY) ?_;rintro _ ⟨_,_,_,rfl,aZ,b0,_⟩;obtain ⟨rfl,b2⟩:=O_ b0;refine R z (l0 g_3 z<|aZ.at0 z)<|Rw z<|Wm z<|RM z z ?_
  have hu:=lt_ (lt_ h2.s V.s) s6.s;obtain ⟨ro,b3,_,b4,ab⟩:=L_ aR;refine E z (fc call71 z<|aX.run b4 (zt' ad hu) (aK.g ht) (aL.g ht) (((hC1.e h2).e V).c s6<|(nmA (c_ p2_2g)<|c_ ak) _ hC1b) hC1b b2 hi) ?_;rintro _ wm ⟨sa,ar,ns,cv,al,aw,nx,cy,am,b5,b6,rfl,b7,hp,hq,b8,an,ao,hz,hj⟩;refine Rm z ?_
  iterate 3 refine Re z z z ?_
  refine E z (fa a_a) ?_;rintro _ a2 ⟨rfl,ap⟩;have L:=ap.below;refine E0 (fs0 (cur':=[vI ro.number,sl ar ns cv,sl aw nx cy]) i_ z z (ap.blk:Blk a2 wm.z [vI 0,sl none 0 0,sl none 0 0]) z z z z) ?_;rintro _ a4 ⟨b9,ba⟩;have O:=ba.one;refine Ra z<|Rw z<|Wq<|Wm z ?_
  have aq:=(an.e L).c O<|ds<|mnr<|a_m.lt an
  refine R z (c_z c_C z z aq)<|Wx z (fun a1=>?_) (fun a1=>?_)
  ·refine Ws<|R z (bP (parts:=[]) (cs:=[vI 0,sl none 0 0,sl none 0 0]) U_ z z)<|RM z z ?_
   refine E0 (fs0 (cur':=[vI 0,sl none 0 0,sl none 0 0]) i_ z z ((((hk.c s6<|atp<|nmA (mno (b_.lt Y) h2.s)<|mmr he.lt).e sa).e L).c O<|djs<|mm1 hk.lt<|lt_ s6.s sa.s) z z z z) ?_;rintro _ bb ⟨bc,be⟩;have au:=be.one;refine Ra z<|Rw z ?_
   exact Wr<|rtO<|qL (som<|ifT ab a1).symm<|A_ hr (o_ z_ i_ z bc z) z z ⟨(cM (cM (d_ (d_ (cM (d_ (d_ (cr (S2_1++S2_2) w0) h2:Chg (· ∈ (S2_1++S2_2)) w0 wb) V:Chg (· ∈ (S2_1++S2_2)) w0 h) s6 (aa_ (io<|Z_ sr) (mor lr:∀k∈[w0.z],k∈(S2_1++S2_2)∨w0.z<=k)):Chg (· ∈ (S2_1++S2_2)) w0 aj) sa:Chg (· ∈ (S2_1++S2_2)) w0 wm) L:Chg (· ∈ (S2_1++S2_2)) w0 a2) O (mor (lt_ hu sa.s):∀k∈[wm.z],k∈(S2_1++S2_2)∨w0.z<=k):Chg (· ∈ (S2_1++S2_2)) w0 a4) au (mor h2.s:∀k∈[wb.z],k∈(S2_1++S2_2)∨w0.z<=k):Chg (· ∈ (S2_1++S2_2)) w0 bb),none,0,0,[],none,0,0,[],b5,b6,z,ii z,onL,onL,hi,aq.c au<|p_ ao hk.lt s6.s,k_ ao hu,nd0,al0⟩
  refine Wk<|Ws<|Rf z g_x z ?_
  have a5:=lt_ V.s s6.s;have av:=lt_ a5 sa.s;have ax:=((hn.e sa).e L).c O<|djs<|mm1 he.lt av
  refine R z (l0 g_58 z<|ax.at z)<|R z (lN (vs:=[vI ro.number,sl ar ns cv,sl aw nx cy]) z_ i_ z z fid<|b9.row 0 3 z)<|E z (fS [(.tmp 37)] g_w z z z (c_Z z) (lb z)<|lb z) ?_
  rintro _ ay ⟨rfl,az⟩;have hg:=az.below;have bv:=(hp.e L).c O<|ds<|mnr<|b_.lt hp
  have bw:=(hq.e L).c O<|ds<|mnr<|b_.lt hq
  obtain ⟨bf,bg,aS⟩:=bdS<|ifF ab a1;refine E z (d_D (α:=Val) g_w bg z z ((((hf.e sa).e L).c O<|ds<|mno (b_.lt hf) sa.s).e hg) hl (az.blk:Blk ay a4.z [vI ro.number,sl ar ns cv,sl aw nx cy]) (l_P (x:=ro) (S1:=al) (S2:=am) b7 (((hp.e L).c O<|ds<|mnr<|b_.lt hp).e hg)<|((hq.e L).c O<|ds<|mnr<|b_.lt hq).e hg) (aa_ (a_G (al_ hj) (b_.lt hf) lr)<|a_G (ar_ hj) (b_.lt hf) lr)<|na_ (nl_ hz) (nr_ hz)<|nj hz) ?_;rintro _ bh ⟨a6,aA,aB,aC,rfl,aD,bi,bj,aE⟩;refine Rf z g_x z ?_;have aF:∀k∈G,k∉[w0.z]:=or1 hd (ds<|mnr<|b_.lt Y)<|a_x (f_ he.lt) V.s;refine E0 (fs0 (cur':=[vI x2.number,sl AC NC CC,sl aA aB aC]) z_58 z z ((ax.e hg).c aD<|djs aF) z z z z) ?_;rintro _ bk ⟨bm,bn⟩;have aG:=bn.one;refine Wn<|Wg<|Rm z<|Rw z<|Wg<|R z (inc_ aa (lt_ (repS.len a0) H_) z z)<|Rm z<|Wl ?_
  have aH:=lt_ s6.s sa.s;exact fun _ q=>⟨(b3,bf),(som aS).symm,⟨aA,aB,aC,a6,q.k<|s7 z z z z z z z,(cM (cM (d_ (cM (d_ (d_ (cM (cr (S2_2++[w0.z]) h) s6 (aa_ (io<|a_u sr)<|io<|Z_ sr):Chg (· ∈ (S2_2++[w0.z])) h aj) sa:Chg (· ∈ (S2_2++[w0.z])) h wm) L:Chg (· ∈ (S2_2++[w0.z])) h a2) O (mor aH:∀k∈[wm.z],k∈(S2_2++[w0.z])∨h.z<=k):Chg (· ∈ (S2_2++[w0.z])) h a4) hg:Chg (· ∈ (S2_2++[w0.z])) h ay) aD (or1 hd (io<|a_u sr) (x_ lr):∀k∈G,k∈(S2_2++[w0.z])∨h.z<=k):Chg (· ∈ (S2_2++[w0.z])) h bh) aG (io<|Z_ sr):Chg (· ∈ (S2_2++[w0.z])) h bk),b8,bi.c aG (or2 aE aF (aa_ (p_ (al_ hj) he.lt a5)<|p_ (ar_ hj) he.lt a5) (a_x (f_ he.lt)<|lt_ (lt_ (lt_ av L.s) O.s) hg.s):∀k∈a6,k∉[w0.z]),bj,(or2 aE (or1 hd (io sr) (x_ lr):∀k∈G,k∈S2_2∨h.z<=k) (aa_ (or0 (al_ hj) (x_ s6.s):∀k∈al,k∈S2_2∨h.z<=k) (or0 (ar_ hj) (x_ s6.s):∀k∈am,k∈S2_2∨h.z<=k)) (x_<|lt_ (lt_ (lt_ aH L.s) O.s) hg.s):∀k∈a6,k∈S2_2∨h.z<=k),bm⟩⟩
 ·rintro ⟨xc,xh⟩ _ bo ⟨H,I,J,G,aT,bp,hi,hf,hl,hd,hn⟩;refine Wu ?_ aT;refine Ws<|Rl z z z<|Wn<|Wq<|Wc z (fun hc=>(Y_ hc).elim) (fun _=>?_)
  exact We<|fun _ q=>⟨rfl,⟨H,I,J,G,q.k<|s3 z z z,(cM (cr (S2_2++[w0.z]) h) bp (aa_ (io<|a_u sr)<|io<|Z_ sr):Chg (· ∈ (S2_2++[w0.z])) h bo),hi,hf,hl,(or1 hd (io sr) (x_ lr):∀k∈G,k∈S2_2∨h.z<=k),hn⟩⟩
 ·rintro ⟨xc,xh⟩ bq br rfl ⟨H,I,J,G,_,a7,hi,hf,hl,hd,hn⟩;have aU:=elL a9;revert bq;refine Wo<|Ws<|R z (lN (vs:=[vI x2.number,sl AC NC CC,sl H I J]) z_ i_ z z fid<|hn.row 0 3 z)<|Rm z ?_
  have aI:=mno (b_.lt Y) h2.s;refine E0 (fs0 (cur':=[vI x2.number,sl AC NC CC,sl H I J]) i_ z z (hk.c a7<|atp<|nmA aI<|mmr he.lt) z z z z) ?_;rintro _ bs ⟨bt,bu⟩;have a8:=bu.one;refine Ra z<|Rw z ?_
  obtain rfl:=som<|a_H aU;have aJ:=lt_ h2.s V.s;exact Wr<|A_ hr (o_ z_ i_ z bt z) z z ⟨(cM (cM (d_ (d_ (cr (S2_1++S2_2) w0) h2:Chg (· ∈ (S2_1++S2_2)) w0 wb) V:Chg (· ∈ (S2_1++S2_2)) w0 h) a7 (aa_ (io<|Z_ sr) (mor lr:∀k∈[w0.z],k∈(S2_1++S2_2)∨w0.z<=k)):Chg (· ∈ (S2_1++S2_2)) w0 br) a8 (mor h2.s:∀k∈[wb.z],k∈(S2_1++S2_2)∨w0.z<=k):Chg (· ∈ (S2_1++S2_2)) w0 bs),AC,NC,CC,S2_1,H,I,J,G,.nilIface,([]:List Nat),z,aM,(((W.e h2).e V).c a7<|nmA (ds p2_2d1)<|ds<|mnr<|b_.lt W).c a8<|ds<|mno (b_.lt W) h2.s,hf.c a8 (or1 hd (ds aI) (a_x (f_ hk.lt) lr):∀k∈G,k∉[wb.z]),hi,d_1,an_,na_ p2_1n hl<|ds<|b_J hd p2_2d1 (b_.lt W) aJ,aa_ (io<|a_u sr) (or1 hd (io<|Z_ sr) (x_ aJ):∀k∈G,k∈(S2_1++S2_2)∨w0.z<=k)⟩
 rintro _ _ _ _ rfl ⟨rfl,aV⟩;have aW:=elR a9;obtain rfl:=som aW;exact ⟨aV,z⟩
theorem T_w1i (ih:d_F n):i_I (g_8 n<|a_1 n):=by
 obtain ⟨_,_,aq,_,_,_⟩:=ih
 constructor
 intro A0 A1 A3 A4 A2 A5 N0 C0 N1 C1 b1 o1 N3 C3 N4 C4 N2 C2 N5 C5 B x1 x2 x3 res w0 hm W Y a0 hC1 hC1b b6 b7 b8 b9 ba I a1 J;unfold g_8 at hm
 refine goG func100 z z z fun fn hr=>Ws<|E z (fb z) ?_
 rintro _ G ⟨rfl,hk⟩;have h1:=hk.below;refine E z (fa a_a) ?_;rintro _ ar ⟨rfl,hl⟩;have h4:=hl.below;have h2:Blk ar G.z [vI 0,sl none 0 0,sl none 0 0]:=hl.blk;refine Ra z<|Rw z<|Wm z<|Rf z M_ z ?_
 have hn:=(hk.blk:Blk G w0.z (vR x2 A3 N3 C3 A4 N4 C4 A2 N2 C2 A5 N5 C5)).e h4;refine R z (l0 w_ z<|hn.at z) ?_;obtain ⟨_,au,ae⟩:=bdS hm;have L:=(h1.ag B).e h4;refine RX z (at_ (α:=Int) r_ z_3 z z z (a1.g L) au) ?_;rintro _ ⟨_,_,_,rfl,av,aw,_⟩;obtain ⟨rfl,ax⟩:=O_ aw;refine R z (l0 g_3 z<|av.at0 z)<|Rm z ?_
 have ho:=(hC1.e h1).e h4;have O:=lt_ h1.s h4.s;obtain ⟨re,az,_,aA,hmm⟩:=L_ ae;refine E z (fc call95 z<|g_G aA (zt' W O) (Y.g L) (a0.g L) ho hC1b ax J) ?_;rintro _ H ⟨h,aB,aC,rfl,aD,aE,hp,hq⟩;refine Rm z ?_
 iterate 3 refine Re z z z ?_
 refine RA z z<|Rw z<|Wq<|Wm z<|R z (c_z c_C z z hp)<|Wx z (fun hcf=>?_) (fun hcf=>?_)
 ·refine Ws<|R z (bP (parts:=[]) (cs:=[vI 0,sl none 0 0,sl none 0 0]) U_ z z)<|RM z z<|E0 (fs0 (cur':=[vI 0,sl none 0 0,sl none 0 0]) i_ z z (h2.e h) z z z z) ?_
  rintro _ _ ⟨aF,aG⟩;have ht:=aG.one;refine Ra z<|Rw z ?_
  obtain rfl:=som<|ifT hmm hcf;exact Wr<|A_ hr (o_ z_ i_ z aF z) z z ⟨bM (bup (bup h1 h4) h) ht<|m1 h1.s,none,0,0,[],none,0,0,[],aB,aC,z,ii z,onL,onL,J,hp.c ht<|p_ hq h2.lt lr,k_ hq O,nd0,al0⟩
 refine Wk<|Wq<|Ws<|Rf z a_D z ?_
 have hu:=hn.e h;refine R z (l0 w_ z<|hu.at z) ?_;have hv:=L.e h;refine R z (lnR r_ z<|I.g hv)<|Rm z<|Wn ?_
 obtain ⟨_,af,hmr⟩:=bdS<|ifF hmm hcf;refine Wf (σ:=Unit) (ρ:=Val×Int×(Option<|Int×Int)) (fun (ks:Nat)(_:Unit) a w=>Sat 61 [(0,.pointer<|some ⟨b1,o1,none⟩),(2,vI x3),(4,pt w0.z),(6,pt G.z),(9,vI re),(10,vI az),(31,sl A2 N2 C2),(32,vI (x2.tags.length:Int)),(33,vI ((ks:Nat):Int))] a/\Below H.z H w) (fun (_:Unit) a w=>Sat 61 [(2,vI x3),(6,pt G.z)] a/\Below H.z H w) (rQ prog fn<|Q31 w0 B) af ?_ ?_ ?_ ?_ ?_
 ·exact fun _ q=>⟨q.k<|s9 z z z z z z z z z,br H⟩
 ·rintro ks _ _ _ _ hkg ⟨ah,s3⟩ ai;refine Wu ?_ ah;refine Ws<|Rl z z z<|Wn<|Wq<|Wc z (fun _=>?_) (fun hc=>(X_ hkg hc).elim)
  refine Wk<|Wq<|Wb<|Wm z ?_
  obtain ⟨_,aH,hmw⟩:=bdS ai;have V:=hv.e s3;refine RX z (at_ (α:=Int) r_ z_3 z z z (I.g V) aH) ?_;rintro _ ⟨_,_,_,rfl,aI,aJ,_⟩;obtain ⟨rfl,_⟩:=O_ aJ;refine R z (l0 g_3 z<|aI.at0 z)<|Ra z<|Rw z<|Wm z<|Rm z<|Rq z z z<|Wx z (fun hch=>?_) (fun hch=>?_)
  ·refine Wm z<|Rm z<|R z (bP (parts:=[(0,.tmp 42)]) (cs:=[vI re,sl none 0 0,sl none 0 0]) U_ z z)<|Rf z M_ z<|R z (l0 w_ z<|(hu.e s3).at z)<|Rm z<|R z (inc_ hkg (lt_ (repS.len I) H_) z z)<|Rm z<|R z (add_ z z) ?_
   obtain ⟨_,aK,aj⟩:=bdS<|ifT hmw hch;refine RX z (rX r_ z_3 z z (a1.g V) z z aK) ?_;rintro _ ⟨_,_,_,rfl,aL⟩;refine Rm z ?_;have ha:=lt_ (lt_ O h.s) s3.s;obtain ⟨aM,_,_,aN,ak⟩:=L_ aj;refine E z (fc call99 z<|aq.run (B:=B) (x2:=(⟨re,([]:List UInt8),([]:List Val)⟩:Val)) aN (zt' W ha) (Y.g V) (a0.g V) ((ho.e h).e s3) hC1b aD onL a_f an_ onL a_f an_ an_ aL aE) ?_;rintro _ _ ⟨sx,ay,nz,a2,a3,a4,a5,a6,a7,aO,aP,rfl,aQ,aR,aS,aT,aU,a8,hi,hb⟩
   iterate 3 refine Re z z z ?_
   refine E0 (fs0 (cur':=[vI aM.number,sl ay nz a2,sl a4 a5 a6]) i_ z z (((h2.e h).e s3).c sx<|atp<|nmA (nmN _)<|nmN _) z z z z) ?_;rintro _ _ ⟨aV,aW⟩;have hd:=aW.one;refine Ra z<|Rw z ?_
   have hj:=lt_ h.s s3.s;exact Wr<|rtO<|qL (som ak).symm<|A_ hr (o_ z_ i_ z aV z) z z ⟨bM (bM (bup (bup (bup h1 h4) h) s3) sx al0) hd<|m1 h1.s,ay,nz,a2,a3,a4,a5,a6,a7,aO,aP,z,aQ,aR.c hd (or1 (al_ hb) al0 (a_x (f_ h2.lt) hj):∀k∈a3,k∉[G.z]),aS.c hd (or1 (ar_ hb) al0 (a_x (f_ h2.lt) hj):∀k∈a7,k∉[G.z]),aT,aU.c hd<|p_ a8 h2.lt hj,k_ a8 ha,na_ (nl_ hi) (nr_ hi)<|nj hi,aa_ (a_Q (al_ hb) al0 ha)<|a_Q (ar_ hb) al0 ha⟩
  exact Wk<|Wg<|R z (inc_ hkg (lt_ (repS.len I) H_) z z)<|Rm z<|Wl (fun _ q=>⟨(),(som<|ifF hmw hch).symm,⟨q.k<|s9 z z z z z z z z z,s3⟩⟩)
 ·rintro _ _ _ ⟨al,aX⟩;refine Wu ?_ al;refine Ws<|Rl z z z<|Wn<|Wq<|Wc z (fun hc=>(Y_ hc).elim) (fun _=>?_)
  exact We<|fun _ q=>⟨rfl,⟨q.k<|s2 z z,aX⟩⟩
 ·rintro _ aY _ rfl ⟨_,sc⟩;have am:=elL hmr;revert aY;refine Wo<|Ws<|R z (bP (parts:=[]) (cs:=[vI 0,sl none 0 0,sl none 0 0]) U_ z z)<|RM z z ?_
  have a9:=lt_ (lt_ O h.s) sc.s;obtain ⟨_,aZ,an⟩:=bdS am;refine E z (fc call103 z<|d_7 aZ (zt' W a9) J<|ii z) ?_;rintro _ _ ⟨aa,b0,b2,rfl,b3,ab⟩;refine E0 (fs0 (cur':=[vI 0,sl none 0 0,sl none 0 0]) i_ z z (((h2.e h).e sc).e aa) z z z z) ?_;rintro _ _ ⟨b4,b5⟩;have ad:=b5.one;refine Ra z<|Rw z ?_
  obtain rfl:=som an;exact Wr<|A_ hr (o_ z_ i_ z b4 z) z z ⟨bM (bup (bup (bup (bup h1 h4) h) sc) aa) ad<|m1 h1.s,none,0,0,[],none,0,0,[],b0,b2,z,ii z,onL,onL,J,b3.c ad<|p_ ab h2.lt<|lt_ h.s sc.s,k_ ab a9,nd0,al0⟩
 rintro _ _ _ _ rfl ⟨rfl,ao⟩;have ap:=elR hmr;obtain rfl:=som ap;exact ⟨ao,z⟩
theorem T_w1j (ih:d_F n):i_J (g_a n<|a_1 n):=by
 obtain ⟨_,_,a5,_,_,_⟩:=ih
 constructor
 intro A0 A1 A3 A4 A2 A5 N0 C0 N1 C1 b1 o1 N3 C3 N4 C4 N2 C2 N5 C5 B x1 x2 x3 res w0 hm L V W hC1 hC1b aH aI aJ aK aL aM a2 G;unfold g_a at hm
 refine goG func101 z z z fun fn hr=>Ws<|E z (fb z) ?_
 rintro _ H ⟨rfl,hf⟩;have h1:=hf.below;refine E z (fa a_a) ?_;rintro _ a6 ⟨rfl,hg⟩;have h3:=hg.below;have h2:Blk a6 H.z [vI 0,sl none 0 0,sl none 0 0]:=hg.blk;refine Ra z<|Rw z<|Wm z<|Rm z ?_
 have hh:=(hC1.e h1).e h3;have O:=(h1.ag B).e h3;have h5:=lt_ h1.s h3.s;obtain ⟨_,_,a7,hmi⟩:=W_ hm;refine E z (fc call115 z<|g_F a7 (zt' L h5) (V.g O) (W.g O) hh hC1b G<|ii z) ?_;rintro _ _ ⟨h,_,_,_,a8,a9,rfl,hj,hk,hl⟩;refine Rm z<|Re z z z<|Re z z z<|Ra z<|Rw z<|Wq<|Wb<|Wm z<|R z (c_z c_C z z hk)<|Rw z<|Wc z (fun hca=>?_) (fun hca=>?_)
 ·refine Ws<|R z (bP (parts:=[]) (cs:=[vI 0,sl none 0 0,sl none 0 0]) U_ z z)<|RM z z<|E0 (fs0 (cur':=[vI 0,sl none 0 0,sl none 0 0]) i_ z z (h2.e h) z z z z) ?_
  rintro _ _ ⟨aa,ab⟩;have hn:=ab.one;refine Ra z<|Rw z ?_
  obtain rfl:=som<|ifT hmi hca;exact Wr<|rtO<|A_ hr (o_ z_ i_ z aa z) z z ⟨bM (bup (bup h1 h3) h) hn<|m1 h1.s,none,0,0,[],none,0,0,[],a8,a9,z,ii z,onL,onL,G,hk.c hn<|p_ hl h2.lt lr,k_ hl h5,nd0,al0⟩
 refine Wm z ?_
 obtain ⟨_,ad,hmm⟩:=bdS<|ifF hmi hca;refine RX z (at_ (α:=UInt8) l_ z_5 z z z hj ad) ?_;rintro _ ⟨_,_,_,rfl,ae,af,_⟩;obtain rfl:=u8 af;refine R z (l0 g_5 z<|ae.at0 z)<|R z (a_b z z)<|Rw z<|Wc z (fun hcb=>?_) (fun hcb=>?_)
 ·refine Ws<|R z (bP (parts:=[]) (cs:=[vI 0,sl none 0 0,sl none 0 0]) U_ z z)<|RM z z ?_
  have ho:=lt_ h5 h.s;obtain ⟨_,ah,a3⟩:=bdS<|ifT hmm hcb;refine E z (fc call103 z<|d_7 ah (zt' L ho) G<|ii z) ?_;rintro _ _ ⟨sp,ai,aj,rfl,ak,hq⟩;refine E0 (fs0 (cur':=[vI 0,sl none 0 0,sl none 0 0]) i_ z z ((h2.e h).e sp) z z z z) ?_;rintro _ _ ⟨al,am⟩;have ht:=am.one;refine Ra z<|Rw z ?_
  obtain rfl:=som a3;exact Wr<|rtO<|A_ hr (o_ z_ i_ z al z) z z ⟨bM (bup (bup (bup h1 h3) h) sp) ht<|m1 h1.s,none,0,0,[],none,0,0,[],ai,aj,z,ii z,onL,onL,G,ak.c ht<|p_ hq h2.lt h.s,k_ hq ho,nd0,al0⟩
 refine Wm z ?_
 obtain ⟨_,an,hmr⟩:=bdS<|ifF hmm hcb;refine RX z (at_ (α:=UInt8) l_ z_5 z z z hj an) ?_;rintro _ ⟨_,_,_,rfl,ao,ap,_⟩;obtain rfl:=u8 ap;refine R z (l0 g_5 z<|ao.at0 z)<|Rq z z z<|Rw z<|Wc z (fun hcc=>?_) (fun hcc=>?_)
 ·refine Ws<|R z (bP (parts:=[]) (cs:=[vI 0,sl none 0 0,sl none 0 0]) U_ z z)<|Rm z<|R z (add_ z z)<|E0 (fs0 (cur':=[vI 0,sl none 0 0,sl none 0 0]) i_ z z (h2.e h) z z z z) ?_
  rintro _ _ ⟨aq,ar⟩;refine Ra z<|Rw z ?_
  obtain rfl:=som<|ifT hmr hcc;exact Wr<|rtO<|A_ hr (o_ z_ i_ z aq z) z z ⟨bM (bup (bup h1 h3) h) ar.one<|m1 h1.s,none,0,0,[],none,0,0,[],.nilIface,([]:List Nat),z,ii z,onL,onL,iA _ _,d_1,an_,nd0,al0⟩
 refine Wk<|Wm z<|R z (bP (parts:=[]) (cs:=[vI 0,sl none 0 0,sl none 0 0]) U_ z z)<|Rf z M_ z<|R z (l0 w_ z<|(((hf.blk:Blk H w0.z (vR x2 A3 N3 C3 A4 N4 C4 A2 N2 C2 A5 N5 C5)).e h3).e h).at z)<|Rm z<|R z (add_ z z) ?_
 have hd:=O.e h;have h6:=lt_ h5 h.s;obtain ⟨av,_,_,aw,a4⟩:=L_<|ifF hmr hcc;refine E z (fc call99 z<|a5.run (B:=B) (x2:=(⟨0,([]:List UInt8),([]:List Val)⟩:Val)) aw (zt' L h6) (V.g hd) (W.g hd) (hh.e h) hC1b (ii z) onL a_f an_ onL a_f an_ an_ (a2.g hd)<|iA _ _) ?_;rintro _ _ ⟨ss,au,nv,cw,Sx,ay,nz,Y,a0,ax,az,rfl,aA,aB,aC,aD,aE,a1,he,I⟩
 iterate 3 refine Re z z z ?_
 refine E0 (fs0 (cur':=[vI av.number,sl au nv cw,sl ay nz Y]) i_ z z ((h2.e h).c ss<|atp<|nmA (nmN _)<|nmN _) z z z z) ?_;rintro _ _ ⟨aF,aG⟩;have J:=aG.one;refine Ra z<|Rw z ?_
 obtain rfl:=som a4;exact Wr<|A_ hr (o_ z_ i_ z aF z) z z ⟨bM (bM (bup (bup h1 h3) h) ss al0) J<|m1 h1.s,au,nv,cw,Sx,ay,nz,Y,a0,ax,az,z,aA,aB.c J (or1 (al_ I) al0 (a_x (f_ h2.lt) h.s):∀k∈Sx,k∉[H.z]),aC.c J (or1 (ar_ I) al0 (a_x (f_ h2.lt) h.s):∀k∈a0,k∉[H.z]),aD,aE.c J<|p_ a1 h2.lt h.s,k_ a1 h6,na_ (nl_ he) (nr_ he)<|nj he,aa_ (a_Q (al_ I) al0 h6)<|a_Q (ar_ I) al0 h6⟩
end Go.Vw
