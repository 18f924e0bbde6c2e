
import Derived.Test.YtajhmimbhplkfaaGreatDoorVv
set_option linter.unusedVariables false
namespace Go.Vw
open Go.RowKit Dat Go.Proofs
open Go.Proofs.Tryz
open Go.Vw renaming a_i->Wq,a_H->Wg,WC.of_KC->Wo,a_l->Wl,c_b->Wc,c_L->Wr,g_2->Wu,j_u->pT,j_v->pF,h_j->fd,b_H->l1,j_H->lN,b_7->mv,c_S->asg,f_V->lnR,f_i->lss,h_n->eql,h_k->ext_,j_w->bP,h_l->add_,f_U->inc_,d_G->not_,f_W->at_,e_y->fc,a_X->fs,e_x->fb,d_D->fa,j_o->sr,j_s->cr,j_t->cM,c_n->bM,j_g->iS,j_f->iA,j_i->br,b_4->oA,j_k->bs,ltge->lg,inor->io,g_a->nq,j_J->lnT,j_K->sb_,j_m->ar_,j_l->al_,j_n->ds,k_J->m1,j_q->nr_,j_p->nl_,h_a->aa_,all_nil->an_,d_h->Wb,h_9->u8,j_d->pD,f_Q->We,j_h->Wt,f_S->fS,f_a->or_,j_F->Wf,j_B->qL,j_c->Wd,h_c->fN,h_b->na_,j_r->nj,e_z->f0,f_X->rX,j_x->tl_,j_y->ic
variable {A0:Option Addr}{N0 C0:Nat}{B:Zone}{w0:World}{A9:Option Addr}{A8:Option Addr}{AA:Option Addr}{AB:Option Addr}{N9 C9:Nat}{N8 C8:Nat}{NA CA:Nat}{NB CB:Nat}{A1:Option Addr}{N1 C1:Nat}{n:Nat}{AD:Option Addr}{ND CD:Nat}{A3:Option Addr}{N3 C3:Nat}{AH:Option Addr}{NH CH:Nat}{A4:Option Addr}{A5:Option Addr}{A2:Option Addr}{A6:Option Addr}{N4 C4:Nat}{N5 C5:Nat}{N2 C2:Nat}{N6 C6:Nat}{A7:Option Addr}{N7 C7:Nat}{AE:Option Addr}{NE CE:Nat}{AK:Option Addr}{AL:Option Addr}{NK CK:Nat}{NL CL:Nat}{AC:Option Addr}{NC CC:Nat}
theorem W_w4c {x1:List Str}{x2:List Str}{res:Bool}(hm:k_U x1 x2=some res)(hBw:B<=w0.z)(p1_0:repS w0 B (sl A0 N0 C0) x1)(p2_0:repS w0 B (sl A3 N3 C3) x2):h_ prog 176 [sl A0 N0 C0,sl A3 N3 C3] w0 (Q11 w0 B res):=by
 unfold k_U at hm
 refine goF func176 z z (lb z) fun fn hr=>Ws<|Rw z<|Wm z<|R z (lnR G_ z p2_0)<|R z (add_ z z) ?_
 obtain ⟨_,bb,aE⟩:=bdS hm;refine E z (d_j (α:=Bool) k_m (fun _=>b_x) bb z z) ?_;rintro _ _ ⟨bc,be,bf,rfl,sz,aj⟩;refine Rw z<|Wm z ?_
 obtain ⟨_,ak,aF⟩:=bdS aE;refine RX z (b_t (α:=Bool) b_b z_4 z z aj ak) ?_;rintro _ ⟨_,bg,rfl⟩;refine E0 (b_k (α:=Bool) z_4 z bg z z z ak aj a_0 b_x an_ H_) ?_;rintro _ wi ⟨Sm,a1,bh,bi,_⟩;refine Wn<|Wq<|Wm z ?_
 have a2:=(sz.ag B).c a1<|f_ (or0 (d_ lr) (n_ hBw):∀k∈[w0.z],¬B k)
 refine R z (lnR k_s z<|p1_0.g a2)<|Rm z<|Wn ?_
 obtain ⟨_,aG,a8⟩:=bdS aF;refine Wf (σ:=List Bool) (ρ:=Bool) (fun (k7:Nat)(xe:List Bool) a w=>∃I J L Sd,Sat 82 [(0,sl A0 N0 C0),(1,sl A3 N3 C3),(5,sl I J L),(16,vI (x1.length:Int)),(17,vI ((k7:Nat):Int))] a/\Below wi.z wi w/\a_ w Sd (sl I J L) xe/\Sd.Nodup/\(∀k∈Sd,k∈Sm∨wi.z<=k)) (fun (xe:List Bool) a w=>∃I J L Sd,Sat 82 [(1,sl A3 N3 C3),(5,sl I J L)] a/\Below wi.z wi w/\a_ w Sd (sl I J L) xe/\Sd.Nodup/\(∀k∈Sd,k∈Sm∨wi.z<=k)) (fun r ex a w=>ex = .ret/\w_ prog fn (Q11 w0 B r) a w) aG ?_ ?_ ?_ ?_ ?_
 ·exact fun _ q=>⟨bc,be,bf,Sm,q.k<|s5 z z z z z,br wi,bh,bi,io sr⟩
 ·rintro k7 xe _ H _ W ⟨I,J,L,Sd,aH,sn,hf,a3,a5⟩ aI;refine Wu ?_ aH;refine Ws<|Rl z z z<|Wn<|Wq<|Wc z (fun _=>?_) (fun hc=>(P_ W hc).elim)
  refine Wk<|Wq<|Wb<|Wm z<|Rw z<|Wm z ?_
  have al:=a2.e sn;refine R z (lnR G_ z<|p2_0.g al)<|R z (add_ z z) ?_
  obtain ⟨_,bj,aJ⟩:=bdS aI;refine E z (d_j (α:=Bool) k_m (fun _=>b_x) bj z z) ?_;rintro _ O ⟨V,na,cb,rfl,st,bk⟩;refine Rw z<|Wq<|Wm z ?_
  have a6:=hf.e st;refine R z (lnR b_b z<|or_ a6<|a_.lt hf)<|Rm z<|Wn ?_
  obtain ⟨_,aK,aa⟩:=bdS aJ;refine Wf (σ:=List Bool) (ρ:=Bool) (fun (kl:Nat)(xk:List Bool) a w=>∃(h:List Nat),Sat 82 [(0,sl A0 N0 C0),(1,sl A3 N3 C3),(5,sl I J L),(6,vI ((k7:Nat):Int)),(7,sl V na cb),(16,vI (x1.length:Int)),(17,vI ((k7:Nat):Int)),(25,vI (xe.length:Int)),(26,vI ((kl:Nat):Int))] a/\Chg (· ∈ [H.z]) O w/\a_ w h (sl V na cb) xk/\h.Nodup/\(∀k∈h,k∈[H.z]∨O.z<=k)) (fun (xk:List Bool) a w=>∃(h:List Nat),Sat 82 [(0,sl A0 N0 C0),(1,sl A3 N3 C3),(7,sl V na cb),(16,vI (x1.length:Int)),(17,vI ((k7:Nat):Int))] a/\Chg (· ∈ [H.z]) O w/\a_ w h (sl V na cb) xk/\h.Nodup/\(∀k∈h,k∈[H.z]∨O.z<=k)) (fun r ex a w=>ex = .ret/\w_ prog fn (Q11 w0 B r) a w) aK ?_ ?_ ?_ ?_ ?_
  ·exact fun _ q=>⟨[H.z],q.k<|s9 z z z z z z z z z,cr [H.z] O,bk,a_0,io sr⟩
  ·rintro kl xk _ G _ ab ⟨h,aL,so,h3,hj,hu⟩ aM;refine Wu ?_ aL;refine Ws<|Rl z z z<|Wn<|Wq<|Wc z (fun _=>?_) (fun hc=>(P_ ab hc).elim)
   refine Wk<|Wq<|Wb<|Wm z<|Rw z<|Wb<|Wm z<|Rm z ?_
   obtain ⟨_,bm,aN⟩:=bdS aM;have am:=lt_ (lt_ sz.s a1.s) sn.s;have an:=(al.e st).c so<|f_ (or0 (d_ lr) (n_<|zt' hBw am):∀k∈[H.z],¬B k)
   have ao:=p1_0.g an;refine RX z (at_ (α:=Str) k_s z_9 z z z ao bm) ?_;rintro _ ⟨_,_,_,rfl,bn,bo,_⟩;obtain ⟨rfl,_⟩:=a_r bo;refine R z (l0 g_9 z<|bn.at0 z)<|R z (a_R z z)<|Rw z ?_
   obtain ⟨bp,ad,aO⟩:=bdS aN;refine Wt (fun a w=>∃(xv:List Bool),xv=bp/\∃(Sp:List Nat),Sat 82 [(0,sl A0 N0 C0),(1,sl A3 N3 C3),(5,sl I J L),(6,vI ((k7:Nat):Int)),(7,sl V na cb),(16,vI (x1.length:Int)),(17,vI ((k7:Nat):Int)),(25,vI (xe.length:Int)),(26,vI ((kl:Nat):Int))] a/\Chg (· ∈ h) G w/\a_ w Sp (sl V na cb) xv/\Sp.Nodup/\(∀k∈Sp,k∈h∨G.z<=k)) ?_ ?_
   ·refine Wc z (fun Y=>?_)<|fun Y=>?_
    ·obtain ⟨bq,aP,aQ⟩:=bdS<|ifT ad Y;refine Wt (fun a w=>∃(xw:List Bool),xw=bq/\∃(Sq:List Nat),Sat 82 [(0,sl A0 N0 C0),(1,sl A3 N3 C3),(5,sl I J L),(6,vI ((k7:Nat):Int)),(7,sl V na cb),(16,vI (x1.length:Int)),(17,vI ((k7:Nat):Int)),(25,vI (xe.length:Int)),(26,vI ((kl:Nat):Int))] a/\Chg (· ∈ h) G w/\a_ w Sq (sl V na cb) xw/\Sq.Nodup/\(∀k∈Sq,k∈h∨G.z<=k)) ?_ ?_
     ·refine Wg<|RM z z<|RM z z ?_
      obtain ⟨bt,bu,ae⟩:=bdS aP;refine RX z (at_ (α:=Bool) b_b z_4 z z z (or_ (a6.c so<|ds<|mnr<|a_.lt hf)<|a_.lt hf) bu) ?_;rintro _ ⟨_,_,_,rfl,bv,bw,_⟩;obtain rfl:=e_4 bw;refine R z (l0 g_4 z<|bv.at0 z)<|Rm z ?_
      rcases bs bt with hcc | hcc
      ·iterate 3 refine Nh z hcc ?_
       refine Nv z<|Nv z<|Nv z<|Nv z<|Nv z<|Nh z hcc<|R z (pT z hcc z) ?_
       obtain ⟨bx,ap,aR⟩:=bdS<|ifT ae hcc;refine RX z (b_t (α:=Bool) b_b z_4 z z h3 ap) ?_;rintro _ ⟨_,bz,rfl⟩;refine E0 (b_k (α:=Bool) z_4 z bz z z z ap h3 hj b_x an_ H_) ?_;rintro _ bA ⟨aq,bB,bC,bD,bE⟩;refine Wl ?_;exact fun _ q=>⟨bx,som aR,aq,q.k<|s9 z z z z z z z z z,(cM (cr h G) bB (io sr):Chg (· ∈ h) G bA),bC,bD,(or2 bE (io sr) an_ (l_ lr):∀k∈aq,k∈h∨G.z<=k)⟩
      have af:=ifF ae hcc;refine Rh z hcc (mv z)<|Rh z hcc (Z_ z z)<|Rh z hcc (mv z) ?_
      rcases bs (decide<|0<((kl:Nat):Int)) with hcg | hcg
      ·refine Rh z hcg (mv z)<|Rh z hcg (mv z)<|Rh z hcg (sb_ z z) ?_
       obtain ⟨_,bF,aS⟩:=bdS<|ifT af hcg;refine RXg z z hcg z (at_ (α:=Bool) b_b z_4 z z z (a_.rep h3) bF) ?_;rintro _ ⟨_,_,_,rfl,bG,bH,_⟩;obtain rfl:=e_4 bH;refine Rh z hcg (l0 g_4 z<|bG.at0 z)<|Rh z hcc (pT z hcg z)<|R z (pF z hcc z) ?_
       obtain ⟨bI,ar,aT⟩:=bdS aS;refine RX z (b_t (α:=Bool) b_b z_4 z z h3 ar) ?_;rintro _ ⟨_,bJ,rfl⟩;refine E0 (b_k (α:=Bool) z_4 z bJ z z z ar h3 hj b_x an_ H_) ?_;rintro _ bK ⟨au,bL,bN,bO,bP⟩;refine Wl ?_;exact fun _ q=>⟨bI,som aT,au,q.k<|s9 z z z z z z z z z,(cM (cr h G) bL (io sr):Chg (· ∈ h) G bK),bN,bO,(or2 bP (io sr) an_ (l_ lr):∀k∈au,k∈h∨G.z<=k)⟩
      iterate 5 refine Nh z hcg ?_
      refine Rh z hcc (pF z hcg z)<|R z (pF z hcc z) ?_
      obtain ⟨bQ,av,aU⟩:=bdS<|ifF af hcg;refine RX z (b_t (α:=Bool) b_b z_4 z z h3 av) ?_;rintro _ ⟨_,bR,rfl⟩;refine E0 (b_k (α:=Bool) z_4 z bR z z z av h3 hj b_x an_ H_) ?_;rintro _ bS ⟨aw,bT,bU,bV,bW⟩;refine Wl ?_;exact fun _ q=>⟨bQ,som aU,aw,q.k<|s9 z z z z z z z z z,(cM (cr h G) bT (io sr):Chg (· ∈ h) G bS),bU,bV,(or2 bW (io sr) an_ (l_ lr):∀k∈aw,k∈h∨G.z<=k)⟩
     rintro bX bY ⟨xw,rfl,Sq,_,bZ,c0,c1,c2⟩;revert bX;exact fun _ q=>⟨xw,som aQ,Sq,q.k<|s9 z z z z z z z z z,(cM (cr h G) bZ (io sr):Chg (· ∈ h) G bY),c0,c1,(or1 c2 (io sr) (l_ lr):∀k∈Sq,k∈h∨G.z<=k)⟩
    refine Wm z<|R z (Z_ z z)<|Rw z ?_
    obtain ⟨c3,ah,aV⟩:=bdS<|ifF ad Y;refine Wt (fun a w=>∃(xx:List Bool),xx=c3/\∃(Sr:List Nat),Sat 82 [(0,sl A0 N0 C0),(1,sl A3 N3 C3),(5,sl I J L),(6,vI ((k7:Nat):Int)),(7,sl V na cb),(16,vI (x1.length:Int)),(17,vI ((k7:Nat):Int)),(25,vI (xe.length:Int)),(26,vI ((kl:Nat):Int))] a/\Chg (· ∈ h) G w/\a_ w Sr (sl V na cb) xx/\Sr.Nodup/\(∀k∈Sr,k∈h∨G.z<=k)) ?_ ?_
    ·refine Wc z (fun a0=>?_)<|fun a0=>?_
     ·obtain ⟨c4,aW,aX⟩:=bdS<|ifT ah a0;refine Wt (fun a w=>∃(xy:List Bool),xy=c4/\∃(Ss:List Nat),Sat 82 [(0,sl A0 N0 C0),(1,sl A3 N3 C3),(5,sl I J L),(6,vI ((k7:Nat):Int)),(7,sl V na cb),(16,vI (x1.length:Int)),(17,vI ((k7:Nat):Int)),(25,vI (xe.length:Int)),(26,vI ((kl:Nat):Int))] a/\Chg (· ∈ h) G w/\a_ w Ss (sl V na cb) xy/\Ss.Nodup/\(∀k∈Ss,k∈h∨G.z<=k)) ?_ ?_
      ·refine Wg<|RM z z<|RM z z<|R z (sb_ z z) ?_
       obtain ⟨c5,c7,ai⟩:=bdS aW;refine RX z (at_ (α:=Bool) b_b z_4 z z z (or_ (a6.c so<|ds<|mnr<|a_.lt hf)<|a_.lt hf) c7) ?_;rintro _ ⟨_,_,_,rfl,c8,c9,_⟩;obtain rfl:=e_4 c9;refine R z (l0 g_4 z<|c8.at0 z)<|Rm z ?_
       rcases bs c5 with hch | hch
       ·iterate 4 refine Rh z hch (mv z) ?_
        refine Rh z hch (sb_ z z) ?_;obtain ⟨_,ca,aY⟩:=bdS<|ifT ai hch;refine RXg z z hch z (at_ (α:=Str) G_ z_9 z z z (p2_0.g an) ca) ?_;rintro _ ⟨_,_,_,rfl,cc,cd,_⟩;obtain ⟨rfl,ce⟩:=a_r cd;refine Rh z hch (l0 g_9 z<|cc.at0 z) ?_;obtain ⟨_,cf,aZ⟩:=bdS aY;refine Eg z z hch z (fc call209 z<|W_w4b cf (zt' hBw<|lt_ (lt_ am st.s) so.s) ao (ic (Nat.le_of_lt W)<|lt_ (repS.len p1_0) A_) ce) ?_;rintro _ cg ⟨a7,rfl⟩;refine R z (pT z hch z) ?_;obtain ⟨ch,ax,b0⟩:=bdS aZ;have ay:=h3.e a7;refine RX z (b_t (α:=Bool) b_b z_4 z z ay ax) ?_;rintro _ ⟨_,ci,rfl⟩;refine E0 (b_k (α:=Bool) z_4 z ci z z z ax ay hj b_x an_ H_) ?_;rintro _ cj ⟨az,ck,cl,cm,cn⟩;refine Wl ?_;exact fun _ q=>⟨ch,som b0,az,q.k<|s9 z z z z z z z z z,(cM (i_ (cr h G) a7:Chg (· ∈ h) G cg) ck (io sr):Chg (· ∈ h) G cj),cl,cm,(or2 cn (io sr) an_ (l_ a7.s):∀k∈az,k∈h∨G.z<=k)⟩
       iterate 8 refine Nh z hch ?_
       refine R z (pF z hch z) ?_;obtain ⟨co,aA,b1⟩:=bdS<|ifF ai hch;refine RX z (b_t (α:=Bool) b_b z_4 z z h3 aA) ?_;rintro _ ⟨_,cp,rfl⟩;refine E0 (b_k (α:=Bool) z_4 z cp z z z aA h3 hj b_x an_ H_) ?_;rintro _ cq ⟨aB,ct,cu,cv,cw⟩;refine Wl ?_;exact fun _ q=>⟨co,som b1,aB,q.k<|s9 z z z z z z z z z,(cM (cr h G) ct (io sr):Chg (· ∈ h) G cq),cu,cv,(or2 cw (io sr) an_ (l_ lr):∀k∈aB,k∈h∨G.z<=k)⟩
      rintro cx cy ⟨xy,rfl,Ss,_,cz,cA,cB,cC⟩;revert cx;exact fun _ q=>⟨xy,som aX,Ss,q.k<|s9 z z z z z z z z z,(cM (cr h G) cz (io sr):Chg (· ∈ h) G cy),cA,cB,(or1 cC (io sr) (l_ lr):∀k∈Ss,k∈h∨G.z<=k)⟩
     exact a_e<|fun _ q=>⟨xk,som<|ifF ah a0,h,q.k<|s9 z z z z z z z z z,cr h G,h3,hj,io sr⟩
    rintro cD cE ⟨xx,rfl,Sr,_,cF,cG,cH,cI⟩;revert cD;exact fun _ q=>⟨xx,som aV,Sr,q.k<|s9 z z z z z z z z z,(cM (cr h G) cF (io sr):Chg (· ∈ h) G cE),cG,cH,(or1 cI (io sr) (l_ lr):∀k∈Sr,k∈h∨G.z<=k)⟩
   rintro cJ cK ⟨xv,rfl,Sp,_,cL,cN,cO,cP⟩;revert cJ;refine Wo<|Wg<|R z (inc_ ab (lt_ (a_.len hf) A_) z z)<|Rm z<|Wl ?_
   have aC:∀k∈h,k∈[H.z]∨O.z<=k:=or1 hu (io sr)<|l_ lr;exact fun _ q=>⟨xv,(som aO).symm,⟨Sp,q.k<|s9 z z z z z z z z z,(cM (cM (cr [H.z] O) so (io sr):Chg (· ∈ [H.z]) O G) cL aC:Chg (· ∈ [H.z]) O cK),cN,cO,(or1 cP aC (l_ so.s):∀k∈Sp,k∈[H.z]∨O.z<=k)⟩⟩
  ·rintro xk _ cQ ⟨h,b2,cR,h3,hj,hu⟩;refine Wu ?_ b2;refine Ws<|Rl z z z<|Wn<|Wq<|Wc z (fun hc=>(Q_ hc).elim) (fun _=>?_)
   exact We<|fun a' ha'=>⟨rfl,⟨h,Sat.weaken ha'<|s5 z z z z z,(cM (cr [H.z] O) cR (io sr):Chg (· ∈ [H.z]) O cQ),h3,hj,(or1 hu (io sr) (l_ lr):∀k∈h,k∈[H.z]∨O.z<=k)⟩⟩
  ·rintro xk cS _ rfl ⟨h,_,cT,h3,hj,hu⟩;have b3:=elL aa;revert cS;refine Wo<|Wg<|Rm z<|Rw z<|Wg<|R z (inc_ W (lt_ (repS.len p1_0) A_) z z)<|Rm z<|Wl ?_
   exact fun _ q=>⟨xk,(som b3).symm,⟨V,na,cb,h,q.k<|s5 z z z z z,bM (bup sn st) cT<|m1 sn.s,h3,hj,(or1 hu (mor sn.s:∀k∈[H.z],k∈Sm∨wi.z<=k) (l_<|lt_ sn.s st.s):∀k∈h,k∈Sm∨wi.z<=k)⟩⟩
  rintro _ _ _ _ rfl ⟨rfl,b4⟩;have b5:=elR aa;exact ⟨e_Y<|f_g (som b5).symm ⟨rfl,b4⟩,z⟩
 ·rintro xe _ _ ⟨I,J,L,Sd,b6,cU,hf,a3,a5⟩;refine Wu ?_ b6;refine Ws<|Rl z z z<|Wn<|Wq<|Wc z (fun hc=>(Q_ hc).elim) (fun _=>?_)
  exact We<|fun a' ha'=>⟨rfl,⟨I,J,L,Sd,Sat.weaken ha'<|s2 z z,cU,hf,a3,(or1 a5 (io sr) (l_ lr):∀k∈Sd,k∈Sm∨wi.z<=k)⟩⟩
 ·rintro xe cV _ rfl ⟨I,J,L,Sd,_,aD,hf,a3,a5⟩;have b7:=elL a8;revert cV;refine Wo<|Wm z<|Rm z<|R z (lnR G_ z<|p2_0.g<|a2.e aD) ?_
  obtain ⟨_,cW,b8⟩:=bdS b7;refine RX z (at_ (α:=Bool) b_b z_4 z z z (a_.rep hf) cW) ?_;rintro _ ⟨_,_,_,rfl,cX,cY,_⟩;obtain rfl:=e_4 cY;refine R z (l0 g_4 z<|cX.at0 z)<|Rw z ?_
  obtain rfl:=som b8;exact Wr<|c_ hr z ⟨bup (bM sz a1<|d_ lr) aD,z⟩
 rintro _ _ _ _ rfl ⟨rfl,b9⟩;have ba:=elR a8;obtain rfl:=som ba;exact ⟨b9,z⟩
theorem W_w4d {x1:List Str}{x2:List Str}{res:Bool}(hm:i_H x1 x2=some res)(hBw:B<=w0.z)(p1_0:repS w0 B (sl A0 N0 C0) x1)(p2_0:repS w0 B (sl A3 N3 C3) x2):h_ prog 137 [sl A0 N0 C0,sl A3 N3 C3] w0 (Q11 w0 B res):=by
 unfold i_H at hm
 refine goF func137 z z (lb z) fun fn hr=>Ws<|Rw z<|Wm z<|Rm z ?_
 obtain ⟨_,G,h⟩:=bdS hm;refine E z (fc call176 z<|W_w4c (B:=B) G hBw p1_0 p2_0) ?_;rintro _ _ ⟨s2,rfl⟩;refine Rw z ?_
 obtain rfl:=som h;exact Wr<|c_ hr z ⟨s2,z⟩
theorem W_w4e {x1:Str}{x2:Str}{res:Bool}(hm:i_I n x1 x2=some res)(hBw:B<=w0.z)(p1_0:x1.b.length<=LEN)(p2_0:x2.b.length<=LEN):h_ prog 73 [Str.v x1,Str.v x2] w0 (Q11 w0 B res):=by
 unfold i_I at hm
 refine goF func73 z z (lb z) fun fn hr=>Ws<|Rw z<|Wm z ?_
 obtain ⟨_,L,ea,hmb⟩:=a_k hm;refine E z (fc call136 z<|W_w48 (B:=B) ea hBw p1_0) ?_;rintro _ _ ⟨s5,_,_,_,_,rfl,h6,_,_⟩;refine Rm z<|Re z z z<|Re z z z<|Ra z<|Rw z<|Wm z ?_
 obtain ⟨_,rc,ed,hme⟩:=a_k hmb;refine E z (fc call115 z<|W_w4a ed (zt' hBw s5.s) p2_0) ?_;rintro _ H ⟨s3,_,_,_,_,rfl,hf,_,_⟩;refine Rm z<|Re z z z<|Re z z z<|Ra z<|Rw z<|Wq ?_
 obtain ⟨ug,I,hmh⟩:=bdS hme;refine Wt (fun a w=>∃(x4:Bool),x4=ug/\Sat 28 [(4,vB x4)] a/\Below H.z H w) ?_ ?_
 ·refine Wg<|RM z z ?_
  rcases bs L with G | G
  ·have J:=ifT I G;refine Rh z G (mv z)<|R z (pT z G z)<|Rm z ?_
   rcases bs rc with h | h
   ·refine Rh z h (mv z)<|Rh z h (mv z) ?_
    obtain ⟨ri,ej,hmk⟩:=bdS<|ifT J h;refine Eg z z h z (fc call137 z<|W_w4d (B:=H.z) ej zr (repS.mono (or_ (h6.e s3)<|a_.lt h6)<|a_T s3.s)<|a_.rep hf) ?_;rintro _ _ ⟨sl,rfl⟩;exact R z (pT z h z)<|Ra z<|Wl (fun _ q=>⟨ri,som hmk,q.k<|s1 z,sl⟩)
   iterate 3 refine Nh z h ?_
   exact R z (pF z h z)<|Ra z<|Wl (fun _ q=>⟨false,som<|ifF J h,q.k<|s1 z,br H⟩)
  exact Nh z G<|R z (pF z G z)<|Rm z<|Nh z z<|Nh z z<|Nh z z<|R z (pF z z z)<|Ra z<|Wl (fun _ q=>⟨false,som<|ifF I G,q.k<|s1 z,br H⟩)
 rintro am _ ⟨x4,rfl,_,sn⟩;revert am;refine Wo ?_;obtain rfl:=som hmh;exact Wr<|c_ hr z ⟨bup (bup s5 s3) sn,z⟩
theorem W_w4f {x1:m_}{x2:Str}{h H:Nat}{res:Bool}(hm:k_V n x1 x2=some res)(hBw:B<=w0.z)(p1_0:x1.path.b.length<=LEN)(p1_1:inI x1.rule)(p1_2:inI x1.start)(V:inI x1.end_)(p2_0:x2.b.length<=LEN)(I:S_ w0 h H [Str.v x2])(W:B h):h_ prog 72 [(.agg #[Str.v x1.path,vI x1.rule,vI x1.start,vI x1.end_]),(.pointer<|some ⟨h,H,none⟩)] w0 (Q11 w0 B res):=by
 unfold k_V at hm
 refine goF func72 z z (lb z) fun fn hr=>Ws<|E z (fb z) ?_
 rintro _ L ⟨rfl,h1⟩;have G:=h1.below;refine Rw z<|Ws<|R z (l0 g_9 z<|(I.e G).at0 z)<|Rf z p_L z<|R z (l0 g_9 z<|(h1.blk:Blk L w0.z [Str.v x1.path,vI x1.rule,vI x1.start,vI x1.end_]).at z) ?_
 obtain ⟨_,O,J⟩:=bdS hm;refine E z (fc call73 z<|W_w4e O (zt' hBw G.s) p2_0 p1_0) ?_;rintro _ _ ⟨s6,rfl⟩;refine Rw z ?_
 obtain rfl:=som J;exact Wr<|c_ hr z ⟨bup G s6,z⟩
theorem W_w4g {x1:List m_}{a1:Str}{W Y:Nat}{res:(List m_)}(hm:k_W n x1 a1=some res)(hBw:B<=w0.z)(p1_0:repS w0 B (sl A0 N0 C0) x1)(p2c0_0:a1.b.length<=LEN)(a8:S_ w0 W Y [Str.v a1])(a0:B W):h_ prog 71 [sl A0 N0 C0,(.func (.func 72) #[] #[(.pointer<|some ⟨W,Y,none⟩)])] w0 (Q24 w0 B res):=by
 unfold k_W at hm
 refine goF func71 z z (lb z) fun fn hr=>Ws<|Rw z<|Ws<|E z (f0 (α:=m_) c_G) ?_
 rintro _ G ⟨an,ao,ap,rfl,s9,aq⟩;refine Rw z<|Wq<|Wm z<|R z (lnR c_8 z<|p1_0.e s9)<|Rm z<|Wn ?_
 obtain ⟨_,a9,hms⟩:=bdS hm;refine Wf (σ:=List m_) (ρ:=List m_) (fun (km:Nat)(V:List m_) a w=>∃H I J h,Sat 24 [(1,.func (.func 72) #[] #[(.pointer<|some ⟨W,Y,none⟩)]),(5,sl H I J),(9,sl A0 N0 C0),(10,vI (x1.length:Int)),(11,vI ((km:Nat):Int))] a/\Chg (· ∈ [w0.z]) G w/\a_ w h (sl H I J) V/\h.Nodup/\(∀k∈h,k∈[w0.z]∨G.z<=k)) (fun (V:List m_) a w=>∃H I J h,Sat 24 [(5,sl H I J)] a/\Chg (· ∈ [w0.z]) G w/\a_ w h (sl H I J) V/\h.Nodup/\(∀k∈h,k∈[w0.z]∨G.z<=k)) (fun r ex a w=>ex = .ret/\w_ prog fn (Q24 w0 B r) a w) a9 ?_ ?_ ?_ ?_ ?_
 ·exact fun _ q=>⟨an,ao,ap,[w0.z],q.k<|s5 z z z z z,cr [w0.z] G,aq,a_0,io sr⟩
 ·rintro km V _ wh _ hkv ⟨H,I,J,h,aa,sa,O,hb,hf⟩ ab;refine Wu ?_ aa;refine Ws<|Rl z z z<|Wn<|Wq<|Wc z (fun _=>?_) (fun hc=>(P_ hkv hc).elim)
  refine Wk<|Wq<|Wb<|Ws ?_
  obtain ⟨x2,ar,ad⟩:=bdS ab;have hw:∀k∈[w0.z],¬B k:=or0 (d_ lr)<|n_ hBw;refine RX z (at_ (α:=m_) c_8 c_6 z z z (p1_0.g<|(s9.ag B).c sa<|f_ hw) ar) ?_;rintro _ ⟨_,_,_,rfl,au,av,_⟩;obtain ⟨rfl,hn,ho,hp,hq⟩:=e_v av;refine R z (lN (vs:=[Str.v x2.path,vI x2.rule,vI x2.start,vI x2.end_]) g_33 c_6 z z fid au)<|E z (fa p_R) ?_
  rintro _ wx ⟨rfl,hy⟩;have hd:=hy.below;refine E0 (fs (cur':=[Str.v x2.path,vI x2.rule,vI x2.start,vI x2.end_]) c_6 z z (hy.blk:Blk wx wh.z [(Str.v (⟨[]⟩:Str)),vI 0,vI 0,vI 0]) z (lb z) (oA z) z) ?_;rintro _ aw ⟨hz,ax⟩;have he:=ax.one;refine Wn<|Wm z<|R z (lN (vs:=[Str.v x2.path,vI x2.rule,vI x2.start,vI x2.end_]) g_33 c_6 z z fid<|hz.row 0 4 z) ?_
  have a4:=lt_ s9.s sa.s;obtain ⟨_,ay,ae⟩:=bdS ad;refine E z (h_7 call72 z z<|W_w4f ay (zt' hBw<|lt_ (lt_ a4 hd.s) he.s) hn ho hp hq p2c0_0 ((((a8.e s9).c sa<|(f_ hw) _ a0).e hd).c he<|(f_ (or0 (d_ lr) (n_<|zt' hBw a4):∀k∈[wh.z],¬B k)) _ a0) a0) ?_;rintro _ L ⟨sg,rfl⟩;refine Wn ?_;obtain ⟨az,a2,af⟩:=bdS ae;refine Wt (fun a w=>∃(xi:List m_),xi=az/\∃aj nk cl Sc,Sat 24 [(1,.func (.func 72) #[] #[(.pointer<|some ⟨W,Y,none⟩)]),(5,sl aj nk cl),(9,sl A0 N0 C0),(10,vI (x1.length:Int)),(11,vI ((km:Nat):Int))] a/\Chg (· ∈ h) L w/\a_ w Sc (sl aj nk cl) xi/\Sc.Nodup/\(∀k∈Sc,k∈h∨L.z<=k)) ?_ ?_
  ·refine Wc z (fun hcr=>?_)<|fun hcr=>?_
   ·refine Wg<|Rm z<|R z (lN (vs:=[Str.v x2.path,vI x2.rule,vI x2.start,vI x2.end_]) g_33 c_6 z z fid<|(hz.e sg).row 0 4 z)<|E z (fS [(.tmp 19)] c_G z z z (a_z z) (lb z)<|lb z) ?_
    rintro _ a5 ⟨rfl,ht⟩;have hu:=ht.below;have aU:=b_E ht<|e_w (x:=x2) hn ho hp hq
    obtain ⟨aA,aB,ah⟩:=bdS<|ifT a2 hcr;refine E z (b_d (α:=m_) c_G aB z z ((((O.e hd).c he<|ds<|mnr<|a_.lt O).e sg).e hu) hb (ht.blk:Blk a5 L.z [Str.v x2.path,vI x2.rule,vI x2.start,vI x2.end_]) (e_w (x:=x2) hn ho hp hq) an_ H_) ?_;rintro _ aC ⟨a6,aD,aE,aF,rfl,aG,aH,aI,aJ⟩;refine Ra z<|Wl ?_
    exact fun _ q=>⟨aA,som ah,aD,aE,aF,a6,q.k<|s5 z z z z z,(cM (i_ (cr h L) hu:Chg (· ∈ h) L a5) aG (io sr):Chg (· ∈ h) L aC),aH,aI,(or2 aJ (io sr) an_ (l_ hu.s):∀k∈a6,k∈h∨L.z<=k)⟩
   exact a_e<|fun _ q=>⟨V,som<|ifF a2 hcr,H,I,J,h,q.k<|s5 z z z z z,cr h L,((O.e hd).c he<|ds<|mnr<|a_.lt O).e sg,hb,io sr⟩
  rintro aK aL ⟨xi,rfl,aj,nk,cl,Sc,_,aM,aN,aO,aP⟩;revert aK;refine Wo<|Wg<|R z (inc_ hkv (lt_ (repS.len p1_0) A_) z z)<|Rm z<|Wl ?_
  have a7:∀k∈h,k∈[w0.z]∨G.z<=k:=or1 hf (io sr)<|l_ lr;exact fun _ q=>⟨xi,(som af).symm,⟨aj,nk,cl,Sc,q.k<|s5 z z z z z,(cM (i_ (cM (i_ (cM (cr [w0.z] G) sa (io sr):Chg (· ∈ [w0.z]) G wh) hd:Chg (· ∈ [w0.z]) G wx) he (mor sa.s:∀k∈[wh.z],k∈[w0.z]∨G.z<=k):Chg (· ∈ [w0.z]) G aw) sg:Chg (· ∈ [w0.z]) G L) aM a7:Chg (· ∈ [w0.z]) G aL),aN,aO,(or1 aP a7 (l_<|lt_ (lt_ (lt_ sa.s hd.s) he.s) sg.s):∀k∈Sc,k∈[w0.z]∨G.z<=k)⟩⟩
 ·rintro V _ aQ ⟨H,I,J,h,ai,aR,O,hb,hf⟩;refine Wu ?_ ai;refine Ws<|Rl z z z<|Wn<|Wq<|Wc z (fun hc=>(Q_ hc).elim) (fun _=>?_)
  exact We<|fun a' ha'=>⟨rfl,⟨H,I,J,h,Sat.weaken ha'<|s1 z,(cM (cr [w0.z] G) aR (io sr):Chg (· ∈ [w0.z]) G aQ),O,hb,(or1 hf (io sr) (l_ lr):∀k∈h,k∈[w0.z]∨G.z<=k)⟩⟩
 ·rintro V aS _ rfl ⟨H,I,J,h,_,aT,O,hb,hf⟩;have ak:=elL hms;revert aS;refine Wo<|Wm z<|Rw z ?_
  obtain rfl:=som ak;exact Wr<|c_ hr z ⟨bM s9 aT<|d_ lr,H,I,J,h,z,O,hb,(or1 hf (d_ lr) (a_S s9.s):∀k∈h,w0.z<=k)⟩
 rintro _ _ _ _ rfl ⟨rfl,al⟩;have am:=elR hms;obtain rfl:=som am;exact ⟨al,z⟩
theorem W_w4h {x1:e_}{x2:List UInt8}{x3:Str}{res:(List m_)}(hm:i_J n x1 x2 x3=some res)(hBw:B<=w0.z)(hG:Gl w0 B)(p1_0:repS w0 B (sl A0 N0 C0) x1.rules)(p2_0:repS w0 B (sl A3 N3 C3) x2)(p3_0:x3.b.length<=LEN):h_ prog 20 [(.agg #[sl A0 N0 C0]),sl A3 N3 C3,Str.v x3] w0 (Q24 w0 B res):=by
 unfold i_J at hm
 refine goF func20 z z (lb z) fun fn hr=>Ws<|E z (fb z) ?_
 rintro _ H ⟨rfl,h6⟩;have h2:=h6.below;refine E z (fb z) ?_;rintro _ wd ⟨rfl,I⟩;have h:=I.below;have J:Blk wd H.z [Str.v x3]:=I.blk;refine Rw z<|Ws<|R z (lN (vs:=[sl A0 N0 C0]) J_ E_ z z fid<|((h6.blk:Blk H w0.z [sl A0 N0 C0]).e h).row 0 1 z)<|Rm z ?_
 have L:=(h2.ag B).e h;have h3:=lt_ h2.s h.s;obtain ⟨_,_,ee,hma⟩:=a_k hm;refine E z (fc call36 z<|W_w45 ee (zt' hBw h3) ((hG.e h2).e h) (p1_0.g L)<|p2_0.g L) ?_;rintro _ wb ⟨s1,_,_,_,_,rfl,hf,_,_⟩;refine Rm z<|Re z z z<|Re z z z<|Ra z<|Rw z<|Wq<|Wm z<|R z (not_ z)<|Wx z (fun G=>?_) (fun G=>?_)
 ·refine Ws<|E z (f0 (α:=m_) c_G) ?_
  rintro _ _ ⟨ah,ng,ci,rfl,sj,hk⟩;refine Rw z ?_
  obtain rfl:=som<|ifT hma G;exact Wr<|c_ hr z ⟨bup (bup (bup h2 h) s1) sj,ah,ng,ci,[wb.z],z,hk,a_0,m1<|lt_ h3 s1.s⟩
 refine Wk<|Wm z<|R z (j_e z) ?_
 obtain ⟨_,el,hmm⟩:=bdS<|ifF hma G;refine E z (fc call71 z<|W_w4g (B:=wb.z) el zr (a_.rep hf) p3_0 ((J.e s1).row 0 1 z)<|zap' (a_T s1.s) J.lt) ?_;rintro _ _ ⟨sn,ao,np,cq,Sr,rfl,ht,hu,hv⟩;refine Rw z ?_
 obtain rfl:=som hmm;exact Wr<|c_ hr z ⟨bup (bup (bup h2 h) s1) sn,ao,np,cq,Sr,z,ht,hu,s_ hv<|lt_ h3 s1.s⟩
theorem W_w4i {x1:e_}{x2:List UInt8}{x3:Str}{res:Int}(hm:i_K n x1 x2 x3=some res)(hBw:B<=w0.z)(hG:Gl w0 B)(p1_0:repS w0 B (sl A0 N0 C0) x1.rules)(p2_0:repS w0 B (sl A3 N3 C3) x2)(p3_0:x3.b.length<=LEN):h_ prog 23 [(.agg #[sl A0 N0 C0]),sl A3 N3 C3,Str.v x3] w0 (Q0 w0 B res):=by
 unfold i_K at hm
 refine goF func23 z z (lb z) fun fn hr=>Ws<|E z (fb z) ?_
 rintro _ ws ⟨rfl,hh⟩;have h1:=hh.below;have hd:Blk ws w0.z [sl A0 N0 C0]:=hh.blk;refine Rw z<|Ws<|Rw z<|Wq<|Ws<|R z (lN (vs:=[sl A0 N0 C0]) J_ E_ z z fid<|hd.row 0 1 z)<|RM z z ?_
 obtain ⟨ri,ey,hmx⟩:=bdS hm;refine E z (fc call20 z<|W_w4h ey (zt' hBw h1.s) (hG.e h1) (p1_0.e h1) (p2_0.e h1) p3_0) ?_;rintro _ G ⟨s5,aj,nk,cl,_,rfl,I,_,_⟩;refine R z (lnR c_8 z<|a_.rep I)<|Rm z<|Wn ?_
 obtain ⟨_,huz,hmm⟩:=bdS hmx;refine Wf (σ:=Int) (ρ:=Int) (fun (kc:Nat)(x0:Int) a w=>Sat 45 [(1,sl A3 N3 C3),(3,pt w0.z),(7,vI x0),(13,sl aj nk cl),(14,vI (ri.length:Int)),(15,vI ((kc:Nat):Int))] a/\Below G.z G w/\inI x0) (fun (x0:Int) a w=>Sat 45 [(7,vI x0)] a/\Below G.z G w/\inI x0) (fun r ex a w=>ex = .ret/\w_ prog fn (Q0 w0 B r) a w) huz ?_ ?_ ?_ ?_ ?_
 ·exact fun _ q=>⟨q.k<|s6 z z z z z z,br G,ii z⟩
 ·rintro kc x0 _ wn _ hko ⟨J,s2,h6⟩ L;refine Wu ?_ J;refine Ws<|Rl z z z<|Wn<|Wq<|Wc z (fun _=>?_) (fun hc=>(P_ hko hc).elim)
  refine Wk<|Wq<|Wb<|Ws ?_
  obtain ⟨x4,a6,O⟩:=bdS L;refine RX z (at_ (α:=m_) c_8 c_6 z z z (or_ (I.e s2)<|a_.lt I) a6) ?_;rintro _ ⟨_,_,_,rfl,a7,a8,_⟩;obtain ⟨rfl,_,_,_,_⟩:=e_v a8;refine R z (lN (vs:=[Str.v x4.path,vI x4.rule,vI x4.start,vI x4.end_]) g_33 c_6 z z fid a7)<|E z (fa p_R) ?_
  rintro _ a9 ⟨rfl,hp⟩;have ha:=hp.below;refine E0 (fs (cur':=[Str.v x4.path,vI x4.rule,vI x4.start,vI x4.end_]) c_6 z z (hp.blk:Blk a9 wn.z [(Str.v (⟨[]⟩:Str)),vI 0,vI 0,vI 0]) z (lb z) (oA z) z) ?_;rintro _ we ⟨hq,aa⟩;have hb:=aa.one;refine Wn<|Ws<|Rf z a_o z ?_
  have ht:=(((hd.e s5).e s2).e ha).c hb<|djs<|mm1 hd.lt<|lt_ s5.s s2.s
  refine R z (l0 a_q z<|ht.at z)<|Rf z k_p z<|R z (l0 g_3 z<|hq.at z) ?_
  obtain ⟨_,ab,V⟩:=bdS O;have hu:=lt_ (lt_ h1.s s5.s) s2.s;have hv:=((((h1.ag B).e s5).e s2).e ha).c hb<|f_ (or0 (d_ lr) (n_<|zt' hBw hu):∀k∈[wn.z],¬B k)
  refine RX z (at_ (α:=g_) a_b u_ z z z (p1_0.g hv) ab) ?_;rintro _ ⟨_,_,_,rfl,ad,ae,_⟩;obtain ⟨_,_,_,_,_,_,_,_,_,_,_,_,rfl,_,_,_,_,_,_,_⟩:=a_N ae;refine Rf z a_M z<|R z (l0 g_3 z<|ad.at (j:=1) z)<|Rq z z z<|Wn ?_
  obtain ⟨af,hur,W⟩:=bdS V;refine Wt (fun a w=>∃(H:Int),H=af/\Sat 45 [(1,sl A3 N3 C3),(3,pt w0.z),(7,vI H),(13,sl aj nk cl),(14,vI (ri.length:Int)),(15,vI ((kc:Nat):Int))] a/\Below we.z we w/\inI H) ?_ ?_
  ·refine Wc z (fun hcf=>?_)<|fun hcf=>?_
   ·refine Wd (X:=noX) 0 (pl_ 17 [14]) mo (by kernel_rfl) fun ay s8 _=>dM z z z<|dM z z z<|dR z z (fd p_M z) ?_
    have hg:=hq.e s8;refine dR z z (l0 g_3 z<|hg.at z)<|dR z z (fd m_e z)<|dR z z (l0 g_3 z<|hg.at z) ?_
    obtain ⟨_,ah,Y⟩:=bdS<|ifT hur hcf;have hw:=hv.e s8;refine dRX z z (rX j_ z_5 z z (p2_0.g hw) z z ah) ?_;rintro _ ⟨_,_,_,rfl,ai⟩;refine dR z z (fd a_o z)<|dR z z (l0 a_q z<|(ht.e s8).at z)<|dR z z (fd k_p z)<|dR z z (l0 g_3 z<|hg.at z) ?_
    obtain ⟨_,ak,a0⟩:=bdS Y;refine dRX z z (at_ (α:=g_) a_b u_ z z z (p1_0.g hw) ak) ?_;rintro _ ⟨_,_,_,rfl,al,am,_⟩;obtain ⟨_,_,_,_,_,_,_,_,_,_,_,_,rfl,_,_,_,_,_,_,_⟩:=a_N am;refine dR z z (fd d_c z)<|dR z z (l0 g_4 z<|al.at (j:=3) z) ?_
    obtain ⟨an,ao,a1⟩:=bdS a0;refine dE z z (fc call76 z<|m_B ao (zt' hBw<|lt_ (lt_ (lt_ hu ha.s) hb.s) s8.s) ai) (.inr fun _ _ h=>F_<|h.1) ?_;rintro _ _ ⟨ap,rfl,_⟩;exact dR z z (add_ z z)<|dQ z z z<|pD (fun _ q=>⟨b_ x0 an,som a1,q.k<|s6 z z z z z z,bup s8 ap,iA _ _⟩)
   exact a_e<|fun _ q=>⟨x0,som<|ifF hur hcf,q.k<|s6 z z z z z z,br we,h6⟩
  rintro aq _ ⟨H,rfl,_,ar,au⟩;revert aq;exact Wo<|Wg<|R z (inc_ hko (lt_ (a_.len I) A_) z z)<|Rm z<|Wl (fun _ q=>⟨H,(som W).symm,⟨q.k<|s6 z z z z z z,bup (bM (bup s2 ha) hb<|m1 s2.s) ar,au⟩⟩)
 ·rintro x0 _ _ ⟨a2,av,h6⟩;refine Wu ?_ a2;refine Ws<|Rl z z z<|Wn<|Wq<|Wc z (fun hc=>(Q_ hc).elim) (fun _=>?_)
  exact We<|fun a' ha'=>⟨rfl,⟨Sat.weaken ha'<|s1 z,av,h6⟩⟩
 ·rintro x0 aw _ rfl ⟨_,ax,h6⟩;have a3:=elL hmm;revert aw;refine Wo<|Wm z<|Rw z ?_
  obtain rfl:=som a3;exact Wr<|c_ hr z ⟨bup (bup h1 s5) ax,z,h6⟩
 rintro _ _ _ _ rfl ⟨rfl,a4⟩;have a5:=elR hmm;obtain rfl:=som a5;exact ⟨a4,z⟩
theorem W_w4j {x1:L_}{x2:Str}{res:Int}(hm:h_E n x1 x2=some res)(hBw:B<=w0.z)(hG:Gl w0 B)(p1_0:repS w0 B (sl A0 N0 C0) x1.registry.versions)(p1_1:repS w0 B (sl A1 N1 C1) x1.log.bytes)(p1_2:inI x1.log.stored)(p2_0:x2.b.length<=LEN):h_ prog 27 [(.agg #[sl A0 N0 C0,sl A1 N1 C1,vI x1.log.stored]),Str.v x2] w0 (Q0 w0 B res):=by
 unfold h_E at hm
 refine goF func27 z z (lb z) fun fn hr=>Ws<|E z (fb z) ?_
 rintro _ I ⟨rfl,he⟩;have h4:=he.below;have hb:Blk I w0.z [sl A0 N0 C0,sl A1 N1 C1,vI x1.log.stored]:=he.blk;refine Rw z<|Ws<|Rw z<|Wq<|Ws<|R z (lN (vs:=[sl A0 N0 C0,sl A1 N1 C1,vI x1.log.stored]) e_i d_w z z fid<|hb.row 0 3 z) ?_
 have hf:=hG.e h4;obtain ⟨rm,er,hms⟩:=bdS hm;refine E z (fc call84 z<|W_w3z er (zt' hBw h4.s) hf (p1_0.e h4) (p1_1.e h4) p1_2) ?_;rintro _ H ⟨s7,au,nv,cw,rfl,hd⟩;refine R z (lnR c_7 z hd)<|Rm z<|Wn ?_
 obtain ⟨_,hux,hmg⟩:=bdS hms;refine Wf (σ:=Int) (ρ:=Int) (fun (kh:Nat)(x3:Int) a w=>Sat 30 [(1,Str.v x2),(2,pt w0.z),(5,vI x3),(9,sl au nv cw),(10,vI (rm.length:Int)),(11,vI ((kh:Nat):Int))] a/\Below H.z H w/\inI x3) (fun (x3:Int) a w=>Sat 30 [(5,vI x3)] a/\Below H.z H w/\inI x3) (fun r ex a w=>ex = .ret/\w_ prog fn (Q0 w0 B r) a w) hux ?_ ?_ ?_ ?_ ?_
 ·exact fun _ q=>⟨q.k<|s6 z z z z z z,br H,ii z⟩
 ·rintro kh x3 _ wc _ hki ⟨hSy,G,J⟩ hmz;refine Wu ?_ hSy;refine Ws<|Rl z z z<|Wn<|Wq<|Wc z (fun _=>?_) (fun hc=>(P_ hki hc).elim)
  refine Wk<|Wq<|Wb<|Ws ?_
  obtain ⟨xa,a2,L⟩:=bdS hmz;refine RX z (at_ (α:=q_) c_7 b_a z z z (hd.e G) a2) ?_;rintro _ ⟨_,_,_,rfl,a3,a4,_⟩;obtain ⟨aj,nk,cl,rfl,_,_,a5⟩:=f_R a4;refine R z (lN (vs:=[Str.v xa.name,vI xa.version,sl aj nk cl]) e_R b_a z z fid a3)<|E z (fa g_r) ?_
  rintro _ a6 ⟨rfl,hn⟩;have h5:=hn.below;refine E0 (fs (cur':=[Str.v xa.name,vI xa.version,sl aj nk cl]) b_a z z (hn.blk:Blk a6 wc.z [(Str.v (⟨[]⟩:Str)),vI 0,sl none 0 0]) z (lb z) (oA z) z) ?_;rintro _ _ ⟨a7,a8⟩;have h6:=a8.one;refine Wn (Wd (X:=noX) 0 (pl_ 14 [11]) mo (by kernel_rfl) fun ap s2 _=>dM z z z<|dR z z (fd d_v z)<|dR z z (fd c_j z)<|dR z z (l0 c_v z<|(((((hb.e s7).e G).e h5).c h6<|djs<|mm1 hb.lt<|lt_ s7.s G.s).e s2).at z)<|dR z z (fd p_B z) ?_);have ho:=a7.e s2;refine dR z z (l0 g_3 z<|ho.at z) ?_;obtain ⟨_,a9,O⟩:=bdS L;have hp:=lt_ (lt_ h4.s s7.s) G.s;have hq:=zt' hBw hp;have ht:∀k∈[wc.z],¬B k:=or0 (d_ lr)<|n_ hq;refine dRX z z (at_ (α:=e_) b_B E_ z z z (p1_0.g<|(((((h4.ag B).e s7).e G).e h5).c h6<|f_ ht).e s2) a9) ?_;rintro _ ⟨_,_,_,rfl,aa,ab,_⟩;obtain ⟨ad,ae,af,rfl,ah⟩:=d_B ab;refine dR z z (lN (vs:=[sl ad ae af]) J_ E_ z z fid aa)<|dR z z (fd p_C z)<|dR z z (l0 M_ z<|ho.at z)<|dM z z z ?_
  obtain ⟨ai,ak,V⟩:=bdS O;refine dE z z (fc call23 z<|W_w4i (B:=zn B I.z H.z) ak (g_6 (zt' hBw<|lt_ (lt_ (lt_ hp h5.s) h6.s) s2.s)<|lt_ (lt_ (lt_ G.s h5.s) h6.s) s2.s) ((((((hf.e s7).e G).e h5).c h6<|f_ ht).e s2).mono d_k) (repS.mono ah d_k) (a5.g<|((h5.ag<|zn B I.z H.z).c h6<|f_ (or0 (d_ lr) (c_Q (n_ hq) G.s):∀k∈[wc.z],¬(zn B I.z H.z) k)).e s2) p2_0) (.inr fun _ _ h=>F_<|h.1) ?_;rintro _ _ ⟨al,rfl,_⟩;exact dR z z (add_ z z)<|dQ z z z<|pD<|Wo<|Wg<|R z (inc_ hki (lt_ (repS.len hd) A_) z z)<|Rm z<|Wl (fun _ q=>⟨b_ x3 ai,(som V).symm,⟨q.k<|s6 z z z z z z,bup (bup (bM (bup G h5) h6<|m1 G.s) s2) al,iA _ _⟩⟩)
 ·rintro x3 _ _ ⟨W,am,J⟩;refine Wu ?_ W;refine Ws<|Rl z z z<|Wn<|Wq<|Wc z (fun hc=>(Q_ hc).elim) (fun _=>?_)
  exact We<|fun a' ha'=>⟨rfl,⟨Sat.weaken ha'<|s1 z,am,J⟩⟩
 ·rintro x3 an _ rfl ⟨_,ao,J⟩;have Y:=elL hmg;revert an;refine Wo<|Wm z<|Rw z ?_
  obtain rfl:=som Y;exact Wr<|c_ hr z ⟨bup (bup h4 s7) ao,z,J⟩
 rintro _ _ _ _ rfl ⟨rfl,a0⟩;have a1:=elR hmg;obtain rfl:=som a1;exact ⟨a0,z⟩
theorem W_w21 {x1:List UInt8}{x2:List UInt8}{res:Bool}(hm:g_R x1 x2=some res)(hBw:B<=w0.z)(p1_0:repS w0 B (sl A0 N0 C0) x1)(p2_0:repS w0 B (sl A3 N3 C3) x2):h_ prog 151 [sl A0 N0 C0,sl A3 N3 C3] w0 (Q11 w0 B res):=by
 unfold g_R at hm
 refine goF func151 z z (lb z) fun fn hr=>Ws<|Rw z<|Wq<|Wm z<|R z (lnR j_ z p1_0)<|Rm z<|R z (lnR j_ z p2_0)<|R z (nq z z)<|Wx z (fun G=>?_) (fun G=>?_)
 ·refine Ws<|Rw z ?_
  obtain rfl:=som<|ifT hm G;exact Wr<|c_ hr z ⟨br w0,z⟩
 refine Wk<|Wq<|Ws<|Rw z ?_
 obtain ⟨_,hua,I⟩:=bdS<|ifF hm G;refine Wf (σ:=Unit) (ρ:=Bool) (fun (k5:Nat)(_:Unit) a w=>Sat 26 [(0,sl A0 N0 C0),(1,sl A3 N3 C3),(5,vI ((k5:Nat):Int))] a/\Below w0.z w0 w) (fun (_:Unit) a w=>Sat 26 [] a/\Below w0.z w0 w) (fun r ex a w=>ex = .ret/\w_ prog fn (Q11 w0 B r) a w) hua ?_ ?_ ?_ ?_ ?_
 ·exact fun _ q=>⟨q.k<|s3 z z z,br w0⟩
 ·rintro k5 _ _ _ _ J ⟨hSb,h⟩ hmc;refine Wu ?_ hSb;refine Wq<|Wm z<|Rm z<|R z (lnR j_ z<|p1_0.e h)<|Rl z z z<|Wx z (fun _=>?_) (fun hc=>(P_ J hc).elim)
  refine Wk<|Wq<|Wb<|Wq (Wd (X:=noX) 0 (pl_ 9 []) mo (by kernel_rfl) fun wu s2 _=>dM z z z<|dM z z z ?_)
  obtain ⟨_,ed,hme⟩:=bdS hmc;have O:=(h.ag B).e s2;refine dRX z z (at_ (α:=UInt8) j_ z_5 z z z (p1_0.g O) ed) ?_;rintro _ ⟨_,_,_,rfl,hf,hg,_⟩;obtain rfl:=u8 hg;refine dR z z (l0 g_5 z<|hf.at0 z)<|dM z z z<|dM z z z ?_
  obtain ⟨_,eh,L⟩:=bdS hme;refine dRX z z (at_ (α:=UInt8) j_ z_5 z z z (p2_0.g O) eh) ?_;rintro _ ⟨_,_,_,rfl,hi,hj,_⟩;obtain rfl:=u8 hj;refine dR z z (l0 g_5 z<|hi.at0 z)<|dR z z (nq z z)<|pD<|Wo<|Wc z (fun H=>?_) (fun H=>?_)
  ·exact Ws<|Rw z<|Wr<|rtO<|qL (som<|ifT L H).symm<|c_ hr z ⟨bup h s2,z⟩
  exact Wk<|Wg<|Rm z<|R z (inc_ J (lt_ (repS.len p1_0) A_) z z)<|Ra z<|Wl (fun _ q=>⟨(),(som<|ifF L H).symm,⟨q.k<|s3 z z z,bup h s2⟩⟩)
 ·rintro _ _ _ ⟨hSk,s9⟩;refine Wu ?_ hSk;refine Wq<|Wm z<|Rm z<|R z (lnR j_ z<|p1_0.e s9)<|Rl z z z<|Wx z (fun hc=>(Q_ hc).elim) (fun _=>?_)
  exact We<|fun a' ha'=>⟨rfl,⟨Sat.weaken ha' sn,s9⟩⟩
 ·rintro _ al _ rfl ⟨_,sm⟩;have hmn:=elL I;revert al;refine Wo<|Ws<|Rw z ?_
  obtain rfl:=som hmn;exact Wr<|c_ hr z ⟨sm,z⟩
 rintro _ _ _ _ rfl ⟨rfl,hqo⟩;have hmp:=elR I;obtain rfl:=som hmp;exact ⟨hqo,z⟩
theorem W_w4k {x1:List Str}{x2:List Str}{res:Bool}(hm:i_s x1 x2=some res)(hBw:B<=w0.z)(p1_0:repS w0 B (sl A0 N0 C0) x1)(p2_0:repS w0 B (sl A3 N3 C3) x2):h_ prog 274 [sl A0 N0 C0,sl A3 N3 C3] w0 (Q11 w0 B res):=by
 unfold i_s at hm
 refine goF func274 z z (lb z) fun fn hr=>Ws<|Rw z<|Wq<|Wm z<|R z (lnR G_ z p1_0)<|Rm z<|R z (lnR G_ z p2_0)<|R z (nq z z)<|Wx z (fun G=>?_) (fun G=>?_)
 ·refine Ws<|Rw z ?_
  obtain rfl:=som<|ifT hm G;exact Wr<|c_ hr z ⟨br w0,z⟩
 refine Wk<|Wq<|Ws<|Rw z ?_
 obtain ⟨_,hua,I⟩:=bdS<|ifF hm G;refine Wf (σ:=Unit) (ρ:=Bool) (fun (k5:Nat)(_:Unit) a w=>Sat 26 [(0,sl A0 N0 C0),(1,sl A3 N3 C3),(5,vI ((k5:Nat):Int))] a/\Below w0.z w0 w) (fun (_:Unit) a w=>Sat 26 [] a/\Below w0.z w0 w) (fun r ex a w=>ex = .ret/\w_ prog fn (Q11 w0 B r) a w) hua ?_ ?_ ?_ ?_ ?_
 ·exact fun _ q=>⟨q.k<|s3 z z z,br w0⟩
 ·rintro k5 _ _ _ _ J ⟨hSb,h⟩ hmc;refine Wu ?_ hSb;refine Wq<|Wm z<|Rm z<|R z (lnR G_ z<|p1_0.e h)<|Rl z z z<|Wx z (fun _=>?_) (fun hc=>(P_ J hc).elim)
  refine Wk<|Wq<|Wb<|Wq (Wd (X:=noX) 0 (pl_ 9 []) mo (by kernel_rfl) fun wu s2 _=>dM z z z<|dM z z z ?_)
  obtain ⟨_,ed,hme⟩:=bdS hmc;have O:=(h.ag B).e s2;refine dRX z z (at_ (α:=Str) G_ z_9 z z z (p1_0.g O) ed) ?_;rintro _ ⟨_,_,_,rfl,hf,hg,_⟩;obtain ⟨rfl,_⟩:=a_r hg;refine dR z z (l0 g_9 z<|hf.at0 z)<|dM z z z<|dM z z z ?_
  obtain ⟨_,eh,L⟩:=bdS hme;refine dRX z z (at_ (α:=Str) G_ z_9 z z z (p2_0.g O) eh) ?_;rintro _ ⟨_,_,_,rfl,hi,hj,_⟩;obtain ⟨rfl,_⟩:=a_r hj;refine dR z z (l0 g_9 z<|hi.at0 z)<|dR z z (e_9 z z)<|pD<|Wo<|Wc z (fun H=>?_) (fun H=>?_)
  ·exact Ws<|Rw z<|Wr<|rtO<|qL (som<|ifT L H).symm<|c_ hr z ⟨bup h s2,z⟩
  exact Wk<|Wg<|Rm z<|R z (inc_ J (lt_ (repS.len p1_0) A_) z z)<|Ra z<|Wl (fun _ q=>⟨(),(som<|ifF L H).symm,⟨q.k<|s3 z z z,bup h s2⟩⟩)
 ·rintro _ _ _ ⟨hSk,s9⟩;refine Wu ?_ hSk;refine Wq<|Wm z<|Rm z<|R z (lnR G_ z<|p1_0.e s9)<|Rl z z z<|Wx z (fun hc=>(Q_ hc).elim) (fun _=>?_)
  exact We<|fun a' ha'=>⟨rfl,⟨Sat.weaken ha' sn,s9⟩⟩
 ·rintro _ al _ rfl ⟨_,sm⟩;have hmn:=elL I;revert al;refine Wo<|Ws<|Rw z ?_
  obtain rfl:=som hmn;exact Wr<|c_ hr z ⟨sm,z⟩
 rintro _ _ _ _ rfl ⟨rfl,hqo⟩;have hmp:=elR I;obtain rfl:=som hmp;exact ⟨hqo,z⟩
theorem W_w22 {x1:List Int}{x2:List Int}{res:Bool}(hm:g_S x1 x2=some res)(hBw:B<=w0.z)(p1_0:repS w0 B (sl A0 N0 C0) x1)(p2_0:repS w0 B (sl A3 N3 C3) x2):h_ prog 275 [sl A0 N0 C0,sl A3 N3 C3] w0 (Q11 w0 B res):=by
 unfold g_S at hm
 refine goF func275 z z (lb z) fun fn hr=>Ws<|Rw z<|Wq<|Wm z<|R z (lnR z_ z p1_0)<|Rm z<|R z (lnR z_ z p2_0)<|R z (nq z z)<|Wx z (fun G=>?_) (fun G=>?_)
 ·refine Ws<|Rw z ?_
  obtain rfl:=som<|ifT hm G;exact Wr<|c_ hr z ⟨br w0,z⟩
 refine Wk<|Wq<|Ws<|Rw z ?_
 obtain ⟨_,hua,I⟩:=bdS<|ifF hm G;refine Wf (σ:=Unit) (ρ:=Bool) (fun (k5:Nat)(_:Unit) a w=>Sat 26 [(0,sl A0 N0 C0),(1,sl A3 N3 C3),(5,vI ((k5:Nat):Int))] a/\Below w0.z w0 w) (fun (_:Unit) a w=>Sat 26 [] a/\Below w0.z w0 w) (fun r ex a w=>ex = .ret/\w_ prog fn (Q11 w0 B r) a w) hua ?_ ?_ ?_ ?_ ?_
 ·exact fun _ q=>⟨q.k<|s3 z z z,br w0⟩
 ·rintro k5 _ _ _ _ J ⟨hSb,h⟩ hmc;refine Wu ?_ hSb;refine Wq<|Wm z<|Rm z<|R z (lnR z_ z<|p1_0.e h)<|Rl z z z<|Wx z (fun _=>?_) (fun hc=>(P_ J hc).elim)
  refine Wk<|Wq<|Wb<|Wq (Wd (X:=noX) 0 (pl_ 9 []) mo (by kernel_rfl) fun wu s2 _=>dM z z z<|dM z z z ?_)
  obtain ⟨_,ed,hme⟩:=bdS hmc;have O:=(h.ag B).e s2;refine dRX z z (at_ (α:=Int) z_ z_3 z z z (p1_0.g O) ed) ?_;rintro _ ⟨_,_,_,rfl,hf,hg,_⟩;obtain ⟨rfl,_⟩:=W_ hg;refine dR z z (l0 g_3 z<|hf.at0 z)<|dM z z z<|dM z z z ?_
  obtain ⟨_,eh,L⟩:=bdS hme;refine dRX z z (at_ (α:=Int) z_ z_3 z z z (p2_0.g O) eh) ?_;rintro _ ⟨_,_,_,rfl,hi,hj,_⟩;obtain ⟨rfl,_⟩:=W_ hj;refine dR z z (l0 g_3 z<|hi.at0 z)<|dR z z (nq z z)<|pD<|Wo<|Wc z (fun H=>?_) (fun H=>?_)
  ·exact Ws<|Rw z<|Wr<|rtO<|qL (som<|ifT L H).symm<|c_ hr z ⟨bup h s2,z⟩
  exact Wk<|Wg<|Rm z<|R z (inc_ J (lt_ (repS.len p1_0) A_) z z)<|Ra z<|Wl (fun _ q=>⟨(),(som<|ifF L H).symm,⟨q.k<|s3 z z z,bup h s2⟩⟩)
 ·rintro _ _ _ ⟨hSk,s9⟩;refine Wu ?_ hSk;refine Wq<|Wm z<|Rm z<|R z (lnR z_ z<|p1_0.e s9)<|Rl z z z<|Wx z (fun hc=>(Q_ hc).elim) (fun _=>?_)
  exact We<|fun a' ha'=>⟨rfl,⟨Sat.weaken ha' sn,s9⟩⟩
 ·rintro _ al _ rfl ⟨_,sm⟩;have hmn:=elL I;revert al;refine Wo<|Ws<|Rw z ?_
  obtain rfl:=som hmn;exact Wr<|c_ hr z ⟨sm,z⟩
 rintro _ _ _ _ rfl ⟨rfl,hqo⟩;have hmp:=elR I;obtain rfl:=som hmp;exact ⟨hqo,z⟩
theorem W_w4l {x1:g_}{x2:g_}{res:Bool}(hm:i_t x1 x2=some res)(hBw:B<=w0.z)(p1_0:x1.name.b.length<=LEN)(p1_1:inI x1.kind)(p1_2:inI x1.size)(L:repS w0 B (sl A9 N9 C9) x1.bytes)(O:repS w0 B (sl A8 N8 C8) x1.names)(V:repS w0 B (sl AA NA CA) x1.tags)(W:repS w0 B (sl AB NB CB) x1.kids)(p2_0:x2.name.b.length<=LEN)(p2_1:inI x2.kind)(p2_2:inI x2.size)(p2_4:repS w0 B (sl A4 N4 C4) x2.bytes)(p2_5:repS w0 B (sl A5 N5 C5) x2.names)(p2_6:repS w0 B (sl A2 N2 C2) x2.tags)(p2_7:repS w0 B (sl A6 N6 C6) x2.kids):h_ prog 260 [(.agg #[Str.v x1.name,vI x1.kind,vI x1.size,vB x1.little,sl A9 N9 C9,sl A8 N8 C8,sl AA NA CA,sl AB NB CB]),(.agg #[Str.v x2.name,vI x2.kind,vI x2.size,vB x2.little,sl A4 N4 C4,sl A5 N5 C5,sl A2 N2 C2,sl A6 N6 C6])] w0 (Q11 w0 B res):=by
 unfold i_t at hm
 refine goF func260 z z (lb z) fun fn hr=>Ws<|E z (fb z) ?_
 rintro _ wi ⟨rfl,hj⟩;have h1:=hj.below;refine E z (fb z) ?_;rintro _ Y ⟨rfl,hk⟩;have h:=hk.below;have h5:Blk Y wi.z (vR x2 A4 N4 C4 A5 N5 C5 A2 N2 C2 A6 N6 C6):=hk.blk;refine Rw z<|Wq<|Ws<|Rf z e_k z ?_
 have h6:=(hj.blk:Blk wi w0.z (vR x1 A9 N9 C9 A8 N8 C8 AA NA CA AB NB CB)).e h;refine R z (l0 g_9 z<|h6.at z)<|Rf z e_k z<|R z (l0 g_9 z<|h5.at z)<|R z (e_9 z z)<|Wx z (fun G=>?_) (fun G=>?_)
 ·refine Ws<|Rw z ?_
  obtain rfl:=som<|ifT hm G;exact Wr<|c_ hr z ⟨bup h1 h,z⟩
 have hml:=ifF hm G;refine Wk<|Wq<|Ws<|Rf z a_M z<|R z (l0 g_3 z<|h6.at z)<|Rf z a_M z<|R z (l0 g_3 z<|h5.at z)<|R z (nq z z)<|Wx z (fun H=>?_) (fun H=>?_)
 ·refine Ws<|Rw z ?_
  obtain rfl:=som<|ifT hml H;exact Wr<|c_ hr z ⟨bup h1 h,z⟩
 have hmm:=ifF hml H;refine Wk<|Wq<|Ws<|Rf z b_3 z<|R z (l0 g_3 z<|h6.at z)<|Rf z b_3 z<|R z (l0 g_3 z<|h5.at z)<|R z (nq z z)<|Wx z (fun I=>?_) (fun I=>?_)
 ·refine Ws<|Rw z ?_
  obtain rfl:=som<|ifT hmm I;exact Wr<|c_ hr z ⟨bup h1 h,z⟩
 have hmn:=ifF hmm I;refine Wk<|Wq<|Ws<|Rf z d_c z<|R z (l0 g_4 z<|h6.at z)<|Rf z d_c z<|R z (l0 g_4 z<|h5.at z)<|R z (r_I d_4 z z)<|Wx z (fun hca=>?_) (fun hca=>?_)
 ·refine Ws<|Rw z ?_
  obtain rfl:=som<|ifT hmn hca;exact Wr<|c_ hr z ⟨bup h1 h,z⟩
 refine Wk<|Wq<|Ws<|Rf z b_r z<|R z (l0 M_ z<|h6.at z)<|Rf z b_r z<|R z (l0 M_ z<|h5.at z) ?_
 have hb:=(h1.ag B).e h;have ho:=lt_ h1.s h.s;obtain ⟨_,a0,hmp⟩:=bdS<|ifF hmn hca;refine E z (fc call151 z<|W_w21 a0 (zt' hBw ho) (L.g hb)<|p2_4.g hb) ?_;rintro _ _ ⟨s2,rfl⟩;refine R z (not_ z)<|Wx z (fun hcc=>?_) (fun hcc=>?_)
 ·refine Ws<|Rw z ?_
  obtain rfl:=som<|ifT hmp hcc;exact Wr<|c_ hr z ⟨bup (bup h1 h) s2,z⟩
 refine Wk<|Wq<|Ws<|Rf z c_w z ?_
 have hq:=h6.e s2;refine R z (l0 a_J z<|hq.at z)<|Rf z c_w z ?_
 have ht:=h5.e s2;refine R z (l0 a_J z<|ht.at z) ?_;have hd:=hb.e s2;have hu:=lt_ ho s2.s;obtain ⟨_,a1,hmr⟩:=bdS<|ifF hmp hcc;refine E z (fc call274 z<|W_w4k a1 (zt' hBw hu) (O.g hd)<|p2_5.g hd) ?_;rintro _ _ ⟨s3,rfl⟩;refine R z (not_ z)<|Wx z (fun hce=>?_) (fun hce=>?_)
 ·refine Ws<|Rw z ?_
  obtain rfl:=som<|ifT hmr hce;exact Wr<|c_ hr z ⟨bup (bup (bup h1 h) s2) s3,z⟩
 refine Wk<|Wq<|Ws<|Rf z b_s z ?_
 have hv:=hq.e s3;refine R z (l0 I_ z<|hv.at z)<|Rf z b_s z ?_
 have hw:=ht.e s3;refine R z (l0 I_ z<|hw.at z) ?_;have hf:=hd.e s3;have hx:=lt_ hu s3.s;obtain ⟨_,a2,hms⟩:=bdS<|ifF hmr hce;refine E z (fc call275 z<|W_w22 a2 (zt' hBw hx) (V.g hf)<|p2_6.g hf) ?_;rintro _ _ ⟨s4,rfl⟩;refine R z (not_ z)<|Wx z (fun hcg=>?_) (fun hcg=>?_)
 ·refine Ws<|Rw z ?_
  obtain rfl:=som<|ifT hms hcg;exact Wr<|c_ hr z ⟨bup (bup (bup (bup h1 h) s2) s3) s4,z⟩
 refine Wk<|Wq<|Ws<|Rf z a_2 z<|R z (l0 I_ z<|(hv.e s4).at z)<|Rf z a_2 z<|R z (l0 I_ z<|(hw.e s4).at z) ?_
 have hy:=hf.e s4;obtain ⟨_,a3,hmz⟩:=bdS<|ifF hms hcg;refine E z (fc call275 z<|W_w22 a3 (zt' hBw<|lt_ hx s4.s) (W.g hy)<|p2_7.g hy) ?_;rintro _ _ ⟨J,rfl⟩;refine R z (not_ z)<|Wx z (fun hch=>?_) (fun hch=>?_)
 ·refine Ws<|Rw z ?_
  obtain rfl:=som<|ifT hmz hch;exact Wr<|c_ hr z ⟨bup (bup (bup (bup (bup h1 h) s2) s3) s4) J,z⟩
 refine Wk<|Ws<|Rw z ?_
 obtain rfl:=som<|ifF hmz hch;exact Wr<|c_ hr z ⟨bup (bup (bup (bup (bup h1 h) s2) s3) s4) J,z⟩
theorem W_w4m {x1:List g_}{x2:List g_}{res:Bool}(hm:k_Q x1 x2=some res)(hBw:B<=w0.z)(p1_0:repS w0 B (sl A0 N0 C0) x1)(p2_0:repS w0 B (sl A3 N3 C3) x2):h_ prog 220 [sl A0 N0 C0,sl A3 N3 C3] w0 (Q11 w0 B res):=by
 unfold k_Q at hm
 refine goF func220 z z (lb z) fun fn hr=>Ws<|Rw z<|Wq<|Wm z<|R z (lnR a_b z p1_0)<|Rm z<|R z (lnR a_b z p2_0)<|R z (nq z z)<|Wx z (fun H=>?_) (fun H=>?_)
 ·refine Ws<|Rw z ?_
  obtain rfl:=som<|ifT hm H;exact Wr<|c_ hr z ⟨br w0,z⟩
 refine Wk<|Wq<|Ws<|Rw z ?_
 obtain ⟨_,hub,J⟩:=bdS<|ifF hm H;refine Wf (σ:=Unit) (ρ:=Bool) (fun (k5:Nat)(_:Unit) a w=>Sat 27 [(0,sl A0 N0 C0),(1,sl A3 N3 C3),(5,vI ((k5:Nat):Int))] a/\Below w0.z w0 w) (fun (_:Unit) a w=>Sat 27 [] a/\Below w0.z w0 w) (fun r ex a w=>ex = .ret/\w_ prog fn (Q11 w0 B r) a w) hub ?_ ?_ ?_ ?_ ?_
 ·exact fun _ q=>⟨q.k<|s3 z z z,br w0⟩
 ·rintro k5 _ _ _ _ L ⟨hSc,G⟩ hmd;refine Wu ?_ hSc;refine Wq<|Wm z<|Rm z<|R z (lnR a_b z<|p1_0.e G)<|Rl z z z<|Wx z (fun _=>?_) (fun hc=>(P_ L hc).elim)
  refine Wk<|Wq<|Wb<|Wq (Wd (X:=noX) 0 (pl_ 10 [8]) mo (by kernel_rfl) fun aD s1 _=>dM z z z<|dM z z z ?_)
  obtain ⟨xe,eg,hmf⟩:=bdS hmd;have V:=(G.ag B).e s1;refine dRX z z (at_ (α:=g_) a_b u_ z z z (p1_0.g V) eg) ?_;rintro _ ⟨_,_,_,rfl,hh,hi,_⟩;obtain ⟨aj,nk,cl,am,nn,co,ap,nr,cq,au,ns,ct,rfl,hv,hw,hx,hy,hz,a3,a4⟩:=a_N hi;refine dR z z (lN (vs:=vR xe aj nk cl am nn co ap nr cq au ns ct) R_ u_ z z fid hh)<|dM z z z<|dM z z z ?_
  obtain ⟨a5,a6,W⟩:=bdS hmf;refine dRX z z (at_ (α:=g_) a_b u_ z z z (p2_0.g V) a6) ?_;rintro _ ⟨_,_,_,rfl,a7,a8,_⟩;obtain ⟨a9,aa,ab,ad,ae,af,ah,ai,ak,al,an,ao,rfl,aq,ar,av,aw,ax,ay,az⟩:=a_N a8;refine dR z z (lN (vs:=vR a5 a9 aa ab ad ae af ah ai ak al an ao) R_ u_ z z fid a7) ?_;obtain ⟨_,aA,O⟩:=bdS W;refine dE z z (fc call260 z<|W_w4l aA (zt' hBw<|lt_ G.s s1.s) hv hw hx hy hz a3 a4 aq ar av aw ax ay az) (.inr fun _ _ h=>F_<|h.1) ?_;rintro _ _ ⟨s9,rfl⟩;refine dR z z (not_ z)<|pD<|Wo<|Wc z (fun I=>?_) (fun I=>?_)
  ·exact Ws<|Rw z<|Wr<|rtO<|qL (som<|ifT O I).symm<|c_ hr z ⟨bup (bup G s1) s9,z⟩
  exact Wk<|Wg<|Rm z<|R z (inc_ L (lt_ (repS.len p1_0) A_) z z)<|Ra z<|Wl (fun _ q=>⟨(),(som<|ifF O I).symm,⟨q.k<|s3 z z z,bup (bup G s1) s9⟩⟩)
 ·rintro _ _ _ ⟨Y,sa⟩;refine Wu ?_ Y;refine Wq<|Wm z<|Rm z<|R z (lnR a_b z<|p1_0.e sa)<|Rl z z z<|Wx z (fun hc=>(Q_ hc).elim) (fun _=>?_)
  exact We<|fun a' ha'=>⟨rfl,⟨Sat.weaken ha' sn,sa⟩⟩
 ·rintro _ aB _ rfl ⟨_,aC⟩;have a0:=elL J;revert aB;refine Wo<|Ws<|Rw z ?_
  obtain rfl:=som a0;exact Wr<|c_ hr z ⟨aC,z⟩
 rintro _ _ _ _ rfl ⟨rfl,a1⟩;have a2:=elR J;obtain rfl:=som a2;exact ⟨a1,z⟩
theorem W_w4n {x1:e_}{x2:e_}{res:Bool}(hm:i_u x1 x2=some res)(hBw:B<=w0.z)(p1_0:repS w0 B (sl A0 N0 C0) x1.rules)(p2_0:repS w0 B (sl A3 N3 C3) x2.rules):h_ prog 186 [(.agg #[sl A0 N0 C0]),(.agg #[sl A3 N3 C3])] w0 (Q11 w0 B res):=by
 unfold i_u at hm
 refine goF func186 z z (lb z) fun fn hr=>Ws<|E z (fb z) ?_
 rintro _ I ⟨rfl,h4⟩;have h1:=h4.below;refine E z (fb z) ?_;rintro _ wa ⟨rfl,h5⟩;have h:=h5.below;refine Rw z<|Wq<|Ws<|Rf z a_o z<|R z (l0 a_q z<|((h4.blk:Blk I w0.z [sl A0 N0 C0]).e h).at z)<|Rf z a_o z<|R z (l0 a_q z<|(h5.blk:Blk wa I.z [sl A3 N3 C3]).at z) ?_
 have h6:=(h1.ag B).e h;obtain ⟨_,ec,H⟩:=bdS hm;refine E z (fc call220 z<|W_w4m ec (zt' hBw<|lt_ h1.s h.s) (p1_0.g h6)<|p2_0.g h6) ?_;rintro _ _ ⟨s8,rfl⟩;refine R z (not_ z)<|Wx z (fun G=>?_) (fun G=>?_)
 ·refine Ws<|Rw z ?_
  obtain rfl:=som<|ifT H G;exact Wr<|c_ hr z ⟨bup (bup h1 h) s8,z⟩
 refine Wk<|Ws<|Rw z ?_
 obtain rfl:=som<|ifF H G;exact Wr<|c_ hr z ⟨bup (bup h1 h) s8,z⟩
theorem W_w4o {x1:List e_}{x2:List e_}{res:Bool}(hm:j_9 x1 x2=some res)(hBw:B<=w0.z)(p1_0:repS w0 B (sl A0 N0 C0) x1)(p2_0:repS w0 B (sl A3 N3 C3) x2):h_ prog 150 [sl A0 N0 C0,sl A3 N3 C3] w0 (Q11 w0 B res):=by
 unfold j_9 at hm
 refine goF func150 z z (lb z) fun fn hr=>Ws<|Rw z<|Wq<|Wm z<|R z (lnR b_B z p1_0)<|Rm z<|R z (lnR b_B z p2_0)<|R z (nq z z)<|Wx z (fun H=>?_) (fun H=>?_)
 ·refine Ws<|Rw z ?_
  obtain rfl:=som<|ifT hm H;exact Wr<|c_ hr z ⟨br w0,z⟩
 refine Wk<|Wq<|Ws<|Rw z ?_
 obtain ⟨_,hub,J⟩:=bdS<|ifF hm H;refine Wf (σ:=Unit) (ρ:=Bool) (fun (k5:Nat)(_:Unit) a w=>Sat 27 [(0,sl A0 N0 C0),(1,sl A3 N3 C3),(5,vI ((k5:Nat):Int))] a/\Below w0.z w0 w) (fun (_:Unit) a w=>Sat 27 [] a/\Below w0.z w0 w) (fun r ex a w=>ex = .ret/\w_ prog fn (Q11 w0 B r) a w) hub ?_ ?_ ?_ ?_ ?_
 ·exact fun _ q=>⟨q.k<|s3 z z z,br w0⟩
 ·rintro k5 _ _ _ _ L ⟨hSc,G⟩ hmd;refine Wu ?_ hSc;refine Wq<|Wm z<|Rm z<|R z (lnR b_B z<|p1_0.e G)<|Rl z z z<|Wx z (fun _=>?_) (fun hc=>(P_ L hc).elim)
  refine Wk<|Wq<|Wb<|Wq (Wd (X:=noX) 0 (pl_ 10 [8]) mo (by kernel_rfl) fun Y s1 _=>dM z z z<|dM z z z ?_)
  obtain ⟨_,ee,hmf⟩:=bdS hmd;have V:=(G.ag B).e s1;refine dRX z z (at_ (α:=e_) b_B E_ z z z (p1_0.g V) ee) ?_;rintro _ ⟨_,_,_,rfl,hg,hh,_⟩;obtain ⟨ai,nj,ck,rfl,hl⟩:=d_B hh;refine dR z z (lN (vs:=[sl ai nj ck]) J_ E_ z z fid hg)<|dM z z z<|dM z z z ?_
  obtain ⟨_,em,hmn⟩:=bdS hmf;refine dRX z z (at_ (α:=e_) b_B E_ z z z (p2_0.g V) em) ?_;rintro _ ⟨_,_,_,rfl,ho,hp,_⟩;obtain ⟨aq,nr,cs,rfl,ht⟩:=d_B hp;refine dR z z (lN (vs:=[sl aq nr cs]) J_ E_ z z fid ho) ?_;obtain ⟨_,eu,O⟩:=bdS hmn;refine dE z z (fc call186 z<|W_w4n eu (zt' hBw<|lt_ G.s s1.s) hl ht) (.inr fun _ _ h=>F_<|h.1) ?_;rintro _ _ ⟨s9,rfl⟩;refine dR z z (not_ z)<|pD<|Wo<|Wc z (fun I=>?_) (fun I=>?_)
  ·exact Ws<|Rw z<|Wr<|rtO<|qL (som<|ifT O I).symm<|c_ hr z ⟨bup (bup G s1) s9,z⟩
  exact Wk<|Wg<|Rm z<|R z (inc_ L (lt_ (repS.len p1_0) A_) z z)<|Ra z<|Wl (fun _ q=>⟨(),(som<|ifF O I).symm,⟨q.k<|s3 z z z,bup (bup G s1) s9⟩⟩)
 ·rintro _ _ _ ⟨hSv,sa⟩;refine Wu ?_ hSv;refine Wq<|Wm z<|Rm z<|R z (lnR b_B z<|p1_0.e sa)<|Rl z z z<|Wx z (fun hc=>(Q_ hc).elim) (fun _=>?_)
  exact We<|fun a' ha'=>⟨rfl,⟨Sat.weaken ha' sn,sa⟩⟩
 ·rintro _ aw _ rfl ⟨_,sx⟩;have hmy:=elL J;revert aw;refine Wo<|Ws<|Rw z ?_
  obtain rfl:=som hmy;exact Wr<|c_ hr z ⟨sx,z⟩
 rintro _ _ _ _ rfl ⟨rfl,hqz⟩;have W:=elR J;obtain rfl:=som W;exact ⟨hqz,z⟩
theorem W_w4p {x1:a_j}{x2:a_j}{res:Bool}(hm:l_6 x1 x2=some res)(hBw:B<=w0.z)(p1_0:repS w0 B (sl A0 N0 C0) x1.versions)(p2_0:repS w0 B (sl A3 N3 C3) x2.versions):h_ prog 85 [(.agg #[sl A0 N0 C0]),(.agg #[sl A3 N3 C3])] w0 (Q11 w0 B res):=by
 unfold l_6 at hm
 refine goF func85 z z (lb z) fun fn hr=>Ws<|E z (fb z) ?_
 rintro _ I ⟨rfl,h4⟩;have h1:=h4.below;refine E z (fb z) ?_;rintro _ wa ⟨rfl,h5⟩;have h:=h5.below;refine Rw z<|Wq<|Ws<|Rf z c_j z<|R z (l0 c_v z<|((h4.blk:Blk I w0.z [sl A0 N0 C0]).e h).at z)<|Rf z c_j z<|R z (l0 c_v z<|(h5.blk:Blk wa I.z [sl A3 N3 C3]).at z) ?_
 have h6:=(h1.ag B).e h;obtain ⟨_,ec,H⟩:=bdS hm;refine E z (fc call150 z<|W_w4o ec (zt' hBw<|lt_ h1.s h.s) (p1_0.g h6)<|p2_0.g h6) ?_;rintro _ _ ⟨s8,rfl⟩;refine R z (not_ z)<|Wx z (fun G=>?_) (fun G=>?_)
 ·refine Ws<|Rw z ?_
  obtain rfl:=som<|ifT H G;exact Wr<|c_ hr z ⟨bup (bup h1 h) s8,z⟩
 refine Wk<|Ws<|Rw z ?_
 obtain rfl:=som<|ifF H G;exact Wr<|c_ hr z ⟨bup (bup h1 h) s8,z⟩
theorem W_w4q {x1:Log}{x2:Log}{res:Bool}(hm:l_7 x1 x2=some res)(hBw:B<=w0.z)(p1_0:repS w0 B (sl A0 N0 C0) x1.bytes)(p1_1:inI x1.stored)(p2_0:repS w0 B (sl A3 N3 C3) x2.bytes)(p2_1:inI x2.stored):h_ prog 86 [(.agg #[sl A0 N0 C0,vI x1.stored]),(.agg #[sl A3 N3 C3,vI x2.stored])] w0 (Q11 w0 B res):=by
 unfold l_7 at hm
 refine goF func86 z z (lb z) fun fn hr=>Ws<|E z (fb z) ?_
 rintro _ I ⟨rfl,h6⟩;have h1:=h6.below;refine E z (fb z) ?_;rintro _ we ⟨rfl,J⟩;have h:=J.below;have L:Blk we I.z [sl A3 N3 C3,vI x2.stored]:=J.blk;refine Rw z<|Wq<|Ws<|Rf z c_k z ?_
 have O:=(h6.blk:Blk I w0.z [sl A0 N0 C0,vI x1.stored]).e h;refine R z (l0 M_ z<|O.at z)<|Rf z c_k z<|R z (l0 M_ z<|L.at z) ?_
 have ha:=(h1.ag B).e h;obtain ⟨_,ef,hmb⟩:=bdS hm;refine E z (fc call151 z<|W_w21 ef (zt' hBw<|lt_ h1.s h.s) (p1_0.g ha)<|p2_0.g ha) ?_;rintro _ _ ⟨s2,rfl⟩;refine R z (not_ z)<|Wx z (fun G=>?_) (fun G=>?_)
 ·refine Ws<|Rw z ?_
  obtain rfl:=som<|ifT hmb G;exact Wr<|c_ hr z ⟨bup (bup h1 h) s2,z⟩
 have hmc:=ifF hmb G;refine Wk<|Wq<|Ws<|Rf z e_l z<|R z (l0 g_3 z<|(O.e s2).at z)<|Rf z e_l z<|R z (l0 g_3 z<|(L.e s2).at z)<|R z (nq z z)<|Wx z (fun H=>?_) (fun H=>?_)
 ·refine Ws<|Rw z ?_
  obtain rfl:=som<|ifT hmc H;exact Wr<|c_ hr z ⟨bup (bup h1 h) s2,z⟩
 refine Wk<|Ws<|Rw z ?_
 obtain rfl:=som<|ifF hmc H;exact Wr<|c_ hr z ⟨bup (bup h1 h) s2,z⟩
theorem W_w4r {x1:L_}{x2:L_}{res:Bool}(hm:j_a x1 x2=some res)(hBw:B<=w0.z)(p1_0:repS w0 B (sl A0 N0 C0) x1.registry.versions)(p1_1:repS w0 B (sl A1 N1 C1) x1.log.bytes)(p1_2:inI x1.log.stored)(p2_0:repS w0 B (sl A3 N3 C3) x2.registry.versions)(p2_1:repS w0 B (sl AC NC CC) x2.log.bytes)(p2_2:inI x2.log.stored):h_ prog 28 [(.agg #[sl A0 N0 C0,sl A1 N1 C1,vI x1.log.stored]),(.agg #[sl A3 N3 C3,sl AC NC CC,vI x2.log.stored])] w0 (Q11 w0 B res):=by
 unfold j_a at hm
 refine goF func28 z z (lb z) fun fn hr=>Ws<|E z (fb z) ?_
 rintro _ I ⟨rfl,J⟩;have h2:=J.below;refine E z (fb z) ?_;rintro _ wh ⟨rfl,L⟩;have h1:=L.below;have O:Blk wh I.z [sl A3 N3 C3,sl AC NC CC,vI x2.log.stored]:=L.blk;refine Rw z<|Wq<|Ws<|Rf z d_v z ?_
 have ha:=(J.blk:Blk I w0.z [sl A0 N0 C0,sl A1 N1 C1,vI x1.log.stored]).e h1;refine R z (lN (vs:=[sl A0 N0 C0]) f_x e_m z z fid<|ha.row 0 1 z)<|Rf z d_v z<|R z (lN (vs:=[sl A3 N3 C3]) f_x e_m z z fid<|O.row 0 1 z) ?_
 have h3:=(h2.ag B).e h1;have hb:=lt_ h2.s h1.s;obtain ⟨_,ei,hmc⟩:=bdS hm;refine E z (fc call85 z<|W_w4p (B:=B) (x1:=(⟨x1.registry.versions⟩:a_j)) (x2:=(⟨x2.registry.versions⟩:a_j)) ei (zt' hBw hb) (p1_0.g h3)<|p2_0.g h3) ?_;rintro _ _ ⟨h,rfl⟩;refine R z (not_ z)<|Wx z (fun G=>?_) (fun G=>?_)
 ·refine Ws<|Rw z ?_
  obtain rfl:=som<|ifT hmc G;exact Wr<|c_ hr z ⟨bup (bup h2 h1) h,z⟩
 refine Wk<|Wq<|Ws<|Rf z d_d z<|R z (lN (vs:=[sl A1 N1 C1,vI x1.log.stored]) e_S d_V z z fid<|(ha.e h).row 1 2 z)<|Rf z d_d z<|R z (lN (vs:=[sl AC NC CC,vI x2.log.stored]) e_S d_V z z fid<|(O.e h).row 1 2 z) ?_
 have hd:=h3.e h;obtain ⟨_,ej,hme⟩:=bdS<|ifF hmc G;refine E z (fc call86 z<|W_w4q (B:=B) (x1:=(⟨x1.log.bytes,x1.log.stored⟩:Log)) (x2:=(⟨x2.log.bytes,x2.log.stored⟩:Log)) ej (zt' hBw<|lt_ hb h.s) (p1_1.g hd) p1_2 (p2_1.g hd) p2_2) ?_;rintro _ _ ⟨sf,rfl⟩;refine R z (not_ z)<|Wx z (fun H=>?_) (fun H=>?_)
 ·refine Ws<|Rw z ?_
  obtain rfl:=som<|ifT hme H;exact Wr<|c_ hr z ⟨bup (bup (bup h2 h1) h) sf,z⟩
 refine Wk<|Ws<|Rw z ?_
 obtain rfl:=som<|ifF hme H;exact Wr<|c_ hr z ⟨bup (bup (bup h2 h1) h) sf,z⟩
def v_6 (w0:World)(B:Zone)(r:Bool)(v:Value)(w':World):Prop:=Bw w0 w'/\(fun h=>(vB h)=v) r
theorem v_7 {x1:L_}{x2:Str}{res:Bool}(hm:h_F n x1 x2=some res)(hBw:B<=w0.z)(hG:Gl w0 B)(p1_0:repS w0 B (sl A0 N0 C0) x1.registry.versions)(p1_1:repS w0 B (sl A1 N1 C1) x1.log.bytes)(p1_2:inI x1.log.stored)(p2_0:x2.b.length<=LEN):h_ prog 5 [(.agg #[sl A0 N0 C0,sl A1 N1 C1,vI x1.log.stored]),Str.v x2] w0 (v_6 w0 B res):=by
 unfold h_F at hm
 refine goF func5 z z (lb z) fun fn hr=>Ws<|E z (fb z) ?_
 rintro _ a8 ⟨rfl,ht⟩;have G:=ht.below;have hd:Blk a8 w0.z [sl A0 N0 C0,sl A1 N1 C1,vI x1.log.stored]:=ht.blk;refine Rw z<|Wq<|Wm z<|R z (lnT d_9 z)<|R z (Z_ z z)<|Wx z (fun hce=>?_) (fun hce=>?_)
 ·refine Ws<|Rw z ?_
  obtain rfl:=som<|ifT hm hce;exact Wr<|c_ hr z ⟨G,z⟩
 refine Wk<|Ws<|Rw z<|Ws<|R z (lN (vs:=[sl A0 N0 C0,sl A1 N1 C1,vI x1.log.stored]) g_62 z_62 z z fid<|hd.row 0 3 z)<|Rm z ?_
 obtain ⟨_,a9,hms⟩:=bdS<|ifF hm hce;refine E z (fc call24 z<|W_w2a a9 (zt' hBw G.s) (p1_0.e G) (p1_1.e G) p1_2<|ii z) ?_;rintro _ _ ⟨s4,rfl,_⟩;refine Rw z<|Wq<|Wm z<|Rl z z z<|Wx z (fun hcf=>?_) (fun hcf=>?_)
 ·refine Ws<|Rw z ?_
  obtain rfl:=som<|ifT hms hcf;exact Wr<|c_ hr z ⟨bup G s4,z⟩
 refine Wk<|Ws ?_
 have hu:=hd.e s4;refine R z (lN (vs:=[sl A0 N0 C0,sl A1 N1 C1,vI x1.log.stored]) g_62 z_62 z z fid<|hu.row 0 3 z) ?_;have hg:=(G.ag B).e s4;have hv:=lt_ G.s s4.s;obtain ⟨_,aa,a4⟩:=bdS<|ifF hms hcf;refine E z (fc call26 z<|m_k aa (zt' hBw hv) (p1_0.g hg) (p1_1.g hg) p1_2) ?_;rintro _ ab ⟨s6,_,_,_,_,_,_,_,_,rfl,ad,ae,af,_,_⟩;refine Rm z ?_;obtain ⟨_,ah,a5⟩:=bdS a4;refine E z (fc call25 z<|W_w3b (B:=ab.z) ah zr (a_.rep ad) (a_.rep ae) af p2_0) ?_;rintro _ _ ⟨s7,rfl,_⟩;refine Rw z<|Ws ?_
 have hw:=(hu.e s6).e s7;refine R z (lN (vs:=[sl A0 N0 C0,sl A1 N1 C1,vI x1.log.stored]) g_62 z_62 z z fid<|hw.row 0 3 z) ?_;have hh:=(hg.e s6).e s7;have hx:=lt_ (lt_ hv s6.s) s7.s;obtain ⟨ri,ai,a6⟩:=bdS a5;refine E z (fc call26 z<|m_k ai (zt' hBw hx) (p1_0.g hh) (p1_1.g hh) p1_2) ?_;rintro _ wj ⟨s8,ak,nl,cm,_,an,no,cp,_,rfl,hb,hc,hy,_,_⟩;refine E z (fa m_i) ?_;rintro _ aj ⟨rfl,hz⟩;have h1:=hz.below;refine E0 (fs (cur':=[sl ak nl cm,sl an no cp,vI ri.log.stored]) d_w z z (hz.blk:Blk aj wj.z [sl none 0 0,sl none 0 0,vI 0]) z (lb z) (oA z) z) ?_;rintro _ _ ⟨L,al⟩;have h2:=al.one;refine Wn<|Ws<|R z (lN (vs:=[sl ak nl cm,sl an no cp,vI ri.log.stored]) e_i d_w z z fid<|L.row 0 3 z)<|Rm z ?_
 have O:=(hb.e h1).c h2<|ds<|mnr<|a_.lt hb
 have V:=(hc.e h1).c h2<|ds<|mnr<|a_.lt hc
 have H:=lt_ hx s8.s;have W:=zt' hBw H;have Y:∀k∈[wj.z],¬B k:=or0 (d_ lr)<|n_ W;have a0:=lt_ h1.s h2.s;obtain ⟨_,am,I⟩:=bdS a6;refine E z (fc call27 z<|W_w4j (B:=wj.z) am (a_T a0) ((((((((hG.e G).e s4).e s6).e s7).e s8).e h1).c h2<|f_ Y).mono W) (or_ O<|a_.lt hb) (or_ V<|a_.lt hc) hy p2_0) ?_;rintro _ _ ⟨s3,rfl,_⟩;refine Rw z<|Wq<|Wm z<|Rm z<|R z (nq z z)<|Wx z (fun hcq=>?_) (fun hcq=>?_)
 ·refine Ws<|Rw z ?_
  obtain rfl:=som<|ifT I hcq;exact Wr<|c_ hr z ⟨bup (bM (bup (bup (bup (bup (bup G s4) s6) s7) s8) h1) h2<|m1 H) s3,z⟩
 refine Wk<|Wq<|Wq (Wd (X:=noX) 0 (pl_ 5 [2,3]) mo (by kernel_rfl) fun aw s5 _=>dR z z (lN (vs:=[sl ak nl cm,sl an no cp,vI ri.log.stored]) e_i d_w z z fid<|((L.e s3).e s5).row 0 3 z)<|dR z z (lN (vs:=[sl A0 N0 C0,sl A1 N1 C1,vI x1.log.stored]) g_62 z_62 z z fid<|(((((hw.e s8).e h1).c h2<|djs<|mm1 hd.lt<|lt_ (lt_ (lt_ s4.s s6.s) s7.s) s8.s).e s3).e s5).row 0 3 z) ?_)
 have a1:=((((hh.e s8).e h1).c h2<|f_ Y).e s3).e s5;obtain ⟨_,ao,a7⟩:=bdS<|ifF I hcq;refine dE z z (fc call26 z<|m_k ao (zt' hBw<|lt_ (lt_ (lt_ (lt_ H h1.s) h2.s) s3.s) s5.s) (p1_0.g a1) (p1_1.g a1) p1_2) (.inr fun _ _ h=>F_<|h.1) ?_;rintro _ ap ⟨sa,_,_,_,_,_,_,_,_,rfl,aq,ar,au,_,_⟩;have a2:=lt_ (lt_ (lt_ a0 s3.s) s5.s) sa.s;obtain ⟨_,av,J⟩:=bdS a7;refine dE z z (fc call28 z<|W_w4r (B:=ap.z) av zr (repS.mono (or_ (((O.e s3).e s5).e sa)<|a_.lt hb)<|a_T a2) (repS.mono (or_ (((V.e s3).e s5).e sa)<|a_.lt hc)<|a_T a2) hy (a_.rep aq) (a_.rep ar) au) (.inr fun _ _ h=>F_<|h.1) ?_;rintro _ _ ⟨a3,rfl⟩;refine dR z z (not_ z)<|pD<|Wo<|Wc z (fun hcr=>?_) (fun hcr=>?_)
 ·refine Ws<|Rw z ?_
  obtain rfl:=som<|ifT J hcr;exact Wr<|c_ hr z ⟨bup (bup (bup (bup (bM (bup (bup (bup (bup (bup G s4) s6) s7) s8) h1) h2<|m1 H) s3) s5) sa) a3,z⟩
 refine Wk<|Ws<|Rw z ?_
 obtain rfl:=som<|ifF J hcr;exact Wr<|c_ hr z ⟨bup (bup (bup (bup (bM (bup (bup (bup (bup (bup G s4) s6) s7) s8) h1) h2<|m1 H) s3) s5) sa) a3,z⟩
end Go.Vw
