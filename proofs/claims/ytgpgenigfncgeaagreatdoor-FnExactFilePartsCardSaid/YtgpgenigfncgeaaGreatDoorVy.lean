
import Derived.Test.YtgpgenigfncgeaaGreatDoorVx
set_option linter.unusedVariables false
namespace Go.Vw
open Go.RowKit Dat Go.Proofs
open Go.Proofs.Tryz
open Go.Vw renaming a_i->Wq,a_J->Wg,WC.of_KC->Wo,a_k->Wl,c_e->Wc,c_N->Wr,g_l->Wu,k_h->pT,k_i->pF,h_H->fd,b_J->l1,k_t->lN,b_g->mv,c_Z->asg,g_e->lnR,f_t->lss,h_M->eql,h_I->ext_,k_j->bP,h_J->add_,g_c->inc_,d_W->not_,g_f->at_,e_F->fc,a_V->fs,e_E->fb,d_J->fa,k_b->sr,k_f->cr,k_g->cM,c_s->bM,k_4->iS,k_3->iA,k_6->br,b_6->oA,k_7->bs,ltge->lg,inor->io,g_o->nq,k_v->lnT,k_w->sb_,k_9->ar_,k_8->al_,k_a->ds,l_a->m1,k_d->nr_,k_c->nl_,h_v->aa_,all_nil->an_,d_h->Wb,h_u->u8,j_E->pD,f_X->We,k_5->Wt,f_Y->fS,f_j->or_,k_r->Wf,k_o->qL,j_D->Wd,h_x->fN,h_w->na_,k_e->nj,e_M->f0,g_g->rX,k_k->tl_,k_l->ic
variable {A0:Option Addr}{N0 C0:Nat}{B:Zone}{w0:World}{A9:Option Addr}{A8:Option Addr}{AA:Option Addr}{AB:Option Addr}{N9 C9:Nat}{N8 C8:Nat}{NA CA:Nat}{NB CB:Nat}{A1:Option Addr}{N1 C1:Nat}{n:Nat}{AD:Option Addr}{ND CD:Nat}{A4:Option Addr}{N4 C4:Nat}{AH:Option Addr}{NH CH:Nat}{A3:Option Addr}{A5:Option Addr}{A2:Option Addr}{A6:Option Addr}{N3 C3:Nat}{N5 C5:Nat}{N2 C2:Nat}{N6 C6:Nat}{A7:Option Addr}{N7 C7:Nat}{AE:Option Addr}{NE CE:Nat}{AK:Option Addr}{AL:Option Addr}{NK CK:Nat}{NL CL:Nat}{AC:Option Addr}{NC CC:Nat}
theorem W_w4i {x1:List Str}{x2:List Str}{res:Bool}(hm:l_l x1 x2=some res)(a3:B<=w0.z)(W:repS w0 B (sl A0 N0 C0) x1)(Y:repS w0 B (sl A4 N4 C4) x2):h_ prog 104 [sl A0 N0 C0,sl A4 N4 C4] w0 (Q11 w0 B res):=by
 unfold l_l at hm
 refine goG func104 z z z λfn hr=>Ws<|Rw z<|Wm z<|R z (lnR F_ z Y)<|R z (add_ z z) ?_
 obtain ⟨_,bf,aH⟩:=bdS hm;refine E z (d_n (α:=Bool) j_H (λ_=>b_C) bf z z) ?_;rintro _ _ ⟨bg,bh,bi,rfl,sz,am⟩;refine Rw z<|Wm z ?_
 obtain ⟨_,an,aI⟩:=bdS aH;refine RX z (b_c (α:=Bool) b_9 z_4 z z am an) ?_;rintro _ ⟨_,bj,rfl⟩;refine E0 (b_7 (α:=Bool) z_4 z bj z z z an am Z_ b_C an_ G_) ?_;rintro _ wi ⟨Sm,a5,bk,bm,_⟩;refine Wn<|Wq<|Wm z ?_
 have a6:=(sz.ag B).c a5<|g_ (or0 (e_ lr) (n_ a3):∀k∈[w0.z],¬B k)
 refine R z (lnR j_O z<|W.g a6)<|Rm z<|Wn ?_
 obtain ⟨_,aJ,ad⟩:=bdS aI;refine Wf (σ:=List Bool) (ρ:=Bool) (λ(k7:Nat)(xe:List Bool) a w=>∃I J L Sd,Sat 82 [(0,sl A0 N0 C0),(1,sl A4 N4 C4),(5,sl I J L),(16,vI (x1.length:Int)),(17,vI ((k7:Nat):Int))] a/\Below wi.z wi w/\a_ w Sd (sl I J L) xe/\Sd.Nodup/\(∀k∈Sd,k∈Sm∨wi.z<=k)) (λ(xe:List Bool) a w=>∃I J L Sd,Sat 82 [(1,sl A4 N4 C4),(5,sl I J L)] a/\Below wi.z wi w/\a_ w Sd (sl I J L) xe/\Sd.Nodup/\(∀k∈Sd,k∈Sm∨wi.z<=k)) (rQ prog fn<|Q11 w0 B) aJ ?_ ?_ ?_ ?_ ?_
 .exact λ_ q=>⟨bg,bh,bi,Sm,q.k<|s5 z z z z z,br wi,bk,bm,io sr⟩
 .rintro k7 xe _ H _ a0 ⟨I,J,L,Sd,aK,sn,hf,a7,a8⟩ aL;refine Wu ?_ aK;refine Ws<|Rl z z z<|Wn<|Wq<|Wc z (λ_=>?_) (λhc=>(O_ a0 hc).elim)
  refine Wk<|Wq<|Wb<|Wm z<|Rw z<|Wm z ?_
  have ao:=a6.e sn;refine R z (lnR F_ z<|Y.g ao)<|R z (add_ z z) ?_
  obtain ⟨_,bn,aM⟩:=bdS aL;refine E z (d_n (α:=Bool) j_H (λ_=>b_C) bn z z) ?_;rintro _ O ⟨V,na,cb,rfl,st,bo⟩;refine Rw z<|Wq<|Wm z ?_
  have aa:=hf.e st;refine R z (lnR b_9 z<|or_ aa<|a_.lt hf)<|Rm z<|Wn ?_
  obtain ⟨_,aN,ae⟩:=bdS aM;refine Wf (σ:=List Bool) (ρ:=Bool) (λ(kl:Nat)(xk:List Bool) a w=>∃(h:List Nat),Sat 82 [(0,sl A0 N0 C0),(1,sl A4 N4 C4),(5,sl I J L),(6,vI ((k7:Nat):Int)),(7,sl V na cb),(16,vI (x1.length:Int)),(17,vI ((k7:Nat):Int)),(25,vI (xe.length:Int)),(26,vI ((kl:Nat):Int))] a/\Cg [H.z] O w/\a_ w h (sl V na cb) xk/\h.Nodup/\(∀k∈h,k∈[H.z]∨O.z<=k)) (λ(xk:List Bool) a w=>∃(h:List Nat),Sat 82 [(0,sl A0 N0 C0),(1,sl A4 N4 C4),(7,sl V na cb),(16,vI (x1.length:Int)),(17,vI ((k7:Nat):Int))] a/\Cg [H.z] O w/\a_ w h (sl V na cb) xk/\h.Nodup/\(∀k∈h,k∈[H.z]∨O.z<=k)) (rQ prog fn<|Q11 w0 B) aN ?_ ?_ ?_ ?_ ?_
  .exact λ_ q=>⟨[H.z],q.k<|s9 z z z z z z z z z,cr [H.z] O,bo,Z_,io sr⟩
  .rintro kl xk _ G _ af ⟨h,aO,so,h3,hj,hu⟩ aP;refine Wu ?_ aO;refine Ws<|Rl z z z<|Wn<|Wq<|Wc z (λ_=>?_) (λhc=>(O_ af hc).elim)
   refine Wk<|Wq<|Wb<|Wm z<|Rw z<|Wb<|Wm z<|Rm z ?_
   obtain ⟨_,bp,aQ⟩:=bdS aP;have ap:=lt_ (lt_ sz.s a5.s) sn.s;have aq:=(ao.e st).c so<|g_ (or0 (e_ lr) (n_<|zt' a3 ap):∀k∈[H.z],¬B k)
   have ar:=W.g aq;refine RX z (at_ (α:=Str) j_O z_9 z z z ar bp) ?_;rintro _ ⟨_,_,_,rfl,bq,bt,_⟩;obtain ⟨rfl,_⟩:=a_n bt;refine R z (l0 g_9 z<|bq.at0 z)<|R z (a_M z z)<|Rw z ?_
   obtain ⟨bu,ah,aR⟩:=bdS aQ;refine Wt (λa w=>∃(xv:List Bool),xv=bu/\∃(Sp:List Nat),Sat 82 [(0,sl A0 N0 C0),(1,sl A4 N4 C4),(5,sl I J L),(6,vI ((k7:Nat):Int)),(7,sl V na cb),(16,vI (x1.length:Int)),(17,vI ((k7:Nat):Int)),(25,vI (xe.length:Int)),(26,vI ((kl:Nat):Int))] a/\Cg h G w/\a_ w Sp (sl V na cb) xv/\Sp.Nodup/\(∀k∈Sp,k∈h∨G.z<=k)) ?_ ?_
   .refine Wc z (λa1=>?_)<|λa1=>?_
    .obtain ⟨bv,aS,aT⟩:=bdS<|ifT ah a1;refine Wt (λa w=>∃(xw:List Bool),xw=bv/\∃(Sq:List Nat),Sat 82 [(0,sl A0 N0 C0),(1,sl A4 N4 C4),(5,sl I J L),(6,vI ((k7:Nat):Int)),(7,sl V na cb),(16,vI (x1.length:Int)),(17,vI ((k7:Nat):Int)),(25,vI (xe.length:Int)),(26,vI ((kl:Nat):Int))] a/\Cg h G w/\a_ w Sq (sl V na cb) xw/\Sq.Nodup/\(∀k∈Sq,k∈h∨G.z<=k)) ?_ ?_
     .refine Wg<|RM z z<|RM z z ?_
      obtain ⟨bw,bx,ai⟩:=bdS aS;refine RX z (at_ (α:=Bool) b_9 z_4 z z z (or_ (aa.c so<|ds<|mnr<|a_.lt hf)<|a_.lt hf) bx) ?_;rintro _ ⟨_,_,_,rfl,bz,bA,_⟩;obtain rfl:=e_m bA;refine R z (l0 g_4 z<|bz.at0 z)<|Rm z ?_
      rcases bs bw with hcc | hcc
      .iterate 3 refine Nh z hcc ?_
       refine Nv z<|Nv z<|Nv z<|Nv z<|Nv z<|Nh z hcc<|R z (pT z hcc z) ?_
       obtain ⟨bB,au,aU⟩:=bdS<|ifT ai hcc;refine RX z (b_c (α:=Bool) b_9 z_4 z z h3 au) ?_;rintro _ ⟨_,bC,rfl⟩;refine E0 (b_7 (α:=Bool) z_4 z bC z z z au h3 hj b_C an_ G_) ?_;rintro _ bD ⟨av,bE,bF,bG,bH⟩;refine Wl ?_;exact λ_ q=>⟨bB,som aU,av,q.k<|s9 z z z z z z z z z,(cM (cr h G) bE (io sr):Cg h G bD),bF,bG,(or2 bH (io sr) an_ (j_ lr):∀k∈av,k∈h∨G.z<=k)⟩
      have aj:=ifF ai hcc;refine Rh z hcc (mv z)<|Rh z hcc (X_ z z)<|Rh z hcc (mv z) ?_
      rcases bs (decide<|0<((kl:Nat):Int)) with hcg | hcg
      .refine Rh z hcg (mv z)<|Rh z hcg (mv z)<|Rh z hcg (sb_ z z) ?_
       obtain ⟨_,bI,aV⟩:=bdS<|ifT aj hcg;refine RXg z z hcg z (at_ (α:=Bool) b_9 z_4 z z z (a_.rep h3) bI) ?_;rintro _ ⟨_,_,_,rfl,bJ,bK,_⟩;obtain rfl:=e_m bK;refine Rh z hcg (l0 g_4 z<|bJ.at0 z)<|Rh z hcc (pT z hcg z)<|R z (pF z hcc z) ?_
       obtain ⟨bL,aw,aW⟩:=bdS aV;refine RX z (b_c (α:=Bool) b_9 z_4 z z h3 aw) ?_;rintro _ ⟨_,bN,rfl⟩;refine E0 (b_7 (α:=Bool) z_4 z bN z z z aw h3 hj b_C an_ G_) ?_;rintro _ bO ⟨ax,bP,bQ,bR,bS⟩;refine Wl ?_;exact λ_ q=>⟨bL,som aW,ax,q.k<|s9 z z z z z z z z z,(cM (cr h G) bP (io sr):Cg h G bO),bQ,bR,(or2 bS (io sr) an_ (j_ lr):∀k∈ax,k∈h∨G.z<=k)⟩
      iterate 5 refine Nh z hcg ?_
      refine Rh z hcc (pF z hcg z)<|R z (pF z hcc z) ?_
      obtain ⟨bT,ay,aX⟩:=bdS<|ifF aj hcg;refine RX z (b_c (α:=Bool) b_9 z_4 z z h3 ay) ?_;rintro _ ⟨_,bU,rfl⟩;refine E0 (b_7 (α:=Bool) z_4 z bU z z z ay h3 hj b_C an_ G_) ?_;rintro _ bV ⟨az,bW,bX,bY,bZ⟩;refine Wl ?_;exact λ_ q=>⟨bT,som aX,az,q.k<|s9 z z z z z z z z z,(cM (cr h G) bW (io sr):Cg h G bV),bX,bY,(or2 bZ (io sr) an_ (j_ lr):∀k∈az,k∈h∨G.z<=k)⟩
     rintro c0 c1 ⟨xw,rfl,Sq,_,c2,c3,c4,c5⟩;revert c0;exact λ_ q=>⟨xw,som aT,Sq,q.k<|s9 z z z z z z z z z,(cM (cr h G) c2 (io sr):Cg h G c1),c3,c4,(or1 c5 (io sr) (j_ lr):∀k∈Sq,k∈h∨G.z<=k)⟩
    refine Wm z<|R z (X_ z z)<|Rw z ?_
    obtain ⟨c7,ak,aY⟩:=bdS<|ifF ah a1;refine Wt (λa w=>∃(xx:List Bool),xx=c7/\∃(Sr:List Nat),Sat 82 [(0,sl A0 N0 C0),(1,sl A4 N4 C4),(5,sl I J L),(6,vI ((k7:Nat):Int)),(7,sl V na cb),(16,vI (x1.length:Int)),(17,vI ((k7:Nat):Int)),(25,vI (xe.length:Int)),(26,vI ((kl:Nat):Int))] a/\Cg h G w/\a_ w Sr (sl V na cb) xx/\Sr.Nodup/\(∀k∈Sr,k∈h∨G.z<=k)) ?_ ?_
    .refine Wc z (λa2=>?_)<|λa2=>?_
     .obtain ⟨c8,aZ,b0⟩:=bdS<|ifT ak a2;refine Wt (λa w=>∃(xy:List Bool),xy=c8/\∃(Ss:List Nat),Sat 82 [(0,sl A0 N0 C0),(1,sl A4 N4 C4),(5,sl I J L),(6,vI ((k7:Nat):Int)),(7,sl V na cb),(16,vI (x1.length:Int)),(17,vI ((k7:Nat):Int)),(25,vI (xe.length:Int)),(26,vI ((kl:Nat):Int))] a/\Cg h G w/\a_ w Ss (sl V na cb) xy/\Ss.Nodup/\(∀k∈Ss,k∈h∨G.z<=k)) ?_ ?_
      .refine Wg<|RM z z<|RM z z<|R z (sb_ z z) ?_
       obtain ⟨c9,ca,al⟩:=bdS aZ;refine RX z (at_ (α:=Bool) b_9 z_4 z z z (or_ (aa.c so<|ds<|mnr<|a_.lt hf)<|a_.lt hf) ca) ?_;rintro _ ⟨_,_,_,rfl,cc,cd,_⟩;obtain rfl:=e_m cd;refine R z (l0 g_4 z<|cc.at0 z)<|Rm z ?_
       rcases bs c9 with hch | hch
       .iterate 4 refine Rh z hch (mv z) ?_
        refine Rh z hch (sb_ z z) ?_;obtain ⟨_,ce,b1⟩:=bdS<|ifT al hch;refine RXg z z hch z (at_ (α:=Str) F_ z_9 z z z (Y.g aq) ce) ?_;rintro _ ⟨_,_,_,rfl,cf,cg,_⟩;obtain ⟨rfl,ch⟩:=a_n cg;refine Rh z hch (l0 g_9 z<|cf.at0 z) ?_;obtain ⟨_,ci,b2⟩:=bdS b1;refine Eg z z hch z (fc call139 z<|W_w4h ci (zt' a3<|lt_ (lt_ ap st.s) so.s) ar (ic (Nat.le_of_lt a0)<|lt_ (repS.len W) z_) ch) ?_;rintro _ cj ⟨ab,rfl⟩;refine R z (pT z hch z) ?_;obtain ⟨ck,aA,b3⟩:=bdS b2;have aB:=h3.e ab;refine RX z (b_c (α:=Bool) b_9 z_4 z z aB aA) ?_;rintro _ ⟨_,cl,rfl⟩;refine E0 (b_7 (α:=Bool) z_4 z cl z z z aA aB hj b_C an_ G_) ?_;rintro _ cm ⟨aC,cn,co,cp,cq⟩;refine Wl ?_;exact λ_ q=>⟨ck,som b3,aC,q.k<|s9 z z z z z z z z z,(cM (i_ (cr h G) ab:Cg h G cj) cn (io sr):Cg h G cm),co,cp,(or2 cq (io sr) an_ (j_ ab.s):∀k∈aC,k∈h∨G.z<=k)⟩
       iterate 8 refine Nh z hch ?_
       refine R z (pF z hch z) ?_;obtain ⟨ct,aD,b4⟩:=bdS<|ifF al hch;refine RX z (b_c (α:=Bool) b_9 z_4 z z h3 aD) ?_;rintro _ ⟨_,cu,rfl⟩;refine E0 (b_7 (α:=Bool) z_4 z cu z z z aD h3 hj b_C an_ G_) ?_;rintro _ cv ⟨aE,cw,cx,cy,cz⟩;refine Wl ?_;exact λ_ q=>⟨ct,som b4,aE,q.k<|s9 z z z z z z z z z,(cM (cr h G) cw (io sr):Cg h G cv),cx,cy,(or2 cz (io sr) an_ (j_ lr):∀k∈aE,k∈h∨G.z<=k)⟩
      rintro cA cB ⟨xy,rfl,Ss,_,cC,cD,cE,cF⟩;revert cA;exact λ_ q=>⟨xy,som b0,Ss,q.k<|s9 z z z z z z z z z,(cM (cr h G) cC (io sr):Cg h G cB),cD,cE,(or1 cF (io sr) (j_ lr):∀k∈Ss,k∈h∨G.z<=k)⟩
     exact a_j<|λ_ q=>⟨xk,som<|ifF ak a2,h,q.k<|s9 z z z z z z z z z,cr h G,h3,hj,io sr⟩
    rintro cG cH ⟨xx,rfl,Sr,_,cI,cJ,cK,cL⟩;revert cG;exact λ_ q=>⟨xx,som aY,Sr,q.k<|s9 z z z z z z z z z,(cM (cr h G) cI (io sr):Cg h G cH),cJ,cK,(or1 cL (io sr) (j_ lr):∀k∈Sr,k∈h∨G.z<=k)⟩
   rintro cN cO ⟨xv,rfl,Sp,_,cP,cQ,cR,cS⟩;revert cN;refine Wo<|Wg<|R z (inc_ af (lt_ (a_.len hf) z_) z z)<|Rm z<|Wl ?_
   have aF:∀k∈h,k∈[H.z]∨O.z<=k:=or1 hu (io sr)<|j_ lr;exact λ_ q=>⟨xv,(som aR).symm,⟨Sp,q.k<|s9 z z z z z z z z z,(cM (cM (cr [H.z] O) so (io sr):Cg [H.z] O G) cP aF:Cg [H.z] O cO),cQ,cR,(or1 cS aF (j_ so.s):∀k∈Sp,k∈[H.z]∨O.z<=k)⟩⟩
  .rintro xk _ cT ⟨h,b5,cU,h3,hj,hu⟩;refine Wu ?_ b5;refine Ws<|Rl z z z<|Wn<|Wq<|Wc z (λhc=>(P_ hc).elim) (λ_=>?_)
   exact We<|λ_ q=>⟨rfl,⟨h,q.k<|s5 z z z z z,(cM (cr [H.z] O) cU (io sr):Cg [H.z] O cT),h3,hj,(or1 hu (io sr) (j_ lr):∀k∈h,k∈[H.z]∨O.z<=k)⟩⟩
  .rintro xk cV _ rfl ⟨h,_,cW,h3,hj,hu⟩;have b6:=elL ae;revert cV;refine Wo<|Wg<|Rm z<|Rw z<|Wg<|R z (inc_ a0 (lt_ (repS.len W) z_) z z)<|Rm z<|Wl ?_
   exact λ_ q=>⟨xk,(som b6).symm,⟨V,na,cb,h,q.k<|s5 z z z z z,bM (bup sn st) cW<|m1 sn.s,h3,hj,(or1 hu (mor sn.s:∀k∈[H.z],k∈Sm∨wi.z<=k) (j_<|lt_ sn.s st.s):∀k∈h,k∈Sm∨wi.z<=k)⟩⟩
  rintro _ _ _ _ rfl ⟨rfl,b7⟩;have b8:=elR ae;exact ⟨f_6<|f_r (som b8).symm ⟨rfl,b7⟩,z⟩
 .rintro xe _ _ ⟨I,J,L,Sd,b9,cX,hf,a7,a8⟩;refine Wu ?_ b9;refine Ws<|Rl z z z<|Wn<|Wq<|Wc z (λhc=>(P_ hc).elim) (λ_=>?_)
  exact We<|λ_ q=>⟨rfl,⟨I,J,L,Sd,q.k<|s2 z z,cX,hf,a7,(or1 a8 (io sr) (j_ lr):∀k∈Sd,k∈Sm∨wi.z<=k)⟩⟩
 .rintro xe cY _ rfl ⟨I,J,L,Sd,_,aG,hf,a7,a8⟩;have ba:=elL ad;revert cY;refine Wo<|Wm z<|Rm z<|R z (lnR F_ z<|Y.g<|a6.e aG) ?_
  obtain ⟨_,cZ,bb⟩:=bdS ba;refine RX z (at_ (α:=Bool) b_9 z_4 z z z (a_.rep hf) cZ) ?_;rintro _ ⟨_,_,_,rfl,d0,d1,_⟩;obtain rfl:=e_m d1;refine R z (l0 g_4 z<|d0.at0 z)<|Rw z ?_
  obtain rfl:=som bb;exact Wr<|c_ hr z ⟨bup (bM sz a5<|e_ lr) aG,z⟩
 rintro _ _ _ _ rfl ⟨rfl,bc⟩;have be:=elR ad;obtain rfl:=som be;exact ⟨bc,z⟩
theorem W_w4j {x1:List Str}{x2:List Str}{res:Bool}(hm:j_4 x1 x2=some res)(H:B<=w0.z)(h:repS w0 B (sl A0 N0 C0) x1)(G:repS w0 B (sl A4 N4 C4) x2):h_ prog 73 [sl A0 N0 C0,sl A4 N4 C4] w0 (Q11 w0 B res):=by
 unfold j_4 at hm
 refine goG func73 z z z λfn hr=>Ws<|Rw z<|Wm z<|Rm z ?_
 obtain ⟨_,J,I⟩:=bdS hm;refine E z (fc call104 z<|W_w4i (B:=B) J H h G) ?_;rintro _ _ ⟨s2,rfl⟩;refine Rw z ?_
 obtain rfl:=som I;exact Wr<|c_ hr z ⟨s2,z⟩
theorem W_w4k {x1:Str}{x2:Str}{res:Bool}(hm:j_5 n x1 x2=some res)(I:B<=w0.z)(O:x1.b.length<=LEN)(V:x2.b.length<=LEN):h_ prog 45 [Str.v x1,Str.v x2] w0 (Q11 w0 B res):=by
 unfold j_5 at hm
 refine goG func45 z z z λfn hr=>Ws<|Rw z<|Wm z ?_
 obtain ⟨_,W,ea,hmb⟩:=Y_ hm;refine E z (fc call71 z<|W_w4e (B:=B) ea I O) ?_;rintro _ _ ⟨s5,_,_,_,_,rfl,h6,_,_⟩;refine Rm z<|Re z z z<|Re z z z<|Ra z<|Rw z<|Wm z ?_
 obtain ⟨_,rc,ed,hme⟩:=Y_ hmb;refine E z (fc call72 z<|W_w4g ed (zt' I s5.s) V) ?_;rintro _ H ⟨s3,_,_,_,_,rfl,hf,_,_⟩;refine Rm z<|Re z z z<|Re z z z<|Ra z<|Rw z<|Wq ?_
 obtain ⟨ug,J,hmh⟩:=bdS hme;refine Wt (λa w=>∃(x4:Bool),x4=ug/\Sat 28 [(4,vB x4)] a/\Below H.z H w) ?_ ?_
 .refine Wg<|RM z z ?_
  rcases bs W with G | G
  .have L:=ifT J G;refine Rh z G (mv z)<|R z (pT z G z)<|Rm z ?_
   rcases bs rc with h | h
   .refine Rh z h (mv z)<|Rh z h (mv z) ?_
    obtain ⟨ri,ej,hmk⟩:=bdS<|ifT L h;refine Eg z z h z (fc call73 z<|W_w4j (B:=H.z) ej zr (repS.mono (or_ (h6.e s3)<|a_.lt h6)<|a_K s3.s)<|a_.rep hf) ?_;rintro _ _ ⟨sl,rfl⟩;exact R z (pT z h z)<|Ra z<|Wl (λ_ q=>⟨ri,som hmk,q.k<|s1 z,sl⟩)
   iterate 3 refine Nh z h ?_
   exact R z (pF z h z)<|Ra z<|Wl (λ_ q=>⟨false,som<|ifF L h,q.k<|s1 z,br H⟩)
  exact Nh z G<|R z (pF z G z)<|Rm z<|Nh z z<|Nh z z<|Nh z z<|R z (pF z z z)<|Ra z<|Wl (λ_ q=>⟨false,som<|ifF J G,q.k<|s1 z,br H⟩)
 rintro am _ ⟨x4,rfl,_,sn⟩;revert am;refine Wo ?_;obtain rfl:=som hmh;exact Wr<|c_ hr z ⟨bup (bup s5 s3) sn,z⟩
theorem W_w4l {x1:l_}{x2:Str}{h H:Nat}{res:Bool}(hm:l_m n x1 x2=some res)(L:B<=w0.z)(I:x1.path.b.length<=LEN)(a0:inI x1.rule)(a1:inI x1.start)(a2:inI x1.end_)(J:x2.b.length<=LEN)(O:R_ w0 h H [Str.v x2])(a3:B h):h_ prog 44 [(.agg #[Str.v x1.path,vI x1.rule,vI x1.start,vI x1.end_]),(.pointer<|some ⟨h,H,none⟩)] w0 (Q11 w0 B res):=by
 unfold l_m at hm
 refine goG func44 z z z λfn hr=>Ws<|E z (fb z) ?_
 rintro _ W ⟨rfl,h1⟩;have G:=h1.below;refine Rw z<|Ws<|R z (l0 g_9 z<|(O.e G).at0 z)<|Rf z g_6 z<|R z (l0 g_9 z<|(h1.blk:Blk W w0.z [Str.v x1.path,vI x1.rule,vI x1.start,vI x1.end_]).at z) ?_
 obtain ⟨_,Y,V⟩:=bdS hm;refine E z (fc call45 z<|W_w4k Y (zt' L G.s) J I) ?_;rintro _ _ ⟨s6,rfl⟩;refine Rw z ?_
 obtain rfl:=som V;exact Wr<|c_ hr z ⟨bup G s6,z⟩
theorem W_w4m {x1:List l_}{a1:Str}{W Y:Nat}{res:(List l_)}(hm:l_n n x1 a1=some res)(a4:B<=w0.z)(a2:repS w0 B (sl A0 N0 C0) x1)(p2c0_0:a1.b.length<=LEN)(aa:R_ w0 W Y [Str.v a1])(a0:B W):h_ prog 43 [sl A0 N0 C0,(.func (.func 44) #[] #[(.pointer<|some ⟨W,Y,none⟩)])] w0 (Q25 w0 B res):=by
 unfold l_n at hm
 refine goG func43 z z z λfn hr=>Ws<|Rw z<|Ws<|E z (f0 (α:=l_) c_g) ?_
 rintro _ G ⟨ap,aq,ar,rfl,s9,au⟩;refine Rw z<|Wq<|Wm z<|R z (lnR b_5 z<|a2.e s9)<|Rm z<|Wn ?_
 obtain ⟨_,ab,hms⟩:=bdS hm;refine Wf (σ:=List l_) (ρ:=List l_) (λ(km:Nat)(V:List l_) a w=>∃H I J h,Sat 24 [(1,.func (.func 44) #[] #[(.pointer<|some ⟨W,Y,none⟩)]),(5,sl H I J),(9,sl A0 N0 C0),(10,vI (x1.length:Int)),(11,vI ((km:Nat):Int))] a/\Cg [w0.z] G w/\a_ w h (sl H I J) V/\h.Nodup/\(∀k∈h,k∈[w0.z]∨G.z<=k)) (λ(V:List l_) a w=>∃H I J h,Sat 24 [(5,sl H I J)] a/\Cg [w0.z] G w/\a_ w h (sl H I J) V/\h.Nodup/\(∀k∈h,k∈[w0.z]∨G.z<=k)) (rQ prog fn<|Q25 w0 B) ab ?_ ?_ ?_ ?_ ?_
 .exact λ_ q=>⟨ap,aq,ar,[w0.z],q.k<|s5 z z z z z,cr [w0.z] G,au,Z_,io sr⟩
 .rintro km V _ wh _ hkv ⟨H,I,J,h,ad,sa,O,hb,hf⟩ ae;refine Wu ?_ ad;refine Ws<|Rl z z z<|Wn<|Wq<|Wc z (λ_=>?_) (λhc=>(O_ hkv hc).elim)
  refine Wk<|Wq<|Wb<|Ws ?_
  obtain ⟨x2,av,af⟩:=bdS ae;have hw:∀k∈[w0.z],¬B k:=or0 (e_ lr)<|n_ a4;refine RX z (at_ (α:=l_) b_5 b_x z z z (a2.g<|(s9.ag B).c sa<|g_ hw) av) ?_;rintro _ ⟨_,_,_,rfl,aw,ax,_⟩;obtain ⟨rfl,hn,ho,hp,hq⟩:=e_d ax;refine R z (lN (vs:=[Str.v x2.path,vI x2.rule,vI x2.start,vI x2.end_]) f_Z b_x z z fid aw)<|E z (fa s_7) ?_
  rintro _ wx ⟨rfl,hy⟩;have hd:=hy.below;refine E0 (fs0 (cur':=[Str.v x2.path,vI x2.rule,vI x2.start,vI x2.end_]) b_x z z (hy.blk:Blk wx wh.z [(Str.v (⟨[]⟩:Str)),vI 0,vI 0,vI 0]) z z z z) ?_;rintro _ ay ⟨hz,az⟩;have he:=az.one;refine Wn<|Wm z<|R z (lN (vs:=[Str.v x2.path,vI x2.rule,vI x2.start,vI x2.end_]) f_Z b_x z z fid<|hz.row 0 4 z) ?_
  have a6:=lt_ s9.s sa.s;obtain ⟨_,aA,ah⟩:=bdS af;refine E z (h_s call44 z z<|W_w4l aA (zt' a4<|lt_ (lt_ a6 hd.s) he.s) hn ho hp hq p2c0_0 ((((aa.e s9).c sa<|(g_ hw) _ a0).e hd).c he<|(g_ (or0 (e_ lr) (n_<|zt' a4 a6):∀k∈[wh.z],¬B k)) _ a0) a0) ?_;rintro _ L ⟨sg,rfl⟩;refine Wn ?_;obtain ⟨aB,a5,ai⟩:=bdS ah;refine Wt (λa w=>∃(xi:List l_),xi=aB/\∃aj nk cl Sc,Sat 24 [(1,.func (.func 44) #[] #[(.pointer<|some ⟨W,Y,none⟩)]),(5,sl aj nk cl),(9,sl A0 N0 C0),(10,vI (x1.length:Int)),(11,vI ((km:Nat):Int))] a/\Cg h L w/\a_ w Sc (sl aj nk cl) xi/\Sc.Nodup/\(∀k∈Sc,k∈h∨L.z<=k)) ?_ ?_
  .refine Wc z (λhcr=>?_)<|λhcr=>?_
   .refine Wg<|Rm z<|R z (lN (vs:=[Str.v x2.path,vI x2.rule,vI x2.start,vI x2.end_]) f_Z b_x z z fid<|(hz.e sg).row 0 4 z)<|E z (fS [(.tmp 19)] c_g z z z (a_v z) (lb z)<|lb z) ?_
    rintro _ a7 ⟨rfl,ht⟩;have hu:=ht.below;have aW:=b_D ht<|d_i (x:=x2) hn ho hp hq
    obtain ⟨aC,aD,ak⟩:=bdS<|ifT a5 hcr;refine E z (b_l (α:=l_) c_g aD z z ((((O.e hd).c he<|ds<|mnr<|a_.lt O).e sg).e hu) hb (ht.blk:Blk a7 L.z [Str.v x2.path,vI x2.rule,vI x2.start,vI x2.end_]) (d_i (x:=x2) hn ho hp hq) an_ G_) ?_;rintro _ aE ⟨a8,aF,aG,aH,rfl,aI,aJ,aK,aL⟩;refine Ra z<|Wl ?_
    exact λ_ q=>⟨aC,som ak,aF,aG,aH,a8,q.k<|s5 z z z z z,(cM (i_ (cr h L) hu:Cg h L a7) aI (io sr):Cg h L aE),aJ,aK,(or2 aL (io sr) an_ (j_ hu.s):∀k∈a8,k∈h∨L.z<=k)⟩
   exact a_j<|λ_ q=>⟨V,som<|ifF a5 hcr,H,I,J,h,q.k<|s5 z z z z z,cr h L,((O.e hd).c he<|ds<|mnr<|a_.lt O).e sg,hb,io sr⟩
  rintro aM aN ⟨xi,rfl,aj,nk,cl,Sc,_,aO,aP,aQ,aR⟩;revert aM;refine Wo<|Wg<|R z (inc_ hkv (lt_ (repS.len a2) z_) z z)<|Rm z<|Wl ?_
  have a9:∀k∈h,k∈[w0.z]∨G.z<=k:=or1 hf (io sr)<|j_ lr;exact λ_ q=>⟨xi,(som ai).symm,⟨aj,nk,cl,Sc,q.k<|s5 z z z z z,(cM (i_ (cM (i_ (cM (cr [w0.z] G) sa (io sr):Cg [w0.z] G wh) hd:Cg [w0.z] G wx) he (mor sa.s:∀k∈[wh.z],k∈[w0.z]∨G.z<=k):Cg [w0.z] G ay) sg:Cg [w0.z] G L) aO a9:Cg [w0.z] G aN),aP,aQ,(or1 aR a9 (j_<|lt_ (lt_ (lt_ sa.s hd.s) he.s) sg.s):∀k∈Sc,k∈[w0.z]∨G.z<=k)⟩⟩
 .rintro V _ aS ⟨H,I,J,h,al,aT,O,hb,hf⟩;refine Wu ?_ al;refine Ws<|Rl z z z<|Wn<|Wq<|Wc z (λhc=>(P_ hc).elim) (λ_=>?_)
  exact We<|λ_ q=>⟨rfl,⟨H,I,J,h,q.k<|s1 z,(cM (cr [w0.z] G) aT (io sr):Cg [w0.z] G aS),O,hb,(or1 hf (io sr) (j_ lr):∀k∈h,k∈[w0.z]∨G.z<=k)⟩⟩
 .rintro V aU _ rfl ⟨H,I,J,h,_,aV,O,hb,hf⟩;have am:=elL hms;revert aU;refine Wo<|Wm z<|Rw z ?_
  obtain rfl:=som am;exact Wr<|c_ hr z ⟨bM s9 aV<|e_ lr,H,I,J,h,z,O,hb,(or1 hf (e_ lr) (a_W s9.s):∀k∈h,w0.z<=k)⟩
 rintro _ _ _ _ rfl ⟨rfl,an⟩;have ao:=elR hms;obtain rfl:=som ao;exact ⟨an,z⟩
theorem W_w4n {x1:f_}{x2:Bt}{x3:Str}{res:(List l_)}(hm:j_6 n x1 x2 x3=some res)(Y:B<=w0.z)(hG:Gl w0 B)(O:repS w0 B (sl A0 N0 C0) x1.rules)(V:repS w0 B (sl A4 N4 C4) x2)(W:x3.b.length<=LEN):h_ prog 22 [(.agg #[sl A0 N0 C0]),sl A4 N4 C4,Str.v x3] w0 (Q25 w0 B res):=by
 unfold j_6 at hm
 refine goG func22 z z z λfn hr=>Ws<|E z (fb z) ?_
 rintro _ H ⟨rfl,h6⟩;have h2:=h6.below;refine E z (fb z) ?_;rintro _ wd ⟨rfl,I⟩;have h:=I.below;have J:Blk wd H.z [Str.v x3]:=I.blk;refine Rw z<|Ws<|R z (lN (vs:=[sl A0 N0 C0]) L_ D_ z z fid<|((h6.blk:Blk H w0.z [sl A0 N0 C0]).e h).row 0 1 z)<|Rm z ?_
 have L:=(h2.ag B).e h;have h3:=lt_ h2.s h.s;obtain ⟨_,_,ee,hma⟩:=Y_ hm;refine E z (fc call42 z<|W_w4b ee (zt' Y h3) ((hG.e h2).e h) (O.g L)<|V.g L) ?_;rintro _ wb ⟨s1,_,_,_,_,rfl,hf,_,_⟩;refine Rm z<|Re z z z<|Re z z z<|Ra z<|Rw z<|Wq<|Wm z<|R z (not_ z)<|Wx z (λG=>?_) (λG=>?_)
 .refine Ws<|E z (f0 (α:=l_) c_g) ?_
  rintro _ _ ⟨ah,ng,ci,rfl,sj,hk⟩;refine Rw z ?_
  obtain rfl:=som<|ifT hma G;exact Wr<|c_ hr z ⟨bup (bup (bup h2 h) s1) sj,ah,ng,ci,[wb.z],z,hk,Z_,m1<|lt_ h3 s1.s⟩
 refine Wk<|Wm z<|R z (k_2 z) ?_
 obtain ⟨_,el,hmm⟩:=bdS<|ifF hma G;refine E z (fc call43 z<|W_w4m (B:=wb.z) el zr (a_.rep hf) W ((J.e s1).row 0 1 z)<|zap' (a_K s1.s) J.lt) ?_;rintro _ _ ⟨sn,ao,np,cq,Sr,rfl,ht,hu,hv⟩;refine Rw z ?_
 obtain rfl:=som hmm;exact Wr<|c_ hr z ⟨bup (bup (bup h2 h) s1) sn,ao,np,cq,Sr,z,ht,hu,o_ hv<|lt_ h3 s1.s⟩
theorem W_w23 {x1:J_}{x2:Str}{x3:Str}{res:(List l_)}(hm:g_F n x1 x2 x3=some res)(L:B<=w0.z)(hG:Gl w0 B)(V:repS w0 B (sl A0 N0 C0) x1.registry.versions)(W:repS w0 B (sl A1 N1 C1) x1.log.bytes)(Y:inI x1.log.stored)(aK:x2.b.length<=LEN)(a0:x3.b.length<=LEN):h_ prog 7 [(.agg #[sl A0 N0 C0,sl A1 N1 C1,vI x1.log.stored]),Str.v x2,Str.v x3] w0 (Q25 w0 B res):=by
 unfold g_F at hm
 refine goG func7 z z z λfn hr=>Ws<|E z (fb z) ?_
 rintro _ I ⟨rfl,he⟩;have h1:=he.below;have O:Blk I w0.z [sl A0 N0 C0,sl A1 N1 C1,vI x1.log.stored]:=he.blk;refine Rw z<|Wq<|Ws<|R z (lN (vs:=[sl A0 N0 C0,sl A1 N1 C1,vI x1.log.stored]) d_K c_S z z fid<|O.row 0 3 z) ?_
 have hf:=hG.e h1;obtain ⟨rs,ev,hmw⟩:=bdS hm;refine E z (fc call21 z<|W_w45 ev (zt' L h1.s) hf (V.e h1) (W.e h1) Y) ?_;rintro _ H ⟨s3,ax,ny,cz,rfl,ha⟩;refine R z (lnR b_O z ha)<|Rm z<|Wn ?_
 obtain ⟨_,a1,hmg⟩:=bdS hmw;refine Wf (σ:=Unit) (ρ:=List l_) (λ(kh:Nat)(_:Unit) a w=>Sat 33 [(1,Str.v x2),(2,Str.v x3),(3,pt w0.z),(10,sl ax ny cz),(11,vI (rs.length:Int)),(12,vI ((kh:Nat):Int))] a/\Below H.z H w) (λ(_:Unit) a w=>Sat 33 [] a/\Below H.z H w) (rQ prog fn<|Q25 w0 B) a1 ?_ ?_ ?_ ?_ ?_
 .exact λ_ q=>⟨q.k<|s6 z z z z z z,br H⟩
 .rintro kh _ _ wb _ hki ⟨a2,G⟩ a3;refine Wu ?_ a2;refine Ws<|Rl z z z<|Wn<|Wq<|Wc z (λ_=>?_) (λhc=>(O_ hki hc).elim)
  refine Wk<|Wq<|Wb<|Ws ?_
  obtain ⟨J,aa,hmj⟩:=bdS a3;refine RX z (at_ (α:=r_) b_O b_4 z z z (ha.e G) aa) ?_;rintro _ ⟨_,_,_,rfl,ab,ad,_⟩;obtain ⟨ak,nl,cm,rfl,_,_,ae⟩:=f_l ad;refine R z (lN (vs:=[Str.v J.name,vI J.version,sl ak nl cm]) e_H b_4 z z fid ab)<|E z (fa g_7) ?_
  rintro _ af ⟨rfl,hn⟩;have h4:=hn.below;refine E0 (fs0 (cur':=[Str.v J.name,vI J.version,sl ak nl cm]) b_4 z z (hn.blk:Blk af wb.z [(Str.v (⟨[]⟩:Str)),vI 0,sN]) z z z z) ?_;rintro _ _ ⟨ho,ah⟩;have h5:=ah.one;refine Wn<|Ws<|Rf z j_K z<|R z (l0 g_9 z<|ho.at z)<|Rm z<|R z (a_M z z)<|Wx z (λhcc=>?_) (λhcc=>?_)
  .refine Wq (Wd (X:=noX) 0 (pl_ 12 [10]) mo (by kernel_rfl) λaL s7 _=>dR z z (fd c_P z)<|dR z z (fd c_5 z)<|dR z z (l0 c_f z<|(((((O.e s3).e G).e h4).c h5<|djs<|mm1 O.lt<|lt_ s3.s G.s).e s7).at z)<|dR z z (fd n_O z) ?_);have hp:=ho.e s7;refine dR z z (l0 g_3 z<|hp.at z) ?_;obtain ⟨_,ai,a4⟩:=bdS<|ifT hmj hcc;have hd:=lt_ (lt_ h1.s s3.s) G.s;have hq:=zt' L hd;have ht:∀k∈[wb.z],¬B k:=or0 (e_ lr)<|n_ hq;refine dRX z z (at_ (α:=f_) b_r D_ z z z (V.g<|(((((h1.ag B).e s3).e G).e h4).c h5<|g_ ht).e s7) ai) ?_;rintro _ ⟨_,_,_,rfl,aj,al,_⟩;obtain ⟨am,an,ao,rfl,ap⟩:=d_H al;refine dR z z (lN (vs:=[sl am an ao]) L_ D_ z z fid aj)<|dR z z (fd n_P z)<|dR z z (l0 K_ z<|hp.at z)<|dM z z z ?_
   have hu:=lt_ (lt_ (lt_ hd h4.s) h5.s) s7.s;obtain ⟨_,aq,a5⟩:=bdS a4;refine dE z z (fc call22 z<|W_w4n (B:=zn B I.z H.z) aq (e_P (zt' L hu)<|lt_ (lt_ (lt_ G.s h4.s) h5.s) s7.s) ((((((hf.e s3).e G).e h4).c h5<|g_ ht).e s7).mono d_o) (repS.mono ap d_o) (ae.g<|((h4.ag<|zn B I.z H.z).c h5<|g_ (or0 (e_ lr) (c_X (n_ hq) G.s):∀k∈[wb.z],¬(zn B I.z H.z) k)).e s7) a0) (.inr λ_ _ h=>E_<|h.1) ?_;rintro _ _ ⟨ar,au,av,aw,ay,rfl,az,aA,aB⟩;exact dQ z z z<|pD<|Wo<|Wr<|rtO<|qL (som a5).symm<|c_ hr z ⟨bup (bup (bM (bup (bup (bup h1 s3) G) h4) h5<|m1 hd) s7) ar,au,av,aw,ay,z,az,aA,o_ aB hu⟩
  exact Wk<|Wg<|R z (inc_ hki (lt_ (repS.len ha) z_) z z)<|Rm z<|Wl (λ_ q=>⟨(),(som<|ifF hmj hcc).symm,⟨q.k<|s6 z z z z z z,bM (bup G h4) h5<|m1 G.s⟩⟩)
 .rintro _ _ _ ⟨a6,aC⟩;refine Wu ?_ a6;refine Ws<|Rl z z z<|Wn<|Wq<|Wc z (λhc=>(P_ hc).elim) (λ_=>?_)
  exact We<|λ_ q=>⟨rfl,⟨q.k sn,aC⟩⟩
 .rintro _ aD aE rfl ⟨_,sr⟩;have a7:=elL hmg;revert aD;refine Wo<|Ws<|E z (f0 (α:=l_) c_g) ?_
  rintro _ _ ⟨aF,aG,aH,rfl,aI,aJ⟩;refine Rw z ?_
  obtain rfl:=som a7;exact Wr<|c_ hr z ⟨bup (bup (bup h1 s3) sr) aI,aF,aG,aH,[aE.z],z,aJ,Z_,m1<|lt_ (lt_ h1.s s3.s) sr.s⟩
 rintro _ _ _ _ rfl ⟨rfl,a8⟩;have a9:=elR hmg;obtain rfl:=som a9;exact ⟨a8,z⟩
theorem W_w4o {x1:l_}{x2:l_}{res:Bool}(hm:j_7 x1 x2=some res)(a5:B<=w0.z)(V:x1.path.b.length<=LEN)(W:inI x1.rule)(Y:inI x1.start)(a0:inI x1.end_)(a1:x2.path.b.length<=LEN)(a2:inI x2.rule)(a3:inI x2.start)(a4:inI x2.end_):h_ prog 23 [(.agg #[Str.v x1.path,vI x1.rule,vI x1.start,vI x1.end_]),(.agg #[Str.v x2.path,vI x2.rule,vI x2.start,vI x2.end_])] w0 (Q11 w0 B res):=by
 unfold j_7 at hm
 refine goG func23 z z z λfn hr=>Ws<|E z (fb z) ?_
 rintro _ L ⟨rfl,O⟩;have h1:=O.below;refine E z (fb z) ?_;rintro _ wf ⟨rfl,ha⟩;have h:=ha.below;have h2:Blk wf L.z [Str.v x2.path,vI x2.rule,vI x2.start,vI x2.end_]:=ha.blk;refine Rw z<|Wq<|Ws<|Rf z g_6 z ?_
 have h3:=(O.blk:Blk L w0.z [Str.v x1.path,vI x1.rule,vI x1.start,vI x1.end_]).e h;refine R z (l0 g_9 z<|h3.at z)<|Rf z g_6 z<|R z (l0 g_9 z<|h2.at z)<|R z (d_q z z)<|Wx z (λG=>?_) (λG=>?_)
 .refine Ws<|Rw z ?_
  obtain rfl:=som<|ifT hm G;exact Wr<|c_ hr z ⟨bup h1 h,z⟩
 have hmb:=ifF hm G;refine Wk<|Wq<|Ws<|Rf z j_L z<|R z (l0 g_3 z<|h3.at z)<|Rf z j_L z<|R z (l0 g_3 z<|h2.at z)<|R z (nq z z)<|Wx z (λH=>?_) (λH=>?_)
 .refine Ws<|Rw z ?_
  obtain rfl:=som<|ifT hmb H;exact Wr<|c_ hr z ⟨bup h1 h,z⟩
 have hmc:=ifF hmb H;refine Wk<|Wq<|Ws<|Rf z j_M z<|R z (l0 g_3 z<|h3.at z)<|Rf z j_M z<|R z (l0 g_3 z<|h2.at z)<|R z (nq z z)<|Wx z (λI=>?_) (λI=>?_)
 .refine Ws<|Rw z ?_
  obtain rfl:=som<|ifT hmc I;exact Wr<|c_ hr z ⟨bup h1 h,z⟩
 have hmd:=ifF hmc I;refine Wk<|Wq<|Ws<|Rf z h_q z<|R z (l0 g_3 z<|h3.at z)<|Rf z h_q z<|R z (l0 g_3 z<|h2.at z)<|R z (nq z z)<|Wx z (λJ=>?_) (λJ=>?_)
 .refine Ws<|Rw z ?_
  obtain rfl:=som<|ifT hmd J;exact Wr<|c_ hr z ⟨bup h1 h,z⟩
 refine Wk<|Ws<|Rw z ?_
 obtain rfl:=som<|ifF hmd J;exact Wr<|c_ hr z ⟨bup h1 h,z⟩
theorem m_g {x1:List l_}{x2:List l_}{res:Bool}(hm:f_U x1 x2=some res)(a2:B<=w0.z)(G:repS w0 B (sl A0 N0 C0) x1)(L:repS w0 B (sl A4 N4 C4) x2):h_ prog 8 [sl A0 N0 C0,sl A4 N4 C4] w0 (Q11 w0 B res):=by
 unfold f_U at hm
 refine goG func8 z z z λfn hr=>Ws<|Rw z<|Wq<|Wm z<|R z (lnR b_5 z G)<|Rm z<|R z (lnR b_5 z L)<|R z (nq z z)<|Wx z (λI=>?_) (λI=>?_)
 .refine Ws<|Rw z ?_
  obtain rfl:=som<|ifT hm I;exact Wr<|c_ hr z ⟨br w0,z⟩
 refine Wk<|Wq<|Ws<|Rw z ?_
 obtain ⟨_,hud,O⟩:=bdS<|ifF hm I;refine Wf (σ:=Unit) (ρ:=Bool) (λ(k7:Nat)(_:Unit) a w=>Sat 27 [(0,sl A0 N0 C0),(1,sl A4 N4 C4),(5,vI ((k7:Nat):Int))] a/\Below w0.z w0 w) (λ(_:Unit) a w=>Sat 27 [] a/\Below w0.z w0 w) (rQ prog fn<|Q11 w0 B) hud ?_ ?_ ?_ ?_ ?_
 .exact λ_ q=>⟨q.k<|s3 z z z,br w0⟩
 .rintro k7 _ _ _ _ V ⟨hSe,H⟩ hmf;refine Wu ?_ hSe;refine Wq<|Wm z<|Rm z<|R z (lnR b_5 z<|G.e H)<|Rl z z z<|Wx z (λ_=>?_) (λhc=>(O_ V hc).elim)
  refine Wk<|Wq<|Wb<|Wq (Wd (X:=noX) 0 (pl_ 10 [8]) mo (by kernel_rfl) λa3 s1 _=>dM z z z<|dM z z z ?_)
  obtain ⟨x3,eg,hmh⟩:=bdS hmf;have W:=(H.ag B).e s1;refine dRX z z (at_ (α:=l_) b_5 b_x z z z (G.g W) eg) ?_;rintro _ ⟨_,_,_,rfl,hi,hj,_⟩;obtain ⟨rfl,hk,hl,hn,ho⟩:=e_d hj;refine dR z z (lN (vs:=[Str.v x3.path,vI x3.rule,vI x3.start,vI x3.end_]) f_Z b_x z z fid hi)<|dM z z z<|dM z z z ?_
  obtain ⟨x4,em,hmp⟩:=bdS hmh;refine dRX z z (at_ (α:=l_) b_5 b_x z z z (L.g W) em) ?_;rintro _ ⟨_,_,_,rfl,hq,ht,_⟩;obtain ⟨rfl,hu,hv,hw,hx⟩:=e_d ht;refine dR z z (lN (vs:=[Str.v x4.path,vI x4.rule,vI x4.start,vI x4.end_]) f_Z b_x z z fid hq) ?_;obtain ⟨_,er,hma⟩:=bdS hmp;refine dE z z (fc call23 z<|W_w4o er (zt' a2<|lt_ H.s s1.s) hk hl hn ho hu hv hw hx) (.inr λ_ _ h=>E_<|h.1) ?_;rintro _ _ ⟨sb,rfl⟩;refine dR z z (not_ z)<|pD<|Wo<|Wc z (λJ=>?_) (λJ=>?_)
  .exact Ws<|Rw z<|Wr<|rtO<|qL (som<|ifT hma J).symm<|c_ hr z ⟨bup (bup H s1) sb,z⟩
  exact Wk<|Wg<|Rm z<|R z (inc_ V (lt_ (repS.len G) z_) z z)<|Ra z<|Wl (λ_ q=>⟨(),(som<|ifF hma J).symm,⟨q.k<|s3 z z z,bup (bup H s1) sb⟩⟩)
 .rintro _ _ _ ⟨hSs,sc⟩;refine Wu ?_ hSs;refine Wq<|Wm z<|Rm z<|R z (lnR b_5 z<|G.e sc)<|Rl z z z<|Wx z (λhc=>(P_ hc).elim) (λ_=>?_)
  exact We<|λ_ q=>⟨rfl,⟨q.k sn,sc⟩⟩
 .rintro _ ay _ rfl ⟨_,sz⟩;have Y:=elL O;revert ay;refine Wo<|Ws<|Rw z ?_
  obtain rfl:=som Y;exact Wr<|c_ hr z ⟨sz,z⟩
 rintro _ _ _ _ rfl ⟨rfl,a0⟩;have a1:=elR O;obtain rfl:=som a1;exact ⟨a0,z⟩
theorem W_w24 {x1:Bt}{x2:Bt}{res:Bool}(hm:h_5 x1 x2=some res)(Y:B<=w0.z)(h:repS w0 B (sl A0 N0 C0) x1)(J:repS w0 B (sl A4 N4 C4) x2):h_ prog 47 [sl A0 N0 C0,sl A4 N4 C4] w0 (Q11 w0 B res):=by
 unfold h_5 at hm
 refine goG func47 z z z λfn hr=>Ws<|Rw z<|Wq<|Wm z<|R z (lnR k_ z h)<|Rm z<|R z (lnR k_ z J)<|R z (nq z z)<|Wx z (λH=>?_) (λH=>?_)
 .refine Ws<|Rw z ?_
  obtain rfl:=som<|ifT hm H;exact Wr<|c_ hr z ⟨br w0,z⟩
 refine Wk<|Wq<|Ws<|Rw z ?_
 obtain ⟨_,hua,L⟩:=bdS<|ifF hm H;refine Wf (σ:=Unit) (ρ:=Bool) (λ(k5:Nat)(_:Unit) a w=>Sat 26 [(0,sl A0 N0 C0),(1,sl A4 N4 C4),(5,vI ((k5:Nat):Int))] a/\Below w0.z w0 w) (λ(_:Unit) a w=>Sat 26 [] a/\Below w0.z w0 w) (rQ prog fn<|Q11 w0 B) hua ?_ ?_ ?_ ?_ ?_
 .exact λ_ q=>⟨q.k<|s3 z z z,br w0⟩
 .rintro k5 _ _ _ _ O ⟨hSb,G⟩ hmc;refine Wu ?_ hSb;refine Wq<|Wm z<|Rm z<|R z (lnR k_ z<|h.e G)<|Rl z z z<|Wx z (λ_=>?_) (λhc=>(O_ O hc).elim)
  refine Wk<|Wq<|Wb<|Wq (Wd (X:=noX) 0 (pl_ 9 []) mo (by kernel_rfl) λwu s2 _=>dM z z z<|dM z z z ?_)
  obtain ⟨_,ed,hme⟩:=bdS hmc;have W:=(G.ag B).e s2;refine dRX z z (at_ (α:=UInt8) k_ z_5 z z z (h.g W) ed) ?_;rintro _ ⟨_,_,_,rfl,hf,hg,_⟩;obtain rfl:=u8 hg;refine dR z z (l0 g_5 z<|hf.at0 z)<|dM z z z<|dM z z z ?_
  obtain ⟨_,eh,V⟩:=bdS hme;refine dRX z z (at_ (α:=UInt8) k_ z_5 z z z (J.g W) eh) ?_;rintro _ ⟨_,_,_,rfl,hi,hj,_⟩;obtain rfl:=u8 hj;refine dR z z (l0 g_5 z<|hi.at0 z)<|dR z z (nq z z)<|pD<|Wo<|Wc z (λI=>?_) (λI=>?_)
  .exact Ws<|Rw z<|Wr<|rtO<|qL (som<|ifT V I).symm<|c_ hr z ⟨bup G s2,z⟩
  exact Wk<|Wg<|Rm z<|R z (inc_ O (lt_ (repS.len h) z_) z z)<|Ra z<|Wl (λ_ q=>⟨(),(som<|ifF V I).symm,⟨q.k<|s3 z z z,bup G s2⟩⟩)
 .rintro _ _ _ ⟨hSk,s9⟩;refine Wu ?_ hSk;refine Wq<|Wm z<|Rm z<|R z (lnR k_ z<|h.e s9)<|Rl z z z<|Wx z (λhc=>(P_ hc).elim) (λ_=>?_)
  exact We<|λ_ q=>⟨rfl,⟨q.k sn,s9⟩⟩
 .rintro _ al _ rfl ⟨_,sm⟩;have hmn:=elL L;revert al;refine Wo<|Ws<|Rw z ?_
  obtain rfl:=som hmn;exact Wr<|c_ hr z ⟨sm,z⟩
 rintro _ _ _ _ rfl ⟨rfl,hqo⟩;have hmp:=elR L;obtain rfl:=som hmp;exact ⟨hqo,z⟩
theorem W_w4p {x1:List Str}{x2:List Str}{res:Bool}(hm:i_O x1 x2=some res)(Y:B<=w0.z)(h:repS w0 B (sl A0 N0 C0) x1)(J:repS w0 B (sl A4 N4 C4) x2):h_ prog 181 [sl A0 N0 C0,sl A4 N4 C4] w0 (Q11 w0 B res):=by
 unfold i_O at hm
 refine goG func181 z z z λfn hr=>Ws<|Rw z<|Wq<|Wm z<|R z (lnR F_ z h)<|Rm z<|R z (lnR F_ z J)<|R z (nq z z)<|Wx z (λH=>?_) (λH=>?_)
 .refine Ws<|Rw z ?_
  obtain rfl:=som<|ifT hm H;exact Wr<|c_ hr z ⟨br w0,z⟩
 refine Wk<|Wq<|Ws<|Rw z ?_
 obtain ⟨_,hua,L⟩:=bdS<|ifF hm H;refine Wf (σ:=Unit) (ρ:=Bool) (λ(k5:Nat)(_:Unit) a w=>Sat 26 [(0,sl A0 N0 C0),(1,sl A4 N4 C4),(5,vI ((k5:Nat):Int))] a/\Below w0.z w0 w) (λ(_:Unit) a w=>Sat 26 [] a/\Below w0.z w0 w) (rQ prog fn<|Q11 w0 B) hua ?_ ?_ ?_ ?_ ?_
 .exact λ_ q=>⟨q.k<|s3 z z z,br w0⟩
 .rintro k5 _ _ _ _ O ⟨hSb,G⟩ hmc;refine Wu ?_ hSb;refine Wq<|Wm z<|Rm z<|R z (lnR F_ z<|h.e G)<|Rl z z z<|Wx z (λ_=>?_) (λhc=>(O_ O hc).elim)
  refine Wk<|Wq<|Wb<|Wq (Wd (X:=noX) 0 (pl_ 9 []) mo (by kernel_rfl) λwu s2 _=>dM z z z<|dM z z z ?_)
  obtain ⟨_,ed,hme⟩:=bdS hmc;have W:=(G.ag B).e s2;refine dRX z z (at_ (α:=Str) F_ z_9 z z z (h.g W) ed) ?_;rintro _ ⟨_,_,_,rfl,hf,hg,_⟩;obtain ⟨rfl,_⟩:=a_n hg;refine dR z z (l0 g_9 z<|hf.at0 z)<|dM z z z<|dM z z z ?_
  obtain ⟨_,eh,V⟩:=bdS hme;refine dRX z z (at_ (α:=Str) F_ z_9 z z z (J.g W) eh) ?_;rintro _ ⟨_,_,_,rfl,hi,hj,_⟩;obtain ⟨rfl,_⟩:=a_n hj;refine dR z z (l0 g_9 z<|hi.at0 z)<|dR z z (d_q z z)<|pD<|Wo<|Wc z (λI=>?_) (λI=>?_)
  .exact Ws<|Rw z<|Wr<|rtO<|qL (som<|ifT V I).symm<|c_ hr z ⟨bup G s2,z⟩
  exact Wk<|Wg<|Rm z<|R z (inc_ O (lt_ (repS.len h) z_) z z)<|Ra z<|Wl (λ_ q=>⟨(),(som<|ifF V I).symm,⟨q.k<|s3 z z z,bup G s2⟩⟩)
 .rintro _ _ _ ⟨hSk,s9⟩;refine Wu ?_ hSk;refine Wq<|Wm z<|Rm z<|R z (lnR F_ z<|h.e s9)<|Rl z z z<|Wx z (λhc=>(P_ hc).elim) (λ_=>?_)
  exact We<|λ_ q=>⟨rfl,⟨q.k sn,s9⟩⟩
 .rintro _ al _ rfl ⟨_,sm⟩;have hmn:=elL L;revert al;refine Wo<|Ws<|Rw z ?_
  obtain rfl:=som hmn;exact Wr<|c_ hr z ⟨sm,z⟩
 rintro _ _ _ _ rfl ⟨rfl,hqo⟩;have hmp:=elR L;obtain rfl:=som hmp;exact ⟨hqo,z⟩
theorem W_w25 {x1:List Int}{x2:List Int}{res:Bool}(hm:h_6 x1 x2=some res)(Y:B<=w0.z)(h:repS w0 B (sl A0 N0 C0) x1)(J:repS w0 B (sl A4 N4 C4) x2):h_ prog 182 [sl A0 N0 C0,sl A4 N4 C4] w0 (Q11 w0 B res):=by
 unfold h_6 at hm
 refine goG func182 z z z λfn hr=>Ws<|Rw z<|Wq<|Wm z<|R z (lnR y_ z h)<|Rm z<|R z (lnR y_ z J)<|R z (nq z z)<|Wx z (λH=>?_) (λH=>?_)
 .refine Ws<|Rw z ?_
  obtain rfl:=som<|ifT hm H;exact Wr<|c_ hr z ⟨br w0,z⟩
 refine Wk<|Wq<|Ws<|Rw z ?_
 obtain ⟨_,hua,L⟩:=bdS<|ifF hm H;refine Wf (σ:=Unit) (ρ:=Bool) (λ(k5:Nat)(_:Unit) a w=>Sat 26 [(0,sl A0 N0 C0),(1,sl A4 N4 C4),(5,vI ((k5:Nat):Int))] a/\Below w0.z w0 w) (λ(_:Unit) a w=>Sat 26 [] a/\Below w0.z w0 w) (rQ prog fn<|Q11 w0 B) hua ?_ ?_ ?_ ?_ ?_
 .exact λ_ q=>⟨q.k<|s3 z z z,br w0⟩
 .rintro k5 _ _ _ _ O ⟨hSb,G⟩ hmc;refine Wu ?_ hSb;refine Wq<|Wm z<|Rm z<|R z (lnR y_ z<|h.e G)<|Rl z z z<|Wx z (λ_=>?_) (λhc=>(O_ O hc).elim)
  refine Wk<|Wq<|Wb<|Wq (Wd (X:=noX) 0 (pl_ 9 []) mo (by kernel_rfl) λwu s2 _=>dM z z z<|dM z z z ?_)
  obtain ⟨_,ed,hme⟩:=bdS hmc;have W:=(G.ag B).e s2;refine dRX z z (at_ (α:=Int) y_ z_3 z z z (h.g W) ed) ?_;rintro _ ⟨_,_,_,rfl,hf,hg,_⟩;obtain ⟨rfl,_⟩:=V_ hg;refine dR z z (l0 g_3 z<|hf.at0 z)<|dM z z z<|dM z z z ?_
  obtain ⟨_,eh,V⟩:=bdS hme;refine dRX z z (at_ (α:=Int) y_ z_3 z z z (J.g W) eh) ?_;rintro _ ⟨_,_,_,rfl,hi,hj,_⟩;obtain ⟨rfl,_⟩:=V_ hj;refine dR z z (l0 g_3 z<|hi.at0 z)<|dR z z (nq z z)<|pD<|Wo<|Wc z (λI=>?_) (λI=>?_)
  .exact Ws<|Rw z<|Wr<|rtO<|qL (som<|ifT V I).symm<|c_ hr z ⟨bup G s2,z⟩
  exact Wk<|Wg<|Rm z<|R z (inc_ O (lt_ (repS.len h) z_) z z)<|Ra z<|Wl (λ_ q=>⟨(),(som<|ifF V I).symm,⟨q.k<|s3 z z z,bup G s2⟩⟩)
 .rintro _ _ _ ⟨hSk,s9⟩;refine Wu ?_ hSk;refine Wq<|Wm z<|Rm z<|R z (lnR y_ z<|h.e s9)<|Rl z z z<|Wx z (λhc=>(P_ hc).elim) (λ_=>?_)
  exact We<|λ_ q=>⟨rfl,⟨q.k sn,s9⟩⟩
 .rintro _ al _ rfl ⟨_,sm⟩;have hmn:=elL L;revert al;refine Wo<|Ws<|Rw z ?_
  obtain rfl:=som hmn;exact Wr<|c_ hr z ⟨sm,z⟩
 rintro _ _ _ _ rfl ⟨rfl,hqo⟩;have hmp:=elR L;obtain rfl:=som hmp;exact ⟨hqo,z⟩
theorem W_w4q {x1:d_}{x2:d_}{res:Bool}(hm:i_P x1 x2=some res)(G:B<=w0.z)(a9:x1.name.b.length<=LEN)(aa:inI x1.kind)(ab:inI x1.size)(O:repS w0 B (sl A9 N9 C9) x1.bytes)(V:repS w0 B (sl A8 N8 C8) x1.names)(W:repS w0 B (sl AA NA CA) x1.tags)(Y:repS w0 B (sl AB NB CB) x1.kids)(ad:x2.name.b.length<=LEN)(ae:inI x2.kind)(af:inI x2.size)(a0:repS w0 B (sl A3 N3 C3) x2.bytes)(a1:repS w0 B (sl A5 N5 C5) x2.names)(a2:repS w0 B (sl A2 N2 C2) x2.tags)(a3:repS w0 B (sl A6 N6 C6) x2.kids):h_ prog 140 [(.agg #[Str.v x1.name,vI x1.kind,vI x1.size,vB x1.little,sl A9 N9 C9,sl A8 N8 C8,sl AA NA CA,sl AB NB CB]),(.agg #[Str.v x2.name,vI x2.kind,vI x2.size,vB x2.little,sl A3 N3 C3,sl A5 N5 C5,sl A2 N2 C2,sl A6 N6 C6])] w0 (Q11 w0 B res):=by
 unfold i_P at hm
 refine goG func140 z z z λfn hr=>Ws<|E z (fb z) ?_
 rintro _ wi ⟨rfl,hj⟩;have h1:=hj.below;refine E z (fb z) ?_;rintro _ a4 ⟨rfl,hk⟩;have h:=hk.below;have h5:Blk a4 wi.z (vR x2 A3 N3 C3 A5 N5 C5 A2 N2 C2 A6 N6 C6):=hk.blk;refine Rw z<|Wq<|Ws<|Rf z d_M z ?_
 have h6:=(hj.blk:Blk wi w0.z (vR x1 A9 N9 C9 A8 N8 C8 AA NA CA AB NB CB)).e h;refine R z (l0 g_9 z<|h6.at z)<|Rf z d_M z<|R z (l0 g_9 z<|h5.at z)<|R z (d_q z z)<|Wx z (λH=>?_) (λH=>?_)
 .refine Ws<|Rw z ?_
  obtain rfl:=som<|ifT hm H;exact Wr<|c_ hr z ⟨bup h1 h,z⟩
 have hml:=ifF hm H;refine Wk<|Wq<|Ws<|Rf z a_O z<|R z (l0 g_3 z<|h6.at z)<|Rf z a_O z<|R z (l0 g_3 z<|h5.at z)<|R z (nq z z)<|Wx z (λI=>?_) (λI=>?_)
 .refine Ws<|Rw z ?_
  obtain rfl:=som<|ifT hml I;exact Wr<|c_ hr z ⟨bup h1 h,z⟩
 have hmm:=ifF hml I;refine Wk<|Wq<|Ws<|Rf z b_1 z<|R z (l0 g_3 z<|h6.at z)<|Rf z b_1 z<|R z (l0 g_3 z<|h5.at z)<|R z (nq z z)<|Wx z (λJ=>?_) (λJ=>?_)
 .refine Ws<|Rw z ?_
  obtain rfl:=som<|ifT hmm J;exact Wr<|c_ hr z ⟨bup h1 h,z⟩
 have hmn:=ifF hmm J;refine Wk<|Wq<|Ws<|Rf z d_j z<|R z (l0 g_4 z<|h6.at z)<|Rf z d_j z<|R z (l0 g_4 z<|h5.at z)<|R z (t_6 d_4 z z)<|Wx z (λhca=>?_) (λhca=>?_)
 .refine Ws<|Rw z ?_
  obtain rfl:=som<|ifT hmn hca;exact Wr<|c_ hr z ⟨bup h1 h,z⟩
 refine Wk<|Wq<|Ws<|Rf z b_j z<|R z (l0 K_ z<|h6.at z)<|Rf z b_j z<|R z (l0 K_ z<|h5.at z) ?_
 have hb:=(h1.ag B).e h;have ho:=lt_ h1.s h.s;obtain ⟨_,a5,hmp⟩:=bdS<|ifF hmn hca;refine E z (fc call47 z<|W_w24 a5 (zt' G ho) (O.g hb)<|a0.g hb) ?_;rintro _ _ ⟨s2,rfl⟩;refine R z (not_ z)<|Wx z (λhcc=>?_) (λhcc=>?_)
 .refine Ws<|Rw z ?_
  obtain rfl:=som<|ifT hmp hcc;exact Wr<|c_ hr z ⟨bup (bup h1 h) s2,z⟩
 refine Wk<|Wq<|Ws<|Rf z c_i z ?_
 have hq:=h6.e s2;refine R z (l0 a_G z<|hq.at z)<|Rf z c_i z ?_
 have ht:=h5.e s2;refine R z (l0 a_G z<|ht.at z) ?_;have hd:=hb.e s2;have hu:=lt_ ho s2.s;obtain ⟨_,a6,hmr⟩:=bdS<|ifF hmp hcc;refine E z (fc call181 z<|W_w4p a6 (zt' G hu) (V.g hd)<|a1.g hd) ?_;rintro _ _ ⟨s3,rfl⟩;refine R z (not_ z)<|Wx z (λhce=>?_) (λhce=>?_)
 .refine Ws<|Rw z ?_
  obtain rfl:=som<|ifT hmr hce;exact Wr<|c_ hr z ⟨bup (bup (bup h1 h) s2) s3,z⟩
 refine Wk<|Wq<|Ws<|Rf z b_k z ?_
 have hv:=hq.e s3;refine R z (l0 H_ z<|hv.at z)<|Rf z b_k z ?_
 have hw:=ht.e s3;refine R z (l0 H_ z<|hw.at z) ?_;have hf:=hd.e s3;have hx:=lt_ hu s3.s;obtain ⟨_,a7,hms⟩:=bdS<|ifF hmr hce;refine E z (fc call182 z<|W_w25 a7 (zt' G hx) (W.g hf)<|a2.g hf) ?_;rintro _ _ ⟨s4,rfl⟩;refine R z (not_ z)<|Wx z (λhcg=>?_) (λhcg=>?_)
 .refine Ws<|Rw z ?_
  obtain rfl:=som<|ifT hms hcg;exact Wr<|c_ hr z ⟨bup (bup (bup (bup h1 h) s2) s3) s4,z⟩
 refine Wk<|Wq<|Ws<|Rf z a_1 z<|R z (l0 H_ z<|(hv.e s4).at z)<|Rf z a_1 z<|R z (l0 H_ z<|(hw.e s4).at z) ?_
 have hy:=hf.e s4;obtain ⟨_,a8,hmz⟩:=bdS<|ifF hms hcg;refine E z (fc call182 z<|W_w25 a8 (zt' G<|lt_ hx s4.s) (Y.g hy)<|a3.g hy) ?_;rintro _ _ ⟨L,rfl⟩;refine R z (not_ z)<|Wx z (λhch=>?_) (λhch=>?_)
 .refine Ws<|Rw z ?_
  obtain rfl:=som<|ifT hmz hch;exact Wr<|c_ hr z ⟨bup (bup (bup (bup (bup h1 h) s2) s3) s4) L,z⟩
 refine Wk<|Ws<|Rw z ?_
 obtain rfl:=som<|ifF hmz hch;exact Wr<|c_ hr z ⟨bup (bup (bup (bup (bup h1 h) s2) s3) s4) L,z⟩
theorem W_w4r {x1:List d_}{x2:List d_}{res:Bool}(hm:l_h x1 x2=some res)(a5:B<=w0.z)(G:repS w0 B (sl A0 N0 C0) x1)(L:repS w0 B (sl A4 N4 C4) x2):h_ prog 105 [sl A0 N0 C0,sl A4 N4 C4] w0 (Q11 w0 B res):=by
 unfold l_h at hm
 refine goG func105 z z z λfn hr=>Ws<|Rw z<|Wq<|Wm z<|R z (lnR a_2 z G)<|Rm z<|R z (lnR a_2 z L)<|R z (nq z z)<|Wx z (λI=>?_) (λI=>?_)
 .refine Ws<|Rw z ?_
  obtain rfl:=som<|ifT hm I;exact Wr<|c_ hr z ⟨br w0,z⟩
 refine Wk<|Wq<|Ws<|Rw z ?_
 obtain ⟨_,hub,O⟩:=bdS<|ifF hm I;refine Wf (σ:=Unit) (ρ:=Bool) (λ(k5:Nat)(_:Unit) a w=>Sat 27 [(0,sl A0 N0 C0),(1,sl A4 N4 C4),(5,vI ((k5:Nat):Int))] a/\Below w0.z w0 w) (λ(_:Unit) a w=>Sat 27 [] a/\Below w0.z w0 w) (rQ prog fn<|Q11 w0 B) hub ?_ ?_ ?_ ?_ ?_
 .exact λ_ q=>⟨q.k<|s3 z z z,br w0⟩
 .rintro k5 _ _ _ _ V ⟨hSc,H⟩ hmd;refine Wu ?_ hSc;refine Wq<|Wm z<|Rm z<|R z (lnR a_2 z<|G.e H)<|Rl z z z<|Wx z (λ_=>?_) (λhc=>(O_ V hc).elim)
  refine Wk<|Wq<|Wb<|Wq (Wd (X:=noX) 0 (pl_ 10 [8]) mo (by kernel_rfl) λaG s1 _=>dM z z z<|dM z z z ?_)
  obtain ⟨xe,eg,hmf⟩:=bdS hmd;have Y:=(H.ag B).e s1;refine dRX z z (at_ (α:=d_) a_2 t_ z z z (G.g Y) eg) ?_;rintro _ ⟨_,_,_,rfl,hh,hi,_⟩;obtain ⟨aj,nk,cl,am,nn,co,ap,nr,cq,au,ns,ct,rfl,hv,hw,hx,hy,hz,a6,a7⟩:=b_3 hi;refine dR z z (lN (vs:=vR xe aj nk cl am nn co ap nr cq au ns ct) Q_ t_ z z fid hh)<|dM z z z<|dM z z z ?_
  obtain ⟨a8,a9,a0⟩:=bdS hmf;refine dRX z z (at_ (α:=d_) a_2 t_ z z z (L.g Y) a9) ?_;rintro _ ⟨_,_,_,rfl,aa,ab,_⟩;obtain ⟨ad,ae,af,ah,ai,ak,al,an,ao,aq,ar,av,rfl,aw,ax,ay,az,aA,aB,aC⟩:=b_3 ab;refine dR z z (lN (vs:=vR a8 ad ae af ah ai ak al an ao aq ar av) Q_ t_ z z fid aa) ?_;obtain ⟨_,aD,W⟩:=bdS a0;refine dE z z (fc call140 z<|W_w4q aD (zt' a5<|lt_ H.s s1.s) hv hw hx hy hz a6 a7 aw ax ay az aA aB aC) (.inr λ_ _ h=>E_<|h.1) ?_;rintro _ _ ⟨s9,rfl⟩;refine dR z z (not_ z)<|pD<|Wo<|Wc z (λJ=>?_) (λJ=>?_)
  .exact Ws<|Rw z<|Wr<|rtO<|qL (som<|ifT W J).symm<|c_ hr z ⟨bup (bup H s1) s9,z⟩
  exact Wk<|Wg<|Rm z<|R z (inc_ V (lt_ (repS.len G) z_) z z)<|Ra z<|Wl (λ_ q=>⟨(),(som<|ifF W J).symm,⟨q.k<|s3 z z z,bup (bup H s1) s9⟩⟩)
 .rintro _ _ _ ⟨a1,sa⟩;refine Wu ?_ a1;refine Wq<|Wm z<|Rm z<|R z (lnR a_2 z<|G.e sa)<|Rl z z z<|Wx z (λhc=>(P_ hc).elim) (λ_=>?_)
  exact We<|λ_ q=>⟨rfl,⟨q.k sn,sa⟩⟩
 .rintro _ aE _ rfl ⟨_,aF⟩;have a2:=elL O;revert aE;refine Wo<|Ws<|Rw z ?_
  obtain rfl:=som a2;exact Wr<|c_ hr z ⟨aF,z⟩
 rintro _ _ _ _ rfl ⟨rfl,a3⟩;have a4:=elR O;obtain rfl:=som a4;exact ⟨a3,z⟩
theorem W_w4s {x1:f_}{x2:f_}{res:Bool}(hm:i_Q x1 x2=some res)(O:B<=w0.z)(J:repS w0 B (sl A0 N0 C0) x1.rules)(L:repS w0 B (sl A4 N4 C4) x2.rules):h_ prog 74 [(.agg #[sl A0 N0 C0]),(.agg #[sl A4 N4 C4])] w0 (Q11 w0 B res):=by
 unfold i_Q at hm
 refine goG func74 z z z λfn hr=>Ws<|E z (fb z) ?_
 rintro _ I ⟨rfl,h4⟩;have h1:=h4.below;refine E z (fb z) ?_;rintro _ wa ⟨rfl,h5⟩;have h:=h5.below;refine Rw z<|Wq<|Ws<|Rf z a_s z<|R z (l0 a_u z<|((h4.blk:Blk I w0.z [sl A0 N0 C0]).e h).at z)<|Rf z a_s z<|R z (l0 a_u z<|(h5.blk:Blk wa I.z [sl A4 N4 C4]).at z) ?_
 have h6:=(h1.ag B).e h;obtain ⟨_,ec,H⟩:=bdS hm;refine E z (fc call105 z<|W_w4r ec (zt' O<|lt_ h1.s h.s) (J.g h6)<|L.g h6) ?_;rintro _ _ ⟨s8,rfl⟩;refine R z (not_ z)<|Wx z (λG=>?_) (λG=>?_)
 .refine Ws<|Rw z ?_
  obtain rfl:=som<|ifT H G;exact Wr<|c_ hr z ⟨bup (bup h1 h) s8,z⟩
 refine Wk<|Ws<|Rw z ?_
 obtain rfl:=som<|ifF H G;exact Wr<|c_ hr z ⟨bup (bup h1 h) s8,z⟩
theorem W_w4t {x1:List f_}{x2:List f_}{res:Bool}(hm:j_x x1 x2=some res)(a1:B<=w0.z)(G:repS w0 B (sl A0 N0 C0) x1)(L:repS w0 B (sl A4 N4 C4) x2):h_ prog 46 [sl A0 N0 C0,sl A4 N4 C4] w0 (Q11 w0 B res):=by
 unfold j_x at hm
 refine goG func46 z z z λfn hr=>Ws<|Rw z<|Wq<|Wm z<|R z (lnR b_r z G)<|Rm z<|R z (lnR b_r z L)<|R z (nq z z)<|Wx z (λI=>?_) (λI=>?_)
 .refine Ws<|Rw z ?_
  obtain rfl:=som<|ifT hm I;exact Wr<|c_ hr z ⟨br w0,z⟩
 refine Wk<|Wq<|Ws<|Rw z ?_
 obtain ⟨_,hub,O⟩:=bdS<|ifF hm I;refine Wf (σ:=Unit) (ρ:=Bool) (λ(k5:Nat)(_:Unit) a w=>Sat 27 [(0,sl A0 N0 C0),(1,sl A4 N4 C4),(5,vI ((k5:Nat):Int))] a/\Below w0.z w0 w) (λ(_:Unit) a w=>Sat 27 [] a/\Below w0.z w0 w) (rQ prog fn<|Q11 w0 B) hub ?_ ?_ ?_ ?_ ?_
 .exact λ_ q=>⟨q.k<|s3 z z z,br w0⟩
 .rintro k5 _ _ _ _ V ⟨hSc,H⟩ hmd;refine Wu ?_ hSc;refine Wq<|Wm z<|Rm z<|R z (lnR b_r z<|G.e H)<|Rl z z z<|Wx z (λ_=>?_) (λhc=>(O_ V hc).elim)
  refine Wk<|Wq<|Wb<|Wq (Wd (X:=noX) 0 (pl_ 10 [8]) mo (by kernel_rfl) λa2 s1 _=>dM z z z<|dM z z z ?_)
  obtain ⟨_,ee,hmf⟩:=bdS hmd;have Y:=(H.ag B).e s1;refine dRX z z (at_ (α:=f_) b_r D_ z z z (G.g Y) ee) ?_;rintro _ ⟨_,_,_,rfl,hg,hh,_⟩;obtain ⟨ai,nj,ck,rfl,hl⟩:=d_H hh;refine dR z z (lN (vs:=[sl ai nj ck]) L_ D_ z z fid hg)<|dM z z z<|dM z z z ?_
  obtain ⟨_,em,hmn⟩:=bdS hmf;refine dRX z z (at_ (α:=f_) b_r D_ z z z (L.g Y) em) ?_;rintro _ ⟨_,_,_,rfl,ho,hp,_⟩;obtain ⟨aq,nr,cs,rfl,ht⟩:=d_H hp;refine dR z z (lN (vs:=[sl aq nr cs]) L_ D_ z z fid ho) ?_;obtain ⟨_,eu,W⟩:=bdS hmn;refine dE z z (fc call74 z<|W_w4s eu (zt' a1<|lt_ H.s s1.s) hl ht) (.inr λ_ _ h=>E_<|h.1) ?_;rintro _ _ ⟨s9,rfl⟩;refine dR z z (not_ z)<|pD<|Wo<|Wc z (λJ=>?_) (λJ=>?_)
  .exact Ws<|Rw z<|Wr<|rtO<|qL (som<|ifT W J).symm<|c_ hr z ⟨bup (bup H s1) s9,z⟩
  exact Wk<|Wg<|Rm z<|R z (inc_ V (lt_ (repS.len G) z_) z z)<|Ra z<|Wl (λ_ q=>⟨(),(som<|ifF W J).symm,⟨q.k<|s3 z z z,bup (bup H s1) s9⟩⟩)
 .rintro _ _ _ ⟨hSv,sa⟩;refine Wu ?_ hSv;refine Wq<|Wm z<|Rm z<|R z (lnR b_r z<|G.e sa)<|Rl z z z<|Wx z (λhc=>(P_ hc).elim) (λ_=>?_)
  exact We<|λ_ q=>⟨rfl,⟨q.k sn,sa⟩⟩
 .rintro _ aw _ rfl ⟨_,sx⟩;have hmy:=elL O;revert aw;refine Wo<|Ws<|Rw z ?_
  obtain rfl:=som hmy;exact Wr<|c_ hr z ⟨sx,z⟩
 rintro _ _ _ _ rfl ⟨rfl,hqz⟩;have a0:=elR O;obtain rfl:=som a0;exact ⟨hqz,z⟩
theorem W_w4u {x1:a_c}{x2:a_c}{res:Bool}(hm:l_x x1 x2=some res)(O:B<=w0.z)(J:repS w0 B (sl A0 N0 C0) x1.versions)(L:repS w0 B (sl A4 N4 C4) x2.versions):h_ prog 24 [(.agg #[sl A0 N0 C0]),(.agg #[sl A4 N4 C4])] w0 (Q11 w0 B res):=by
 unfold l_x at hm
 refine goG func24 z z z λfn hr=>Ws<|E z (fb z) ?_
 rintro _ I ⟨rfl,h4⟩;have h1:=h4.below;refine E z (fb z) ?_;rintro _ wa ⟨rfl,h5⟩;have h:=h5.below;refine Rw z<|Wq<|Ws<|Rf z c_5 z<|R z (l0 c_f z<|((h4.blk:Blk I w0.z [sl A0 N0 C0]).e h).at z)<|Rf z c_5 z<|R z (l0 c_f z<|(h5.blk:Blk wa I.z [sl A4 N4 C4]).at z) ?_
 have h6:=(h1.ag B).e h;obtain ⟨_,ec,H⟩:=bdS hm;refine E z (fc call46 z<|W_w4t ec (zt' O<|lt_ h1.s h.s) (J.g h6)<|L.g h6) ?_;rintro _ _ ⟨s8,rfl⟩;refine R z (not_ z)<|Wx z (λG=>?_) (λG=>?_)
 .refine Ws<|Rw z ?_
  obtain rfl:=som<|ifT H G;exact Wr<|c_ hr z ⟨bup (bup h1 h) s8,z⟩
 refine Wk<|Ws<|Rw z ?_
 obtain rfl:=som<|ifF H G;exact Wr<|c_ hr z ⟨bup (bup h1 h) s8,z⟩
theorem W_w4v {x1:Log}{x2:Log}{res:Bool}(hm:l_y x1 x2=some res)(Y:B<=w0.z)(V:repS w0 B (sl A0 N0 C0) x1.bytes)(a0:inI x1.stored)(W:repS w0 B (sl A4 N4 C4) x2.bytes)(a1:inI x2.stored):h_ prog 25 [(.agg #[sl A0 N0 C0,vI x1.stored]),(.agg #[sl A4 N4 C4,vI x2.stored])] w0 (Q11 w0 B res):=by
 unfold l_y at hm
 refine goG func25 z z z λfn hr=>Ws<|E z (fb z) ?_
 rintro _ I ⟨rfl,h6⟩;have h1:=h6.below;refine E z (fb z) ?_;rintro _ we ⟨rfl,J⟩;have h:=J.below;have L:Blk we I.z [sl A4 N4 C4,vI x2.stored]:=J.blk;refine Rw z<|Wq<|Ws<|Rf z c_6 z ?_
 have O:=(h6.blk:Blk I w0.z [sl A0 N0 C0,vI x1.stored]).e h;refine R z (l0 K_ z<|O.at z)<|Rf z c_6 z<|R z (l0 K_ z<|L.at z) ?_
 have ha:=(h1.ag B).e h;obtain ⟨_,ef,hmb⟩:=bdS hm;refine E z (fc call47 z<|W_w24 ef (zt' Y<|lt_ h1.s h.s) (V.g ha)<|W.g ha) ?_;rintro _ _ ⟨s2,rfl⟩;refine R z (not_ z)<|Wx z (λG=>?_) (λG=>?_)
 .refine Ws<|Rw z ?_
  obtain rfl:=som<|ifT hmb G;exact Wr<|c_ hr z ⟨bup (bup h1 h) s2,z⟩
 have hmc:=ifF hmb G;refine Wk<|Wq<|Ws<|Rf z e_h z<|R z (l0 g_3 z<|(O.e s2).at z)<|Rf z e_h z<|R z (l0 g_3 z<|(L.e s2).at z)<|R z (nq z z)<|Wx z (λH=>?_) (λH=>?_)
 .refine Ws<|Rw z ?_
  obtain rfl:=som<|ifT hmc H;exact Wr<|c_ hr z ⟨bup (bup h1 h) s2,z⟩
 refine Wk<|Ws<|Rw z ?_
 obtain rfl:=som<|ifF hmc H;exact Wr<|c_ hr z ⟨bup (bup h1 h) s2,z⟩
theorem W_w4w {x1:J_}{x2:J_}{res:Bool}(hm:j_y x1 x2=some res)(I:B<=w0.z)(W:repS w0 B (sl A0 N0 C0) x1.registry.versions)(Y:repS w0 B (sl A1 N1 C1) x1.log.bytes)(a0:inI x1.log.stored)(a1:repS w0 B (sl A4 N4 C4) x2.registry.versions)(a2:repS w0 B (sl AC NC CC) x2.log.bytes)(a3:inI x2.log.stored):h_ prog 9 [(.agg #[sl A0 N0 C0,sl A1 N1 C1,vI x1.log.stored]),(.agg #[sl A4 N4 C4,sl AC NC CC,vI x2.log.stored])] w0 (Q11 w0 B res):=by
 unfold j_y at hm
 refine goG func9 z z z λfn hr=>Ws<|E z (fb z) ?_
 rintro _ J ⟨rfl,L⟩;have h2:=L.below;refine E z (fb z) ?_;rintro _ wh ⟨rfl,O⟩;have h1:=O.below;have V:Blk wh J.z [sl A4 N4 C4,sl AC NC CC,vI x2.log.stored]:=O.blk;refine Rw z<|Wq<|Ws<|Rf z c_P z ?_
 have ha:=(L.blk:Blk J w0.z [sl A0 N0 C0,sl A1 N1 C1,vI x1.log.stored]).e h1;refine R z (lN (vs:=[sl A0 N0 C0]) e_G d_Q z z fid<|ha.row 0 1 z)<|Rf z c_P z<|R z (lN (vs:=[sl A4 N4 C4]) e_G d_Q z z fid<|V.row 0 1 z) ?_
 have h3:=(h2.ag B).e h1;have hb:=lt_ h2.s h1.s;obtain ⟨_,ei,hmc⟩:=bdS hm;refine E z (fc call24 z<|W_w4u (B:=B) (x1:=(⟨x1.registry.versions⟩:a_c)) (x2:=(⟨x2.registry.versions⟩:a_c)) ei (zt' I hb) (W.g h3)<|a1.g h3) ?_;rintro _ _ ⟨h,rfl⟩;refine R z (not_ z)<|Wx z (λG=>?_) (λG=>?_)
 .refine Ws<|Rw z ?_
  obtain rfl:=som<|ifT hmc G;exact Wr<|c_ hr z ⟨bup (bup h2 h1) h,z⟩
 refine Wk<|Wq<|Ws<|Rf z c_B z<|R z (lN (vs:=[sl A1 N1 C1,vI x1.log.stored]) e_f d_l z z fid<|(ha.e h).row 1 2 z)<|Rf z c_B z<|R z (lN (vs:=[sl AC NC CC,vI x2.log.stored]) e_f d_l z z fid<|(V.e h).row 1 2 z) ?_
 have hd:=h3.e h;obtain ⟨_,ej,hme⟩:=bdS<|ifF hmc G;refine E z (fc call25 z<|W_w4v (B:=B) (x1:=(⟨x1.log.bytes,x1.log.stored⟩:Log)) (x2:=(⟨x2.log.bytes,x2.log.stored⟩:Log)) ej (zt' I<|lt_ hb h.s) (Y.g hd) a0 (a2.g hd) a3) ?_;rintro _ _ ⟨sf,rfl⟩;refine R z (not_ z)<|Wx z (λH=>?_) (λH=>?_)
 .refine Ws<|Rw z ?_
  obtain rfl:=som<|ifT hme H;exact Wr<|c_ hr z ⟨bup (bup (bup h2 h1) h) sf,z⟩
 refine Wk<|Ws<|Rw z ?_
 obtain rfl:=som<|ifF hme H;exact Wr<|c_ hr z ⟨bup (bup (bup h2 h1) h) sf,z⟩
theorem k_1 {x1:Int}{res:Str}(hm:d_E n x1=some res)(V:B<=w0.z)(O:inI x1):h_ prog 28 [vI x1] w0 (Q19 w0 B res):=by
 unfold d_E at hm
 refine goG func28 z z z λfn hr=>Ws<|Rw z<|Wq<|Wm z<|R z (d_0 z z)<|Wx z (λh=>?_) (λh=>?_)
 .refine Ws<|Rw z ?_
  obtain rfl:=som<|ifT hm h;exact Wr<|c_ hr z ⟨br w0,z,lb z⟩
 refine Wk<|Ws<|Rw z<|Wq ?_
 obtain ⟨_,huc,H⟩:=bdS<|ifF hm h;refine a_X (σ:=Int×Str) (ρ:=Str) (λs a w=>un2 (λx0 x2=>Sat 20 [(0,vI x0),(3,Str.v x2)] a/\Below w0.z w0 w/\inI x0/\x2.b.length<=LEN) s) (λs a w=>un2 (λx0 x2=>Sat 20 [(3,Str.v x2)] a/\Below w0.z w0 w/\inI x0/\x2.b.length<=LEN) s) (rQ prog fn<|Q19 w0 B) huc ?_ ?_ ?_ ?_
 .exact λ_ q=>⟨q.k<|s2 z z,br w0,O,lb z⟩
 .rintro ⟨x0,x2⟩ _ wd _ ⟨hSe,s6,J,L⟩ hmf;have I:=a_7 hmf;refine Wu ?_ hSe;refine Wq<|Wm z<|R z (X_ z z)<|Wx z (λG=>?_) (λG=>?_)
  .refine Wk<|Wb<|Wm z<|R z (h_K z z (by decide))<|R z (add_ z z)<|R z (b_Q d_3 d_5 z)<|E z (fS [(.tmp 11)] M_ z z z (a_v z) (lb z)<|lb z) ?_
   rintro _ wg ⟨rfl,h4⟩;have ht:Blk wg wd.z [(vU<|byteI<|mkB<|b_ 48<|b_f x0 10)]:=h4.blk;refine R z (g_j k_ d_9 d_5 z_5 z<|a_.rep<|b_D h4 b_b)<|Rm z ?_
   obtain ⟨xh,ea,hmi⟩:=bdS<|ifT I G;exact R z (e_N z z ea)<|Rw z<|Wg<|Rm z<|R z (o_h z z (by decide))<|Ra z<|Wl (λ_ q=>⟨(d_p x0 10,xh),(som hmi).symm,⟨q.k<|s2 z z,bup s6 h4.below,o_4 _ _,g_d ea⟩⟩)
  exact We<|λ_ q=>a_Q (som<|ifF I G).symm ⟨q.k<|s1 z,s6,J,L⟩
 .rintro ⟨x0,x2⟩ aj _ rfl ⟨_,sk,J,L⟩;have hml:=elL H;revert aj;refine Wo<|Wm z ?_
  obtain ⟨_,eb,hmn⟩:=bdS<|a_7 hml;refine R z (e_N z z eb)<|Rw z ?_
  obtain rfl:=som hmn;exact Wr<|c_ hr z ⟨sk,z,g_d eb⟩
 rintro _ _ _ _ rfl ⟨rfl,hqo⟩;have hmp:=elR H;obtain rfl:=som hmp;exact ⟨hqo,z⟩
def Q40 (w0:World)(B:Zone)(A0:Option Addr)(N0 C0:Nat)(S1_0:List Nat)(r:Int×Bt)(v:Value)(w':World):Prop:=Cg S1_0 w0 w'/\un2 (λh G=>∃S1,(vI h)=v/\inI h/\a_ w' S1 (sl A0 N0 C0) G/\S1.Nodup/\(∀k∈S1,k∈S1_0∨w0.z<=k)) r
theorem W_w26 {x1:Bt}{S1_0:List Nat}{x2:Int}{res:Int×Bt}(hm:h_7 n x1 x2=some res)(W:B<=w0.z)(I:a_ w0 S1_0 (sl A0 N0 C0) x1)(p1_0n:S1_0.Nodup)(p1_0g:∀k∈S1_0,¬B k)(J:inI x2):h_ prog 49 [sl A0 N0 C0,vI x2] w0 (Q40 w0 B A0 N0 C0 S1_0 res):=by
 unfold h_7 at hm
 refine goG func49 z z z λfn hr=>Ws<|Rw z<|Wq<|Ws<|Rw z ?_
 obtain ⟨_,huh,hma⟩:=bdS hm;refine a_X (σ:=Bt×Int×Int) (ρ:=Int×Bt) (λs a w=>un3 (λx5 x3 x4=>∃(h:List Nat),Sat 20 [(0,sl A0 N0 C0),(1,vI x3),(5,vI x4)] a/\Cg S1_0 w0 w/\a_ w h (sl A0 N0 C0) x5/\h.Nodup/\(∀k∈h,k∈S1_0∨w0.z<=k)/\inI x3/\inI x4) s) (λs a w=>un3 (λx5 x3 x4=>∃(h:List Nat),Sat 20 [(0,sl A0 N0 C0),(1,vI x3)] a/\Cg S1_0 w0 w/\a_ w h (sl A0 N0 C0) x5/\h.Nodup/\(∀k∈h,k∈S1_0∨w0.z<=k)/\inI x3/\inI x4) s) (rQ prog fn<|Q40 w0 B A0 N0 C0 S1_0) huh ?_ ?_ ?_ ?_
 .exact λ_ q=>⟨S1_0,q.k<|s3 z z z,cr S1_0 w0,I,p1_0n,io sr,J,ii z⟩
 .rintro ⟨x5,x3,x4⟩ _ wb _ ⟨h,hSi,s7,h1,h2,h6,H,hc⟩ hmj;have hmd:=b_Z hmj;refine Wu ?_ hSi;refine Wq<|Wm z<|Rm z<|R z (lnR k_ z<|a_.rep h1)<|Rl z z z<|Wx z (λG=>?_) (λG=>?_)
  .refine Wk<|Wq<|Wb<|Wm z<|RM z z<|R z (b_Q d_3 d_5 z) ?_
   obtain ⟨xk,ee,hml⟩:=bdS<|ifT hmd G;refine RX z (b_c (α:=UInt8) k_ z_5 z z h1 ee) ?_;rintro _ ⟨_,hn,rfl⟩;refine E0 (b_7 (α:=UInt8) z_5 z hn z z z ee h1 h2 b_b an_ G_) ?_;rintro _ wm ⟨Sf,so,hp,hq,ht⟩;refine Wn<|Wg<|Rm z<|R z (add_ z z)<|Rw z<|Wg<|Rm z<|R z (add_ z z)<|Ra z<|Wl ?_
   have hg:∀k∈h,k∈S1_0∨w0.z<=k:=or1 h6 (io sr)<|j_ lr;exact λ_ q=>⟨(xk,b_ x3 1,b_ x4 1),(som hml).symm,⟨Sf,q.k<|s3 z z z,(cM (cM (cr S1_0 w0) s7 (io sr):Cg S1_0 w0 wb) so hg:Cg S1_0 w0 wm),hp,hq,(or2 ht hg an_ (j_ s7.s):∀k∈Sf,k∈S1_0∨w0.z<=k),iA _ _,iA _ _⟩⟩
  exact We<|λ_ q=>a_Q (som<|ifF hmd G).symm ⟨h,q.k<|s2 z z,(cM (cr S1_0 w0) s7 (io sr):Cg S1_0 w0 wb),h1,h2,(or1 h6 (io sr) (j_ lr):∀k∈h,k∈S1_0∨w0.z<=k),H,hc⟩
 .rintro ⟨x5,x3,x4⟩ ar ws rfl ⟨h,_,sz,h1,h2,h6,H,hc⟩;have L:=elL hma;revert ar;refine Wo<|Wm z<|Rw z ?_
  obtain rfl:=som<|b_Z L;exact Wr<|c_ hr z ⟨(cM (cr S1_0 w0) sz (io sr):Cg S1_0 w0 ws),h,z,H,h1,h2,(or1 h6 (io sr) (j_ lr):∀k∈h,k∈S1_0∨w0.z<=k)⟩
 rintro _ _ _ _ rfl ⟨rfl,O⟩;have V:=elR hma;obtain rfl:=som V;exact ⟨O,z⟩
def Q41 (w0:World)(B:Zone)(A0:Option Addr)(N0 C0:Nat)(S1_0:List Nat)(r:Int×(List Str))(v:Value)(w':World):Prop:=Cg S1_0 w0 w'/\un2 (λh G=>∃S1,(vI h)=v/\inI h/\a_ w' S1 (sl A0 N0 C0) G/\S1.Nodup/\(∀k∈S1,k∈S1_0∨w0.z<=k)) r
theorem W_w4x {x1:List Str}{S1_0:List Nat}{x2:Int}{res:Int×(List Str)}(hm:i_R n x1 x2=some res)(Y:B<=w0.z)(J:a_ w0 S1_0 (sl A0 N0 C0) x1)(p1_0n:S1_0.Nodup)(p1_0g:∀k∈S1_0,¬B k)(L:inI x2):h_ prog 106 [sl A0 N0 C0,vI x2] w0 (Q41 w0 B A0 N0 C0 S1_0 res):=by
 unfold i_R at hm
 refine goG func106 z z z λfn hr=>Ws<|Rw z<|Wq<|Ws<|Rw z ?_
 obtain ⟨_,huj,hmb⟩:=bdS hm;refine a_X (σ:=(List Str)×Int×Int) (ρ:=Int×(List Str)) (λs a w=>un3 (λx5 x3 x4=>∃(h:List Nat),Sat 20 [(0,sl A0 N0 C0),(1,vI x3),(5,vI x4)] a/\Cg S1_0 w0 w/\a_ w h (sl A0 N0 C0) x5/\h.Nodup/\(∀k∈h,k∈S1_0∨w0.z<=k)/\inI x3/\inI x4) s) (λs a w=>un3 (λx5 x3 x4=>∃(h:List Nat),Sat 20 [(0,sl A0 N0 C0),(1,vI x3)] a/\Cg S1_0 w0 w/\a_ w h (sl A0 N0 C0) x5/\h.Nodup/\(∀k∈h,k∈S1_0∨w0.z<=k)/\inI x3/\inI x4) s) (rQ prog fn<|Q41 w0 B A0 N0 C0 S1_0) huj ?_ ?_ ?_ ?_
 .exact λ_ q=>⟨S1_0,q.k<|s3 z z z,cr S1_0 w0,J,p1_0n,io sr,L,ii z⟩
 .rintro ⟨x5,x3,x4⟩ _ wc _ ⟨h,hSk,s6,h1,h2,G,H,hd⟩ hml;have hme:=b_Z hml;refine Wu ?_ hSk;refine Wq<|Wm z<|Rm z<|R z (lnR F_ z<|a_.rep h1)<|Rl z z z<|Wx z (λI=>?_) (λI=>?_)
  .refine Wk<|Wq<|Wb<|Wm z<|RM z z ?_
   obtain ⟨_,em,hmn⟩:=bdS<|ifT hme I;refine E z (fc call28 z<|k_1 em (zt' Y s6.s) H) ?_;rintro _ wo ⟨sa,rfl,hp⟩;obtain ⟨xq,ef,hmr⟩:=bdS hmn;have hg:=h1.e sa;refine RX z (b_c (α:=Str) F_ z_9 z z hg ef) ?_;rintro _ ⟨_,ht,rfl⟩;refine E0 (b_7 (α:=Str) z_9 z ht z z z ef hg h2 (c_r hp) an_ G_) ?_;rintro _ ws ⟨Sh,su,hv,hw,hx⟩;refine Wn<|Wg<|Rm z<|R z (add_ z z)<|Rw z<|Wg<|Rm z<|R z (add_ z z)<|Ra z<|Wl ?_
   have hi:∀k∈h,k∈S1_0∨w0.z<=k:=or1 G (io sr)<|j_ lr;exact λ_ q=>⟨(xq,b_ x3 1,b_ x4 1),(som hmr).symm,⟨Sh,q.k<|s3 z z z,(cM (i_ (cM (cr S1_0 w0) s6 (io sr):Cg S1_0 w0 wc) sa:Cg S1_0 w0 wo) su hi:Cg S1_0 w0 ws),hv,hw,(or2 hx hi an_ (j_<|lt_ s6.s sa.s):∀k∈Sh,k∈S1_0∨w0.z<=k),iA _ _,iA _ _⟩⟩
  exact We<|λ_ q=>a_Q (som<|ifF hme I).symm ⟨h,q.k<|s2 z z,(cM (cr S1_0 w0) s6 (io sr):Cg S1_0 w0 wc),h1,h2,(or1 G (io sr) (j_ lr):∀k∈h,k∈S1_0∨w0.z<=k),H,hd⟩
 .rintro ⟨x5,x3,x4⟩ a0 a1 rfl ⟨h,_,a2,h1,h2,G,H,hd⟩;have O:=elL hmb;revert a0;refine Wo<|Wm z<|Rw z ?_
  obtain rfl:=som<|b_Z O;exact Wr<|c_ hr z ⟨(cM (cr S1_0 w0) a2 (io sr):Cg S1_0 w0 a1),h,z,H,h1,h2,(or1 G (io sr) (j_ lr):∀k∈h,k∈S1_0∨w0.z<=k)⟩
 rintro _ _ _ _ rfl ⟨rfl,V⟩;have W:=elR hmb;obtain rfl:=som W;exact ⟨V,z⟩
def Q42 (w0:World)(B:Zone)(A0:Option Addr)(N0 C0:Nat)(S1_0:List Nat)(r:Int×(List Int))(v:Value)(w':World):Prop:=Cg S1_0 w0 w'/\un2 (λh G=>∃S1,(vI h)=v/\inI h/\a_ w' S1 (sl A0 N0 C0) G/\S1.Nodup/\(∀k∈S1,k∈S1_0∨w0.z<=k)) r
theorem W_w27 {x1:List Int}{S1_0:List Nat}{x2:Int}{res:Int×(List Int)}(hm:h_8 n x1 x2=some res)(W:B<=w0.z)(I:a_ w0 S1_0 (sl A0 N0 C0) x1)(p1_0n:S1_0.Nodup)(p1_0g:∀k∈S1_0,¬B k)(J:inI x2):h_ prog 107 [sl A0 N0 C0,vI x2] w0 (Q42 w0 B A0 N0 C0 S1_0 res):=by
 unfold h_8 at hm
 refine goG func107 z z z λfn hr=>Ws<|Rw z<|Wq<|Ws<|Rw z ?_
 obtain ⟨_,huh,hma⟩:=bdS hm;refine a_X (σ:=(List Int)×Int×Int) (ρ:=Int×(List Int)) (λs a w=>un3 (λx5 x3 x4=>∃(h:List Nat),Sat 19 [(0,sl A0 N0 C0),(1,vI x3),(5,vI x4)] a/\Cg S1_0 w0 w/\a_ w h (sl A0 N0 C0) x5/\h.Nodup/\(∀k∈h,k∈S1_0∨w0.z<=k)/\inI x3/\inI x4) s) (λs a w=>un3 (λx5 x3 x4=>∃(h:List Nat),Sat 19 [(0,sl A0 N0 C0),(1,vI x3)] a/\Cg S1_0 w0 w/\a_ w h (sl A0 N0 C0) x5/\h.Nodup/\(∀k∈h,k∈S1_0∨w0.z<=k)/\inI x3/\inI x4) s) (rQ prog fn<|Q42 w0 B A0 N0 C0 S1_0) huh ?_ ?_ ?_ ?_
 .exact λ_ q=>⟨S1_0,q.k<|s3 z z z,cr S1_0 w0,I,p1_0n,io sr,J,ii z⟩
 .rintro ⟨x5,x3,x4⟩ _ wb _ ⟨h,hSi,s8,h1,h2,h6,G,hc⟩ hmj;have hmd:=b_Z hmj;refine Wu ?_ hSi;refine Wq<|Wm z<|Rm z<|R z (lnR y_ z<|a_.rep h1)<|Rl z z z<|Wx z (λH=>?_) (λH=>?_)
  .refine Wk<|Wq<|Wb<|Wm z<|RM z z ?_
   obtain ⟨xk,ee,hml⟩:=bdS<|ifT hmd H;refine RX z (b_c (α:=Int) y_ z_3 z z h1 ee) ?_;rintro _ ⟨_,hn,rfl⟩;refine E0 (b_7 (α:=Int) z_3 z hn z z z ee h1 h2 (c_E G) an_ G_) ?_;rintro _ wm ⟨Sf,so,hp,hq,ht⟩;refine Wn<|Wg<|Rm z<|R z (add_ z z)<|Rw z<|Wg<|Rm z<|R z (add_ z z)<|Ra z<|Wl ?_
   have hg:∀k∈h,k∈S1_0∨w0.z<=k:=or1 h6 (io sr)<|j_ lr;exact λ_ q=>⟨(xk,b_ x3 1,b_ x4 1),(som hml).symm,⟨Sf,q.k<|s3 z z z,(cM (cM (cr S1_0 w0) s8 (io sr):Cg S1_0 w0 wb) so hg:Cg S1_0 w0 wm),hp,hq,(or2 ht hg an_ (j_ s8.s):∀k∈Sf,k∈S1_0∨w0.z<=k),iA _ _,iA _ _⟩⟩
  exact We<|λ_ q=>a_Q (som<|ifF hmd H).symm ⟨h,q.k<|s2 z z,(cM (cr S1_0 w0) s8 (io sr):Cg S1_0 w0 wb),h1,h2,(or1 h6 (io sr) (j_ lr):∀k∈h,k∈S1_0∨w0.z<=k),G,hc⟩
 .rintro ⟨x5,x3,x4⟩ ar ws rfl ⟨h,_,sz,h1,h2,h6,G,hc⟩;have L:=elL hma;revert ar;refine Wo<|Wm z<|Rw z ?_
  obtain rfl:=som<|b_Z L;exact Wr<|c_ hr z ⟨(cM (cr S1_0 w0) sz (io sr):Cg S1_0 w0 ws),h,z,G,h1,h2,(or1 h6 (io sr) (j_ lr):∀k∈h,k∈S1_0∨w0.z<=k)⟩
 rintro _ _ _ _ rfl ⟨rfl,O⟩;have V:=elR hma;obtain rfl:=som V;exact ⟨O,z⟩
def Q43 (w0:World)(B:Zone)(A0:Option Addr)(N0 C0:Nat)(S1_0:List Nat)(r:Int×(List d_))(v:Value)(w':World):Prop:=Cg S1_0 w0 w'/\un2 (λh G=>∃S1,(vI h)=v/\inI h/\a_ w' S1 (sl A0 N0 C0) G/\S1.Nodup/\(∀k∈S1,k∈S1_0∨w0.z<=k)) r
theorem W_w4y {x1:List d_}{S1_0:List Nat}{x2:Int}{res:Int×(List d_)}(hm:i_S n x1 x2=some res)(L:B<=w0.z)(bH:a_ w0 S1_0 (sl A0 N0 C0) x1)(p1_0n:S1_0.Nodup)(p1_0g:∀k∈S1_0,¬B k)(bI:inI x2):h_ prog 75 [sl A0 N0 C0,vI x2] w0 (Q43 w0 B A0 N0 C0 S1_0 res):=by
 unfold i_S at hm
 refine goG func75 z z z λfn hr=>Ws<|Rw z<|Wq<|Ws<|Rw z ?_
 obtain ⟨_,bJ,ao⟩:=bdS hm;refine a_X (σ:=(List d_)×Int×Int) (ρ:=Int×(List d_)) (λs a w=>un3 (λxi xa J=>∃(G:List Nat),Sat 72 [(0,sl A0 N0 C0),(1,vI xa),(5,vI J)] a/\Cg S1_0 w0 w/\a_ w G (sl A0 N0 C0) xi/\G.Nodup/\(∀k∈G,k∈S1_0∨w0.z<=k)/\inI xa/\inI J) s) (λs a w=>un3 (λxi xa J=>∃(G:List Nat),Sat 72 [(0,sl A0 N0 C0),(1,vI xa)] a/\Cg S1_0 w0 w/\a_ w G (sl A0 N0 C0) xi/\G.Nodup/\(∀k∈G,k∈S1_0∨w0.z<=k)/\inI xa/\inI J) s) (rQ prog fn<|Q43 w0 B A0 N0 C0 S1_0) bJ ?_ ?_ ?_ ?_
 .exact λ_ q=>⟨S1_0,q.k<|s3 z z z,cr S1_0 w0,bH,p1_0n,io sr,bI,ii z⟩
 .rintro ⟨xi,xa,J⟩ _ aq _ ⟨G,bK,st,hj,hu,hl,hv,ar⟩ bL;have ap:=b_Z bL;refine Wu ?_ bK;refine Wq<|Wm z<|Rm z<|R z (lnR a_2 z<|a_.rep hj)<|Rl z z z<|Wx z (λad=>?_) (λad=>?_)
  .refine Wk<|Wq<|Wb<|Wm z<|RM z z ?_
   obtain ⟨c6,c7,bM⟩:=bdS<|ifT ap ad;refine E z (fc call28 z<|k_1 c7 (zt' L st.s) hv) ?_;rintro _ c8 ⟨ae,rfl,c9⟩;obtain ⟨xb,au,bN⟩:=bdS bM;have av:=hj.e ae;refine RX z (c_t (α:=d_) a_2 t_ z z av au) ?_;rintro _ ⟨_,ca,rfl⟩;refine Rf z d_M z ?_;obtain ⟨_,cb,bO⟩:=bdS bN;refine E0 (e_q (α:=d_) (v':=(⟨c6,xb.kind,xb.size,xb.little,xb.bytes,xb.names,xb.tags,xb.kids⟩:d_)) z_9 z ca z z z z au cb av hu (lb z)<|λ_ _ _ h=>r_i h c9) ?_;rintro _ cc ⟨aw,ax,ay,cd,az⟩;refine Wn<|Wm z<|R z (add_ z z)<|Rw z<|Wm z<|RM z z ?_
   obtain ⟨xc,aA,bP⟩:=bdS bO;refine RX z (c_t (α:=d_) a_2 t_ z z ay aA) ?_;rintro _ ⟨_,ce,rfl⟩;refine Rf z a_O z ?_;obtain ⟨_,cf,bQ⟩:=bdS bP;refine E0 (e_q (α:=d_) (v':=(⟨xc.name,b_ xa 1,xc.size,xc.little,xc.bytes,xc.names,xc.tags,xc.kids⟩:d_)) z_3 z ce z z z z aA cf ay cd (lb z) (λ_ _ _ h=>r_j h<|iA _ _)) ?_;rintro _ cg ⟨aB,aC,aD,ch,aE⟩;refine Wn<|Wm z<|R z (add_ z z)<|Rw z<|Wm z<|RM z z ?_
   obtain ⟨xd,aF,bR⟩:=bdS bQ;refine RX z (c_t (α:=d_) a_2 t_ z z aD aF) ?_;rintro _ ⟨_,ci,rfl⟩;refine Rf z b_1 z ?_;obtain ⟨_,cj,bS⟩:=bdS bR;refine E0 (e_q (α:=d_) (v':=(⟨xd.name,xd.kind,b_ (b_ xa 1) 1,xd.little,xd.bytes,xd.names,xd.tags,xd.kids⟩:d_)) z_3 z ci z z z z aF cj aD ch (lb z) (λ_ _ _ h=>r_k h<|iA _ _)) ?_;rintro _ ck ⟨aG,aH,aI,cl,aJ⟩;refine Wn<|Wm z<|R z (add_ z z)<|Rw z<|Wm z<|RM z z<|R z (h_K z z (by decide))<|Rq z z z ?_
   obtain ⟨xe,aK,bT⟩:=bdS bS;refine RX z (c_t (α:=d_) a_2 t_ z z aI aK) ?_;rintro _ ⟨_,cm,rfl⟩;refine Rf z d_j z ?_;obtain ⟨cn,co,bU⟩:=bdS bT;refine E0 (e_q (α:=d_) (v':=(⟨xe.name,xe.kind,xe.size,(b_f (b_ (b_ (b_ xa 1) 1) 1) 3)==0,xe.bytes,xe.names,xe.tags,xe.kids⟩:d_)) z_4 z cm z z z z aK co aI cl (lb z)<|λ_ _ _ h=>r_l h) ?_;rintro _ ww ⟨aL,aM,aN,cp,aO⟩;refine Wn<|Wm z<|R z (add_ z z)<|Rw z<|Wm z<|Rm z ?_
   obtain ⟨x3,aP,bV⟩:=bdS bU;refine RX z (c_t (α:=d_) a_2 t_ z z aN aP) ?_;rintro _ ⟨_,cq,rfl⟩;obtain ⟨_,_,ct,cu,h1,aQ,_,cv⟩:=h_B cq aN cp aP;obtain ⟨_,_,_,_,_,_,_,_,_,_,_,_,Sk,Sx,Sy,Sz,rfl,rfl,cw,cx,cy,cz,aR,aS,aT⟩:=e_D cu;refine Rf z b_j z<|R z (l0 K_ z<|ct.at (j:=4) z)<|Rm z ?_
   have af:=lt_ st.s ae.s;have ah:=lt_ af ax.s;have ai:=lt_ ah aC.s;have aj:=lt_ ai aH.s;have O:=lt_ aj aM.s;have ak:=zt' L O;have aU:∀k∈aL,¬B k:=or1 aO (or1 aJ (or1 aE (or1 az (or1 hl p1_0g (n_ L):∀k∈G,¬B k) (n_<|zt' L af):∀k∈aw,¬B k) (n_<|zt' L ah):∀k∈aB,¬B k) (n_<|zt' L ai):∀k∈aG,¬B k)<|n_<|zt' L aj;have cA:∀k∈Sk,¬B k:=or1 (λk hk=>.inl<|aQ k<|List.mem_append_left _ hk) aU<|n_ ak;obtain ⟨_,aV,cB,bW⟩:=Y_ bV;refine E z (fc call49 z<|W_w26 (B:=B) cB ak cz (nl_ h1) cA<|iA _ _) ?_;rintro _ wm ⟨sf,aW,rfl,cC,cD,cE,V⟩;obtain ⟨aX,aY,cF,aZ⟩:=cv _ _ _ (cM (cr (Sk++(Sx++(Sy++Sz))) ww) sf (io<|a_B sr):Chg (· ∈ (Sk++(Sx++(Sy++Sz)))) ww wm) (d_G (x:=(⟨x3.name,x3.kind,x3.size,x3.little,aV,x3.names,x3.tags,x3.kids⟩:d_)) (S1:=aW) (S2:=Sx) (S3:=Sy) (S4:=Sz) cw cx cy cD (aR.c sf<|ds<|nmL<|nj h1) (aS.c sf<|ds<|nmL<|nmR<|nj h1)<|aT.c sf<|ds<|nmR<|nmR<|nj h1) (na_ cE (na_ (nl_<|nr_ h1) (na_ (nl_<|nr_<|nr_ h1) (nr_<|nr_<|nr_ h1)<|nj<|nr_<|nr_ h1)<|nmA (nmL<|nj<|nr_ h1)<|nmR<|nj<|nr_ h1)<|nmA (c_c V (nmL<|nj h1) (a_.lt aR) lr)<|nmA (c_c V (nmL<|nmR<|nj h1) (a_.lt aS) lr)<|c_c V (nmR<|nmR<|nj h1) (a_.lt aT) lr)<|aa_ (or1 V (io<|a_B sr) (j_ lr):∀k∈aW,k∈(Sk++(Sx++(Sy++Sz)))∨ww.z<=k)<|aa_ (io<|a_3<|a_B sr)<|aa_ (io<|a_3<|a_3<|a_B sr)<|io<|a_3<|a_3<|a_3 sr;refine Rw z<|Wm z<|Rm z ?_
   obtain ⟨x4,b0,bX⟩:=bdS bW;refine RX z (c_t (α:=d_) a_2 t_ z z aY b0) ?_;rintro _ ⟨_,cG,rfl⟩;obtain ⟨_,_,cH,cI,h2,b1,_,cJ⟩:=h_B cG aY cF b0;obtain ⟨_,_,_,_,_,_,_,_,_,_,_,_,W,Sn,Y,a0,rfl,rfl,cK,cL,cN,b2,cO,b3,b4⟩:=e_D cI;refine Rf z c_i z<|R z (l0 a_G z<|cH.at (j:=5) z)<|Rm z ?_
   have a1:=lt_ O sf.s;have al:=zt' L a1;have b5:∀k∈aX,¬B k:=or1 aZ aU<|n_ ak;have cP:∀k∈Sn,¬B k:=or1 (λk hk=>.inl<|(λk hk=>b1 k<|List.mem_append_right _ hk) k<|List.mem_append_left _ hk) b5<|n_ al;obtain ⟨_,b6,cQ,bY⟩:=Y_ bX;refine E z (fc call106 z<|W_w4x (B:=B) cQ al cO (nl_<|nr_ h2) cP cC) ?_;rintro _ wo ⟨sg,b7,rfl,cR,cS,cT,a2⟩;obtain ⟨b8,b9,cU,ba⟩:=cJ _ _ _ (cM (cr (W++(Sn++(Y++a0))) wm) sg (io<|a_3<|a_B sr):Chg (· ∈ (W++(Sn++(Y++a0)))) wm wo) (d_G (x:=(⟨x4.name,x4.kind,x4.size,x4.little,x4.bytes,b6,x4.tags,x4.kids⟩:d_)) (S1:=W) (S2:=b7) (S3:=Y) (S4:=a0) cK cL cN (b2.c sg<|nmL<|nj h2) cS (b3.c sg<|ds<|nmL<|nj<|nr_ h2)<|b4.c sg<|ds<|nmR<|nj<|nr_ h2) (na_ (nl_ h2) (na_ cT (na_ (nl_<|nr_<|nr_ h2) (nr_<|nr_<|nr_ h2)<|nj<|nr_<|nr_ h2)<|nmA (c_c a2 (nmL<|nj<|nr_ h2) (a_.lt b3) lr)<|c_c a2 (nmR<|nj<|nr_ h2) (a_.lt b4) lr)<|nmA (ds<|c_c a2 (ds<|nmL<|nj h2) (a_.lt b2) lr)<|nmA (nmL<|nmR<|nj h2)<|nmR<|nmR<|nj h2)<|aa_ (io<|a_B sr)<|aa_ (or1 a2 (io<|a_3<|a_B sr) (j_ lr):∀k∈b7,k∈(W++(Sn++(Y++a0)))∨wm.z<=k)<|aa_ (io<|a_3<|a_3<|a_B sr)<|io<|a_3<|a_3<|a_3 sr;refine Rw z<|Wm z<|Rm z ?_
   obtain ⟨x5,bb,bZ⟩:=bdS bY;refine RX z (c_t (α:=d_) a_2 t_ z z b9 bb) ?_;rintro _ ⟨_,cV,rfl⟩;obtain ⟨_,_,cW,cX,H,bc,_,cY⟩:=h_B cV b9 cU bb;obtain ⟨_,_,_,_,_,_,_,_,_,_,_,_,a3,a4,Sp,a5,rfl,rfl,cZ,d0,d1,be,bf,d2,bg⟩:=e_D cX;refine Rf z b_k z<|R z (l0 H_ z<|cW.at (j:=6) z)<|Rm z ?_
   have a6:=lt_ a1 sg.s;have am:=zt' L a6;have bh:∀k∈b8,¬B k:=or1 ba b5<|n_ al;have d3:∀k∈Sp,¬B k:=or1 (λk hk=>.inl<|(λk hk=>(λk hk=>bc k<|List.mem_append_right _ hk) k<|List.mem_append_right _ hk) k<|List.mem_append_left _ hk) bh<|n_ am;obtain ⟨_,bi,d4,c0⟩:=Y_ bZ;refine E z (fc call107 z<|W_w27 (B:=B) d4 am d2 (nl_<|nr_<|nr_ H) d3 cR) ?_;rintro _ wq ⟨sh,bj,rfl,d5,d6,d7,a7⟩;obtain ⟨bk,bm,d8,bn⟩:=cY _ _ _ (cM (cr (a3++(a4++(Sp++a5))) wo) sh (io<|a_3<|a_3<|a_B sr):Chg (· ∈ (a3++(a4++(Sp++a5)))) wo wq) (d_G (x:=(⟨x5.name,x5.kind,x5.size,x5.little,x5.bytes,x5.names,bi,x5.kids⟩:d_)) (S1:=a3) (S2:=a4) (S3:=bj) (S4:=a5) cZ d0 d1 (be.c sh<|nmL<|nmR<|nj H) (bf.c sh<|nmL<|nj<|nr_ H) d6<|bg.c sh<|ds<|nj<|nr_<|nr_ H) (na_ (nl_ H) (na_ (nl_<|nr_ H) (na_ d7 (nr_<|nr_<|nr_ H)<|c_c a7 (nj<|nr_<|nr_ H) (a_.lt bg) lr)<|nmA (ds<|c_c a7 (ds<|nmL<|nj<|nr_ H) (a_.lt bf) lr)<|nmR<|nj<|nr_ H)<|nmA (nmL<|nj H)<|nmA (ds<|c_c a7 (ds<|nmL<|nmR<|nj H) (a_.lt be) lr)<|nmR<|nmR<|nj H)<|aa_ (io<|a_B sr)<|aa_ (io<|a_3<|a_B sr)<|aa_ (or1 a7 (io<|a_3<|a_3<|a_B sr) (j_ lr):∀k∈bj,k∈(a3++(a4++(Sp++a5)))∨wo.z<=k)<|io<|a_3<|a_3<|a_3 sr;refine Rw z<|Wg<|RM z z ?_
   obtain ⟨x6,bo,c1⟩:=bdS c0;refine RX z (c_t (α:=d_) a_2 t_ z z bm bo) ?_;rintro _ ⟨_,d9,rfl⟩;obtain ⟨_,_,da,db,I,bp,_,dc⟩:=h_B d9 bm d8 bo;obtain ⟨_,_,_,_,_,_,_,_,_,_,_,_,a8,a9,aa,Sr,rfl,rfl,dd,de,df,bq,br,bs,dg⟩:=e_D db;refine Rf z a_1 z<|R z (l0 H_ z<|da.at (j:=7) z)<|Rm z ?_
   have an:=lt_ a6 sh.s;have bt:=zt' L an;have dh:∀k∈Sr,¬B k:=or1 (λk hk=>.inl<|(λk hk=>(λk hk=>(λk hk=>bp k<|List.mem_append_right _ hk) k<|List.mem_append_right _ hk) k<|List.mem_append_right _ hk) k hk) (or1 bn bh (n_ am):∀k∈bk,¬B k)<|n_ bt;obtain ⟨di,bu,dj,c2⟩:=Y_ c1;refine E z (fc call107 z<|W_w27 (B:=B) dj bt dg (nr_<|nr_<|nr_ I) dh d5) ?_;rintro _ bv ⟨ss,bw,rfl,dk,dl,dm,ab⟩;obtain ⟨bx,dn,dp,dq⟩:=dc _ _ _ (cM (cr (a8++(a9++(aa++Sr))) wq) ss (io<|a_3<|a_3<|a_3 sr):Chg (· ∈ (a8++(a9++(aa++Sr)))) wq bv) (d_G (x:=(⟨x6.name,x6.kind,x6.size,x6.little,x6.bytes,x6.names,x6.tags,bu⟩:d_)) (S1:=a8) (S2:=a9) (S3:=aa) (S4:=bw) dd de df (bq.c ss<|nmR<|nmR<|nj I) (br.c ss<|nmR<|nj<|nr_ I) (bs.c ss<|nj<|nr_<|nr_ I) dl) (na_ (nl_ I) (na_ (nl_<|nr_ I) (na_ (nl_<|nr_<|nr_ I) dm<|ds<|c_c ab (ds<|nj<|nr_<|nr_ I) (a_.lt bs) lr)<|nmA (nmL<|nj<|nr_ I)<|ds<|c_c ab (ds<|nmR<|nj<|nr_ I) (a_.lt br) lr)<|nmA (nmL<|nj I)<|nmA (nmL<|nmR<|nj I)<|ds<|c_c ab (ds<|nmR<|nmR<|nj I) (a_.lt bq) lr)<|aa_ (io<|a_B sr)<|aa_ (io<|a_3<|a_B sr)<|aa_ (io<|a_3<|a_3<|a_B sr) (or1 ab (io<|a_3<|a_3<|a_3 sr) (j_ lr):∀k∈bw,k∈(a8++(a9++(aa++Sr)))∨wq.z<=k);refine Rw z<|Wg<|Rm z<|R z (add_ z z)<|Ra z<|Wl ?_
   have bz:∀k∈G,k∈S1_0∨w0.z<=k:=or1 hl (io sr)<|j_ lr;have bA:∀k∈aw,k∈S1_0∨w0.z<=k:=or1 az bz<|j_ af;have bB:∀k∈aB,k∈S1_0∨w0.z<=k:=or1 aE bA<|j_ ah;have bC:∀k∈aG,k∈S1_0∨w0.z<=k:=or1 aJ bB<|j_ ai;have bD:∀k∈aL,k∈S1_0∨w0.z<=k:=or1 aO bC<|j_ aj;have bE:∀k∈aX,k∈S1_0∨w0.z<=k:=or1 aZ bD<|j_ O;have bF:∀k∈b8,k∈S1_0∨w0.z<=k:=or1 ba bE<|j_ a1;have bG:∀k∈bk,k∈S1_0∨w0.z<=k:=or1 bn bF<|j_ a6;have dr:∀k∈Sk,k∈S1_0∨w0.z<=k:=or1 (λk hk=>.inl<|aQ k<|List.mem_append_left _ hk) bD<|j_ O;have dt:∀k∈Sn,k∈S1_0∨w0.z<=k:=or1 (λk hk=>.inl<|(λk hk=>b1 k<|List.mem_append_right _ hk) k<|List.mem_append_left _ hk) bE<|j_ a1;have du:∀k∈Sp,k∈S1_0∨w0.z<=k:=or1 (λk hk=>.inl<|(λk hk=>(λk hk=>bc k<|List.mem_append_right _ hk) k<|List.mem_append_right _ hk) k<|List.mem_append_left _ hk) bF<|j_ a6;have dv:∀k∈Sr,k∈S1_0∨w0.z<=k:=or1 (λk hk=>.inl<|(λk hk=>(λk hk=>(λk hk=>bp k<|List.mem_append_right _ hk) k<|List.mem_append_right _ hk) k<|List.mem_append_right _ hk) k hk) bG<|j_ an;exact λ_ q=>⟨((((cn.set (J).toNat (⟨x3.name,x3.kind,x3.size,x3.little,aV,x3.names,x3.tags,x3.kids⟩:d_)).set (J).toNat (⟨x4.name,x4.kind,x4.size,x4.little,x4.bytes,b6,x4.tags,x4.kids⟩:d_)).set (J).toNat (⟨x5.name,x5.kind,x5.size,x5.little,x5.bytes,x5.names,bi,x5.kids⟩:d_)).set (J).toNat (⟨x6.name,x6.kind,x6.size,x6.little,x6.bytes,x6.names,x6.tags,bu⟩:d_),di,b_ J 1),(som c2).symm,⟨bx,q.k<|s3 z z z,(cM (cM (cM (cM (cM (cM (cM (cM (i_ (cM (cr S1_0 w0) st (io sr):Cg S1_0 w0 aq) ae:Cg S1_0 w0 c8) ax bz:Cg S1_0 w0 cc) aC bA:Cg S1_0 w0 cg) aH bB:Cg S1_0 w0 ck) aM bC:Cg S1_0 w0 ww) sf dr:Cg S1_0 w0 wm) sg dt:Cg S1_0 w0 wo) sh du:Cg S1_0 w0 wq) ss dv:Cg S1_0 w0 bv),dn,dp,(or1 dq bG (j_ an):∀k∈bx,k∈S1_0∨w0.z<=k),dk,iA _ _⟩⟩
  exact We<|λ_ q=>a_Q (som<|ifF ap ad).symm ⟨G,q.k<|s2 z z,(cM (cr S1_0 w0) st (io sr):Cg S1_0 w0 aq),hj,hu,(or1 hl (io sr) (j_ lr):∀k∈G,k∈S1_0∨w0.z<=k),hv,ar⟩
 .rintro ⟨xi,xa,J⟩ dw dx rfl ⟨G,_,dy,hj,hu,hl,hv,ar⟩;have c3:=elL ao;revert dw;refine Wo<|Wm z<|Rw z ?_
  obtain rfl:=som<|b_Z c3;exact Wr<|c_ hr z ⟨(cM (cr S1_0 w0) dy (io sr):Cg S1_0 w0 dx),G,z,hv,hj,hu,(or1 hl (io sr) (j_ lr):∀k∈G,k∈S1_0∨w0.z<=k)⟩
 rintro _ _ _ _ rfl ⟨rfl,c4⟩;have c5:=elR ao;obtain rfl:=som c5;exact ⟨c4,z⟩
def Q44 (w0:World)(B:Zone)(A0:Option Addr)(N0 C0:Nat)(S1_0:List Nat)(r:Int×(List f_))(v:Value)(w':World):Prop:=Cg S1_0 w0 w'/\un2 (λh G=>∃S1,(vI h)=v/\inI h/\a_ w' S1 (sl A0 N0 C0) G/\S1.Nodup/\(∀k∈S1,k∈S1_0∨w0.z<=k)) r
theorem W_w4z {x1:List f_}{S1_0:List Nat}{x2:Int}{res:Int×(List f_)}(hm:j_A n x1 x2=some res)(L:B<=w0.z)(O:a_ w0 S1_0 (sl A0 N0 C0) x1)(p1_0n:S1_0.Nodup)(p1_0g:∀k∈S1_0,¬B k)(V:inI x2):h_ prog 48 [sl A0 N0 C0,vI x2] w0 (Q44 w0 B A0 N0 C0 S1_0 res):=by
 unfold j_A at hm
 refine goG func48 z z z λfn hr=>Ws<|Rw z<|Wq<|Ws<|Rw z ?_
 obtain ⟨_,huo,hmc⟩:=bdS hm;refine a_X (σ:=(List f_)×Int×Int) (ρ:=Int×(List f_)) (λs a w=>un3 (λx5 x4 x3=>∃(h:List Nat),Sat 20 [(0,sl A0 N0 C0),(1,vI x4),(5,vI x3)] a/\Cg S1_0 w0 w/\a_ w h (sl A0 N0 C0) x5/\h.Nodup/\(∀k∈h,k∈S1_0∨w0.z<=k)/\inI x4/\inI x3) s) (λs a w=>un3 (λx5 x4 x3=>∃(h:List Nat),Sat 20 [(0,sl A0 N0 C0),(1,vI x4)] a/\Cg S1_0 w0 w/\a_ w h (sl A0 N0 C0) x5/\h.Nodup/\(∀k∈h,k∈S1_0∨w0.z<=k)/\inI x4/\inI x3) s) (rQ prog fn<|Q44 w0 B A0 N0 C0 S1_0) huo ?_ ?_ ?_ ?_
 .exact λ_ q=>⟨S1_0,q.k<|s3 z z z,cr S1_0 w0,O,p1_0n,io sr,V,ii z⟩
 .rintro ⟨x5,x4,x3⟩ _ G _ ⟨h,hSp,s6,h1,J,H,ha,hd⟩ hmq;have hme:=b_Z hmq;refine Wu ?_ hSp;refine Wq<|Wm z<|Rm z<|R z (lnR b_r z<|a_.rep h1)<|Rl z z z<|Wx z (λhcb=>?_) (λhcb=>?_)
  .refine Wk<|Wq<|Wb<|Wg<|RM z z ?_
   obtain ⟨_,ef,hmr⟩:=bdS<|ifT hme hcb;refine RX z (c_t (α:=f_) b_r D_ z z h1 ef) ?_;rintro _ ⟨_,ht,rfl⟩;obtain ⟨_,I,hu,hv,hw,hg,_,hx⟩:=h_B ht h1 J ef;obtain ⟨_,_,_,_,rfl,rfl,hy⟩:=r_m hv;refine Rf z a_s z<|R z (l0 a_u z<|hu.at (j:=0) z)<|Rm z ?_
   have hh:=zt' L s6.s;have a2:∀k∈I,¬B k:=or1 (λk hk=>.inl<|hg k hk) (or1 H p1_0g (n_ L):∀k∈h,¬B k)<|n_ hh;obtain ⟨rs,ri,a3,W⟩:=Y_ hmr;refine E z (fc call75 z<|W_w4y (B:=B) a3 hh hy hw a2 ha) ?_;rintro _ wj ⟨sk,Sl,rfl,a4,a5,a6,a7⟩;obtain ⟨Sm,a8,a9,aa⟩:=hx _ _ _ (cM (cr I G) sk (io sr):Cg I G wj) (l_G (x:=(⟨ri⟩:f_)) (S1:=Sl) a5) a6 (or1 a7 (io sr) (j_ lr):∀k∈Sl,k∈I∨G.z<=k);refine Rw z<|Wg<|Rm z<|R z (add_ z z)<|Ra z<|Wl ?_
   have hn:∀k∈h,k∈S1_0∨w0.z<=k:=or1 H (io sr)<|j_ lr;have ab:∀k∈I,k∈S1_0∨w0.z<=k:=or1 (λk hk=>.inl<|hg k hk) hn<|j_ s6.s;exact λ_ q=>⟨(x5.set (x3).toNat (⟨ri⟩:f_),rs,b_ x3 1),(som W).symm,⟨Sm,q.k<|s3 z z z,(cM (cM (cr S1_0 w0) s6 (io sr):Cg S1_0 w0 G) sk ab:Cg S1_0 w0 wj),a8,a9,(or1 aa hn (j_ s6.s):∀k∈Sm,k∈S1_0∨w0.z<=k),a4,iA _ _⟩⟩
  exact We<|λ_ q=>a_Q (som<|ifF hme hcb).symm ⟨h,q.k<|s2 z z,(cM (cr S1_0 w0) s6 (io sr):Cg S1_0 w0 G),h1,J,(or1 H (io sr) (j_ lr):∀k∈h,k∈S1_0∨w0.z<=k),ha,hd⟩
 .rintro ⟨x5,x4,x3⟩ ad ae rfl ⟨h,_,af,h1,J,H,ha,hd⟩;have Y:=elL hmc;revert ad;refine Wo<|Wm z<|Rw z ?_
  obtain rfl:=som<|b_Z Y;exact Wr<|c_ hr z ⟨(cM (cr S1_0 w0) af (io sr):Cg S1_0 w0 ae),h,z,ha,h1,J,(or1 H (io sr) (j_ lr):∀k∈h,k∈S1_0∨w0.z<=k)⟩
 rintro _ _ _ _ rfl ⟨rfl,a0⟩;have a1:=elR hmc;obtain rfl:=som a1;exact ⟨a0,z⟩
theorem W_w50 {x1:a_c}{S1_0:List Nat}{x2:Int}{res:Int×(List f_)}(hm:l_A n x1 x2=some res)(J:B<=w0.z)(H:a_ w0 S1_0 (sl A0 N0 C0) x1.versions)(p1_0n:S1_0.Nodup)(p1_0g:∀k∈S1_0,¬B k)(I:inI x2):h_ prog 26 [(.agg #[sl A0 N0 C0]),vI x2] w0 (Q44 w0 B A0 N0 C0 S1_0 res):=by
 unfold l_A at hm
 refine goG func26 z z z λfn hr=>Ws<|E z (fb z) ?_
 rintro _ G ⟨rfl,h2⟩;have h:=h2.below;refine Rw z<|Ws<|Rf z c_5 z<|R z (l0 c_f z<|(h2.blk:Blk G w0.z [sl A0 N0 C0]).at z)<|Rm z ?_
 obtain ⟨_,_,O,L⟩:=Y_ hm;refine E z (fc call48 z<|W_w4z O (zt' J h.s) (H.e h) p1_0n p1_0g I) ?_;rintro _ V ⟨s8,S3,rfl,W,ha,hb,hc⟩;refine Rw z<|Wm z<|Rw z ?_
 obtain rfl:=som L;exact Wr<|c_ hr z ⟨(cM (i_ (cr S1_0 w0) h:Cg S1_0 w0 G) s8 (io sr):Cg S1_0 w0 V),S3,z,W,ha,hb,(or1 hc (io sr) (j_ h.s):∀k∈S3,k∈S1_0∨w0.z<=k)⟩
theorem W_w51 {x1:Log}{S1_0:List Nat}{x2:Int}{res:Int×Bt}(hm:l_z n x1 x2=some res)(J:B<=w0.z)(H:a_ w0 S1_0 (sl A0 N0 C0) x1.bytes)(p1_0n:S1_0.Nodup)(p1_0g:∀k∈S1_0,¬B k)(Y:inI x1.stored)(I:inI x2):h_ prog 27 [(.agg #[sl A0 N0 C0,vI x1.stored]),vI x2] w0 (Q40 w0 B A0 N0 C0 S1_0 res):=by
 unfold l_z at hm
 refine goG func27 z z z λfn hr=>Ws<|E z (fb z) ?_
 rintro _ G ⟨rfl,h2⟩;have h:=h2.below;refine Rw z<|Ws<|Rf z c_6 z<|R z (l0 K_ z<|(h2.blk:Blk G w0.z [sl A0 N0 C0,vI x1.stored]).at z)<|Rm z ?_
 obtain ⟨_,_,O,L⟩:=Y_ hm;refine E z (fc call49 z<|W_w26 O (zt' J h.s) (H.e h) p1_0n p1_0g I) ?_;rintro _ V ⟨s8,S3,rfl,W,ha,hb,hc⟩;refine Rw z<|Wm z<|Rw z ?_
 obtain rfl:=som L;exact Wr<|c_ hr z ⟨(cM (i_ (cr S1_0 w0) h:Cg S1_0 w0 G) s8 (io sr):Cg S1_0 w0 V),S3,z,W,ha,hb,(or1 hc (io sr) (j_ h.s):∀k∈S3,k∈S1_0∨w0.z<=k)⟩
def Q45 (w0:World)(B:Zone)(A0:Option Addr)(N0 C0:Nat)(S1_0:List Nat)(A1:Option Addr)(N1 C1:Nat)(S1_1:List Nat)(r:Int×(List f_)×Bt)(v:Value)(w':World):Prop:=Chg (· ∈ (S1_0++S1_1)) w0 w'/\un3 (λh G H=>∃S1 S2,(vI h)=v/\inI h/\a_ w' S1 (sl A0 N0 C0) G/\S1.Nodup/\(∀k∈S1,k∈S1_0∨w0.z<=k)/\a_ w' S2 (sl A1 N1 C1) H/\S2.Nodup/\(∀k∈S2,k∈S1_1∨w0.z<=k)) r
theorem W_w52 {x1:J_}{S1_0:List Nat}{S1_1:List Nat}{x2:Int}{res:Int×(List f_)×Bt}(hm:j_B n x1 x2=some res)(I:B<=w0.z)(G:a_ w0 S1_0 (sl A0 N0 C0) x1.registry.versions)(p1_0n:S1_0.Nodup)(p1_0g:∀k∈S1_0,¬B k)(H:a_ w0 S1_1 (sl A1 N1 C1) x1.log.bytes)(p1_1n:S1_1.Nodup)(p1_1g:∀k∈S1_1,¬B k)(p1_1d1:∀k∈S1_1,k∉S1_0)(W:inI x1.log.stored)(Y:inI x2):h_ prog 10 [(.agg #[sl A0 N0 C0,sl A1 N1 C1,vI x1.log.stored]),vI x2] w0 (Q45 w0 B A0 N0 C0 S1_0 A1 N1 C1 S1_1 res):=by
 unfold j_B at hm
 refine goG func10 z z z λfn hr=>Ws<|E z (fb z) ?_
 rintro _ J ⟨rfl,h3⟩;have h:=h3.below;have h4:Blk J w0.z [sl A0 N0 C0,sl A1 N1 C1,vI x1.log.stored]:=h3.blk;refine Rw z<|Ws<|Rf z c_P z<|R z (lN (vs:=[sl A0 N0 C0]) e_G d_Q z z fid<|h4.row 0 1 z)<|Rm z ?_
 obtain ⟨_,_,ea,hmb⟩:=Y_ hm;refine E z (fc call26 z<|W_w50 (B:=B) (x1:=(⟨x1.registry.versions⟩:a_c)) ea (zt' I h.s) (G.e h) p1_0n p1_0g Y) ?_;rintro _ wc ⟨s1,L,rfl,hd,he,hf,h6⟩;refine Rw z<|Ws<|Rf z c_B z<|R z (lN (vs:=[sl A1 N1 C1,vI x1.log.stored]) e_f d_l z z fid<|(h4.c s1<|atp<|mnr<|a_.lt G).row 1 2 z)<|Rm z ?_
 have O:=lt_ h.s s1.s;obtain ⟨_,_,eg,hmh⟩:=Y_ hmb;refine E z (fc call27 z<|W_w51 (B:=B) (x1:=(⟨x1.log.bytes,x1.log.stored⟩:Log)) eg (zt' I O) ((H.e h).c s1 p1_1d1) p1_1n p1_1g W hd) ?_;rintro _ wi ⟨s8,V,rfl,hj,hk,hl,hn⟩;refine Rw z<|Wm z<|Rw z ?_
 obtain rfl:=som hmh;exact Wr<|c_ hr z ⟨(cM (cM (i_ (cr (S1_0++S1_1) w0) h:Chg (· ∈ (S1_0++S1_1)) w0 J) s1 (io<|a_B sr):Chg (· ∈ (S1_0++S1_1)) w0 wc) s8 (io<|a_3 sr):Chg (· ∈ (S1_0++S1_1)) w0 wi),L,V,z,hj,he.c s8<|c_c h6 (ds p1_1d1) (a_.lt H) h.s,hf,(or1 h6 (io sr) (j_ h.s):∀k∈L,k∈S1_0∨w0.z<=k),hk,hl,(or1 hn (io sr) (j_ O):∀k∈V,k∈S1_1∨w0.z<=k)⟩
def Q46 (w0:World)(B:Zone)(A0:Option Addr)(N0 C0:Nat)(S1_0:List Nat)(r:Int×(List l_))(v:Value)(w':World):Prop:=Cg S1_0 w0 w'/\un2 (λh G=>∃S1,(vI h)=v/\inI h/\a_ w' S1 (sl A0 N0 C0) G/\S1.Nodup/\(∀k∈S1,k∈S1_0∨w0.z<=k)) r
theorem W_w53 {x1:List l_}{S1_0:List Nat}{x2:Int}{res:Int×(List l_)}(hm:j_8 n x1 x2=some res)(af:B<=w0.z)(V:a_ w0 S1_0 (sl A0 N0 C0) x1)(p1_0n:S1_0.Nodup)(p1_0g:∀k∈S1_0,¬B k)(W:inI x2):h_ prog 11 [sl A0 N0 C0,vI x2] w0 (Q46 w0 B A0 N0 C0 S1_0 res):=by
 unfold j_8 at hm
 refine goG func11 z z z λfn hr=>Ws<|Rw z<|Wq<|Ws<|Rw z ?_
 obtain ⟨_,Y,hmf⟩:=bdS hm;refine a_X (σ:=(List l_)×Int×Int) (ρ:=Int×(List l_)) (λs a w=>un3 (λx5 x3 x4=>∃(G:List Nat),Sat 42 [(0,sl A0 N0 C0),(1,vI x3),(5,vI x4)] a/\Cg S1_0 w0 w/\a_ w G (sl A0 N0 C0) x5/\G.Nodup/\(∀k∈G,k∈S1_0∨w0.z<=k)/\inI x3/\inI x4) s) (λs a w=>un3 (λx5 x3 x4=>∃(G:List Nat),Sat 42 [(0,sl A0 N0 C0),(1,vI x3)] a/\Cg S1_0 w0 w/\a_ w G (sl A0 N0 C0) x5/\G.Nodup/\(∀k∈G,k∈S1_0∨w0.z<=k)/\inI x3/\inI x4) s) (rQ prog fn<|Q46 w0 B A0 N0 C0 S1_0) Y ?_ ?_ ?_ ?_
 .exact λ_ q=>⟨S1_0,q.k<|s3 z z z,cr S1_0 w0,V,p1_0n,io sr,W,ii z⟩
 .rintro ⟨x5,x3,x4⟩ _ wg _ ⟨G,a0,s6,h1,h2,H,I,hh⟩ a1;have hmi:=b_Z a1;refine Wu ?_ a0;refine Wq<|Wm z<|Rm z<|R z (lnR b_5 z<|a_.rep h1)<|Rl z z z<|Wx z (λJ=>?_) (λJ=>?_)
  .refine Wk<|Wq<|Wb<|Wm z<|RM z z ?_
   obtain ⟨ah,ai,a2⟩:=bdS<|ifT hmi J;refine E z (fc call28 z<|k_1 ai (zt' af s6.s) I) ?_;rintro _ aj ⟨sa,rfl,ak⟩;obtain ⟨xb,ej,a3⟩:=bdS a2;have hk:=h1.e sa;refine RX z (c_t (α:=l_) b_5 b_x z z hk ej) ?_;rintro _ ⟨_,al,rfl⟩;refine Rf z g_6 z ?_;obtain ⟨_,am,a4⟩:=bdS a3;refine E0 (e_q (α:=l_) (v':=(⟨ah,xb.rule,xb.start,xb.end_⟩:l_)) z_9 z al z z z z ej am hk h2 (lb z)<|λ_ _ _ h=>r_n h ak) ?_;rintro _ an ⟨ao,sm,hl,ap,aq⟩;refine Wn<|Wm z<|R z (add_ z z)<|Rw z<|Wm z<|RM z z ?_
   obtain ⟨xc,en,a5⟩:=bdS a4;refine RX z (c_t (α:=l_) b_5 b_x z z hl en) ?_;rintro _ ⟨_,ar,rfl⟩;refine Rf z j_L z ?_;obtain ⟨_,au,a6⟩:=bdS a5;refine E0 (e_q (α:=l_) (v':=(⟨xc.path,b_ x3 1,xc.start,xc.end_⟩:l_)) z_3 z ar z z z z en au hl ap (lb z) (λ_ _ _ h=>r_o h<|iA _ _)) ?_;rintro _ av ⟨aw,so,hp,ax,ay⟩;refine Wn<|Wm z<|R z (add_ z z)<|Rw z<|Wm z<|RM z z ?_
   obtain ⟨xd,eq,a7⟩:=bdS a6;refine RX z (c_t (α:=l_) b_5 b_x z z hp eq) ?_;rintro _ ⟨_,az,rfl⟩;refine Rf z j_M z ?_;obtain ⟨_,aA,a8⟩:=bdS a7;refine E0 (e_q (α:=l_) (v':=(⟨xd.path,xd.rule,b_ (b_ x3 1) 1,xd.end_⟩:l_)) z_3 z az z z z z eq aA hp ax (lb z) (λ_ _ _ h=>r_p h<|iA _ _)) ?_;rintro _ aB ⟨aC,ss,ht,aD,aE⟩;refine Wn<|Wm z<|R z (add_ z z)<|Rw z<|Wm z<|RM z z ?_
   obtain ⟨xe,er,a9⟩:=bdS a8;refine RX z (c_t (α:=l_) b_5 b_x z z ht er) ?_;rintro _ ⟨_,aF,rfl⟩;refine Rf z h_q z ?_;obtain ⟨aG,aH,aa⟩:=bdS a9;refine E0 (e_q (α:=l_) (v':=(⟨xe.path,xe.rule,xe.start,b_ (b_ (b_ x3 1) 1) 1⟩:l_)) z_3 z aF z z z z er aH ht aD (lb z) (λ_ _ _ h=>n_u h<|iA _ _)) ?_;rintro _ aI ⟨Su,aJ,aK,aL,aM⟩;refine Wn<|Wg<|Rm z<|R z (add_ z z)<|Rw z<|Wg<|Rm z<|R z (add_ z z)<|Ra z<|Wl ?_
   have hv:=lt_ s6.s sa.s;have hw:=lt_ hv sm.s;have hx:=lt_ hw so.s;have hy:∀k∈G,k∈S1_0∨w0.z<=k:=or1 H (io sr)<|j_ lr;have hz:∀k∈ao,k∈S1_0∨w0.z<=k:=or1 aq hy<|j_ hv;have L:∀k∈aw,k∈S1_0∨w0.z<=k:=or1 ay hz<|j_ hw;have O:∀k∈aC,k∈S1_0∨w0.z<=k:=or1 aE L<|j_ hx;exact λ_ q=>⟨(aG,b_ (b_ (b_ (b_ x3 1) 1) 1) 1,b_ x4 1),(som aa).symm,⟨Su,q.k<|s3 z z z,(cM (cM (cM (cM (i_ (cM (cr S1_0 w0) s6 (io sr):Cg S1_0 w0 wg) sa:Cg S1_0 w0 aj) sm hy:Cg S1_0 w0 an) so hz:Cg S1_0 w0 av) ss L:Cg S1_0 w0 aB) aJ O:Cg S1_0 w0 aI),aK,aL,(or1 aM O (j_<|lt_ hx ss.s):∀k∈Su,k∈S1_0∨w0.z<=k),iA _ _,iA _ _⟩⟩
  exact We<|λ_ q=>a_Q (som<|ifF hmi J).symm ⟨G,q.k<|s2 z z,(cM (cr S1_0 w0) s6 (io sr):Cg S1_0 w0 wg),h1,h2,(or1 H (io sr) (j_ lr):∀k∈G,k∈S1_0∨w0.z<=k),I,hh⟩
 .rintro ⟨x5,x3,x4⟩ aN aO rfl ⟨G,_,aP,h1,h2,H,I,hh⟩;have ab:=elL hmf;revert aN;refine Wo<|Wm z<|Rw z ?_
  obtain rfl:=som<|b_Z ab;exact Wr<|c_ hr z ⟨(cM (cr S1_0 w0) aP (io sr):Cg S1_0 w0 aO),G,z,I,h1,h2,(or1 H (io sr) (j_ lr):∀k∈G,k∈S1_0∨w0.z<=k)⟩
 rintro _ _ _ _ rfl ⟨rfl,ad⟩;have ae:=elR hmf;obtain rfl:=som ae;exact ⟨ad,z⟩
theorem W_w28 {x1:List l_}{x2:Int}{res:Int}(hm:h_9 n x1 x2=some res)(a1:B<=w0.z)(G:repS w0 B (sl A0 N0 C0) x1)(O:inI x2):h_ prog 12 [sl A0 N0 C0,vI x2] w0 (Q0 w0 B res):=by
 unfold h_9 at hm
 refine goG func12 z z z λfn hr=>Ws<|Rw z<|Wq<|Ws<|Rw z ?_
 obtain ⟨_,huj,hma⟩:=bdS hm;refine Wf (σ:=Int) (ρ:=Int) (λ(kb:Nat)(x0:Int) a w=>Sat 50 [(0,sl A0 N0 C0),(1,vI x0),(5,vI ((kb:Nat):Int))] a/\Below w0.z w0 w/\inI x0) (λ(x0:Int) a w=>Sat 50 [(1,vI x0)] a/\Below w0.z w0 w/\inI x0) (rQ prog fn<|Q0 w0 B) huj ?_ ?_ ?_ ?_ ?_
 .exact λ_ q=>⟨q.k<|s3 z z z,br w0,O⟩
 .rintro kb x0 _ _ _ hkc ⟨hSk,s2,h1⟩ hml;refine Wu ?_ hSk;refine Wq<|Wm z<|Rm z<|R z (lnR b_5 z<|G.e s2)<|Rl z z z<|Wx z (λ_=>?_) (λhc=>(O_ hkc hc).elim)
  refine Wk<|Wq<|Wb<|Wq<|Wq (Wd (X:=noX) 0 (pl_ 8 [6]) mo (by kernel_rfl) λa4 s4 _=>dM z z z<|dM z z z ?_)
  obtain ⟨_,em,hmn⟩:=bdS hml;have hd:=(s2.ag B).e s4;refine dRX z z (at_ (α:=l_) b_5 b_x z z z (G.g hd) em) ?_;rintro _ ⟨_,_,_,rfl,ho,hp,_⟩;obtain ⟨rfl,_,_,_,_⟩:=e_d hp;refine dR z z (fd g_6 z)<|dR z z (l0 g_9 z<|ho.at (j:=0) z)<|dM z z z ?_
  obtain ⟨_,eq,hme⟩:=bdS hmn;refine dE z z (fc call28 z<|k_1 eq (zt' a1<|lt_ s2.s s4.s) h1) (.inr λ_ _ h=>E_<|h.1) ?_;rintro _ _ ⟨s5,rfl,_⟩;refine dR z z (d_q z z)<|pD<|Wo<|Wc z (λH=>?_) (λH=>?_)
  .exact Ws<|Rw z<|Wr<|rtO<|qL (som<|ifT hme H).symm<|c_ hr z ⟨bup (bup s2 s4) s5,z,ii z⟩
  refine Wk<|Wm z<|R z (add_ z z)<|Rw z<|Wq<|Wm z<|Rm z ?_
  obtain ⟨_,er,hmf⟩:=bdS<|ifF hme H;have h6:=G.g<|hd.e s5
  refine RX z (at_ (α:=l_) b_5 b_x z z z h6 er) ?_;rintro _ ⟨_,_,_,rfl,ht,hu,_⟩;obtain ⟨rfl,_,_,_,_⟩:=e_d hu;refine Rf z j_L z<|R z (l0 g_3 z<|ht.at (j:=1) z)<|Rm z<|R z (nq z z)<|Wx z (λI=>?_) (λI=>?_)
  .exact Ws<|Rw z<|Wr<|rtO<|qL (som<|ifT hmf I).symm<|c_ hr z ⟨bup (bup s2 s4) s5,z,ii z⟩
  refine Wk<|Wm z<|R z (add_ z z)<|Rw z<|Wq<|Wm z<|Rm z ?_
  obtain ⟨_,es,hmg⟩:=bdS<|ifF hmf I;refine RX z (at_ (α:=l_) b_5 b_x z z z h6 es) ?_;rintro _ ⟨_,_,_,rfl,hv,hw,_⟩;obtain ⟨rfl,_,_,_,_⟩:=e_d hw;refine Rf z j_M z<|R z (l0 g_3 z<|hv.at (j:=2) z)<|Rm z<|R z (nq z z)<|Wx z (λJ=>?_) (λJ=>?_)
  .exact Ws<|Rw z<|Wr<|rtO<|qL (som<|ifT hmg J).symm<|c_ hr z ⟨bup (bup s2 s4) s5,z,ii z⟩
  refine Wk<|Wm z<|R z (add_ z z)<|Rw z<|Wq<|Wm z<|Rm z ?_
  obtain ⟨_,ey,hmh⟩:=bdS<|ifF hmg J;refine RX z (at_ (α:=l_) b_5 b_x z z z h6 ey) ?_;rintro _ ⟨_,_,_,rfl,hx,hz,_⟩;obtain ⟨rfl,_,_,_,_⟩:=e_d hz;refine Rf z h_q z<|R z (l0 g_3 z<|hx.at (j:=3) z)<|Rm z<|R z (nq z z)<|Wx z (λL=>?_) (λL=>?_)
  .exact Ws<|Rw z<|Wr<|rtO<|qL (som<|ifT hmh L).symm<|c_ hr z ⟨bup (bup s2 s4) s5,z,ii z⟩
  exact Wk<|Wg<|Rm z<|R z (add_ z z)<|Rw z<|Wg<|Rm z<|R z (inc_ hkc (lt_ (repS.len G) z_) z z)<|Ra z<|Wl (λ_ q=>⟨b_ (b_ (b_ (b_ x0 1) 1) 1) 1,(som<|ifF hmh L).symm,⟨q.k<|s3 z z z,bup (bup s2 s4) s5,iA _ _⟩⟩)
 .rintro x0 _ _ ⟨V,si,h1⟩;refine Wu ?_ V;refine Wq<|Wm z<|Rm z<|R z (lnR b_5 z<|G.e si)<|Rl z z z<|Wx z (λhc=>(P_ hc).elim) (λ_=>?_)
  exact We<|λ_ q=>⟨rfl,⟨q.k<|s1 z,si,h1⟩⟩
 .rintro x0 a2 _ rfl ⟨_,a3,h1⟩;have W:=elL hma;revert a2;refine Wo<|Wm z<|Rw z ?_
  obtain rfl:=som W;exact Wr<|c_ hr z ⟨a3,z,h1⟩
 rintro _ _ _ _ rfl ⟨rfl,Y⟩;have a0:=elR hma;obtain rfl:=som a0;exact ⟨Y,z⟩
def s_p (w0:World)(B:Zone)(r:Bool)(v:Value)(w':World):Prop:=Bw w0 w'/\(λh=>(vB h)=v) r
theorem s_q {x1:J_}{x2:Str}{x3:Str}{res:Bool}(hm:i_4 n x1 x2 x3=some res)(I:B<=w0.z)(hG:Gl w0 B)(J:repS w0 B (sl A0 N0 C0) x1.registry.versions)(L:repS w0 B (sl A1 N1 C1) x1.log.bytes)(O:inI x1.log.stored)(Y:x2.b.length<=LEN)(a0:x3.b.length<=LEN):h_ prog 3 [(.agg #[sl A0 N0 C0,sl A1 N1 C1,vI x1.log.stored]),Str.v x2,Str.v x3] w0 (s_p w0 B res):=by
 unfold i_4 at hm
 refine goG func3 z z z λfn hr=>Ws<|E z (fb z) ?_
 rintro _ bk ⟨rfl,aK⟩;have H:=aK.below;have hp:Blk bk w0.z [sl A0 N0 C0,sl A1 N1 C1,vI x1.log.stored]:=aK.blk;refine Rw z<|Wq<|Wm z<|R z (lnT d_9 z)<|R z (X_ z z)<|Wx z (λa1=>?_) (λa1=>?_)
 .refine Ws<|Rw z ?_
  obtain rfl:=som<|ifT hm a1;exact Wr<|c_ hr z ⟨H,z⟩
 have az:=ifF hm a1;refine Wk<|Wq<|Wm z<|R z (lnT d_9 z)<|R z (X_ z z)<|Wx z (λa2=>?_) (λa2=>?_)
 .refine Ws<|Rw z ?_
  obtain rfl:=som<|ifT az a2;exact Wr<|c_ hr z ⟨H,z⟩
 refine Wk<|Ws<|Rw z<|Ws<|R z (lN (vs:=[sl A0 N0 C0,sl A1 N1 C1,vI x1.log.stored]) g_29 z_29 z z fid<|hp.row 0 3 z)<|Rm z ?_
 obtain ⟨_,bm,aA⟩:=bdS<|ifF az a2;refine E z (fc call4 z<|W_w2g bm (zt' I H.s) (J.e H) (L.e H) O<|ii z) ?_;rintro _ _ ⟨sc,rfl,_⟩;refine Rw z<|Wq<|Wm z<|Rl z z z<|Wx z (λa3=>?_) (λa3=>?_)
 .refine Ws<|Rw z ?_
  obtain rfl:=som<|ifT aA a3;exact Wr<|c_ hr z ⟨bup H sc,z⟩
 refine Wk<|Ws ?_
 have aL:=hp.e sc;refine R z (lN (vs:=[sl A0 N0 C0,sl A1 N1 C1,vI x1.log.stored]) g_29 z_29 z z fid<|aL.row 0 3 z) ?_;have ad:=(H.ag B).e sc;have aM:=lt_ H.s sc.s;obtain ⟨_,bn,b9⟩:=bdS<|ifF aA a3;refine E z (fc call6 z<|j_S bn (zt' I aM) (J.g ad) (L.g ad) O) ?_;rintro _ bo ⟨sd,_,_,_,_,_,_,_,_,rfl,bp,bq,bt,_,_⟩;refine RM z z ?_
 obtain ⟨_,bu,ba⟩:=bdS b9;refine E z (fc call5 z<|W_w3h (B:=bo.z) bu zr (a_.rep bp) (a_.rep bq) bt Y a0) ?_;rintro _ _ ⟨se,bv,bw,bx,_,rfl,hk,_,_⟩;refine Rw z<|Ws ?_
 have aN:=(aL.e sd).e se;refine R z (lN (vs:=[sl A0 N0 C0,sl A1 N1 C1,vI x1.log.stored]) g_29 z_29 z z fid<|aN.row 0 3 z) ?_;have ae:=(ad.e sd).e se;have hb:=lt_ (lt_ aM sd.s) se.s;have af:=zt' I hb;obtain ⟨rs,bz,bb⟩:=bdS ba;refine E z (fc call6 z<|j_S (B:=B) bz af (J.g ae) (L.g ae) O) ?_;rintro _ ah ⟨s9,av,nw,cx,bA,ay,nz,V,bB,rfl,hq,ht,ai,aj,h1⟩;refine E z (fa l_L) ?_;rintro _ bC ⟨rfl,aO⟩;have h5:=aO.below;refine E0 (fs0 (cur':=[sl av nw cx,sl ay nz V,vI rs.log.stored]) c_S z z (aO.blk:Blk bC ah.z [sN,sN,vI 0]) z z z z) ?_;rintro _ _ ⟨aP,bD⟩;have h6:=bD.one;refine Wn<|Ws<|R z (lN (vs:=[sl av nw cx,sl ay nz V,vI rs.log.stored]) d_K c_S z z fid<|aP.row 0 3 z)<|RM z z ?_
 have aQ:=(hq.e h5).c h6<|ds<|mnr<|a_.lt hq
 have aR:=(ht.e h5).c h6<|ds<|mnr<|a_.lt ht
 have hj:=lt_ hb s9.s;have aS:=zt' I hj;have aT:∀k∈[ah.z],¬B k:=or0 (e_ lr)<|n_ aS;have aU:=((((((hG.e H).e sc).e sd).e se).e s9).e h5).c h6<|g_ aT
 have hu:=lt_ h5.s h6.s;obtain ⟨_,bE,bc⟩:=bdS bb;refine E z (fc call7 z<|W_w23 (B:=ah.z) bE (a_K hu) (aU.mono aS) (or_ aQ<|a_.lt hq) (or_ aR<|a_.lt ht) ai Y a0) ?_;rintro _ aV ⟨s7,bF,bG,bH,bI,rfl,W,bJ,hh⟩;refine Rw z<|Wq<|Wm z<|Rm z ?_
 have ak:=(((hk.e s9).e h5).c h6<|ds<|mno (a_.lt hk) s9.s).e s7;have aW:=lt_ (lt_ s9.s h5.s) h6.s;have al:=lt_ aW s7.s;obtain ⟨_,bK,aB⟩:=bdS bc;refine E z (fc call8 z<|m_g (B:=aV.z) bK zr (a_.rep W)<|repS.mono (or_ ak<|a_.lt hk)<|a_K al) ?_;rintro _ _ ⟨G,rfl⟩;refine R z (not_ z)<|Wx z (λa4=>?_) (λa4=>?_)
 .refine Ws<|Rw z ?_
  obtain rfl:=som<|ifT aB a4;exact Wr<|c_ hr z ⟨bup (bup (bM (bup (bup (bup (bup (bup H sc) sd) se) s9) h5) h6<|m1 hj) s7) G,z⟩
 refine Wk<|Wq<|Wq (Wd (X:=noX) 0 (pl_ 5 [2,3]) mo (by kernel_rfl) λcb s2 _=>?_)
 have aX:=((aP.e s7).e G).e s2;refine dR z z (lN (vs:=[sl av nw cx,sl ay nz V,vI rs.log.stored]) d_K c_S z z fid<|aX.row 0 3 z) ?_;have am:=lt_ (lt_ sc.s sd.s) se.s;have aY:=lt_ am s9.s;have aZ:=(((((aN.e s9).e h5).c h6<|djs<|mm1 hp.lt aY).e s7).e G).e s2;refine dR z z (lN (vs:=[sl A0 N0 C0,sl A1 N1 C1,vI x1.log.stored]) g_29 z_29 z z fid<|aZ.row 0 3 z) ?_;have an:=(((((ae.e s9).e h5).c h6<|g_ aT).e s7).e G).e s2;have hn:=lt_ (lt_ hj h5.s) h6.s;have b0:=lt_ (lt_ (lt_ hn s7.s) G.s) s2.s;obtain ⟨_,bL,be⟩:=bdS<|ifF aB a4;refine dE z z (fc call6 z<|j_S bL (zt' I b0) (J.g an) (L.g an) O) (.inr λ_ _ h=>E_<|h.1) ?_;rintro _ bN ⟨s3,_,_,_,_,_,_,_,_,rfl,bO,bP,bQ,_,_⟩;have b1:=(((aQ.e s7).e G).e s2).e s3;have b2:=(((aR.e s7).e G).e s2).e s3;have b3:=lt_ (lt_ (lt_ (lt_ hu s7.s) G.s) s2.s) s3.s;obtain ⟨_,bR,aC⟩:=bdS be;refine dE z z (fc call9 z<|W_w4w (B:=bN.z) bR zr (repS.mono (or_ b1<|a_.lt hq)<|a_K b3) (repS.mono (or_ b2<|a_.lt ht)<|a_K b3) ai (a_.rep bO) (a_.rep bP) bQ) (.inr λ_ _ h=>E_<|h.1) ?_;rintro _ _ ⟨s4,rfl⟩;refine dR z z (not_ z)<|pD<|Wo<|Wc z (λa5=>?_) (λa5=>?_)
 .refine Ws<|Rw z ?_
  obtain rfl:=som<|ifT aC a5;exact Wr<|c_ hr z ⟨bup (bup (bup (bup (bup (bM (bup (bup (bup (bup (bup H sc) sd) se) s9) h5) h6<|m1 hj) s7) G) s2) s3) s4,z⟩
 refine Wk<|Ws<|Rw z<|Ws<|R z (lN (vs:=[sl av nw cx,sl ay nz V,vI rs.log.stored]) d_K c_S z z fid<|((aX.e s3).e s4).row 0 3 z)<|Rm z ?_
 have ao:∀k∈bA,¬B k:=or0 (al_ h1)<|n_ af;have ap:∀k∈bB,¬B k:=or0 (ar_ h1)<|n_ af;have b4:=lt_ (lt_ b0 s3.s) s4.s;obtain ⟨bS,_,_,bT,bf⟩:=U_<|ifF aC a5;refine E z (fc call10 z<|W_w52 bT (zt' I b4) (b1.e s4) (nl_ aj) ao (b2.e s4) (nr_ aj) ap (ds<|nj aj) ai<|ii z) ?_;rintro _ aq ⟨sa,_,_,rfl,_,_,_,_,_,_,_⟩;refine Rw z<|Wq<|Wq ?_
 obtain ⟨bU,aD,aE⟩:=bdS bf;refine Wt (λa w=>∃(ar:Bool),ar=bU/\Sat 85 [(1,Str.v x2),(2,Str.v x3),(3,pt w0.z),(8,sl bv bw bx),(10,sl bF bG bH),(56,vB ar)] a/\Below aq.z aq w) ?_ ?_
 .refine Wg<|Rm z<|Rl z z z<|Rm z ?_
  rcases bs (decide<|bS<0) with hcl | hcl
  .iterate 4 refine Nh z hcl ?_
   exact R z (pT z hcl z)<|Wl (λ_ q=>⟨true,som<|ifT aD hcl,q.k<|s6 z z z z z z,br aq⟩)
  refine Rh z hcl (mv z)<|Rh z hcl (mv z) ?_
  obtain ⟨bV,bW,bg⟩:=bdS<|ifF aD hcl;refine Eg z z hcl z (fc call8 z<|m_g (B:=aV.z) bW (a_K<|lt_ (lt_ (lt_ (lt_ G.s s2.s) s3.s) s4.s) sa.s) (or_ (((((W.e G).e s2).e s3).e s4).c sa<|nmA (a_T hh (a_.lt hq) hu)<|a_T hh (a_.lt ht) hu)<|a_.lt W)<|repS.mono (or_ (((((ak.e G).e s2).e s3).e s4).c sa<|nmA (ds<|a_T (al_ h1) (a_.lt hk) lr)<|ds<|a_T (ar_ h1) (a_.lt hk) lr)<|a_.lt hk)<|a_K al) ?_;rintro _ _ ⟨bX,rfl⟩;exact Rh z hcl (not_ z)<|R z (pF z hcl z)<|Wl (λ_ q=>⟨!bV,som bg,q.k<|s6 z z z z z z,bX⟩)
 rintro bY _ ⟨ar,rfl,_,sf⟩;revert bY;refine Wo<|Wc z (λa6=>?_) (λa6=>?_)
 .refine Ws<|Rw z ?_
  obtain rfl:=som<|ifT aE a6;exact Wr<|c_ hr z ⟨bup (bM (bup (bup (bup (bup (bup (bM (bup (bup (bup (bup (bup H sc) sd) se) s9) h5) h6<|m1 hj) s7) G) s2) s3) s4) sa<|aa_ (o_ (al_ h1) hb)<|o_ (ar_ h1) hb) sf,z⟩
 refine Wk<|Ws<|Rw z<|Wm z<|Rm z ?_
 have au:∀k∈bI,¬B k:=or0 hh<|n_<|zt' I hn;have b5:=lt_ (lt_ b4 sa.s) sf.s;obtain ⟨_,_,bZ,bh⟩:=Y_<|ifF aE a6;refine E z (fc call11 z<|W_w53 bZ (zt' I b5) ((((((W.e G).e s2).e s3).e s4).c sa<|nmA (a_T hh (a_.lt hq) hu)<|a_T hh (a_.lt ht) hu).e sf) bJ au<|ii z) ?_;rintro _ b6 ⟨si,_,rfl,_,aw,_,_⟩;refine Rw z<|Ws<|Rw z<|Wm z<|Rm z ?_
 obtain ⟨_,c0,aF⟩:=bdS bh;refine E z (fc call12 z<|W_w28 (B:=b6.z) c0 zr (a_.rep aw)<|ii z) ?_;rintro _ _ ⟨sg,rfl,_⟩;refine Rw z<|Wq<|Wm z<|Rl z z z<|Wx z (λa7=>?_) (λa7=>?_)
 .refine Ws<|Rw z ?_
  obtain rfl:=som<|ifT aF a7;exact Wr<|c_ hr z ⟨bup (bM (bup (bM (bup (bup (bup (bup (bup (bM (bup (bup (bup (bup (bup H sc) sd) se) s9) h5) h6<|m1 hj) s7) G) s2) s3) s4) sa<|aa_ (o_ (al_ h1) hb)<|o_ (ar_ h1) hb) sf) si<|o_ hh hn) sg,z⟩
 have aG:=ifF aF a7;refine Wk<|Wq<|Wm z<|Rm z<|R z (nq z z)<|Wx z (λa8=>?_) (λa8=>?_)
 .refine Ws<|Rw z ?_
  obtain rfl:=som<|ifT aG a8;exact Wr<|c_ hr z ⟨bup (bM (bup (bM (bup (bup (bup (bup (bup (bM (bup (bup (bup (bup (bup H sc) sd) se) s9) h5) h6<|m1 hj) s7) G) s2) s3) s4) sa<|aa_ (o_ (al_ h1) hb)<|o_ (ar_ h1) hb) sf) si<|o_ hh hn) sg,z⟩
 refine Wk<|Ws ?_
 refine R z (lN (vs:=[sl A0 N0 C0,sl A1 N1 C1,vI x1.log.stored]) g_29 z_29 z z fid<|((((((aZ.e s3).e s4).c sa<|atp<|nmA (ds<|s_ (al_ h1) hp.lt am)<|ds<|s_ (ar_ h1) hp.lt am).e sf).c si<|djs<|s_ hh hp.lt<|lt_ (lt_ aY h5.s) h6.s).e sg).row 0 3 z) ?_;have b7:=(((((an.e s3).e s4).c sa<|nmA (g_ ao)<|g_ ap).e sf).c si<|g_ au).e sg;have b8:=lt_ (lt_ b5 si.s) sg.s;obtain ⟨_,c1,bi⟩:=bdS<|ifF aG a8;refine E z (fc call6 z<|j_S c1 (zt' I b8) (J.g b7) (L.g b7) O) ?_;rintro _ c2 ⟨sm,_,_,_,_,_,_,_,_,rfl,c3,c4,c5,_,_⟩;refine RM z z ?_
 obtain ⟨_,c6,bj⟩:=bdS bi;refine E z (fc call7 z<|W_w23 (B:=c2.z) c6 zr (((((((((((aU.e s7).e G).e s2).e s3).e s4).c sa<|nmA (g_ ao)<|g_ ap).e sf).c si<|g_ au).e sg).e sm).mono<|zt' I<|lt_ b8 sm.s) (a_.rep c3) (a_.rep c4) c5 Y a0) ?_;rintro _ c7 ⟨so,_,_,_,_,rfl,c8,_,_⟩;refine Rw z<|Wq<|Wm z<|Rm z ?_
 obtain ⟨_,c9,aH⟩:=bdS bj;refine E z (fc call8 z<|m_g (B:=c7.z) c9 zr (a_.rep c8)<|repS.mono (or_ ((((((((((ak.e G).e s2).e s3).e s4).c sa<|nmA (ds<|a_T (al_ h1) (a_.lt hk) lr)<|ds<|a_T (ar_ h1) (a_.lt hk) lr).e sf).c si<|ds<|a_T hh (a_.lt hk) aW).e sg).e sm).e so)<|a_.lt hk)<|a_K<|lt_ (lt_ (lt_ (lt_ (lt_ (lt_ (lt_ (lt_ (lt_ (lt_ al G.s) s2.s) s3.s) s4.s) sa.s) sf.s) si.s) sg.s) sm.s) so.s) ?_;rintro _ _ ⟨sr,rfl⟩;refine R z (not_ z)<|Wx z (λa9=>?_) (λa9=>?_)
 .refine Ws<|Rw z ?_
  obtain rfl:=som<|ifT aH a9;exact Wr<|c_ hr z ⟨bup (bup (bup (bup (bM (bup (bM (bup (bup (bup (bup (bup (bM (bup (bup (bup (bup (bup H sc) sd) se) s9) h5) h6<|m1 hj) s7) G) s2) s3) s4) sa<|aa_ (o_ (al_ h1) hb)<|o_ (ar_ h1) hb) sf) si<|o_ hh hn) sg) sm) so) sr,z⟩
 refine Wk<|Ws<|Rw z<|Wm z<|Rm z ?_
 obtain ⟨_,ca,aI⟩:=bdS<|ifF aH a9;refine E z (fc call12 z<|W_w28 (B:=b6.z) ca (a_K<|lt_ (lt_ (lt_ sg.s sm.s) so.s) sr.s) (or_ ((((aw.e sg).e sm).e so).e sr)<|a_.lt aw)<|ii z) ?_;rintro _ _ ⟨ax,rfl,_⟩;refine Rw z<|Wq<|Wm z<|Rl z z z<|Wx z (λaa=>?_) (λaa=>?_)
 .refine Ws<|Rw z ?_
  obtain rfl:=som<|ifT aI aa;exact Wr<|c_ hr z ⟨bup (bup (bup (bup (bup (bM (bup (bM (bup (bup (bup (bup (bup (bM (bup (bup (bup (bup (bup H sc) sd) se) s9) h5) h6<|m1 hj) s7) G) s2) s3) s4) sa<|aa_ (o_ (al_ h1) hb)<|o_ (ar_ h1) hb) sf) si<|o_ hh hn) sg) sm) so) sr) ax,z⟩
 have aJ:=ifF aI aa;refine Wk<|Wq<|Wm z<|Rm z<|R z (nq z z)<|Wx z (λab=>?_) (λab=>?_)
 .refine Ws<|Rw z ?_
  obtain rfl:=som<|ifT aJ ab;exact Wr<|c_ hr z ⟨bup (bup (bup (bup (bup (bM (bup (bM (bup (bup (bup (bup (bup (bM (bup (bup (bup (bup (bup H sc) sd) se) s9) h5) h6<|m1 hj) s7) G) s2) s3) s4) sa<|aa_ (o_ (al_ h1) hb)<|o_ (ar_ h1) hb) sf) si<|o_ hh hn) sg) sm) so) sr) ax,z⟩
 refine Wk<|Ws<|Rw z ?_
 obtain rfl:=som<|ifF aJ ab;exact Wr<|c_ hr z ⟨bup (bup (bup (bup (bup (bM (bup (bM (bup (bup (bup (bup (bup (bM (bup (bup (bup (bup (bup H sc) sd) se) s9) h5) h6<|m1 hj) s7) G) s2) s3) s4) sa<|aa_ (o_ (al_ h1) hb)<|o_ (ar_ h1) hb) sf) si<|o_ hh hn) sg) sm) so) sr) ax,z⟩
end Go.Vw
