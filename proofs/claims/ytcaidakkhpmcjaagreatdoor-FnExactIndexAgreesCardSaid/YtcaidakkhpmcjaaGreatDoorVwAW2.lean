
import Derived.Test.YtcaidakkhpmcjaaGreatDoorVwAW1
set_option linter.unusedVariables false
namespace Go.Vw
open Go.RowKit Dat Go.Proofs
open Go.Proofs.Tryz
open Go.Vw renaming a_S->Wq,b_o->Wg,WC.of_KC->Wo,a_T->Wl,c_S->Wc,d_F->Wr,g_k->Wu,i_m->pT,i_n->pF,g_o->fd,c_g->l1,i_D->lN,b_O->mv,d_p->asg,g_f->lnR,f_f->lss,g_s->eql,g_p->ext_,i_p->bP,g_q->add_,g_b->inc_,e_w->not_,g_g->at_,e_Z->fc,b_z->fs,e_Y->fb,e_n->fa,i_g->sr,i_k->cr,i_l->cM,d_l->bM,i_7->iS,i_6->iA,i_9->br,b_L->oA,i_c->bs,ltge->lg,inor->io,g_t->nq,i_E->lnT,i_F->sb_,i_e->ar_,i_d->al_,i_f->ds,j_6->m1,i_i->nr_,i_h->nl_,g_d->aa_,all_nil->an_,d_G->Wb,g_c->u8,i_3->pD,g_7->We,i_8->Wt,g_a->fS,e_Q->or_,i_y->Wf,i_u->qL,i_2->Wd,i_q->fN,g_e->na_,i_j->nj,f_7->f0,i_o->rX,i_r->tl_,i_s->ic
variable {A0:Option Addr}{N0 C0:Nat}{B:Zone}{w0:World}{AD:Option Addr}{A8:Option Addr}{AE:Option Addr}{AF:Option Addr}{ND CD:Nat}{N8 C8:Nat}{NE CE:Nat}{NF CF:Nat}{A3:Option Addr}{A4:Option Addr}{A2:Option Addr}{A5:Option Addr}{N3 C3:Nat}{N4 C4:Nat}{N2 C2:Nat}{N5 C5:Nat}{A7:Option Addr}{N7 C7:Nat}{A6:Option Addr}{N6 C6:Nat}{n:Nat}{AA:Option Addr}{AB:Option Addr}{NA CA:Nat}{NB CB:Nat}{A9:Option Addr}{AG:Option Addr}{N9 C9:Nat}{NG CG:Nat}{A1:Option Addr}{N1 C1:Nat}
theorem T_w0b (aH:l_r n):j_A (g_Q n<|e_F n):=by
 constructor
 intro A0 AA AB N0 C0 NA CA NB CB B x1 x2 x3 res w0 hm O V b6 W aw H;unfold g_Q at hm
 refine goG func72 z z z fun fn hr=>Ws<|E z (fb z) ?_
 rintro _ wr ⟨rfl,hx⟩;have I:=hx.below;have hy:Blk wr w0.z [sl A0 N0 C0]:=hx.blk;refine E z (fb z) ?_;rintro _ wc ⟨rfl,hz⟩;have h4:=hz.below;have a2:Blk wc wr.z [vI x3.number,sl AA NA CA,sl AB NB CB]:=hz.blk;refine Rw z<|Ws<|Rf z a_9 z ?_
 have a3:=hy.e h4;refine R z (l0 a_d z<|a3.at z)<|Rm z ?_
 obtain ⟨xd,aI,ax⟩:=bdS hm;have a4:=(I.ag B).e h4;refine RX z (at_ (α:=e_) a_0 m_ z z z (V.g a4) aI) ?_;rintro _ ⟨_,_,_,rfl,aJ,aK,_⟩;obtain ⟨ae,nf,cg,ah,ni,cj,ak,nl,cm,an,no,cp,rfl,a5,a6,a7,a8,a9,aa,ab⟩:=a_w aK;refine R z (lN (vs:=vR xd ae nf cg ah ni cj ak nl cm an no cp) G_ m_ z z fid aJ)<|E z (fa b_l) ?_
 rintro _ aL ⟨rfl,ad⟩;have h1:=ad.below;refine E0 (fs0 (cur':=vR xd ae nf cg ah ni cj ak nl cm an no cp) m_ z z (ad.blk:Blk aL wc.z [(Str.v (⟨[]⟩:Str)),vI 0,vI 0,vB false,sl none 0 0,sl none 0 0,sl none 0 0,sl none 0 0]) z z z z) ?_;rintro _ _ ⟨af,aM⟩;have h2:=aM.one;refine Wn<|Wq<|Ws ?_
 have ai:=(a3.e h1).c h2<|djs<|mm1 hy.lt h4.s
 refine R z (lN (vs:=[sl A0 N0 C0]) w_ u_ z z fid<|ai.row 0 1 z)<|R z (lN (vs:=vR xd ae nf cg ah ni cj ak nl cm an no cp) G_ m_ z z fid<|af.row 0 8 z) ?_
 have ht:=(a2.e h1).c h2<|djs<|mmr a2.lt
 refine R z (lN (vs:=[vI x3.number,sl AA NA CA,sl AB NB CB]) r_ c_ z z fid<|ht.row 0 3 z) ?_;have J:=lt_ I.s h4.s;have aj:∀k∈[wc.z],¬B k:=or0 (f_ lr)<|t_<|zt' O J;have L:=(a4.e h1).c h2<|g_ aj
 have ha:=(h1.ag B).c h2<|g_ aj
 have al:=lt_ (lt_ J h1.s) h2.s;obtain ⟨_,aN,Y⟩:=bdS ax;refine E z (fc call99 z<|W_w2v aN (zt' O al) (V.g L) a5 a6 a7 (a8.g ha) (a9.g ha) (aa.g ha) (ab.g ha) W (aw.g L)<|H.g L) ?_;rintro _ wb ⟨G,rfl⟩;refine R z (not_ z)<|Wx z (fun hcs=>?_) (fun hcs=>?_)
 ·refine Ws<|Rw z ?_
  obtain rfl:=som<|ifT Y hcs;exact Wr<|d_ hr z ⟨bup (bM (bup (bup I h4) h1) h2<|m1 J) G,z⟩
 refine Wk<|Wq<|Ws<|Rw z ?_
 obtain ⟨_,ay,a0⟩:=bdS<|ifF Y hcs;refine Wf (σ:=Unit) (ρ:=Bool) (fun (am:Nat)(_:Unit) a w=>Sat 39 [(3,pt w0.z),(5,pt wr.z),(7,pt wc.z),(8,vI ((am:Nat):Int))] a/\Below wb.z wb w) (fun (_:Unit) a w=>Sat 39 [] a/\Below wb.z wb w) (rQ prog fn<|Q7 w0 B) ay ?_ ?_ ?_ ?_ ?_
 ·exact fun _ q=>⟨q.k<|s4 z z z z,br wb⟩
 ·rintro am _ _ _ _ hku ⟨az,s3⟩ aA;refine Wu ?_ az;refine Wq<|Wm z<|Rf z Z_ z ?_
  have ao:=(ht.e G).e s3;refine R z (l0 a_2 z<|ao.at z) ?_;have ap:=(L.e G).e s3;refine R z (lnR a_a z<|H.g ap)<|Rl z z z<|Wx z (fun _=>?_) (fun hc=>(V_ hku hc).elim)
  refine Wk<|Wq<|Wb<|Wq (Wd (X:=noX) 0 (.rd 0<|.rd 1<|.rd 2<|.rd 3<|.rd 4<|.rd 6<|.rd 7<|.rd 8<|.rd 9<|.rd 10<|.ef 5<|.ef 11<|.rd 12 .done) mo (by kernel_rfl) fun b7 s5 _=>dR z z (lN (vs:=[sl A0 N0 C0]) w_ u_ z z fid<|(((ai.e G).e s3).e s5).row 0 1 z)<|dR z z (lN (vs:=vR xd ae nf cg ah ni cj ak nl cm an no cp) G_ m_ z z fid<|(((af.e G).e s3).e s5).row 0 8 z)<|dR z z (fd b_0 z) ?_)
  have aq:=ao.e s5;refine dR z z (l0 g_3 z<|aq.at z)<|dM z z z<|dR z z (fd Z_ z)<|dR z z (l0 a_2 z<|aq.at z)<|dM z z z ?_
  obtain ⟨aO,aP,aB⟩:=bdS aA;have ar:=ap.e s5;refine dRX z z (at_ (α:=Val) a_a c_ z z z (H.g ar) aP) ?_;rintro _ ⟨_,_,_,rfl,aQ,aR,_⟩;obtain ⟨aS,aT,aU,aV,aW,aX,rfl,aY,aZ,b0⟩:=b_T aR;refine dR z z (lN (vs:=[vI aO.number,sl aS aT aU,sl aV aW aX]) r_ c_ z z fid aQ) ?_;have hq:=((ha.e G).e s3).e s5;have au:=lt_ (lt_ (lt_ al G.s) s3.s) s5.s;obtain ⟨_,b1,aC⟩:=bdS aB;refine dE z z (fc call37 z<|d_g b1 (zt' O au) a5 a6 a7 (a8.g hq) (a9.g hq) (aa.g hq) (ab.g hq) W<|ic (Nat.le_of_lt hku)<|lt_ (repS.len H) D_) (.inr fun _ _ h=>l_<|h.1) ?_;rintro _ _ ⟨s6,rfl,b2⟩;obtain ⟨_,b3,a1⟩:=bdS aC;refine dE z z (fc call72 z<|aH.run b3 (zt' O<|lt_ au s6.s) (V.g<|ar.e s6) b2 aY (aZ.e s6)<|b0.e s6) (.inr fun _ _ h=>l_<|h.1) ?_;rintro _ _ ⟨av,rfl⟩;refine dR z z (not_ z)<|pD<|Wo<|Wc z (fun hcv=>?_) (fun hcv=>?_)
  ·exact Ws<|Rw z<|Wr<|rtO<|qL (som<|ifT a1 hcv).symm<|d_ hr z ⟨bup (bup (bup (bup (bup (bM (bup (bup I h4) h1) h2<|m1 J) G) s3) s5) s6) av,z⟩
  exact Wk<|Wg<|Rm z<|R z (inc_ hku (lt_ (repS.len H) D_) z z)<|Ra z<|Wl (fun _ q=>⟨(),(som<|ifF a1 hcv).symm,⟨q.k<|s4 z z z z,bup (bup (bup s3 s5) s6) av⟩⟩)
 ·rintro _ _ _ ⟨aD,sw⟩;refine Wu ?_ aD;refine Wq<|Wm z<|Rf z Z_ z<|R z (l0 a_2 z<|((ht.e G).e sw).at z)<|R z (lnR a_a z<|H.g<|(L.e G).e sw)<|Rl z z z<|Wx z (fun hc=>(W_ hc).elim) (fun _=>?_)
  exact We<|fun _ q=>⟨rfl,⟨q.k sn,sw⟩⟩
 ·rintro _ b4 _ rfl ⟨_,b5⟩;have aE:=elL a0;revert b4;refine Wo<|Ws<|Rw z ?_
  obtain rfl:=som aE;exact Wr<|d_ hr z ⟨bup (bup (bM (bup (bup I h4) h1) h2<|m1 J) G) b5,z⟩
 rintro _ _ _ _ rfl ⟨rfl,aF⟩;have aG:=elR a0;obtain rfl:=som aG;exact ⟨aF,z⟩
theorem A_w0b:∀n,l_r n
  | 0=>⟨fun hm=>by intros;exact nomatch (show none=some _ from hm)⟩
  | n+1=>T_w0b<|A_w0b n
theorem W_w0b:j_A (e_F n).spec_l9Valid:=A_w0b n
theorem W_w2w {x1:b_}{x2:Int}{x3:Val}{res:Bool}(hm:g_R n x1 x2 x3=some res)(L:B<=w0.z)(I:repS w0 B (sl A0 N0 C0) x1.rules)(J:inI x2)(Y:inI x3.number)(a0:repS w0 B (sl AA NA CA) x3.bytes)(a1:repS w0 B (sl AB NB CB) x3.items):i_ prog 35 [(.agg #[sl A0 N0 C0]),vI x2,(.agg #[vI x3.number,sl AA NA CA,sl AB NB CB])] w0 (Q7 w0 B res):=by
 unfold g_R at hm
 refine goG func35 z z z fun fn hr=>Ws<|E z (fb z) ?_
 rintro _ O ⟨rfl,V⟩;have h3:=V.below;refine E z (fb z) ?_;rintro _ H ⟨rfl,W⟩;have h1:=W.below;refine Rw z<|Wq ?_
 obtain ⟨ug,huh,hmi⟩:=bdS hm;refine Wt (fun a w=>∃(x5:Bool),x5=ug/\Sat 16 [(6,vB x5)] a/\Below H.z H w) ?_ ?_
 ·refine Wg ?_;have ha:=(V.blk:Blk O w0.z [sl A0 N0 C0]).e h1;refine R z (lN (vs:=[sl A0 N0 C0]) w_ u_ z z fid<|ha.row 0 1 z)<|Rm z ?_
  have hb:=(h3.ag B).e h1;have hc:=lt_ h3.s h1.s;obtain ⟨rj,ek,hmd⟩:=bdS huh;refine E z (fc call59 z<|j_p ek (zt' L hc) (I.g hb) J) ?_;rintro _ _ ⟨s2,rfl⟩;refine Rm z ?_
  rcases bs rj with G | G
  ·refine Rh z G (lN (vs:=[sl A0 N0 C0]) w_ u_ z z fid<|(ha.e s2).row 0 1 z)<|Rh z G (mv z)<|Rh z G (lN (vs:=[vI x3.number,sl AA NA CA,sl AB NB CB]) r_ c_ z z fid<|((W.blk:Blk H O.z [vI x3.number,sl AA NA CA,sl AB NB CB]).e s2).row 0 3 z) ?_
   have h6:=hb.e s2;obtain ⟨rl,em,hmn⟩:=bdS<|ifT hmd G;refine Eg z z G z (fc call72 z<|W_w0b.run em (zt' L<|lt_ hc s2.s) (I.g h6) J Y (a0.g h6)<|a1.g h6) ?_;rintro _ _ ⟨so,rfl⟩;exact R z (pT z G z)<|Ra z<|Wl (fun _ q=>⟨rl,som hmn,q.k<|s1 z,bup s2 so⟩)
  iterate 4 refine Nh z G ?_
  exact R z (pF z G z)<|Ra z<|Wl (fun _ q=>⟨false,som<|ifF hmd G,q.k<|s1 z,s2⟩)
 rintro ap _ ⟨x5,rfl,_,sq⟩;revert ap;refine Wo ?_;obtain rfl:=som hmi;exact Wr<|d_ hr z ⟨bup (bup h3 h1) sq,z⟩
theorem W_w2x {x1:b_}{x2:Int}{x3:Val}{x4:Str}{res:Int}(hm:f_0 n x1 x2 x3 x4=some res)(V:B<=w0.z)(O:repS w0 B (sl A0 N0 C0) x1.rules)(W:inI x2)(aD:inI x3.number)(aE:repS w0 B (sl AA NA CA) x3.bytes)(Y:repS w0 B (sl AB NB CB) x3.items)(aF:x4.b.length<=LEN):i_ prog 36 [(.agg #[sl A0 N0 C0]),vI x2,.agg #[vI x3.number,sl AA NA CA,sl AB NB CB],Str.v x4] w0 (Q0 w0 B res):=by
 unfold f_0 at hm
 refine goG func36 z z z fun fn hr=>Ws<|E z (fb z) ?_
 rintro _ J ⟨rfl,hg⟩;have h5:=hg.below;have hh:Blk J w0.z [sl A0 N0 C0]:=hg.blk;refine E z (fb z) ?_;rintro _ I ⟨rfl,hi⟩;have h4:=hi.below;refine Rw z<|Wq<|Ws<|Rw z ?_
 obtain ⟨_,hus,hmj⟩:=bdS hm;refine d_P (σ:=Int) (ρ:=Int) (fun (x0:Int) a w=>Sat 38 [(1,vI x2),(3,Str.v x4),(4,pt w0.z),(6,pt J.z),(9,vI x0)] a/\Below I.z I w/\inI x0) (fun (x0:Int) a w=>Sat 38 [] a/\Below I.z I w/\inI x0) (rQ prog fn<|Q0 w0 B) hus ?_ ?_ ?_ ?_
 ·exact fun _ q=>⟨q.k<|s5 z z z z z,br I,ii z⟩
 ·rintro x0 _ wb _ ⟨hSu,s1,L⟩ hmv;refine Wu ?_ hSu;refine Wq<|Wq ?_
  obtain ⟨uw,huk,hml⟩:=bdS hmv;refine Wt (fun a w=>∃(xc:Bool),xc=uw/\Sat 38 [(1,vI x2),(3,Str.v x4),(4,pt w0.z),(6,pt J.z),(9,vI x0),(20,vB xc)] a/\Below wb.z wb w) ?_ ?_
  ·refine Wg<|Rm z<|Rf z Z_ z<|R z (l0 a_2 z<|((hi.blk:Blk I J.z [vI x3.number,sl AA NA CA,sl AB NB CB]).e s1).at z) ?_
   have hn:=((h5.ag B).e h4).e s1;refine R z (lnR a_a z<|Y.g hn)<|Rl z z z<|Rm z ?_
   rcases bs (decide<|x0<(x3.items.length:Int)) with G | G
   ·refine Rh z G (lN (vs:=[sl A0 N0 C0]) w_ u_ z z fid<|((hh.e h4).e s1).row 0 1 z)<|Rh z G (mv z) ?_
    obtain ⟨rx,ey,hmz⟩:=bdS<|ifT huk G;refine Eg z z G z (fc call59 z<|j_p ey (zt' V<|lt_ (lt_ h5.s h4.s) s1.s) (O.g hn) W) ?_;rintro _ _ ⟨a5,rfl⟩;exact R z (pT z G z)<|Wl (fun _ q=>⟨rx,som hmz,q.k<|s6 z z z z z z,a5⟩)
   iterate 3 refine Nh z G ?_
   exact R z (pF z G z)<|Wl (fun _ q=>⟨false,som<|ifF huk G,q.k<|s6 z z z z z z,br wb⟩)
  rintro a6 _ ⟨xc,rfl,_,s7⟩;revert a6;refine Wo<|Wc z (fun hcd=>?_) (fun hcd=>?_)
  ·refine Wk<|Wq<|Wb<|Ws<|Rf z a_9 z<|R z (l0 a_d z<|(((hh.e h4).e s1).e s7).at z)<|Rm z ?_
   obtain ⟨a7,a8,a0⟩:=bdS<|ifT hml hcd;refine RX z (at_ (α:=e_) a_0 m_ z z z (O.g<|(((h5.ag B).e h4).e s1).e s7) a8) ?_;rintro _ ⟨_,_,_,rfl,a9,aa,_⟩;obtain ⟨ab,ad,ae,af,ah,ai,aj,ak,al,am,an,ao,rfl,ap,aq,ar,au,av,aw,ax⟩:=a_w aa;refine R z (lN (vs:=vR a7 ab ad ae af ah ai aj ak al am an ao) G_ m_ z z fid a9)<|Rm z ?_
   obtain ⟨rm,ay,a1⟩:=bdS a0;refine E z (fc call58 z<|j_x ay (zt' V<|lt_ (lt_ (lt_ h5.s h4.s) s1.s) s7.s) ap aq ar au av aw ax L) ?_;rintro _ wa ⟨so,rfl,_⟩;refine Rw z<|Wq ?_
   obtain ⟨az,hup,hmq⟩:=bdS a1;refine Wt (fun a w=>∃(xe:Bool),xe=az/\Sat 38 [(1,vI x2),(3,Str.v x4),(4,pt w0.z),(6,pt J.z),(9,vI x0),(36,vB xe)] a/\Below wa.z wa w) ?_ ?_
   ·refine Wg<|Rm z<|R z (f_g z z)<|Rm z ?_
    rcases bs (rm.b != (⟨[]⟩:Str).b) with H | H
    ·exact Rh z H (mv z)<|Rh z H (mv z)<|Rh z H (a_V z z)<|R z (pT z H z)<|Wl (fun _ q=>⟨rm.b==x4.b,som<|ifT hup H,q.k<|s6 z z z z z z,br wa⟩)
    iterate 3 refine Nh z H ?_
    exact R z (pF z H z)<|Wl (fun _ q=>⟨false,som<|ifF hup H,q.k<|s6 z z z z z z,br wa⟩)
   rintro aA _ ⟨xe,rfl,_,sr⟩;revert aA;refine Wo<|Wc z (fun hcf=>?_) (fun hcf=>?_)
   ·exact Wm z<|Rw z<|Wr<|rtO<|qL (som<|ifT hmq hcf).symm<|d_ hr z ⟨bup (bup (bup (bup (bup h5 h4) s1) s7) so) sr,z,L⟩
   exact Wk<|Wg<|Rm z<|R z (add_ z z)<|Ra z<|Wl (fun _ q=>⟨j_ x0 1,(som<|ifF hmq hcf).symm,⟨q.k<|s5 z z z z z,bup (bup (bup s1 s7) so) sr,iA _ _⟩⟩)
  exact We<|fun _ q=>c_v (som<|ifF hml hcd).symm ⟨q.k sn,bup s1 s7,L⟩
 ·rintro x0 aB _ rfl ⟨_,aC,L⟩;have a2:=elL hmj;revert aB;refine Wo<|Ws<|Rw z ?_
  obtain rfl:=som a2;exact Wr<|d_ hr z ⟨bup (bup h5 h4) aC,z,ii z⟩
 rintro _ _ _ _ rfl ⟨rfl,a3⟩;have a4:=elR hmj;obtain rfl:=som a4;exact ⟨a3,z⟩
def Q19 (w0:World)(B:Zone)(r:Val)(v:Value)(w':World):Prop:=Bw w0 w'/\(fun G=>∃H I J S1 a2 L O S2,(.agg #[vI G.number,sl H I J,sl a2 L O])=v/\inI G.number/\a_ w' S1 (sl H I J) G.bytes/\a_ w' S2 (sl a2 L O) G.items/\(S1++S2).Nodup/\(∀k∈(S1++S2),w0.z<=k)) r
structure j_B (f:Val->Option Val):Prop where
  run:∀{A1 AC:Option Addr}{N1 C1 NC CC:Nat}{B:Zone}{x1:Val}{res:Val}{w0:World}(hm:f x1=some res)(hBw:B<=w0.z)(p1_0:inI x1.number)(p1_1:repS w0 B (sl A1 N1 C1) x1.bytes)(p1_2:repS w0 B (sl AC NC CC) x1.items),i_ prog 38 [(.agg #[vI x1.number,sl A1 N1 C1,sl AC NC CC])] w0<|Q19 w0 B res
abbrev l_s (n:Nat):Prop:=j_B (d_J n).spec_CopyValue
theorem T_w0c (bT:l_s n):j_B (e_o n<|d_J n):=by
 constructor
 intro A1 AC N1 C1 NC CC B x1 res w0 hm a8 a4 a5 V;unfold e_o at hm
 refine goG func38 z z z fun fn hr=>Ws<|E z (fb z) ?_
 rintro _ wk ⟨rfl,aE⟩;have O:=aE.below;have hb:Blk wk w0.z [vI x1.number,sl A1 N1 C1,sl AC NC CC]:=aE.blk;refine E z (fa J_) ?_;rintro _ wa ⟨rfl,aF⟩;have h3:=aF.below;have hu:Blk wa wk.z [vI 0,sl none 0 0,sl none 0 0]:=aF.blk;refine Wn<|Wq ?_
 obtain ⟨bU,a7,bD⟩:=bdS hm;refine Wt (fun a w=>∃(xc:Int)(a9:List UInt8)(aa:List Val),(xc,a9,aa)=bU/\∃ad ne cf Sj W Y a0 G g1,Sat 31 [(1,pt w0.z),(2,pt wk.z),(3,pt g1)] a/\Below wa.z wa w/\inI xc/\a_ w Sj (sl ad ne cf) a9/\Sj.Nodup/\(∀k∈Sj,wa.z<=k)/\a_ w G (sl W Y a0) aa/\G.Nodup/\(∀k∈G,wa.z<=k)/\(∀k∈G,k∉Sj)/\Blk w g1 [vI xc,sl ad ne cf,sl W Y a0]/\wa.z<=g1/\(∀k∈Sj,k∉[g1])/\(∀k∈G,k∉[g1])) ?_ ?_
 ·refine Wd (X:=fun k=>k∈([]:List Nat)∨wa.z<=k) 256 (.rd 0<|.rd 1<|.rd 3<|.rd 4<|.br 2 (.br 5 (.rd 6<|.ef 7<|.ef 8 .done) 7<|.ef 5<|.rd 6<|.ef 8 .done) 7<|.ef 2<|.ef 5<|.rd 6<|.ef 8 .done) mo (by kernel_rfl) fun wr s5 _=>dR z z (fd b_0 z) ?_
  have aG:=(hb.e h3).e s5;refine dR z z (l1 g_3 z (b_q nm0<|Nat.lt_of_lt_of_le hb.lt h3.s)<|aG.at z)<|dR z z (fd b_j z)<|dR z z (l1 R_ z (b_q nm0<|Nat.lt_of_lt_of_le hb.lt h3.s)<|aG.at z)<|b_p ?_ ?_
  ·refine dE z z (f0 (α:=UInt8) a_o) (.inr fun _ _ h=>l_ (by obtain ⟨_,_,_,_,h,_⟩:=h;exact h)) ?_;rintro _ ab ⟨_,_,_,rfl,sm,ae⟩;refine b_p ?_ ?_
   ·obtain ⟨bV,bW,bE⟩:=bdS a7;refine dE z z (fN (α:=UInt8) a_o bW z z ae a_b<|a5.g<|(((O.ag B).e h3).e s5).e sm) (.inr fun _ _ h=>by obtain ⟨_,_,_,_,_,h,_⟩:=h;exact h.mono fun k _ hk=>(mor s5.s:∀k∈[wr.z],k∈([]:List Nat)∨wa.z<=k) k hk) ?_;rintro _ aH ⟨bX,af,ah,ai,rfl,aI,aJ,bY,bZ⟩;refine dR z z (bP (parts:=[(0,.tmp 6),(1,.tmp 10)]) (cs:=[vI x1.number,sl af ah ai,sl none 0 0]) L_ z z)<|dE z z (fa J_) (.inr fun _ _ h=>l_<|h.2.below) ?_
    rintro _ c0 ⟨rfl,aK⟩;have aL:=aK.below;have aM:=lt_ s5.s sm.s;have aj:=m1<|lt_ aM aI.s
    refine dE0 z (fs0 (cur':=[vI x1.number,sl af ah ai,sl none 0 0]) c_ z z (aK.blk:Blk c0 aH.z [vI 0,sl none 0 0,sl none 0 0]) z z z z) (.inr fun _ _ h=>a_C (atp aj) h.2) ?_;rintro _ _ ⟨c1,c2⟩;have aN:=c2.one;refine pD ?_;have aO:=mnr<|a_.lt aJ
    have aP:=m1 s5.s;exact fun _ q=>⟨x1.number,bV,([]:List Val),som bE,af,ah,ai,bX,none,0,0,[],aH.z,q.k<|s3 z z z,bM (bup (bM (bup s5 sm) aI aP) aL) aN aj,a4,(aJ.e aL).c aN<|ds aO,bY,a_E bZ aP aM,onL,a_x,an_,an_,c1,atp aj,ds aO,an_⟩
   refine dE z z (fa J_) (.inr fun _ _ h=>l_<|h.2.below) ?_;rintro _ c3 ⟨rfl,aQ⟩;have a1:=aQ.below;have aR:Blk c3 ab.z [vI 0,sl none 0 0,sl none 0 0]:=aQ.blk;obtain ⟨c4,c5,bF⟩:=bdS a7;refine dE z z (fN (α:=UInt8) a_o c5 z z (ae.e a1) a_b<|a5.g<|((((O.ag B).e h3).e s5).e sm).e a1) (.inr fun _ _ h=>by obtain ⟨_,_,_,_,_,h,_⟩:=h;exact h.mono fun k _ hk=>(mor s5.s:∀k∈[wr.z],k∈([]:List Nat)∨wa.z<=k) k hk) ?_;rintro _ _ ⟨aS,ak,al,am,rfl,aT,c6,c7,aU⟩;refine dR z z (bP (parts:=[(0,.tmp 6),(1,.tmp 10)]) (cs:=[vI x1.number,sl ak al am,sl none 0 0]) L_ z z) ?_;have aV:=mnr<|a_.lt ae
   have aW:=lt_ s5.s sm.s;have an:=m1 aW;refine dE0 z (fs0 (cur':=[vI x1.number,sl ak al am,sl none 0 0]) c_ z z (aR.c aT<|atp aV) z z z z) (.inr fun _ _ h=>a_C (atp an) h.2) ?_;rintro _ _ ⟨c9,ca⟩;have aX:=ca.one;refine pD ?_;have aY:∀k∈aS,k∉[ab.z]:=or1 aU (ds aV)<|a_f (f_ aR.lt) lr;have aZ:=m1 s5.s;exact fun _ q=>⟨x1.number,c4,([]:List Val),som bF,ak,al,am,aS,none,0,0,[],ab.z,q.k<|s3 z z z,bM (bM (bup (bup s5 sm) a1) aT aZ) aX an,a4,c6.c aX aY,c7,a_E aU aZ<|lt_ aW a1.s,onL,a_x,an_,an_,c9,atp an,aY,an_⟩
  refine dE z z (fa J_) (.inr fun _ _ h=>l_<|h.2.below) ?_;rintro _ b0 ⟨rfl,b1⟩;have ao:=b1.below;have ap:Blk b0 wr.z [vI 0,sl none 0 0,sl none 0 0]:=b1.blk;refine dE z z (f0 (α:=UInt8) a_o) (.inr fun _ _ h=>l_ (by obtain ⟨_,_,_,_,h,_⟩:=h;exact h)) ?_;rintro _ _ ⟨_,_,_,rfl,ss,cb⟩;obtain ⟨cc,cd,bG⟩:=bdS a7;have aq:=lt_ s5.s ao.s;refine dE z z (fN (α:=UInt8) a_o cd z z cb a_b<|a5.g<|((((O.ag B).e h3).e s5).e ao).e ss) (.inr fun _ _ h=>by obtain ⟨_,_,_,_,_,h,_⟩:=h;exact h.mono fun k _ hk=>(mor aq:∀k∈[b0.z],k∈([]:List Nat)∨wa.z<=k) k hk) ?_;rintro _ _ ⟨b2,ar,au,av,rfl,b3,ce,cg,b4⟩;refine dR z z (bP (parts:=[(0,.tmp 6),(1,.tmp 10)]) (cs:=[vI x1.number,sl ar au av,sl none 0 0]) L_ z z) ?_;have b5:=mmr ap.lt;have aw:=m1 s5.s;refine dE0 z (fs0 (cur':=[vI x1.number,sl ar au av,sl none 0 0]) c_ z z ((ap.e ss).c b3<|djs b5) z z z z) (.inr fun _ _ h=>a_C (atp aw) h.2) ?_;rintro _ _ ⟨ch,ci⟩;have b6:=ci.one;refine pD ?_;have b7:∀k∈b2,k∉[wr.z]:=or1 b4 b5<|a_f (f_ ap.lt) ss.s;have b8:=m1 aq;exact fun _ q=>⟨x1.number,cc,([]:List Val),som bG,ar,au,av,b2,none,0,0,[],wr.z,q.k<|s3 z z z,bM (bM (bup (bup s5 ao) ss) b3 b8) b6 aw,a4,ce.c b6 b7,cg,a_E b4 b8<|lt_ aq ss.s,onL,a_x,an_,an_,ch,atp aw,b7,an_⟩
 rintro cj H ⟨xc,a9,aa,rfl,ad,ne,cf,Sj,W,Y,a0,G,g1,_,sg,ck,b9,cl,ba,cm,cn,hn,bb,hv,ho,co,cp⟩;revert cj;refine Wo<|Wq<|Ws<|Rw z ?_
 obtain ⟨_,bH,aC⟩:=bdS<|c_Z bD;refine Wf (σ:=List Val) (ρ:=Val) (fun (bc:Nat)(xp:List Val) a w=>∃I J L S4,Sat 31 [(1,pt w0.z),(2,pt wk.z),(3,pt g1),(4,vI ((bc:Nat):Int))] a/\Chg (· ∈ (G++[g1])) H w/\a_ w S4 (sl I J L) xp/\S4.Nodup/\(∀k∈S4,k∈G∨H.z<=k)/\Blk w g1 [vI xc,sl ad ne cf,sl I J L]) (fun (xp:List Val) a w=>∃I J L S4,Sat 31 [(2,pt wk.z),(3,pt g1)] a/\Chg (· ∈ (G++[g1])) H w/\a_ w S4 (sl I J L) xp/\S4.Nodup/\(∀k∈S4,k∈G∨H.z<=k)/\Blk w g1 [vI xc,sl ad ne cf,sl I J L]) (rQ prog fn<|Q19 w0 B) bH ?_ ?_ ?_ ?_ ?_
 ·exact fun _ q=>⟨W,Y,a0,G,q.k<|s4 z z z z,cr (G++[g1]) H,cm,cn,io sr,hv⟩
 ·rintro bc xp _ cq _ aD ⟨I,J,L,S4,bI,sw,hl,hx,hh,hy⟩ bJ;refine Wu ?_ bI;refine Wq<|Wm z<|Rf z Z_ z ?_
  have be:=((hb.e h3).e sg).c sw<|atp<|nmA (ds<|n_ hn hb.lt h3.s)<|ds<|n_ (f_ ho) hb.lt h3.s
  refine R z (l0 a_2 z<|be.at z) ?_;have bf:=lt_ O.s h3.s;have bg:=zt' a8 bf;have bh:=(((O.ag B).e h3).e sg).c sw<|nmA (g_ (or0 hn (t_ bg):∀k∈G,¬B k))<|g_ (or0 (f_ ho) (t_ bg):∀k∈[g1],¬B k)
  refine R z (lnR a_a z<|V.g bh)<|Rl z z z<|Wx z (fun _=>?_) (fun hc=>(V_ aD hc).elim)
  refine Wk<|Wq<|Wb (Wd (X:=noX) 2560 (pl_ 12 [7,8,9,11]) mo (by kernel_rfl) fun ct si _=>dR z z (fd Z_ z) ?_)
  have bi:=hy.e si;refine dR z z (l0 a_2 z<|bi.at z)<|dR z z (fd Z_ z)<|dR z z (l0 a_2 z<|(be.e si).at z)<|dM z z z ?_
  obtain ⟨cu,cv,bK⟩:=bdS bJ;refine dRX z z (at_ (α:=Val) a_a c_ z z z (V.g<|bh.e si) cv) ?_;rintro _ ⟨_,_,_,rfl,cw,cx,_⟩;obtain ⟨cy,cz,cA,cB,cC,cD,rfl,cE,cF,cG⟩:=b_T cx;refine dR z z (lN (vs:=[vI cu.number,sl cy cz cA,sl cB cC cD]) r_ c_ z z fid cw) ?_;obtain ⟨bj,cH,bL⟩:=bdS bK;refine dE z z (fc call38 z<|bT.run cH (zt' a8<|lt_ (lt_ (lt_ bf sg.s) sw.s) si.s) cE cF cG) (.inr fun _ _ h=>l_<|h.1) ?_;rintro _ bk ⟨a2,cI,cJ,cK,bm,cL,cN,cO,bn,rfl,cP,cQ,cR,ax,hq⟩;refine dE z z (fS [(.tmp 26)] b_x z z z (b_V z) (lb z)<|lb z) (.inr fun _ _ h=>l_<|h.2.below) ?_;rintro _ bo ⟨rfl,bp⟩;have ht:=bp.below;obtain ⟨cS,cT,bN⟩:=bdS bL;refine dE z z (c_u (α:=Val) b_x cT z z (((hl.e si).e a2).e ht) hx (bp.blk:Blk bo bk.z [vI bj.number,sl cI cJ cK,sl cL cN cO]) (j_i (x:=bj) (S1:=bm) (S2:=bn) cP (cQ.e ht)<|cR.e ht) (aa_ (b_w (al_ hq) (a_.lt hl) si.s)<|b_w (ar_ hq) (a_.lt hl) si.s)<|na_ (nl_ ax) (nr_ ax)<|nj ax) (.inl z) ?_;rintro _ cU ⟨ay,bq,bs,bt,rfl,bu,cV,cW,bv⟩;refine dR z z (fd Z_ z) ?_;have bw:∀k∈S4,k∉[g1]:=or1 hh cp<|a_f (f_<|Blk.lt hv) lr;refine dE0 z (fs0 (cur':=[vI xc,sl ad ne cf,sl bq bs bt]) z_40 z z (((bi.e a2).e ht).c bu<|djs bw) z z z z) (.inl z) ?_;rintro _ cX ⟨cY,cZ⟩;have bx:=cZ.one;refine pD<|Wo<|Wg<|Rm z<|R z (inc_ aD (lt_ (repS.len V) D_) z z)<|Ra z<|Wl ?_
  have hz:=lt_ sw.s si.s;have bz:=lt_ (lt_ hz a2.s) ht.s;exact fun _ q=>⟨cS,(som bN).symm,⟨bq,bs,bt,ay,q.k<|s4 z z z z,(cM (cM (h_ (h_ (h_ (cM (cr (G++[g1]) H) sw (aa_ (io<|a_U sr)<|io<|a_L sr):Chg (· ∈ (G++[g1])) H cq) si:Chg (· ∈ (G++[g1])) H ct) a2:Chg (· ∈ (G++[g1])) H bk) ht:Chg (· ∈ (G++[g1])) H bo) bu (or1 hh (io<|a_U sr) (M_ lr):∀k∈S4,k∈(G++[g1])∨H.z<=k):Chg (· ∈ (G++[g1])) H cU) bx (io<|a_L sr):Chg (· ∈ (G++[g1])) H cX),cV.c bx (or2 bv bw (aa_ (n_ (al_ hq) (Blk.lt hv) hz)<|n_ (ar_ hq) (Blk.lt hv) hz) (a_f (f_<|Blk.lt hv) bz):∀k∈ay,k∉[g1]),cW,(or2 bv (or1 hh (io sr) (M_ lr):∀k∈S4,k∈G∨H.z<=k) (aa_ (or0 (al_ hq) (M_ hz):∀k∈bm,k∈G∨H.z<=k) (or0 (ar_ hq) (M_ hz):∀k∈bn,k∈G∨H.z<=k)) (M_ bz):∀k∈ay,k∈G∨H.z<=k),cY⟩⟩
 ·rintro xp _ d0 ⟨I,J,L,S4,bO,az,hl,hx,hh,hy⟩;refine Wu ?_ bO;refine Wq<|Wm z<|Rf z Z_ z<|R z (l0 a_2 z<|(((hb.e h3).e sg).c az<|atp<|nmA (ds<|n_ hn hb.lt h3.s)<|ds<|n_ (f_ ho) hb.lt h3.s).at z) ?_
  have bA:=zt' a8<|lt_ O.s h3.s
  refine R z (lnR a_a z<|V.g<|(((O.ag B).e h3).e sg).c az<|nmA (g_ (or0 hn (t_ bA):∀k∈G,¬B k))<|g_ (or0 (f_ ho) (t_ bA):∀k∈[g1],¬B k))<|Rl z z z<|Wx z (fun hc=>(W_ hc).elim) (fun _=>?_)
  exact We<|fun _ q=>⟨rfl,⟨I,J,L,S4,q.k<|s2 z z,(cM (cr (G++[g1]) H) az (aa_ (io<|a_U sr)<|io<|a_L sr):Chg (· ∈ (G++[g1])) H d0),hl,hx,(or1 hh (io sr) (M_ lr):∀k∈S4,k∈G∨H.z<=k),hy⟩⟩
 ·rintro xp d1 _ rfl ⟨I,J,L,S4,_,aA,hl,hx,hh,hy⟩;have bQ:=elL aC;revert d1;refine Wo<|Ws<|R z (lN (vs:=[vI xc,sl ad ne cf,sl I J L]) r_ c_ z z fid<|hy.row 0 3 z) ?_
  have bB:=n_ hn hu.lt lr;refine E0 (fs0 (cur':=[vI xc,sl ad ne cf,sl I J L]) c_ z z ((hu.e sg).c aA<|atp<|nmA (ds bB)<|ds<|n_ (f_ ho) hu.lt lr) z z z z) ?_;rintro _ _ ⟨d2,d3⟩;have aB:=d3.one;refine Wn ?_;obtain rfl:=som bQ;have a3:=lt_ O.s h3.s;have bC:=p_ hn a3;exact Wr<|d_ hr (q_ r_ c_ z d2 z) ⟨bM (bM (bup (bup O h3) sg) aA<|aa_ bC<|p_ (f_ ho) a3) aB<|m1 O.s,ad,ne,cf,Sj,I,J,L,S4,z,ck,(b9.c aA<|nmA (ds bb) co).c aB<|n_ ba hu.lt lr,hl.c aB (or1 hh bB (a_f (f_ hu.lt) sg.s):∀k∈S4,k∉[wk.z]),na_ cl hx<|ds<|c_H hh bb (a_.lt b9) lr,aa_ (p_ ba a3)<|a_E hh bC<|lt_ a3 sg.s⟩
 rintro _ _ _ _ rfl ⟨rfl,bR⟩;have bS:=elR aC;obtain rfl:=som bS;exact ⟨bR,z⟩
theorem A_w0c:∀n,l_s n
  | 0=>⟨fun hm=>by intros;exact nomatch (show none=some _ from hm)⟩
  | n+1=>T_w0c<|A_w0c n
theorem W_w0c:j_B (d_J n).spec_CopyValue:=A_w0c n
def Q20 (w0:World)(B:Zone)(r:Val×Int×Bool)(v:Value)(w':World):Prop:=Bw w0 w'/\un3 (fun G H W=>∃I J L S1 a2 O V S2,v = .tuple #[(.agg #[vI G.number,sl I J L,sl a2 O V]),vI H,vB W]/\inI G.number/\a_ w' S1 (sl I J L) G.bytes/\a_ w' S2 (sl a2 O V) G.items/\inI H/\(S1++S2).Nodup/\(∀k∈(S1++S2),w0.z<=k)) r
theorem W_w1j {x1:b_}{x2:Val}{x3:Str}{res:Val×Int×Bool}(hm:f_1 n x1 x2 x3=some res)(W:B<=w0.z)(Y:repS w0 B (sl A0 N0 C0) x1.rules)(ap:inI x2.number)(aq:repS w0 B (sl A9 N9 C9) x2.bytes)(ar:repS w0 B (sl AG NG CG) x2.items)(b0:x3.b.length<=LEN):i_ prog 16 [(.agg #[sl A0 N0 C0]),.agg #[vI x2.number,sl A9 N9 C9,sl AG NG CG],Str.v x3] w0 (Q20 w0 B res):=by
 unfold f_1 at hm
 refine goG func16 z z z fun fn hr=>Ws<|E z (fb z) ?_
 rintro _ G ⟨rfl,az⟩;have hf:=az.below;have aA:Blk G w0.z [sl A0 N0 C0]:=az.blk;refine E z (fb z) ?_;rintro _ wr ⟨rfl,aB⟩;have hl:=aB.below;have hn:Blk wr G.z [vI x2.number,sl A9 N9 C9,sl AG NG CG]:=aB.blk;refine E z (fa J_) ?_;rintro _ bh ⟨rfl,aC⟩;have he:=aC.below;have ht:Blk bh wr.z [vI 0,sl none 0 0,sl none 0 0]:=aC.blk;refine Ra z<|Rw z<|Ws ?_
 have a8:=(aA.e hl).e he;refine R z (lN (vs:=[sl A0 N0 C0]) w_ u_ z z fid<|a8.row 0 1 z) ?_;have hx:=((hf.ag B).e hl).e he;have hy:=lt_ hf.s hl.s;have aD:=lt_ hy he.s;obtain ⟨bi,bj,b1⟩:=bdS hm;refine E z (fc call29 z<|f_Y bj (zt' W aD)<|Y.g hx) ?_;rintro _ wz ⟨H,rfl,aE⟩;refine Rw z<|Wm z ?_
 have a0:=lt_ aD H.s;obtain ⟨_,bk,bm,b2⟩:=a_3 b1;refine E z (fc call31 z<|W_w1g bm (zt' W a0) b0) ?_;rintro _ wk ⟨s2,aF,aG,aH,rfl,a1⟩;refine Rm z<|Re z z z<|Re z z z<|Ra z<|Rw z<|Wq<|Wq ?_
 obtain ⟨bn,au,av⟩:=bdS b2;refine Wt (fun a w=>∃(a9:Bool),a9=bn/\Sat 65 [(3,pt w0.z),(4,pt G.z),(6,pt wr.z),(9,vI bi),(10,sl aF aG aH),(29,vB a9)] a/\Below wk.z wk w) ?_ ?_
 ·refine Wg<|Rm z<|R z (not_ z)<|Rm z ?_
  rcases bs (!bk) with J | J
  ·iterate 5 refine Nh z J ?_
   exact R z (pT z J z)<|Wl (fun _ q=>⟨true,som<|ifT au J,q.k<|s6 z z z z z z,br wk⟩)
  refine Rh z J (lN (vs:=[sl A0 N0 C0]) w_ u_ z z fid<|((a8.e H).e s2).row 0 1 z)<|Rh z J (mv z)<|Rh z J (lN (vs:=[vI x2.number,sl A9 N9 C9,sl AG NG CG]) r_ c_ z z fid<|(((hn.e he).e H).e s2).row 0 3 z) ?_
  have ab:=(hx.e H).e s2;obtain ⟨bo,bp,b3⟩:=bdS<|ifF au J;refine Eg z z J z (fc call35 z<|W_w2w bp (zt' W<|lt_ a0 s2.s) (Y.g ab) aE ap (aq.g ab)<|ar.g ab) ?_;rintro _ _ ⟨bq,rfl⟩;exact Rh z J (not_ z)<|R z (pF z J z)<|Wl (fun _ q=>⟨!bo,som b3,q.k<|s6 z z z z z z,bq⟩)
 rintro bt I ⟨a9,rfl,_,s4⟩;revert bt;refine Wo<|Wc z (fun a5=>?_) (fun a5=>?_)
 ·refine Ws<|R z (bP (parts:=[]) (cs:=[vI 0,sl none 0 0,sl none 0 0]) L_ z z)<|E0 (fs0 (cur':=[vI 0,sl none 0 0,sl none 0 0]) c_ z z (((ht.e H).e s2).e s4) z z z z) ?_
  rintro _ _ ⟨bu,bv⟩;refine Ra z<|Rw z ?_
  obtain rfl:=som<|ifT av a5;exact Wr<|z_ hr (q_ r_ c_ z bu z) z z ⟨bM (bup (bup (bup (bup (bup hf hl) he) H) s2) s4) bv.one<|m1 hy,none,0,0,[],none,0,0,[],z,ii z,onL,onL,ii z,nd0,al0⟩
 refine Wk<|Wq<|Ws<|Rw z ?_
 obtain ⟨_,b4,aw⟩:=bdS<|ifF av a5;refine Wf (σ:=Int×Int×(List UInt8)×(List Val)) (ρ:=Val×Int×Bool) (fun (aI:Nat) s a w=>un4 (fun xg x5 xh xi=>∃L O V aa nb cc,Sat 65 [(3,pt w0.z),(4,pt G.z),(6,pt wr.z),(9,vI xg),(10,sl aF aG aH),(12,vI ((aI:Nat):Int))] a/\Chg (· ∈ [G.z]) I w/\inI xg/\inI x5/\repS w B (sl L O V) xh/\repS w B (sl aa nb cc) xi/\Blk w G.z [vI x5,sl L O V,sl aa nb cc]) s) (fun s a w=>un4 (fun xg x5 xh xi=>∃L O V aa nb cc,Sat 65 [(4,pt G.z),(6,pt wr.z),(9,vI xg)] a/\Chg (· ∈ [G.z]) I w/\inI xg/\inI x5/\repS w B (sl L O V) xh/\repS w B (sl aa nb cc) xi/\Blk w G.z [vI x5,sl L O V,sl aa nb cc]) s) (rQ prog fn<|Q20 w0 B) b4 ?_ ?_ ?_ ?_ ?_
 ·have aJ:=((hx.e H).e s2).e s4;exact fun _ q=>⟨A9,N9,C9,AG,NG,CG,q.k<|s6 z z z z z z,cr [G.z] I,aE,ap,aq.g aJ,ar.g aJ,(((hn.e he).e H).e s2).e s4⟩
 ·rintro aI ⟨xg,x5,xh,xi⟩ _ bw _ ax ⟨L,O,V,aa,nb,cc,b5,sm,hu,ho,hv,hp,hw⟩ b6;refine Wu ?_ b5;refine Wq<|Wm z<|Rm z ?_
  have a2:∀k∈[G.z],¬B k:=or0 (f_ lr)<|t_<|zt' W hf.s;have aK:=(s4.ag<|zn B wz.z wk.z).c sm<|g_ ((nznL a2 (f_ hn.lt)<|lt_ he.s H.s):∀k∈[G.z],¬(zn B wz.z wk.z) k)
  refine R z (lnR T_ z<|a1.g aK)<|Rl z z z<|Wx z (fun _=>?_) (fun hc=>(V_ ax hc).elim)
  refine Wk<|Wq<|Wb<|Wq (Wd (X:=noX) 0 (pl_ 9 [7]) mo (by kernel_rfl) fun bx sd _=>?_)
  have aL:=((((a8.e H).e s2).e s4).c sm<|djs<|mmr aA.lt).e sd;refine dR z z (lN (vs:=[sl A0 N0 C0]) w_ u_ z z fid<|aL.row 0 1 z)<|dM z z z ?_
  have aM:=hw.e sd;refine dR z z (lN (vs:=[vI x5,sl L O V,sl aa nb cc]) r_ c_ z z fid<|aM.row 0 3 z)<|dM z z z<|dM z z z ?_
  obtain ⟨_,bz,b7⟩:=bdS<|un4S b6;refine dRX z z (at_ (α:=Str) T_ z_9 z z z (a1.g<|aK.e sd) bz) ?_;rintro _ ⟨_,_,_,rfl,bA,bB,_⟩;obtain ⟨rfl,bC⟩:=b_2 bB;refine dR z z (l0 g_9 z<|bA.at0 z) ?_;have aN:=((((hx.e H).e s2).e s4).c sm<|g_ a2).e sd;have aO:=lt_ (lt_ (lt_ (lt_ a0 s2.s) s4.s) sm.s) sd.s;obtain ⟨_,bD,ay⟩:=bdS b7;refine dE z z (fc call36 z<|W_w2x (B:=B) (x3:=(⟨x5,xh,xi⟩:Val)) bD (zt' W aO) (Y.g aN) hu ho (hv.e sd) (hp.e sd) bC) (.inr fun _ _ h=>l_<|h.1) ?_;rintro _ bE ⟨sj,rfl,bF⟩;refine dQ z z z<|pD<|Wo<|Wq<|Wm z<|Rl z z z<|Wx z (fun a6=>?_) (fun a6=>?_)
  ·refine Ws<|R z (bP (parts:=[]) (cs:=[vI 0,sl none 0 0,sl none 0 0]) L_ z z)<|E0 (fs0 (cur':=[vI 0,sl none 0 0,sl none 0 0]) c_ z z ((((((ht.e H).e s2).e s4).c sm<|atp<|mmr hn.lt).e sd).e sj) z z z z) ?_
   rintro _ _ ⟨bG,bH⟩;exact Ra z<|Rw z<|Wr<|rtO<|qL (som<|ifT ay a6).symm<|z_ hr (q_ r_ c_ z bG z) z z ⟨bM (bup (bup (bM (bup (bup (bup (bup (bup hf hl) he) H) s2) s4) sm<|m1 hf.s) sd) sj) bH.one<|m1 hy,none,0,0,[],none,0,0,[],z,ii z,onL,onL,ii z,nd0,al0⟩
  refine Wk<|Wq (Wd (X:=noX) 0 (pl_ 10 [8]) mo (by kernel_rfl) fun bI sq _=>dR z z (fd a_9 z)<|dR z z (l0 a_d z<|((aL.e sj).e sq).at z)<|dM z z z ?_)
  obtain ⟨bJ,bK,b8⟩:=bdS<|ifF ay a6;refine dRX z z (at_ (α:=e_) a_0 m_ z z z (Y.g<|(aN.e sj).e sq) bK) ?_;rintro _ ⟨_,_,_,rfl,bL,bN,_⟩;obtain ⟨bO,bQ,bR,bS,bT,bU,bV,bW,bX,bY,bZ,c0,rfl,c1,c2,c3,c4,c5,c6,c7⟩:=a_w bN;refine dR z z (lN (vs:=vR bJ bO bQ bR bS bT bU bV bW bX bY bZ c0) G_ m_ z z fid bL)<|dR z z (fd b_0 z) ?_
  have aP:=(aM.e sj).e sq;refine dR z z (l0 g_3 z<|aP.at z)<|dM z z z ?_
  obtain ⟨c8,ca,b9⟩:=bdS b8;refine dE z z (fc call37 z<|d_g ca (zt' W<|lt_ (lt_ aO sj.s) sq.s) c1 c2 c3 c4 c5 c6 c7 ho bF) (.inr fun _ _ h=>l_<|h.1) ?_;rintro _ cb ⟨ad,rfl,cd⟩;refine dQ z z z<|pD<|Wo<|Wg<|Rf z Z_ z ?_
  have aQ:=aP.e ad;refine R z (l0 a_2 z<|aQ.at z)<|Rm z ?_
  obtain ⟨xs,ce,ba⟩:=bdS b9;refine RX z (at_ (α:=Val) a_a c_ z z z (hp.g<|(((sd.ag B).e sj).e sq).e ad) ce) ?_;rintro _ ⟨_,_,_,rfl,cf,cg,_⟩;obtain ⟨ae,af,ah,ai,aj,ak,rfl,ch,ci,cj⟩:=b_T cg;refine R z (lN (vs:=[vI xs.number,sl ae af ah,sl ai aj ak]) r_ c_ z z fid cf)<|E0 (fs0 (cur':=[vI xs.number,sl ae af ah,sl ai aj ak]) c_ z z aQ z z z z) ?_
  rintro _ ck ⟨cl,cm⟩;have al:=cm.one;refine Wn<|Wg<|Rm z<|R z (inc_ ax (lt_ (repS.len a1) D_) z z)<|Ra z<|Wl ?_
  exact fun _ q=>⟨(c8,xs.number,xs.bytes,xs.items),(som ba).symm,⟨ae,af,ah,ai,aj,ak,q.k<|s6 z z z z z z,(cM (h_ (h_ (h_ (h_ (cM (cr [G.z] I) sm (io sr):Chg (· ∈ [G.z]) I bw) sd:Chg (· ∈ [G.z]) I bx) sj:Chg (· ∈ [G.z]) I bE) sq:Chg (· ∈ [G.z]) I bI) ad:Chg (· ∈ [G.z]) I cb) al (io sr):Chg (· ∈ [G.z]) I ck),cd,ch,ci.c al<|g_ a2,cj.c al<|g_ a2,cl⟩⟩
 ·rintro ⟨xg,x5,xh,xi⟩ _ cn ⟨L,O,V,aa,nb,cc,bb,aR,hu,ho,hv,hp,hw⟩;refine Wu ?_ bb;refine Wq<|Wm z<|Rm z ?_
  refine R z (lnR T_ z<|a1.g<|(s4.ag<|zn B wz.z wk.z).c aR<|g_ ((nznL (or0 (f_ lr) (t_<|zt' W hf.s):∀k∈[G.z],¬B k) (f_ hn.lt)<|lt_ he.s H.s):∀k∈[G.z],¬(zn B wz.z wk.z) k))<|Rl z z z<|Wx z (fun hc=>(W_ hc).elim) (fun _=>?_)
  exact We<|fun _ q=>⟨rfl,⟨L,O,V,aa,nb,cc,q.k<|s3 z z z,(cM (cr [G.z] I) aR (io sr):Chg (· ∈ [G.z]) I cn),hu,ho,hv,hp,hw⟩⟩
 ·rintro ⟨xg,x5,xh,xi⟩ co _ rfl ⟨L,O,V,aa,nb,cc,_,a3,hu,ho,hv,hp,hw⟩;have bc:=elL aw;revert co;refine Wo<|Ws<|R z (lN (vs:=[vI x5,sl L O V,sl aa nb cc]) r_ c_ z z fid<|hw.row 0 3 z) ?_
  have am:=lt_ (lt_ (lt_ a0 s2.s) s4.s) a3.s;obtain ⟨cp,cq,be⟩:=bdS<|un4S bc;refine E z (fc call38 z<|W_w0c.run (B:=B) (x1:=(⟨x5,xh,xi⟩:Val)) cq (zt' W am) ho hv hp) ?_;rintro _ _ ⟨aS,aT,aU,aV,ct,aW,aX,aY,cu,rfl,cv,cw,cx,an,a4⟩;refine Rm z<|E0 (fs0 (cur':=[vI cp.number,sl aT aU aV,sl aW aX aY]) c_ z z (((((ht.e H).e s2).e s4).c a3<|atp<|mmr hn.lt).e aS) z z z z) ?_
  rintro _ _ ⟨cy,cz⟩;have ao:=cz.one;refine Ra z<|Rw z ?_
  obtain rfl:=som be;have aZ:=lt_ (lt_ (lt_ H.s s2.s) s4.s) a3.s;exact Wr<|z_ hr (q_ r_ c_ z cy z) z z ⟨bM (bup (bM (bup (bup (bup (bup (bup hf hl) he) H) s2) s4) a3<|m1 hf.s) aS) ao<|m1 hy,aT,aU,aV,ct,aW,aX,aY,cu,z,cv,cw.c ao<|n_ (al_ a4) ht.lt aZ,cx.c ao<|n_ (ar_ a4) ht.lt aZ,hu,na_ (nl_ an) (nr_ an)<|nj an,aa_ (p_ (al_ a4) am)<|p_ (ar_ a4) am⟩
 rintro _ _ _ _ rfl ⟨rfl,bf⟩;have bg:=elR aw;obtain rfl:=som bg;exact ⟨bf,z⟩
theorem W_w2y {x1:List UInt8}{x2:List UInt8}{res:Bool}(hm:h_M x1 x2=some res)(a0:B<=w0.z)(G:repS w0 B (sl A0 N0 C0) x1)(L:repS w0 B (sl A6 N6 C6) x2):i_ prog 39 [sl A0 N0 C0,sl A6 N6 C6] w0 (Q7 w0 B res):=by
 unfold h_M at hm
 refine goG func39 z z z fun fn hr=>Ws<|Rw z<|Wq<|Wm z<|R z (lnR o_ z G)<|Rm z<|R z (lnR o_ z L)<|R z (nq z z)<|Wx z (fun I=>?_) (fun I=>?_)
 ·refine Ws<|Rw z ?_
  obtain rfl:=som<|ifT hm I;exact Wr<|d_ hr z ⟨br w0,z⟩
 refine Wk<|Wq<|Ws<|Rw z ?_
 obtain ⟨_,hua,O⟩:=bdS<|ifF hm I;refine Wf (σ:=Unit) (ρ:=Bool) (fun (k5:Nat)(_:Unit) a w=>Sat 26 [(0,sl A0 N0 C0),(1,sl A6 N6 C6),(5,vI ((k5:Nat):Int))] a/\Below w0.z w0 w) (fun (_:Unit) a w=>Sat 26 [] a/\Below w0.z w0 w) (rQ prog fn<|Q7 w0 B) hua ?_ ?_ ?_ ?_ ?_
 ·exact fun _ q=>⟨q.k<|s3 z z z,br w0⟩
 ·rintro k5 _ _ _ _ V ⟨hSb,H⟩ hmc;refine Wu ?_ hSb;refine Wq<|Wm z<|Rm z<|R z (lnR o_ z<|G.e H)<|Rl z z z<|Wx z (fun _=>?_) (fun hc=>(V_ V hc).elim)
  refine Wk<|Wq<|Wb<|Wq (Wd (X:=noX) 0 (pl_ 9 []) mo (by kernel_rfl) fun wu s2 _=>dM z z z<|dM z z z ?_)
  obtain ⟨_,ed,hme⟩:=bdS hmc;have Y:=(H.ag B).e s2;refine dRX z z (at_ (α:=UInt8) o_ z_5 z z z (G.g Y) ed) ?_;rintro _ ⟨_,_,_,rfl,hf,hg,_⟩;obtain rfl:=u8 hg;refine dR z z (l0 g_5 z<|hf.at0 z)<|dM z z z<|dM z z z ?_
  obtain ⟨_,eh,W⟩:=bdS hme;refine dRX z z (at_ (α:=UInt8) o_ z_5 z z z (L.g Y) eh) ?_;rintro _ ⟨_,_,_,rfl,hi,hj,_⟩;obtain rfl:=u8 hj;refine dR z z (l0 g_5 z<|hi.at0 z)<|dR z z (nq z z)<|pD<|Wo<|Wc z (fun J=>?_) (fun J=>?_)
  ·exact Ws<|Rw z<|Wr<|rtO<|qL (som<|ifT W J).symm<|d_ hr z ⟨bup H s2,z⟩
  exact Wk<|Wg<|Rm z<|R z (inc_ V (lt_ (repS.len G) D_) z z)<|Ra z<|Wl (fun _ q=>⟨(),(som<|ifF W J).symm,⟨q.k<|s3 z z z,bup H s2⟩⟩)
 ·rintro _ _ _ ⟨hSk,s9⟩;refine Wu ?_ hSk;refine Wq<|Wm z<|Rm z<|R z (lnR o_ z<|G.e s9)<|Rl z z z<|Wx z (fun hc=>(W_ hc).elim) (fun _=>?_)
  exact We<|fun _ q=>⟨rfl,⟨q.k sn,s9⟩⟩
 ·rintro _ al _ rfl ⟨_,sm⟩;have hmn:=elL O;revert al;refine Wo<|Ws<|Rw z ?_
  obtain rfl:=som hmn;exact Wr<|d_ hr z ⟨sm,z⟩
 rintro _ _ _ _ rfl ⟨rfl,hqo⟩;have hmp:=elR O;obtain rfl:=som hmp;exact ⟨hqo,z⟩
structure j_C (f:Val->Val->Option Bool):Prop where
  run:∀{A1 AC A9 AG:Option Addr}{N1 C1 NC CC N9 C9 NG CG:Nat}{B:Zone}{x1:Val}{x2:Val}{res:Bool}{w0:World}(hm:f x1 x2=some res)(hBw:B<=w0.z)(p1_0:inI x1.number)(p1_1:repS w0 B (sl A1 N1 C1) x1.bytes)(p1_2:repS w0 B (sl AC NC CC) x1.items)(p2_0:inI x2.number)(p2_1:repS w0 B (sl A9 N9 C9) x2.bytes)(p2_2:repS w0 B (sl AG NG CG) x2.items),i_ prog 17 [(.agg #[vI x1.number,sl A1 N1 C1,sl AC NC CC]),(.agg #[vI x2.number,sl A9 N9 C9,sl AG NG CG])] w0<|Q7 w0 B res
abbrev l_t (n:Nat):Prop:=j_C (d_K n).spec_EqualValues
theorem T_w0d (a9:l_t n):j_C (e_p n<|d_K n):=by
 constructor
 intro A1 AC A9 AG N1 C1 NC CC N9 C9 NG CG B x1 x2 res w0 hm V aI W I aJ Y O;unfold e_p at hm
 refine goG func17 z z z fun fn hr=>Ws<|E z (fb z) ?_
 rintro _ L ⟨rfl,hj⟩;have h3:=hj.below;have hd:Blk L w0.z [vI x1.number,sl A1 N1 C1,sl AC NC CC]:=hj.blk;refine E z (fb z) ?_;rintro _ wa ⟨rfl,hk⟩;have h2:=hk.below;have hb:Blk wa L.z [vI x2.number,sl A9 N9 C9,sl AG NG CG]:=hk.blk;refine Rw z<|Wq<|Wq ?_
 obtain ⟨ux,hul,hmm⟩:=bdS hm;refine Wt (fun a w=>∃(xc:Bool),xc=ux/\Sat 47 [(2,pt w0.z),(3,pt L.z),(27,vB xc)] a/\Below wa.z wa w) ?_ ?_
 ·refine Wg<|Rf z b_0 z ?_
  have he:=hd.e h2;refine R z (l0 g_3 z<|he.at z)<|Rf z b_0 z<|R z (l0 g_3 z<|hb.at z)<|R z (nq z z)<|Rm z ?_
  rcases bs (x1.number != x2.number) with H | H
  ·iterate 6 refine Nh z H ?_
   exact R z (pT z H z)<|Rm z<|Nh z z<|Nh z z<|Nh z z<|Nh z z<|Nh z z<|Nh z z<|Nh z z<|R z (pT z z z)<|Wl (fun _ q=>⟨true,som<|ifT hul H,q.k<|s3 z z z,br wa⟩)
  refine Rh z H (fd b_j z)<|Rh z H (l0 R_ z<|he.at z)<|Rh z H (fd b_j z)<|Rh z H (l0 R_ z<|hb.at z) ?_
  have hf:=(h3.ag B).e h2;obtain ⟨ry,ez,hmn⟩:=bdS<|ifF hul H;refine Eg z z H z (fc call39 z<|W_w2y ez (zt' V<|lt_ h3.s h2.s) (W.g hf)<|Y.g hf) ?_;rintro _ _ ⟨s7,rfl⟩;refine Rh z H (not_ z)<|R z (pF z H z)<|Rm z ?_
  rcases bs (!ry) with G | G
  ·iterate 7 refine Nh z G ?_
   exact R z (pT z G z)<|Wl (fun _ q=>⟨true,som<|ifT hmn G,q.k<|s3 z z z,s7⟩)
  refine Rh z G (fd Z_ z)<|Rh z G (l0 a_2 z<|(he.e s7).at z) ?_
  have ho:=hf.e s7;exact Rh z G (lnR a_a z<|I.g ho)<|Rh z G (fd Z_ z)<|Rh z G (l0 a_2 z<|(hb.e s7).at z)<|Rh z G (lnR a_a z<|O.g ho)<|Rh z G (nq z z)<|R z (pF z G z)<|Wl (fun _ q=>⟨(x1.items.length:Int) != (x2.items.length:Int),som<|ifF hmn G,q.k<|s3 z z z,s7⟩)
 rintro aa J ⟨xc,rfl,_,s4⟩;revert aa;refine Wo<|Wc z (fun hcg=>?_) (fun hcg=>?_)
 ·refine Ws<|Rw z ?_
  obtain rfl:=som<|ifT hmm hcg;exact Wr<|d_ hr z ⟨bup (bup h3 h2) s4,z⟩
 refine Wk<|Wq<|Ws<|Rw z ?_
 obtain ⟨_,a0,hmp⟩:=bdS<|ifF hmm hcg;refine Wf (σ:=Unit) (ρ:=Bool) (fun (kq:Nat)(_:Unit) a w=>Sat 47 [(2,pt w0.z),(3,pt L.z),(5,vI ((kq:Nat):Int))] a/\Below J.z J w) (fun (_:Unit) a w=>Sat 47 [] a/\Below J.z J w) (rQ prog fn<|Q7 w0 B) a0 ?_ ?_ ?_ ?_ ?_
 ·exact fun _ q=>⟨q.k<|s3 z z z,br J⟩
 ·rintro kq _ _ _ _ hkr ⟨a1,s5⟩ a2;refine Wu ?_ a1;refine Wq<|Wm z<|Rf z Z_ z ?_
  have ht:=((hd.e h2).e s4).e s5;refine R z (l0 a_2 z<|ht.at z) ?_;have hu:=(((h3.ag B).e h2).e s4).e s5;refine R z (lnR a_a z<|I.g hu)<|Rl z z z<|Wx z (fun _=>?_) (fun hc=>(V_ hkr hc).elim)
  refine Wk<|Wq<|Wb<|Wq (Wd (X:=noX) 0 (pl_ 12 [10]) mo (by kernel_rfl) fun aK s6 _=>dR z z (fd Z_ z)<|dR z z (l0 a_2 z<|(ht.e s6).at z)<|dM z z z ?_)
  obtain ⟨ab,ad,a3⟩:=bdS a2;have hv:=hu.e s6;refine dRX z z (at_ (α:=Val) a_a c_ z z z (I.g hv) ad) ?_;rintro _ ⟨_,_,_,rfl,ae,af,_⟩;obtain ⟨ah,ai,aj,ak,al,am,rfl,an,ao,ap⟩:=b_T af;refine dR z z (lN (vs:=[vI ab.number,sl ah ai aj,sl ak al am]) r_ c_ z z fid ae)<|dR z z (fd Z_ z)<|dR z z (l0 a_2 z<|(((hb.e s4).e s5).e s6).at z)<|dM z z z ?_
  obtain ⟨aq,ar,a4⟩:=bdS a3;refine dRX z z (at_ (α:=Val) a_a c_ z z z (O.g hv) ar) ?_;rintro _ ⟨_,_,_,rfl,au,av,_⟩;obtain ⟨aw,ax,ay,az,aA,aB,rfl,aC,aD,aE⟩:=b_T av;refine dR z z (lN (vs:=[vI aq.number,sl aw ax ay,sl az aA aB]) r_ c_ z z fid au) ?_;obtain ⟨_,aF,hms⟩:=bdS a4;refine dE z z (fc call17 z<|a9.run aF (zt' V<|lt_ (lt_ (lt_ (lt_ h3.s h2.s) s4.s) s5.s) s6.s) an ao ap aC aD aE) (.inr fun _ _ h=>l_<|h.1) ?_;rintro _ _ ⟨sw,rfl⟩;refine dR z z (not_ z)<|pD<|Wo<|Wc z (fun hch=>?_) (fun hch=>?_)
  ·exact Ws<|Rw z<|Wr<|rtO<|qL (som<|ifT hms hch).symm<|d_ hr z ⟨bup (bup (bup (bup (bup h3 h2) s4) s5) s6) sw,z⟩
  exact Wk<|Wg<|Rm z<|R z (inc_ hkr (lt_ (repS.len I) D_) z z)<|Ra z<|Wl (fun _ q=>⟨(),(som<|ifF hms hch).symm,⟨q.k<|s3 z z z,bup (bup s5 s6) sw⟩⟩)
 ·rintro _ _ _ ⟨a5,si⟩;refine Wu ?_ a5;refine Wq<|Wm z<|Rf z Z_ z<|R z (l0 a_2 z<|(((hd.e h2).e s4).e si).at z)<|R z (lnR a_a z<|I.g<|(((h3.ag B).e h2).e s4).e si)<|Rl z z z<|Wx z (fun hc=>(W_ hc).elim) (fun _=>?_)
  exact We<|fun _ q=>⟨rfl,⟨q.k sn,si⟩⟩
 ·rintro _ aG _ rfl ⟨_,aH⟩;have a6:=elL hmp;revert aG;refine Wo<|Ws<|Rw z ?_
  obtain rfl:=som a6;exact Wr<|d_ hr z ⟨bup (bup (bup h3 h2) s4) aH,z⟩
 rintro _ _ _ _ rfl ⟨rfl,a7⟩;have a8:=elR hmp;obtain rfl:=som a8;exact ⟨a7,z⟩
theorem A_w0d:∀n,l_t n
  | 0=>⟨fun hm=>by intros;exact nomatch (show none=some _ from hm)⟩
  | n+1=>T_w0d<|A_w0d n
theorem W_w0d:j_C (d_K n).spec_EqualValues:=A_w0d n
theorem W_w2z {x1:b_}{x2:List UInt8}{res:Bool}(hm:g_l n x1 x2=some res)(J:B<=w0.z)(V:repS w0 B (sl A0 N0 C0) x1.rules)(W:repS w0 B (sl A6 N6 C6) x2):i_ prog 5 [(.agg #[sl A0 N0 C0]),sl A6 N6 C6] w0 (Q7 w0 B res):=by
 unfold g_l at hm
 refine goG func5 z z z fun fn hr=>Ws<|E z (fb z) ?_
 rintro _ de ⟨rfl,bi⟩;have hp:=bi.below;have hj:Blk de w0.z [sl A0 N0 C0]:=bi.blk;refine Rw z<|Ws<|R z (lN (vs:=[sl A0 N0 C0]) w_ u_ z z fid<|hj.row 0 1 z)<|Rm z ?_
 obtain ⟨_,_,df,cS⟩:=a_3 hm;refine E z (fc call12 z<|W_w2p df (zt' J hp.s) (V.e hp)<|W.e hp) ?_;rintro _ _ ⟨sk,a9,aa,ab,_,rfl,O,_,_⟩;refine Rm z<|Re z z z<|Re z z z<|Ra z<|Rw z<|Ws ?_
 have ai:=hj.e sk;refine R z (lN (vs:=[sl A0 N0 C0]) w_ u_ z z fid<|ai.row 0 1 z)<|Rm z ?_
 have hl:=(hp.ag B).e sk;have hf:=lt_ hp.s sk.s;obtain ⟨bj,_,_,dg,cT⟩:=I_ cS;refine E z (fc call13 z<|W_w1f dg (zt' J hf) (V.g hl)<|W.g hl) ?_;rintro _ H ⟨s2,bk,bm,bn,_,bo,bp,bq,_,rfl,bt,hu,hv,_,_,_,_⟩;refine Rm z ?_
 iterate 3 refine Re z z z ?_
 refine E z (fa J_) ?_;rintro _ dh ⟨rfl,bu⟩;have h3:=bu.below;have bv:Blk dh H.z [vI 0,sl none 0 0,sl none 0 0]:=bu.blk;refine E0 (fs0 (cur':=[vI bj.number,sl bk bm bn,sl bo bp bq]) c_ z z bv z z z z) ?_;rintro _ ad ⟨di,dj⟩;have G:=dj.one;refine Ra z<|Rw z<|Wq<|Ws<|Rw z ?_
 obtain ⟨_,cU,b6⟩:=bdS cT;refine Wf (σ:=Unit) (ρ:=Bool) (fun (kw:Nat)(_:Unit) a w=>Sat 101 [(1,sl A6 N6 C6),(2,pt w0.z),(5,sl a9 aa ab),(7,pt H.z),(10,vI ((kw:Nat):Int))] a/\Below ad.z ad w) (fun (_:Unit) a w=>Sat 101 [] a/\Below ad.z ad w) (rQ prog fn<|Q7 w0 B) cU ?_ ?_ ?_ ?_ ?_
 ·exact fun _ q=>⟨q.k<|s5 z z z z z,br ad⟩
 ·rintro kw _ _ aj _ b7 ⟨cV,s1⟩ cW;refine Wu ?_ cV;refine Wq<|Wm z<|Rm z ?_
  have ae:=(((O.e s2).e h3).c G<|ds<|mno (a_.lt O) s2.s).e s1;refine R z (lnR c_P z<|or_ ae<|a_.lt O)<|Rl z z z<|Wx z (fun _=>?_) (fun hc=>(V_ b7 hc).elim)
  refine Wk<|Wq<|Wb<|Wq ?_
  obtain ⟨dk,cX,cY⟩:=bdS cW;refine Wt (fun a w=>∃(xq:Str)(xm:Int)(xr:Int)(xs:Int)(xx:Bool),(xq,xm,xr,xs,xx)=dk/\∃(gy:Nat),Sat 101 [(1,sl A6 N6 C6),(2,pt w0.z),(5,sl a9 aa ab),(7,pt H.z),(10,vI ((kw:Nat):Int)),(11,pt gy),(12,vB xx)] a/\Below aj.z aj w/\xq.b.length<=LEN/\inI xm/\inI xr/\inI xs/\Blk w gy [Str.v xq,vI xm,vI xr,vI xs]/\aj.z<=gy) ?_ ?_
  ·refine Wd (X:=fun k=>k∈([]:List Nat)∨aj.z<=k) 0 (.rd 0<|.rd 1<|.rd 2<|.rd 3<|.rd 4<|.rd 5<|.rd 6<|.br 7 (.rd 8<|.rd 9<|.rd 10<|.ef 11<|.ef 12<|.rd 13 .done) 11<|.ef 7<|.rd 8<|.rd 9<|.rd 10<|.ef 12<|.rd 13 .done) mo (by kernel_rfl) fun bw se _=>?_
   have bx:=lt_ sk.s s2.s;refine dR z z (lN (vs:=[sl A0 N0 C0]) w_ u_ z z (b_q nm0<|Nat.lt_of_lt_of_le hj.lt<|lt_ (lt_ (lt_ bx h3.s) G.s) s1.s)<|(((((ai.e s2).e h3).c G<|djs<|mm1 hj.lt bx).e s1).e se).row 0 1 z) ?_
   iterate 3 refine dM z z z ?_
   obtain ⟨_,dl,b8⟩:=bdS cX;refine dRX z z (at_ (α:=k_) c_P a_v z z z (or_ (ae.e se)<|a_.lt O) dl) ?_;rintro _ ⟨_,_,_,rfl,dm,dn,dp⟩;obtain ⟨rfl,bz,_,_,_⟩:=g_8 dn;refine dR z z (fd e_U z)<|dR z z (l1 g_9 z (b_q nm0<|zap (a_p<|lt_ (lt_ (lt_ s2.s h3.s) G.s) s1.s) dp)<|dm.at (j:=0) z)<|b_p ?_ ?_
   ·have bA:=lt_ hf s2.s;have bB:=((((hl.e s2).e h3).c G<|g_ (or0 (f_ lr) (t_<|zt' J bA):∀k∈[H.z],¬B k)).e s1).e se;obtain ⟨rn,dq,dr,cZ⟩:=a_3 b8;refine dE z z (fc call14 z<|j_z dr (zt' J<|lt_ (lt_ (lt_ (lt_ bA h3.s) G.s) s1.s) se.s) (V.g bB) (W.g bB) bz) (.inr fun _ _ h=>l_<|h.1) ?_;rintro _ bC ⟨bD,rfl,dt,du,dv,dw⟩;refine dM z z z<|dR z z (ext_ z z)<|dR z z (ext_ z z)<|dE z z (fa d_D) (.inr fun _ _ h=>l_<|h.2.below) ?_
    rintro _ dx ⟨rfl,bE⟩;have aL:=m1<|lt_ se.s bD.s
    refine dE0 z (fs0 (cur':=[Str.v rn.path,vI rn.rule,vI rn.start,vI rn.end_]) a_v z z (bE.blk:Blk dx bC.z [(Str.v (⟨[]⟩:Str)),vI 0,vI 0,vI 0]) z z z z) (.inr fun _ _ h=>a_C (atp aL) h.2) ?_;rintro _ _ ⟨dy,dz⟩;exact dQ z z z<|pD (fun _ q=>⟨rn.path,rn.rule,rn.start,rn.end_,dq,som cZ,bC.z,q.k<|s7 z z z z z z z,bM (bup (bup se bD) bE.below) dz.one aL,dt,du,dv,dw,dy,atp aL⟩)
   refine dE z z (fa d_D) (.inr fun _ _ h=>l_<|h.2.below) ?_;rintro _ dA ⟨rfl,bF⟩;have aM:=bF.below;have bG:=lt_ hf s2.s;have bH:=(((((hl.e s2).e h3).c G<|g_ (or0 (f_ lr) (t_<|zt' J bG):∀k∈[H.z],¬B k)).e s1).e se).e aM;obtain ⟨ro,dB,dC,d0⟩:=a_3 b8;refine dE z z (fc call14 z<|j_z dC (zt' J<|lt_ (lt_ (lt_ (lt_ (lt_ bG h3.s) G.s) s1.s) se.s) aM.s) (V.g bH) (W.g bH) bz) (.inr fun _ _ h=>l_<|h.1) ?_;rintro _ _ ⟨bI,rfl,dD,dF,dG,dH⟩;refine dM z z z<|dR z z (ext_ z z)<|dR z z (ext_ z z) ?_
   have aN:=m1 se.s;refine dE0 z (fs0 (cur':=[Str.v ro.path,vI ro.rule,vI ro.start,vI ro.end_]) a_v z z ((bF.blk:Blk dA bw.z [(Str.v (⟨[]⟩:Str)),vI 0,vI 0,vI 0]).e bI) z z z z) (.inr fun _ _ h=>a_C (atp aN) h.2) ?_;rintro _ _ ⟨dI,dJ⟩;exact dQ z z z<|pD (fun _ q=>⟨ro.path,ro.rule,ro.start,ro.end_,dB,som d0,bw.z,q.k<|s7 z z z z z z z,bM (bup (bup se aM) bI) dJ.one aN,dD,dF,dG,dH,dI,atp aN⟩)
  rintro dK wz ⟨xq,xm,xr,xs,xx,rfl,gy,_,s4,_,_,_,_,dL,_⟩;revert dK;refine Wo<|Wq ?_
  obtain ⟨dN,d1,d2⟩:=bdS<|un5S cY;refine Wt (fun a w=>∃(Y:Int)(ak:List UInt8)(al:List Val)(af:Bool),(Y,ak,al,af)=dN/\∃am an ao a0 ap aq ar a1 gt,Sat 101 [(1,sl A6 N6 C6),(2,pt w0.z),(5,sl a9 aa ab),(7,pt H.z),(10,vI ((kw:Nat):Int)),(11,pt gy),(12,vB xx),(13,pt gt),(14,vB af)] a/\Below wz.z wz w/\inI Y/\a_ w a0 (sl am an ao) ak/\a0.Nodup/\(∀k∈a0,wz.z<=k)/\a_ w a1 (sl ap aq ar) al/\a1.Nodup/\(∀k∈a1,wz.z<=k)/\(∀k∈a1,k∉a0)/\Blk w gt [vI Y,sl am an ao,sl ap aq ar]/\wz.z<=gt/\(∀k∈a0,k∉[gt])/\(∀k∈a1,k∉[gt])) ?_ ?_
  ·refine Wd (X:=fun k=>k∈([]:List Nat)∨wz.z<=k) 0 (.rd 0<|.rd 1<|.rd 2<|.rd 3<|.rd 4<|.rd 5<|.rd 6<|.br 7 (.rd 8<|.rd 9<|.rd 10<|.ef 11<|.ef 12<|.rd 13 .done) 11<|.ef 7<|.rd 8<|.rd 9<|.rd 10<|.ef 12<|.rd 13 .done) mo (by kernel_rfl) fun bJ sd _=>?_
   have bK:=lt_ sk.s s2.s;refine dR z z (lN (vs:=[sl A0 N0 C0]) w_ u_ z z (b_q nm0<|Nat.lt_of_lt_of_le hj.lt<|lt_ (lt_ (lt_ (lt_ bK h3.s) G.s) s1.s) s4.s)<|((((((ai.e s2).e h3).c G<|djs<|mm1 hj.lt bK).e s1).e s4).e sd).row 0 1 z) ?_
   iterate 3 refine dM z z z ?_
   obtain ⟨_,dO,b9⟩:=bdS d1;refine dRX z z (at_ (α:=k_) c_P a_v z z z (or_ ((ae.e s4).e sd)<|a_.lt O) dO) ?_;rintro _ ⟨_,_,_,rfl,dP,dS,dT⟩;obtain ⟨rfl,bL,_,_,_⟩:=g_8 dS;refine dR z z (fd e_U z)<|dR z z (l1 g_9 z (b_q nm0<|zap (a_p<|lt_ (lt_ (lt_ (lt_ s2.s h3.s) G.s) s1.s) s4.s) dT)<|dP.at (j:=0) z)<|b_p ?_ ?_
   ·have bN:=lt_ hf s2.s;have bO:=(((((hl.e s2).e h3).c G<|g_ (or0 (f_ lr) (t_<|zt' J bN):∀k∈[H.z],¬B k)).e s1).e s4).e sd;obtain ⟨au,dU,dV,d3⟩:=a_3 b9;refine dE z z (fc call15 z<|W_w1h dV (zt' J<|lt_ (lt_ (lt_ (lt_ (lt_ bN h3.s) G.s) s1.s) s4.s) sd.s) (V.g bO) (W.g bO) bL) (.inr fun _ _ h=>l_<|h.1) ?_;rintro _ bP ⟨bQ,bR,bS,bT,dW,bU,bV,bW,dX,rfl,dY,bX,bY,aO,bZ⟩;refine dM z z z<|dR z z (ext_ z z)<|dR z z (ext_ z z)<|dE z z (fa J_) (.inr fun _ _ h=>l_<|h.2.below) ?_
    rintro _ dZ ⟨rfl,c0⟩;have aP:=c0.below;have aQ:=m1<|lt_ sd.s bQ.s
    refine dE0 z (fs0 (cur':=[vI au.number,sl bR bS bT,sl bU bV bW]) c_ z z (c0.blk:Blk dZ bP.z [vI 0,sl none 0 0,sl none 0 0]) z z z z) (.inr fun _ _ h=>a_C (atp aQ) h.2) ?_;rintro _ _ ⟨e0,e1⟩;have aR:=e1.one;refine dQ z z z<|pD ?_
    have c1:=mnr<|a_.lt bX
    have c2:=mnr<|a_.lt bY
    exact fun _ q=>⟨au.number,au.bytes,au.items,dU,som d3,bR,bS,bT,dW,bU,bV,bW,dX,bP.z,q.k<|s9 z z z z z z z z z,bM (bup (bup sd bQ) aP) aR aQ,dY,(bX.e aP).c aR<|ds c1,nl_ aO,p_ (al_ bZ) sd.s,(bY.e aP).c aR<|ds c2,nr_ aO,p_ (ar_ bZ) sd.s,ds<|nj aO,e0,atp aQ,ds c1,ds c2⟩
   refine dE z z (fa J_) (.inr fun _ _ h=>l_<|h.2.below) ?_;rintro _ e2 ⟨rfl,c3⟩;have av:=c3.below;have aS:Blk e2 bJ.z [vI 0,sl none 0 0,sl none 0 0]:=c3.blk;have c4:=lt_ hf s2.s;have c5:=((((((hl.e s2).e h3).c G<|g_ (or0 (f_ lr) (t_<|zt' J c4):∀k∈[H.z],¬B k)).e s1).e s4).e sd).e av;obtain ⟨aw,e3,e4,d4⟩:=a_3 b9;refine dE z z (fc call15 z<|W_w1h e4 (zt' J<|lt_ (lt_ (lt_ (lt_ (lt_ (lt_ c4 h3.s) G.s) s1.s) s4.s) sd.s) av.s) (V.g c5) (W.g c5) bL) (.inr fun _ _ h=>l_<|h.1) ?_;rintro _ _ ⟨c6,c7,c8,c9,e5,ca,cb,cc,e6,rfl,e7,e8,e9,aT,ax⟩;refine dM z z z<|dR z z (ext_ z z)<|dR z z (ext_ z z) ?_
   have aU:=m1 sd.s;refine dE0 z (fs0 (cur':=[vI aw.number,sl c7 c8 c9,sl ca cb cc]) c_ z z (aS.e c6) z z z z) (.inr fun _ _ h=>a_C (atp aU) h.2) ?_;rintro _ _ ⟨ea,eb⟩;have aV:=eb.one;refine dQ z z z<|pD ?_
   have cd:=n_ (al_ ax) aS.lt lr;have ce:=lt_ sd.s av.s;have cf:=n_ (ar_ ax) aS.lt lr;exact fun _ q=>⟨aw.number,aw.bytes,aw.items,e3,som d4,c7,c8,c9,e5,ca,cb,cc,e6,bJ.z,q.k<|s9 z z z z z z z z z,bM (bup (bup sd av) c6) aV aU,e7,e8.c aV cd,nl_ aT,p_ (al_ ax) ce,e9.c aV cf,nr_ aT,p_ (ar_ ax) ce,ds<|nj aT,ea,atp aU,cd,cf⟩
  rintro ec a2 ⟨Y,ak,al,af,rfl,am,an,ao,a0,ap,aq,ar,a1,gt,_,s8,ed,cg,_,_,ch,_,_,_,ee,_,_,_⟩;revert ec;refine Wo<|Wq ?_
  obtain ⟨eg,d5,d6⟩:=bdS<|un4S d2;refine Wt (fun a w=>∃(a3:Int)(ay:List UInt8)(az:List Val)(ah:Int)(aA:Bool),(a3,ay,az,ah,aA)=eg/\∃aB aC aD a4 aE aF aG a5 a6,Sat 101 [(1,sl A6 N6 C6),(2,pt w0.z),(5,sl a9 aa ab),(7,pt H.z),(10,vI ((kw:Nat):Int)),(11,pt gy),(12,vB xx),(13,pt gt),(14,vB af),(15,pt a6),(16,vI ah),(17,vB aA)] a/\Below a2.z a2 w/\inI a3/\a_ w a4 (sl aB aC aD) ay/\a4.Nodup/\(∀k∈a4,a2.z<=k)/\a_ w a5 (sl aE aF aG) az/\a5.Nodup/\(∀k∈a5,a2.z<=k)/\(∀k∈a5,k∉a4)/\inI ah/\Blk w a6 [vI a3,sl aB aC aD,sl aE aF aG]/\a2.z<=a6/\(∀k∈a4,k∉[a6])/\(∀k∈a5,k∉[a6])) ?_ ?_
  ·refine Wd (X:=fun k=>k∈([]:List Nat)∨a2.z<=k) 0 (.rd 0<|.rd 1<|.rd 2<|.rd 3<|.rd 4<|.rd 5<|.rd 6<|.br 7 (.rd 8<|.rd 9<|.rd 10<|.rd 11<|.ef 12<|.ef 13<|.rd 14<|.rd 15 .done) 12<|.ef 7<|.rd 8<|.rd 9<|.rd 10<|.rd 11<|.ef 13<|.rd 14<|.rd 15 .done) mo (by kernel_rfl) fun ci sa _=>?_
   have cj:=lt_ sk.s s2.s;refine dR z z (lN (vs:=[sl A0 N0 C0]) w_ u_ z z (b_q nm0<|Nat.lt_of_lt_of_le hj.lt<|lt_ (lt_ (lt_ (lt_ (lt_ cj h3.s) G.s) s1.s) s4.s) s8.s)<|(((((((ai.e s2).e h3).c G<|djs<|mm1 hj.lt cj).e s1).e s4).e s8).e sa).row 0 1 z)<|dR z z (lN (vs:=[vI bj.number,sl bk bm bn,sl bo bp bq]) r_ c_ z z (b_q nm0<|Nat.lt_of_lt_of_le bv.lt<|lt_ (lt_ (lt_ G.s s1.s) s4.s) s8.s)<|((((di.e s1).e s4).e s8).e sa).row 0 3 z)<|dM z z z<|dM z z z ?_
   obtain ⟨_,eh,ba⟩:=bdS d5;refine dRX z z (at_ (α:=k_) c_P a_v z z z (or_ (((ae.e s4).e s8).e sa)<|a_.lt O) eh) ?_;rintro _ ⟨_,_,_,rfl,ei,ej,ek⟩;obtain ⟨rfl,ck,_,_,_⟩:=g_8 ej;refine dR z z (fd e_U z)<|dR z z (l1 g_9 z (b_q nm0<|zap (a_p<|lt_ (lt_ (lt_ (lt_ (lt_ s2.s h3.s) G.s) s1.s) s4.s) s8.s) ek)<|ei.at (j:=0) z)<|b_p ?_ ?_
   ·have cl:=zt' J<|lt_ hf s2.s
    obtain ⟨aH,em,en,eo,d7⟩:=I_ ba;refine dE z z (fc call16 z<|W_w1j (B:=H.z) eo (a_p<|lt_ (lt_ (lt_ (lt_ (lt_ h3.s G.s) s1.s) s4.s) s8.s) sa.s) (repS.mono (V.g<|((((((hl.e s2).e h3).c G<|g_ (or0 (f_ lr) (t_ cl):∀k∈[H.z],¬B k)).e s1).e s4).e s8).e sa) cl) bt (or_ ((((((hu.e h3).c G<|ds<|mnr<|a_.lt hu).e s1).e s4).e s8).e sa)<|a_.lt hu) (or_ ((((((hv.e h3).c G<|ds<|mnr<|a_.lt hv).e s1).e s4).e s8).e sa)<|a_.lt hv) ck) (.inr fun _ _ h=>l_<|h.1) ?_;rintro _ cm ⟨cn,co,cp,cq,ep,cr,ct,cu,er,rfl,es,cv,cw,eu,aW,cx⟩;refine dM z z z ?_
    iterate 3 refine dR z z (ext_ z z) ?_
    refine dE z z (fa J_) (.inr fun _ _ h=>l_<|h.2.below) ?_;rintro _ ew ⟨rfl,cy⟩;have aX:=cy.below;have aY:=m1<|lt_ sa.s cn.s
    refine dE0 z (fs0 (cur':=[vI aH.number,sl co cp cq,sl cr ct cu]) c_ z z (cy.blk:Blk ew cm.z [vI 0,sl none 0 0,sl none 0 0]) z z z z) (.inr fun _ _ h=>a_C (atp aY) h.2) ?_;rintro _ _ ⟨ex,ey⟩;have aZ:=ey.one;refine dQ z z z<|dQ z z z<|pD ?_
    have cz:=mnr<|a_.lt cv
    have cA:=mnr<|a_.lt cw
    exact fun _ q=>⟨aH.number,aH.bytes,aH.items,em,en,som d7,co,cp,cq,ep,cr,ct,cu,er,cm.z,q.k<|sc z<|sc z<|sc z<|sc z<|sc z<|sc z<|sc z<|sc z<|sc z<|sc z<|sc z<|sc z sn,bM (bup (bup sa cn) aX) aZ aY,es,(cv.e aX).c aZ<|ds cz,nl_ aW,p_ (al_ cx) sa.s,(cw.e aX).c aZ<|ds cA,nr_ aW,p_ (ar_ cx) sa.s,ds<|nj aW,eu,ex,atp aY,ds cz,ds cA⟩
   refine dE z z (fa J_) (.inr fun _ _ h=>l_<|h.2.below) ?_;rintro _ ez ⟨rfl,cB⟩;have a7:=cB.below;have b0:Blk ez ci.z [vI 0,sl none 0 0,sl none 0 0]:=cB.blk;have cC:=zt' J<|lt_ hf s2.s
   obtain ⟨aI,eA,eB,eC,d8⟩:=I_ ba;refine dE z z (fc call16 z<|W_w1j (B:=H.z) eC (a_p<|lt_ (lt_ (lt_ (lt_ (lt_ (lt_ h3.s G.s) s1.s) s4.s) s8.s) sa.s) a7.s) (repS.mono (V.g<|(((((((hl.e s2).e h3).c G<|g_ (or0 (f_ lr) (t_ cC):∀k∈[H.z],¬B k)).e s1).e s4).e s8).e sa).e a7) cC) bt (or_ (((((((hu.e h3).c G<|ds<|mnr<|a_.lt hu).e s1).e s4).e s8).e sa).e a7)<|a_.lt hu) (or_ (((((((hv.e h3).c G<|ds<|mnr<|a_.lt hv).e s1).e s4).e s8).e sa).e a7)<|a_.lt hv) ck) (.inr fun _ _ h=>l_<|h.1) ?_;rintro _ _ ⟨cD,cE,cF,cG,eD,cH,cI,cJ,eE,rfl,eF,eG,eH,eI,b1,aJ⟩;refine dM z z z ?_
   iterate 3 refine dR z z (ext_ z z) ?_
   have b2:=m1 sa.s;refine dE0 z (fs0 (cur':=[vI aI.number,sl cE cF cG,sl cH cI cJ]) c_ z z (b0.e cD) z z z z) (.inr fun _ _ h=>a_C (atp b2) h.2) ?_;rintro _ _ ⟨eJ,eK⟩;have b3:=eK.one;refine dQ z z z<|dQ z z z<|pD ?_
   have cK:=n_ (al_ aJ) b0.lt lr;have cL:=lt_ sa.s a7.s;have cM:=n_ (ar_ aJ) b0.lt lr;exact fun _ q=>⟨aI.number,aI.bytes,aI.items,eA,eB,som d8,cE,cF,cG,eD,cH,cI,cJ,eE,ci.z,q.k<|sc z<|sc z<|sc z<|sc z<|sc z<|sc z<|sc z<|sc z<|sc z<|sc z<|sc z<|sc z sn,bM (bup (bup sa a7) cD) b3 b2,eF,eG.c b3 cK,nl_ b1,p_ (al_ aJ) cL,eH.c b3 cM,nr_ b1,p_ (ar_ aJ) cL,ds<|nj b1,eI,eJ,atp b2,cK,cM⟩
  rintro eL b4 ⟨a3,ay,az,ah,aA,rfl,aB,aC,aD,a4,aE,aF,aG,a5,a6,_,sg,eM,cN,_,_,cO,_,_,_,_,eN,_,_,_⟩;revert eL;refine Wo<|Wq ?_
  obtain ⟨eO,bb,bc⟩:=bdS<|un5S d6;refine Wt (fun a w=>∃(b5:Bool),b5=eO/\Sat 101 [(1,sl A6 N6 C6),(2,pt w0.z),(5,sl a9 aa ab),(7,pt H.z),(10,vI ((kw:Nat):Int)),(100,vB b5)] a/\Below b4.z b4 w) ?_ ?_
  ·refine Wd (X:=noX) 0 (pl_ 30 [27]) mo (by kernel_rfl) fun eY sb _=>dM z z z<|dR z z (not_ z)<|dM z z z ?_
   rcases bs (!xx) with hch | hch
   ·refine dRn z z z hch z<|dRn z z z hch z<|dR z z (pT z hch z)<|dM z z z<|dRn z z z z z<|dRn z z z z z<|dR z z (pT z z z)<|dM z z z ?_
    iterate 6 refine dRn z z z z z ?_
    refine dR z z (pT z z z)<|dM z z z ?_
    iterate 4 refine dRn z z z z z ?_
    exact dR z z (pT z z z)<|dM z z z<|dRn z z z z z<|dRn z z z z z<|dEn z z z z z<|dRn z z z z z<|dR z z (pT z z z)<|pD (fun _ q=>⟨true,som<|ifT bb hch,q.k<|s6 z z z z z z,sb⟩)
   have be:=ifF bb hch;refine dRg z z z hch z (mv z)<|dRg z z z hch z (not_ z)<|dR z z (pF z hch z)<|dM z z z ?_
   rcases bs (!af) with hci | hci
   ·refine dRn z z z hci z<|dRn z z z hci z<|dR z z (pT z hci z)<|dM z z z ?_
    iterate 6 refine dRn z z z z z ?_
    refine dR z z (pT z z z)<|dM z z z ?_
    iterate 4 refine dRn z z z z z ?_
    exact dR z z (pT z z z)<|dM z z z<|dRn z z z z z<|dRn z z z z z<|dEn z z z z z<|dRn z z z z z<|dR z z (pT z z z)<|pD (fun _ q=>⟨true,som<|ifT be hci,q.k<|s6 z z z z z z,sb⟩)
   have bf:=ifF be hci;refine dRg z z z hci z (mv z)<|dRg z z z hci z (not_ z)<|dR z z (pF z hci z)<|dM z z z ?_
   rcases bs (!aA) with L | L
   ·iterate 6 refine dRn z z z L z ?_
    refine dR z z (pT z L z)<|dM z z z ?_
    iterate 4 refine dRn z z z z z ?_
    exact dR z z (pT z z z)<|dM z z z<|dRn z z z z z<|dRn z z z z z<|dEn z z z z z<|dRn z z z z z<|dR z z (pT z z z)<|pD (fun _ q=>⟨true,som<|ifT bf L,q.k<|s6 z z z z z z,sb⟩)
   have cP:=((dL.e s8).e sg).e sb;refine dRg z z z L z (lN (vs:=[Str.v xq,vI xm,vI xr,vI xs]) c_2 a_v z z fid<|cP.row 0 4 z)<|dRg z z z L z (mv z)<|dRg z z z L z (mv z) ?_
   obtain ⟨a8,eP,bg⟩:=bdS<|ifF bf L;refine b_M z z z L z (at_ (α:=k_) c_P a_v z z z (or_ ((((ae.e s4).e s8).e sg).e sb)<|a_.lt O) eP) ?_;rintro _ ⟨_,_,_,rfl,eQ,eR,_⟩;obtain ⟨rfl,_,_,_,_⟩:=g_8 eR;refine dRg z z z L z (lN (vs:=[Str.v a8.path,vI a8.rule,vI a8.start,vI a8.end_]) c_2 a_v z z fid eQ)<|dRg z z z L z (l_Q (a:=((⟨xq,xm,xr,xs⟩:k_):k_)) (b:=(a8:k_)) l_e z z)<|dR z z (pF z L z)<|dM z z z ?_
   rcases bs (!decide (((⟨xq,xm,xr,xs⟩:k_):k_)=(a8:k_))) with hcc | hcc
   ·iterate 4 refine dRn z z z hcc z ?_
    exact dR z z (pT z hcc z)<|dM z z z<|dRn z z z z z<|dRn z z z z z<|dEn z z z z z<|dRn z z z z z<|dR z z (pT z z z)<|pD (fun _ q=>⟨true,som<|ifT bg hcc,q.k<|s6 z z z z z z,sb⟩)
   have bh:=ifF bg hcc;refine dRg z z z hcc z (mv z)<|dRg z z z hcc z (fd h_S z)<|dRg z z z hcc z (l0 g_3 z<|cP.at z)<|dRg z z z hcc z (nq z z)<|dR z z (pF z hcc z)<|dM z z z ?_
   rcases bs (ah != xm) with I | I
   ·exact dRn z z z I z<|dRn z z z I z<|dEn z z z I z<|dRn z z z I z<|dR z z (pT z I z)<|pD (fun _ q=>⟨true,som<|ifT bh I,q.k<|s6 z z z z z z,sb⟩)
   refine dRg z z z I z (lN (vs:=[vI Y,sl am an ao,sl ap aq ar]) r_ c_ z z fid<|((ee.e sg).e sb).row 0 3 z)<|dRg z z z I z (lN (vs:=[vI a3,sl aB aC aD,sl aE aF aG]) r_ c_ z z fid<|(eN.e sb).row 0 3 z) ?_
   obtain ⟨eS,eT,d9⟩:=bdS<|ifF bh I;refine dEg z z z I z (fc call17 z<|W_w0d.run (B:=b4.z) (x1:=(⟨Y,ak,al⟩:Val)) (x2:=(⟨a3,ay,az⟩:Val)) eT (a_p sb.s) ed (repS.mono (or_ ((cg.e sg).e sb)<|a_.lt cg)<|a_p sg.s) (repS.mono (or_ ((ch.e sg).e sb)<|a_.lt ch)<|a_p sg.s) eM (or_ (cN.e sb)<|a_.lt cN)<|or_ (cO.e sb)<|a_.lt cO) (.inr fun _ _ h=>l_<|h.1) ?_;rintro _ _ ⟨eU,rfl⟩;exact dRg z z z I z (not_ z)<|dR z z (pF z I z)<|pD (fun _ q=>⟨!eS,som d9,q.k<|s6 z z z z z z,bup sb eU⟩)
  rintro eV _ ⟨b5,rfl,_,cQ⟩;revert eV;refine Wo<|Wc z (fun aK=>?_) (fun aK=>?_)
  ·exact Ws<|Rw z<|Wr<|rtO<|qL (som<|ifT bc aK).symm<|d_ hr z ⟨bup (bup (bup (bup (bup (bM (bup (bup (bup hp sk) s2) h3) G<|m1<|lt_ hf s2.s) s1) s4) s8) sg) cQ,z⟩
  exact Wk<|Wg<|Rm z<|R z (inc_ b7 (lt_ (a_.len O) D_) z z)<|Ra z<|Wl (fun _ q=>⟨(),(som<|ifF bc aK).symm,⟨q.k<|s5 z z z z z,bup (bup (bup (bup s1 s4) s8) sg) cQ⟩⟩)
 ·rintro _ _ _ ⟨da,cR⟩;refine Wu ?_ da;refine Wq<|Wm z<|Rm z<|R z (lnR c_P z<|or_ ((((O.e s2).e h3).c G<|ds<|mno (a_.lt O) s2.s).e cR)<|a_.lt O)<|Rl z z z<|Wx z (fun hc=>(W_ hc).elim) (fun _=>?_)
  exact We<|fun _ q=>⟨rfl,⟨q.k sn,cR⟩⟩
 ·rintro _ eW _ rfl ⟨_,eX⟩;have db:=elL b6;revert eW;refine Wo<|Ws<|Rw z ?_
  obtain rfl:=som db;exact Wr<|d_ hr z ⟨bup (bM (bup (bup (bup hp sk) s2) h3) G<|m1<|lt_ hf s2.s) eX,z⟩
 rintro _ _ _ _ rfl ⟨rfl,dc⟩;have dd:=elR b6;obtain rfl:=som dd;exact ⟨dc,z⟩
theorem e_W {x1:b_}{res:Int}(hm:d_z x1=some res)(J:B<=w0.z)(H:repS w0 B (sl A0 N0 C0) x1.rules):i_ prog 42 [(.agg #[sl A0 N0 C0])] w0 (Q0 w0 B res):=by
 unfold d_z at hm
 refine goG func42 z z z fun fn hr=>Ws<|E z (fb z) ?_
 rintro _ I ⟨rfl,G⟩;have h1:=G.below;refine Rw z<|Ws<|Rf z a_9 z<|R z (l0 a_d z<|(G.blk:Blk I w0.z [sl A0 N0 C0]).at z)<|R z (lnR a_0 z<|H.e h1)<|R z (sb_ z z)<|Rw z ?_
 obtain rfl:=som hm;exact Wr<|d_ hr z ⟨h1,z,iS _ _⟩
theorem d_h {x1:Int}{x2:Int}{x3:Int}{res:Bool}(hm:c_1 x1 x2 x3=some res)(Y:B<=w0.z)(O:inI x1)(V:inI x2)(W:inI x3):i_ prog 83 [vI x1,vI x2,vI x3] w0 (Q7 w0 B res):=by
 unfold c_1 at hm
 refine goG func83 z z z fun fn hr=>Ws<|Rw z<|Wq ?_
 obtain ⟨J,H,I⟩:=bdS hm;refine Wt (fun a w=>∃(x4:Bool),x4=J/\Sat 15 [(6,vB x4)] a/\Below w0.z w0 w) ?_ ?_
 ·refine Wg<|RM z z<|R z (b_P z z)<|Rm z ?_
  rcases bs (decide<|x2<=x1) with G | G
  ·exact Rh z G (mv z)<|Rh z G (mv z)<|Rh z G (b_P z z)<|R z (pT z G z)<|Ra z<|Wl (fun _ q=>⟨decide<|x1<=x3,som<|ifT H G,q.k<|s1 z,br w0⟩)
  iterate 3 refine Nh z G ?_
  exact R z (pF z G z)<|Ra z<|Wl (fun _ q=>⟨false,som<|ifF H G,q.k<|s1 z,br w0⟩)
 rintro L _ ⟨x4,rfl,_,s6⟩;revert L;refine Wo ?_;obtain rfl:=som I;exact Wr<|d_ hr z ⟨s6,z⟩
theorem j_D {x1:b_}{x2:Int}{res:Bool}(hm:e_c x1 x2=some res)(Y:B<=w0.z)(J:repS w0 B (sl A0 N0 C0) x1.rules)(W:inI x2):i_ prog 102 [(.agg #[sl A0 N0 C0]),vI x2] w0 (Q7 w0 B res):=by
 unfold e_c at hm
 refine goG func102 z z z fun fn hr=>Ws<|E z (fb z) ?_
 rintro _ H ⟨rfl,h2⟩;have h4:=h2.below;refine Rw z<|Wq ?_
 obtain ⟨O,I,L⟩:=bdS hm;refine Wt (fun a w=>∃(x3:Bool),x3=O/\Sat 14 [(4,vB x3)] a/\Below H.z H w) ?_ ?_
 ·refine Wg<|Rm z<|R z (b_s z z)<|Rm z ?_
  rcases bs (decide<|0<=x2) with G | G
  ·exact Rh z G (mv z)<|Rh z G (fd a_9 z)<|Rh z G (l0 a_d z<|(h2.blk:Blk H w0.z [sl A0 N0 C0]).at z)<|Rh z G (lnR a_0 z<|J.e h4)<|Rh z G (lss z z)<|R z (pT z G z)<|Ra z<|Wl (fun _ q=>⟨decide<|x2<(x1.rules.length:Int),som<|ifT I G,q.k<|s1 z,br H⟩)
  iterate 5 refine Nh z G ?_
  exact R z (pF z G z)<|Ra z<|Wl (fun _ q=>⟨false,som<|ifF I G,q.k<|s1 z,br H⟩)
 rintro V _ ⟨x3,rfl,_,sa⟩;revert V;refine Wo ?_;obtain rfl:=som L;exact Wr<|d_ hr z ⟨bup h4 sa,z⟩
theorem j_E {x1:Str}{res:Bool}(hm:e_a n x1=some res)(ap:B<=w0.z)(ao:x1.b.length<=LEN):i_ prog 118 [Str.v x1] w0 (Q7 w0 B res):=by
 unfold e_a at hm
 refine goG func118 z z z fun fn hr=>Ws<|Rw z<|Wq<|Wq ?_
 obtain ⟨a8,huo,hmp⟩:=bdS hm;refine Wt (fun a w=>∃(xg:Bool),xg=a8/\Sat 43 [(0,Str.v x1),(14,vB xg)] a/\Below w0.z w0 w) ?_ ?_
 ·refine Wg<|Rm z<|R z (lnT d_9 z)<|Rl z z z<|Rm z ?_
  rcases bs (decide<|(x1.b.length:Int)<1) with J | J
  ·iterate 3 refine Nh z J ?_
   exact R z (pT z J z)<|Wl (fun _ q=>⟨true,som<|ifT huo J,q.k<|s2 z z,br w0⟩)
  exact Rh z J (mv z)<|Rh z J (lnT d_9 z)<|Rh z J (a_i z z)<|R z (pF z J z)<|Wl (fun _ q=>⟨decide<|12<(x1.b.length:Int),som<|ifF huo J,q.k<|s2 z z,br w0⟩)
 rintro a9 G ⟨xg,rfl,_,s9⟩;revert a9;refine Wo<|Wc z (fun hch=>?_) (fun hch=>?_)
 ·refine Ws<|Rw z ?_
  obtain rfl:=som<|ifT hmp hch;exact Wr<|d_ hr z ⟨s9,z⟩
 refine Wk<|Wq<|Wm z<|E z (p_w d_9 z) ?_
 rintro _ I ⟨rfl,sq,aa⟩;refine Wn ?_;obtain ⟨_,a1,hmr⟩:=bdS<|ifF hmp hch;refine d_P (σ:=Nat) (ρ:=Bool) (fun (x0:Nat) a w=>Sat 43 [(16,pt G.z)] a/\Chg (· ∈ [G.z]) I w/\b_f w G.z x1 x0) (fun (x0:Nat) a w=>Sat 43 [] a/\Chg (· ∈ [G.z]) I w/\b_f w G.z x1 x0) (rQ prog fn<|Q7 w0 B) a1 ?_ ?_ ?_ ?_
 ·exact fun _ q=>⟨q.k<|s1 z,cr [G.z] I,aa⟩
 ·rintro x0 _ ws _ ⟨a2,si,he⟩ hmt;refine Wu ?_ a2;refine Ws ?_
  rcases bs (decide<|x0<x1.b.length) with hca | hca
  ·refine E z (p_x z he<|of_decide_eq_true hca) ?_;rintro _ wb ⟨rfl,ab,su⟩;refine Re z z z<|Wn<|Wq<|Wc z (fun _=>?_) (fun hc=>(f_8 z hc).elim)
   refine Wk<|Wb<|Ws<|Re z z z<|Re z z z<|Ra z<|Rw z<|Wq ?_
   obtain ⟨ad,huv,a3⟩:=bdS<|ifT hmt hca;refine Wt (fun a w=>∃(xc:Bool),xc=ad/\Sat 43 [(3,vI (x0:Int)),(4,.int .i32<|(dec x1 x0).1),(5,vB xc),(16,pt G.z)] a/\Below wb.z wb w) ?_ ?_
   ·refine Wg<|Rm z<|R z (b_s z z)<|Rm z ?_
    rcases bs (decide<|97<=((dec x1 x0).1)) with L | L
    ·exact Rh z L (mv z)<|Rh z L (b_P z z)<|R z (pT z L z)<|Ra z<|Wl (fun _ q=>⟨decide<|((dec x1 x0).1)<=122,som<|ifT huv L,q.k<|s4 z z z z,br wb⟩)
    exact Nh z L<|Nh z L<|R z (pF z L z)<|Ra z<|Wl (fun _ q=>⟨false,som<|ifF huv L,q.k<|s4 z z z z,br wb⟩)
   rintro ae wd ⟨xc,rfl,_,sj⟩;revert ae;refine Wo<|Wq ?_
   obtain ⟨af,huw,a4⟩:=bdS a3;refine Wt (fun a w=>∃(xf:Bool),xf=af/\Sat 43 [(3,vI (x0:Int)),(5,vB xc),(6,vB xf),(16,pt G.z)] a/\Below wd.z wd w) ?_ ?_
   ·refine Wg<|Rm z<|R z (b_s z z)<|Rm z ?_
    rcases bs (decide<|48<=((dec x1 x0).1)) with O | O
    ·exact Rh z O (mv z)<|Rh z O (b_P z z)<|R z (pT z O z)<|Ra z<|Wl (fun _ q=>⟨decide<|((dec x1 x0).1)<=57,som<|ifT huw O,q.k<|s4 z z z z,br wd⟩)
    exact Nh z O<|Nh z O<|R z (pF z O z)<|Ra z<|Wl (fun _ q=>⟨false,som<|ifF huw O,q.k<|s4 z z z z,br wd⟩)
   rintro ah W ⟨xf,rfl,_,sk⟩;revert ah;refine Wo<|Wq ?_
   obtain ⟨ai,hux,hmy⟩:=bdS a4;refine Wt (fun a w=>∃(xl:Bool),xl=ai/\Sat 43 [(16,pt G.z),(42,vB xl)] a/\Below W.z W w) ?_ ?_
   ·refine Wg<|Rm z<|R z (not_ z)<|Rm z ?_
    rcases bs (!xc) with H | H
    ·have hmz:=ifT hux H;refine Rh z H (mv z)<|Rh z H (not_ z)<|Rh z H (mv z) ?_
     rcases bs (!xf) with V | V
     ·exact Nh z V<|Nh z V<|Rh z H (pT z V z)<|R z (pT z H z)<|Wl (fun _ q=>⟨true,som<|ifT hmz V,q.k<|s2 z z,br W⟩)
     exact Rh z V (mv z)<|Rh z V (eql z z)<|Rh z H (pF z V z)<|R z (pT z H z)<|Wl (fun _ q=>⟨(x0:Int)==0,som<|ifF hmz V,q.k<|s2 z z,br W⟩)
    iterate 3 refine Nh z H ?_
    exact Nv z<|Nv z<|Nh z H<|R z (pF z H z)<|Wl (fun _ q=>⟨false,som<|ifF hux H,q.k<|s2 z z,br W⟩)
   rintro aj ak ⟨xl,rfl,_,sm⟩;revert aj;refine Wo<|Wc z (fun hcn=>?_) (fun hcn=>?_)
   ·refine Ws<|Rw z ?_
    have Y:=m1 s9.s;exact Wr<|rtO<|qL (som<|ifT hmy hcn).symm<|d_ hr z ⟨bup (bup (bup (bM (bM (bup s9 sq) si Y) su Y) sj) sk) sm,z⟩
   refine a_k ?_;exact fun _ q=>⟨x0+(dec x1 x0).2,(som<|ifF hmy hcn).symm,⟨q.k<|s1 z,(h_ (h_ (h_ (cM (cM (cr [G.z] I) si (io sr):Chg (· ∈ [G.z]) I ws) su (io sr):Chg (· ∈ [G.z]) I wb) sj:Chg (· ∈ [G.z]) I wd) sk:Chg (· ∈ [G.z]) I W) sm:Chg (· ∈ [G.z]) I ak),((ab.e sj).e sk).e sm⟩⟩
  refine E z (p_y z he<|of_decide_eq_false hca) ?_;rintro _ al ⟨rfl,a0⟩;refine Re z z z<|Wn<|Wq<|Wc z (fun hc=>(f_8 hc z).elim) (fun _=>?_)
  exact We<|fun _ q=>c_v (som<|ifF hmt hca).symm ⟨q.k sn,(h_ (cM (cr [G.z] I) si (io sr):Chg (· ∈ [G.z]) I ws) a0:Chg (· ∈ [G.z]) I al),he.e a0⟩
 ·rintro x0 am _ rfl ⟨_,an,he⟩;have a5:=elL hmr;revert am;refine Wo<|Ws<|Rw z ?_
  obtain rfl:=som a5;exact Wr<|d_ hr z ⟨bM (bup s9 sq) an<|m1 s9.s,z⟩
 rintro _ _ _ _ rfl ⟨rfl,a6⟩;have a7:=elR hmr;obtain rfl:=som a7;exact ⟨a6,z⟩
theorem d_i {x1:e_}{x2:Bool}{x3:Bool}{x4:Bool}{x5:Bool}{x6:Int}{res:Bool}(hm:c_b x1 x2 x3 x4 x5 x6=some res)(a8:B<=w0.z)(a4:x1.name.b.length<=LEN)(a5:inI x1.kind)(a6:inI x1.size)(a0:repS w0 B (sl AD ND CD) x1.bytes)(a1:repS w0 B (sl A8 N8 C8) x1.names)(a2:repS w0 B (sl AE NE CE) x1.tags)(a3:repS w0 B (sl AF NF CF) x1.kids)(a7:inI x6):i_ prog 150 [(.agg #[Str.v x1.name,vI x1.kind,vI x1.size,vB x1.little,sl AD ND CD,sl A8 N8 C8,sl AE NE CE,sl AF NF CF]),vB x2,vB x3,vB x4,vB x5,vI x6] w0 (Q7 w0 B res):=by
 unfold c_b at hm
 refine goG func150 z z z fun fn hr=>Ws<|E z (fb z) ?_
 rintro _ w9 ⟨rfl,hd⟩;have ha:=hd.below;have hb:Blk w9 w0.z (vR x1 AD ND CD A8 N8 C8 AE NE CE AF NF CF):=hd.blk;refine Rw z<|Wq ?_
 obtain ⟨ur,hus,hmt⟩:=bdS hm;refine Wt (fun a w=>∃(xc:Bool),xc=ur/\Sat 57 [(12,vB xc)] a/\Below w9.z w9 w) ?_ ?_
 ·refine Wg<|RM z z ?_
  obtain ⟨ue,huf,hmu⟩:=bdS hus;refine c_U 18 ue 4 ?_ ?_
  ·rcases bs x2 with Y | Y
   ·iterate 3 refine Nh z Y ?_
    exact R z (pT z Y z)<|WLq 4 (ifT huf Y) z z z
   exact Rh z Y (fd a_F z)<|Rh z Y (l0 g_3 z<|hb.at z)<|Rh z Y (eql z z)<|R z (pF z Y z)<|WLq 4 (ifF huf Y) z z z
  refine Rm z ?_;obtain ⟨ug,huh,hmv⟩:=bdS hmu;refine c_U 27 ug 8 ?_ ?_
  ·rcases bs ue with G | G
   ·have hmi:=ifT huh G;refine Rh z G (mv z)<|Rh z G (mv z) ?_
    rcases bs x3 with O | O
    ·iterate 4 refine Nh z O ?_
     exact Rh z G (pT z O z)<|R z (pT z G z)<|WLq 8 (ifT hmi O) z z z
    exact Rh z O (fd b_1 z)<|Rh z O (l0 R_ z<|hb.at z)<|Rh z O (lnR o_ z<|a0.e ha)<|Rh z O (eql z z)<|Rh z G (pF z O z)<|R z (pT z G z)<|WLq 8 (ifF hmi O) z z z
   exact Nh z G<|Nh z G<|Nv z<|Nv z<|Nv z<|Nv z<|Nh z G<|R z (pF z G z)<|WLq 8 (ifF huh G) z z z
  refine Rm z ?_;obtain ⟨uj,huk,hmw⟩:=bdS hmv;refine c_U 36 uj 8 ?_ ?_
  ·rcases bs ug with H | H
   ·have hml:=ifT huk H;refine Rh z H (mv z)<|Rh z H (mv z) ?_
    rcases bs x4 with V | V
    ·iterate 4 refine Nh z V ?_
     exact Rh z H (pT z V z)<|R z (pT z H z)<|WLq 8 (ifT hml V) z z z
    exact Rh z V (fd b_y z)<|Rh z V (l0 a_I z<|hb.at z)<|Rh z V (lnR T_ z<|a1.e ha)<|Rh z V (eql z z)<|Rh z H (pF z V z)<|R z (pT z H z)<|WLq 8 (ifF hml V) z z z
   exact Nh z H<|Nh z H<|Nv z<|Nv z<|Nv z<|Nv z<|Nh z H<|R z (pF z H z)<|WLq 8 (ifF huk H) z z z
  refine Rm z ?_;obtain ⟨um,hun,hmo⟩:=bdS hmw;refine c_U 45 um 8 ?_ ?_
  ·rcases bs uj with I | I
   ·have hmp:=ifT hun I;refine Rh z I (mv z)<|Rh z I (mv z) ?_
    rcases bs x5 with W | W
    ·iterate 4 refine Nh z W ?_
     exact Rh z I (pT z W z)<|R z (pT z I z)<|WLq 8 (ifT hmp W) z z z
    exact Rh z W (fd a_R z)<|Rh z W (l0 A_ z<|hb.at z)<|Rh z W (lnR x_ z<|a2.e ha)<|Rh z W (eql z z)<|Rh z I (pF z W z)<|R z (pT z I z)<|WLq 8 (ifF hmp W) z z z
   exact Nh z I<|Nh z I<|Nv z<|Nv z<|Nv z<|Nv z<|Nh z I<|R z (pF z I z)<|WLq 8 (ifF hun I) z z z
  refine Rm z ?_
  rcases bs um with J | J
  ·have hmq:=ifT hmo J;refine Rh z J (mv z)<|Rh z J (lss z z)<|Rh z J (mv z) ?_
   rcases bs (decide<|x6<0) with L | L
   ·iterate 5 refine Nh z L ?_
    exact Rh z J (pT z L z)<|R z (pT z J z)<|Ra z<|Wl (fun _ q=>⟨true,som<|ifT hmq L,q.k<|s1 z,br w9⟩)
   exact Rh z L (fd N_ z)<|Rh z L (l0 A_ z<|hb.at z)<|Rh z L (lnR x_ z<|a3.e ha)<|Rh z L (mv z)<|Rh z L (eql z z)<|Rh z J (pF z L z)<|R z (pT z J z)<|Ra z<|Wl (fun _ q=>⟨(x1.kids.length:Int)==x6,som<|ifF hmq L,q.k<|s1 z,br w9⟩)
  iterate 3 refine Nh z J ?_
  exact Nv z<|Nv z<|Nv z<|Nv z<|Nv z<|Nh z J<|R z (pF z J z)<|Ra z<|Wl (fun _ q=>⟨false,som<|ifF hmo J,q.k<|s1 z,br w9⟩)
 rintro ax _ ⟨xc,rfl,_,sy⟩;revert ax;refine Wo ?_;obtain rfl:=som hmt;exact Wr<|d_ hr z ⟨bup ha sy,z⟩
theorem e_l {x1:b_}{x2:Int}{res:Int}(hm:c_J x1 x2=some res)(V:B<=w0.z)(I:repS w0 B (sl A0 N0 C0) x1.rules)(Y:inI x2):i_ prog 151 [(.agg #[sl A0 N0 C0]),vI x2] w0 (Q0 w0 B res):=by
 unfold c_J at hm
 refine goG func151 z z z fun fn hr=>Ws<|E z (fb z) ?_
 rintro _ L ⟨rfl,W⟩;have h2:=W.below;have h6:Blk L w0.z [sl A0 N0 C0]:=W.blk;refine Rw z<|Wq<|Wq ?_
 obtain ⟨uf,hug,hma⟩:=bdS hm;refine Wt (fun a w=>∃(O:Bool),O=uf/\Sat 37 [(1,vI x2),(2,pt w0.z),(27,vB O)] a/\Below L.z L w) ?_ ?_
 ·refine Wg<|R z (lN (vs:=[sl A0 N0 C0]) w_ u_ z z fid<|h6.row 0 1 z)<|Rm z ?_
  obtain ⟨rh,ei,hmb⟩:=bdS hug;refine E z (fc call102 z<|j_D ei (zt' V h2.s) (I.e h2) Y) ?_;rintro _ _ ⟨s4,rfl⟩;refine R z (not_ z)<|Rm z ?_
  rcases bs (!rh) with H | H
  ·iterate 7 refine Nh z H ?_
   exact R z (pT z H z)<|Rm z<|Nh z z<|Nh z z<|Nh z z<|Nh z z<|Nh z z<|Nh z z<|Nh z z<|Nh z z<|R z (pT z z z)<|Wl (fun _ q=>⟨true,som<|ifT hmb H,q.k<|s3 z z z,s4⟩)
  refine Rh z H (fd a_9 z) ?_;have hc:=h6.e s4;refine Rh z H (l0 a_d z<|hc.at z)<|Rh z H (mv z) ?_
  obtain ⟨xj,ek,hmd⟩:=bdS<|ifF hmb H;have he:=I.g<|(h2.ag B).e s4
  refine RXg z z H z (at_ (α:=e_) a_0 m_ z z z he ek) ?_;rintro _ ⟨_,_,_,rfl,hl,hn,_⟩;obtain ⟨_,_,_,_,_,_,_,_,_,_,_,_,rfl,_,_,_,_,_,_,_⟩:=a_w hn;refine Rh z H (fd a_e z)<|Rh z H (l0 g_3 z<|hl.at (j:=1) z)<|Rh z H (nq z z)<|R z (pF z H z)<|Rm z ?_
  rcases bs (xj.kind != 1) with G | G
  ·iterate 8 refine Nh z G ?_
   exact R z (pT z G z)<|Wl (fun _ q=>⟨true,som<|ifT hmd G,q.k<|s3 z z z,s4⟩)
  refine Rh z G (fd a_9 z)<|Rh z G (l0 a_d z<|hc.at z)<|Rh z G (mv z) ?_
  obtain ⟨_,em,hmo⟩:=bdS<|ifF hmd G;refine RXg z z G z (at_ (α:=e_) a_0 m_ z z z he em) ?_;rintro _ ⟨_,_,_,rfl,hp,hq,_⟩;obtain ⟨_,_,_,_,_,_,_,_,_,_,_,_,rfl,_,_,ht,_,_,_,_⟩:=a_w hq;refine Rh z G (fd a_F z)<|Rh z G (l0 g_3 z<|hp.at (j:=2) z) ?_
  obtain ⟨rr,es,hmu⟩:=bdS hmo;refine Eg z z G z (fc call83 z<|d_h es (zt' V<|lt_ h2.s s4.s) ht (ii z)<|ii z) ?_;rintro _ _ ⟨sv,rfl⟩;exact Rh z G (not_ z)<|R z (pF z G z)<|Wl (fun _ q=>⟨!rr,som hmu,q.k<|s3 z z z,bup s4 sv⟩)
 rintro aw _ ⟨O,rfl,_,s5⟩;revert aw;refine Wo<|Wc z (fun J=>?_) (fun J=>?_)
 ·refine Ws<|Rw z ?_
  obtain rfl:=som<|ifT hma J;exact Wr<|d_ hr z ⟨bup h2 s5,z,ii z⟩
 refine Wk<|Ws<|Rf z a_9 z<|R z (l0 a_d z<|(h6.e s5).at z)<|Rm z ?_
 obtain ⟨_,ex,hmy⟩:=bdS<|ifF hma J;refine RX z (at_ (α:=e_) a_0 m_ z z z (I.g<|(h2.ag B).e s5) ex) ?_;rintro _ ⟨_,_,_,rfl,hz,a1,_⟩;obtain ⟨_,_,_,_,_,_,_,_,_,_,_,_,rfl,_,_,_,_,_,_,_⟩:=a_w a1;refine Rf z a_F z<|R z (l0 g_3 z<|hz.at (j:=2) z)<|R z (g_r z z) ?_
 obtain ⟨_,a2,a0⟩:=bdS hmy;refine R z (i_G z z<|nnS a2)<|R z (sb_ z z)<|Rw z ?_
 obtain rfl:=som a0;exact Wr<|d_ hr z ⟨bup h2 s5,z,iS _ _⟩
theorem W_w1k {x1:List Str}{x2:Str}{res:Bool}(hm:e_L x1 x2=some res)(a1:B<=w0.z)(G:repS w0 B (sl A0 N0 C0) x1)(a0:x2.b.length<=LEN):i_ prog 122 [sl A0 N0 C0,Str.v x2] w0 (Q7 w0 B res):=by
 unfold e_L at hm
 refine goG func122 z z z fun fn hr=>Ws<|Rw z<|Wq<|Wm z<|R z (lnR T_ z G)<|Rm z<|Wn ?_
 obtain ⟨_,V,J⟩:=bdS hm;refine Wf (σ:=Unit) (ρ:=Bool) (fun (k3:Nat)(_:Unit) a w=>Sat 17 [(1,Str.v x2),(7,sl A0 N0 C0),(8,vI (x1.length:Int)),(9,vI ((k3:Nat):Int))] a/\Below w0.z w0 w) (fun (_:Unit) a w=>Sat 17 [] a/\Below w0.z w0 w) (rQ prog fn<|Q7 w0 B) V ?_ ?_ ?_ ?_ ?_
 ·exact fun _ q=>⟨q.k<|s4 z z z z,br w0⟩
 ·rintro k3 _ _ _ _ L ⟨W,I⟩ Y;refine Wu ?_ W;refine Ws<|Rl z z z<|Wn<|Wq<|Wc z (fun _=>?_) (fun hc=>(V_ L hc).elim)
  refine Wk<|Wq<|Wb<|Ws ?_
  obtain ⟨_,e9,O⟩:=bdS Y;refine RX z (at_ (α:=Str) T_ z_9 z z z (G.e I) e9) ?_;rintro _ ⟨_,_,_,rfl,ha,hb,_⟩;obtain ⟨rfl,_⟩:=b_2 hb;refine R z (l0 g_9 z<|ha.at0 z)<|Rw z<|Wm z<|Rm z<|R z (a_V z z)<|Wx z (fun H=>?_) (fun H=>?_)
  ·exact Ws<|Rw z<|Wr<|rtO<|qL (som<|ifT O H).symm<|d_ hr z ⟨I,z⟩
  exact Wk<|Wg<|R z (inc_ L (lt_ (repS.len G) D_) z z)<|Rm z<|Wl (fun _ q=>⟨(),(som<|ifF O H).symm,⟨q.k<|s4 z z z z,I⟩⟩)
 ·rintro _ _ _ ⟨hSc,sd⟩;refine Wu ?_ hSc;refine Ws<|Rl z z z<|Wn<|Wq<|Wc z (fun hc=>(W_ hc).elim) (fun _=>?_)
  exact We<|fun _ q=>⟨rfl,⟨q.k sn,sd⟩⟩
 ·rintro _ ae _ rfl ⟨_,sf⟩;have hmg:=elL J;revert ae;refine Wo<|Ws<|Rw z ?_
  obtain rfl:=som hmg;exact Wr<|d_ hr z ⟨sf,z⟩
 rintro _ _ _ _ rfl ⟨rfl,hqh⟩;have hmi:=elR J;obtain rfl:=som hmi;exact ⟨hqh,z⟩
theorem W_w30 {x1:e_}{res:Bool}(hm:h_f n x1=some res)(O:B<=w0.z)(Y:x1.name.b.length<=LEN)(a0:inI x1.kind)(a1:inI x1.size)(a2:repS w0 B (sl AD ND CD) x1.bytes)(J:repS w0 B (sl A8 N8 C8) x1.names)(a3:repS w0 B (sl AE NE CE) x1.tags)(W:repS w0 B (sl AF NF CF) x1.kids):i_ prog 152 [(.agg #[Str.v x1.name,vI x1.kind,vI x1.size,vB x1.little,sl AD ND CD,sl A8 N8 C8,sl AE NE CE,sl AF NF CF])] w0 (Q7 w0 B res):=by
 unfold h_f at hm
 refine goG func152 z z z fun fn hr=>Ws<|E z (fb z) ?_
 rintro _ V ⟨rfl,hi⟩;have h1:=hi.below;have ha:Blk V w0.z (vR x1 AD ND CD A8 N8 C8 AE NE CE AF NF CF):=hi.blk;refine Rw z<|Wq<|Wq ?_
 obtain ⟨uy,huz,hmj⟩:=bdS hm;refine Wt (fun a w=>∃(xb:Bool),xb=uy/\Sat 44 [(1,pt w0.z),(23,vB xb)] a/\Below V.z V w) ?_ ?_
 ·refine Wg<|R z (lN (vs:=vR x1 AD ND CD A8 N8 C8 AE NE CE AF NF CF) G_ m_ z z fid<|ha.row 0 8 z) ?_
  obtain ⟨ai,aj,hmk⟩:=bdS huz;refine E z (fc call150 z<|d_i aj (zt' O h1.s) Y a0 a1 (a2.e h1) (J.e h1) (a3.e h1) (W.e h1)<|ii z) ?_;rintro _ _ ⟨s6,rfl⟩;refine R z (not_ z)<|Rm z ?_
  rcases bs (!ai) with G | G
  ·iterate 7 refine Nh z G ?_
   exact R z (pT z G z)<|Rm z<|Nh z z<|Nh z z<|Nh z z<|Nh z z<|Nh z z<|R z (pT z z z)<|Wl (fun _ q=>⟨true,som<|ifT hmk G,q.k<|s2 z z,s6⟩)
  have hml:=ifF hmk G;refine Rh z G (fd N_ z) ?_;have hd:=ha.e s6;refine Rh z G (l0 A_ z<|hd.at z) ?_;have hn:=(h1.ag B).e s6;have he:=W.g hn;refine Rh z G (lnR x_ z he)<|Rh z G (fd b_y z)<|Rh z G (l0 a_I z<|hd.at z)<|Rh z G (lnR T_ z<|J.g hn)<|Rh z G (nq z z)<|R z (pF z G z)<|Rm z ?_
  rcases bs ((x1.kids.length:Int) != (x1.names.length:Int)) with I | I
  ·iterate 5 refine Nh z I ?_
   exact R z (pT z I z)<|Wl (fun _ q=>⟨true,som<|ifT hml I,q.k<|s2 z z,s6⟩)
  refine Rh z I (fd N_ z)<|Rh z I (l0 A_ z<|hd.at z)<|Rh z I (lnR x_ z he) ?_
  obtain ⟨ak,al,a4⟩:=bdS<|ifF hml I;refine Eg z z I z (fc call83 z<|d_h al (zt' O<|lt_ h1.s s6.s) (b_D<|repS.len he) (ii z)<|ii z) ?_;rintro _ _ ⟨am,rfl⟩;exact Rh z I (not_ z)<|R z (pF z I z)<|Wl (fun _ q=>⟨!ak,som a4,q.k<|s2 z z,bup s6 am⟩)
 rintro an L ⟨xb,rfl,_,s7⟩;revert an;refine Wo<|Wc z (fun hcc=>?_) (fun hcc=>?_)
 ·refine Ws<|Rw z ?_
  obtain rfl:=som<|ifT hmj hcc;exact Wr<|d_ hr z ⟨bup h1 s7,z⟩
 refine Wk<|Wq<|Ws<|Rf z b_y z ?_
 have ho:=ha.e s7;refine R z (l0 a_I z<|ho.at z) ?_;have hp:=(h1.ag B).e s7;refine R z (lnR T_ z<|J.g hp)<|Rm z<|Wn ?_
 obtain ⟨_,a5,hmm⟩:=bdS<|ifF hmj hcc;refine Wf (σ:=Unit) (ρ:=Bool) (fun (kf:Nat)(_:Unit) a w=>Sat 44 [(1,pt w0.z),(25,sl A8 N8 C8),(26,vI (x1.names.length:Int)),(27,vI ((kf:Nat):Int))] a/\Below L.z L w) (fun (_:Unit) a w=>Sat 44 [] a/\Below L.z L w) (rQ prog fn<|Q7 w0 B) a5 ?_ ?_ ?_ ?_ ?_
 ·exact fun _ q=>⟨q.k<|s4 z z z z,br L⟩
 ·rintro kf _ _ wq _ hkr ⟨a6,s8⟩ a7;refine Wu ?_ a6;refine Ws<|Rl z z z<|Wn<|Wq<|Wc z (fun _=>?_) (fun hc=>(V_ hkr hc).elim)
  refine Wk<|Wq<|Wb<|Wm z ?_
  obtain ⟨_,ao,a8⟩:=bdS a7;have ht:=hp.e s8;refine RX z (at_ (α:=Str) T_ z_9 z z z (J.g ht) ao) ?_;rintro _ ⟨_,_,_,rfl,ap,aq,_⟩;obtain ⟨rfl,hu⟩:=b_2 aq;refine R z (l0 g_9 z<|ap.at0 z)<|Ra z<|Rw z<|Wq ?_
  obtain ⟨ar,a9,hms⟩:=bdS a8;refine Wt (fun a w=>∃(xg:Bool),xg=ar/\Sat 44 [(1,pt w0.z),(25,sl A8 N8 C8),(26,vI (x1.names.length:Int)),(27,vI ((kf:Nat):Int)),(42,vB xg)] a/\Below wq.z wq w) ?_ ?_
  ·refine Wg<|Rm z ?_
   have hv:=lt_ (lt_ h1.s s7.s) s8.s;obtain ⟨au,av,hmw⟩:=bdS a9;refine E z (fc call118 z<|j_E av (zt' O hv) hu) ?_;rintro _ _ ⟨s9,rfl⟩;refine R z (not_ z)<|Rm z ?_
   rcases bs (!au) with H | H
   ·iterate 6 refine Nh z H ?_
    exact R z (pT z H z)<|Wl (fun _ q=>⟨true,som<|ifT hmw H,q.k<|s5 z z z z z,s9⟩)
   refine Rh z H (fd b_y z)<|Rh z H (l0 a_I z<|((ho.e s8).e s9).at z)<|Rh z H (mv z) ?_
   obtain ⟨_,aw,aa⟩:=bdS<|ifF hmw H;refine RXg z z H z (rX T_ z_9 z z (J.g<|ht.e s9) z z aw) ?_;rintro _ ⟨_,_,_,rfl,ax⟩;refine Rh z H (mv z) ?_;obtain ⟨ay,az,ab⟩:=bdS aa;refine Eg z z H z (fc call122 z<|W_w1k az (zt' O<|lt_ hv s9.s) ax hu) ?_;rintro _ _ ⟨aA,rfl⟩;exact R z (pF z H z)<|Wl (fun _ q=>⟨ay,som ab,q.k<|s5 z z z z z,bup s9 aA⟩)
  rintro aB _ ⟨xg,rfl,_,sx⟩;revert aB;refine Wo<|Wc z (fun hch=>?_) (fun hch=>?_)
  ·exact Ws<|Rw z<|Wr<|rtO<|qL (som<|ifT hms hch).symm<|d_ hr z ⟨bup (bup (bup h1 s7) s8) sx,z⟩
  exact Wk<|Wg<|R z (inc_ hkr (lt_ (repS.len J) D_) z z)<|Rm z<|Wl (fun _ q=>⟨(),(som<|ifF hms hch).symm,⟨q.k<|s4 z z z z,bup s8 sx⟩⟩)
 ·rintro _ _ _ ⟨ad,aC⟩;refine Wu ?_ ad;refine Ws<|Rl z z z<|Wn<|Wq<|Wc z (fun hc=>(W_ hc).elim) (fun _=>?_)
  exact We<|fun _ q=>⟨rfl,⟨q.k sn,aC⟩⟩
 ·rintro _ aD _ rfl ⟨_,aE⟩;have ae:=elL hmm;revert aD;refine Wo<|Ws<|Rw z ?_
  obtain rfl:=som ae;exact Wr<|d_ hr z ⟨bup (bup h1 s7) aE,z⟩
 rintro _ _ _ _ rfl ⟨rfl,af⟩;have ah:=elR hmm;obtain rfl:=som ah;exact ⟨af,z⟩
theorem W_w31 {x1:b_}{x2:e_}{res:Bool}(hm:h_g x1 x2=some res)(O:B<=w0.z)(a4:repS w0 B (sl A0 N0 C0) x1.rules)(a5:x2.name.b.length<=LEN)(a6:inI x2.kind)(a7:inI x2.size)(a8:repS w0 B (sl A3 N3 C3) x2.bytes)(a9:repS w0 B (sl A4 N4 C4) x2.names)(J:repS w0 B (sl A2 N2 C2) x2.tags)(V:repS w0 B (sl A5 N5 C5) x2.kids):i_ prog 153 [(.agg #[sl A0 N0 C0]),(.agg #[Str.v x2.name,vI x2.kind,vI x2.size,vB x2.little,sl A3 N3 C3,sl A4 N4 C4,sl A2 N2 C2,sl A5 N5 C5])] w0 (Q7 w0 B res):=by
 unfold h_g at hm
 refine goG func153 z z z fun fn hr=>Ws<|E z (fb z) ?_
 rintro _ L ⟨rfl,hn⟩;have h4:=hn.below;refine E z (fb z) ?_;rintro _ wg ⟨rfl,ho⟩;have h3:=ho.below;have he:Blk wg L.z (vR x2 A3 N3 C3 A4 N4 C4 A2 N2 C2 A5 N5 C5):=ho.blk;refine Rw z<|Wq<|Wq ?_
 obtain ⟨aq,aa,hmp⟩:=bdS hm;refine Wt (fun a w=>∃(xh:Bool),xh=aq/\Sat 57 [(2,pt w0.z),(3,pt L.z),(21,vB xh)] a/\Below wg.z wg w) ?_ ?_
 ·refine Wg<|R z (lN (vs:=vR x2 A3 N3 C3 A4 N4 C4 A2 N2 C2 A5 N5 C5) G_ m_ z z fid<|he.row 0 8 z)<|Rf z a_R z<|R z (l0 A_ z<|he.at z) ?_
  have h6:=(h4.ag B).e h3;have hq:=J.g h6;refine R z (lnR x_ z hq)<|R z (add_ z z) ?_
  have ht:=lt_ h4.s h3.s;obtain ⟨ar,au,hmr⟩:=bdS aa;refine E z (fc call150 z<|d_i au (zt' O ht) a5 a6 a7 (a8.g h6) (a9.g h6) hq (V.g h6)<|iA _ _) ?_;rintro _ _ ⟨s9,rfl⟩;refine R z (not_ z)<|Rm z ?_
  rcases bs (!ar) with I | I
  ·iterate 5 refine Nh z I ?_
   exact R z (pT z I z)<|Wl (fun _ q=>⟨true,som<|ifT hmr I,q.k<|s3 z z z,s9⟩)
  refine Rh z I (fd a_R z)<|Rh z I (l0 A_ z<|(he.e s9).at z) ?_
  have hu:=J.g<|h6.e s9
  refine Rh z I (lnR x_ z hu) ?_;obtain ⟨av,aw,ab⟩:=bdS<|ifF hmr I;refine Eg z z I z (fc call83 z<|d_h aw (zt' O<|lt_ ht s9.s) (b_D<|repS.len hu) (ii z)<|ii z) ?_;rintro _ _ ⟨ax,rfl⟩;exact Rh z I (not_ z)<|R z (pF z I z)<|Wl (fun _ q=>⟨!av,som ab,q.k<|s3 z z z,bup s9 ax⟩)
 rintro ay _ ⟨xh,rfl,_,s7⟩;revert ay;refine Wo<|Wc z (fun hci=>?_) (fun hci=>?_)
 ·refine Ws<|Rw z ?_
  obtain rfl:=som<|ifT hmp hci;exact Wr<|d_ hr z ⟨bup (bup h4 h3) s7,z⟩
 refine Wk<|Wq (Wd (X:=noX) 0 (pl_ 7 [5]) mo (by kernel_rfl) fun aV s8 _=>dR z z (lN (vs:=[sl A0 N0 C0]) w_ u_ z z fid<|((((hn.blk:Blk L w0.z [sl A0 N0 C0]).e h3).e s7).e s8).row 0 1 z)<|dR z z (fd N_ z) ?_)
 have hv:=(he.e s7).e s8;refine dR z z (l0 A_ z<|hv.at z) ?_;obtain ⟨_,az,ad⟩:=bdS<|ifF hmp hci;have hj:=(((h4.ag B).e h3).e s7).e s8;refine dRX z z (at_ (α:=Int) x_ z_3 z z z (V.g hj) az) ?_;rintro _ ⟨_,_,_,rfl,aA,aB,_⟩;obtain ⟨rfl,aC⟩:=O_ aB;refine dR z z (l0 g_3 z<|aA.at0 z) ?_;have hw:=lt_ (lt_ (lt_ h4.s h3.s) s7.s) s8.s;obtain ⟨rk,aD,ae⟩:=bdS ad;refine dE z z (fc call151 z<|e_l aD (zt' O hw) (a4.g hj) aC) (.inr fun _ _ h=>l_<|h.1) ?_;rintro _ wa ⟨sb,rfl,aE⟩;refine dQ z z z<|pD<|Wo<|Wq<|Ws<|Rf z a_R z ?_
 have hx:=hv.e sb;refine R z (l0 A_ z<|hx.at z) ?_;have hy:=hj.e sb;refine R z (lnR x_ z<|J.g hy)<|Rm z<|Wn ?_
 obtain ⟨_,af,hms⟩:=bdS ae;refine Wf (σ:=Unit) (ρ:=Bool) (fun (kf:Nat)(_:Unit) a w=>Sat 57 [(3,pt L.z),(5,vI rk),(29,sl A2 N2 C2),(30,vI (x2.tags.length:Int)),(31,vI ((kf:Nat):Int))] a/\Below wa.z wa w) (fun (_:Unit) a w=>Sat 57 [(5,vI rk)] a/\Below wa.z wa w) (rQ prog fn<|Q7 w0 B) af ?_ ?_ ?_ ?_ ?_
 ·exact fun _ q=>⟨q.k<|s5 z z z z z,br wa⟩
 ·rintro kf _ _ wz _ W ⟨ah,sc⟩ ai;refine Wu ?_ ah;refine Ws<|Rl z z z<|Wn<|Wq<|Wc z (fun _=>?_) (fun hc=>(V_ W hc).elim)
  refine Wk<|Wq<|Wb<|Wm z ?_
  obtain ⟨aF,aG,aj⟩:=bdS ai;have a2:=hy.e sc;refine RX z (at_ (α:=Int) x_ z_3 z z z (J.g a2) aG) ?_;rintro _ ⟨_,_,_,rfl,aH,aI,_⟩;obtain ⟨rfl,aJ⟩:=O_ aI;refine R z (l0 g_3 z<|aH.at0 z)<|Ra z<|Rw z<|Wq ?_
  obtain ⟨aK,ak,Y⟩:=bdS aj;refine Wt (fun a w=>∃(xl:Bool),xl=aK/\Sat 57 [(3,pt L.z),(5,vI rk),(29,sl A2 N2 C2),(30,vI (x2.tags.length:Int)),(31,vI ((kf:Nat):Int)),(53,vB xl)] a/\Below wz.z wz w) ?_ ?_
  ·refine Wg<|RM z z ?_
   obtain ⟨aL,aM,a0⟩:=bdS ak;refine E z (fc call83 z<|d_h aM (zt' O<|lt_ (lt_ hw sb.s) sc.s) aJ (ii z) aE) ?_;rintro _ _ ⟨sd,rfl⟩;refine R z (not_ z)<|Rm z ?_
   rcases bs (!aL) with H | H
   ·iterate 3 refine Nh z H ?_
    exact Nv z<|Nv z<|Nv z<|Nv z<|Nv z<|Nv z<|Nv z<|Nv z<|Nh z H<|R z (pT z H z)<|Wl (fun _ q=>⟨true,som<|ifT a0 H,q.k<|s6 z z z z z z,sd⟩)
   have a1:=ifF a0 H;refine Rh z H (mv z)<|Rh z H (a_i z z)<|Rh z H (mv z) ?_
   rcases bs (decide<|0<((kf:Nat):Int)) with G | G
   ·refine Rh z G (fd a_R z)<|Rh z G (l0 A_ z<|((hx.e sc).e sd).at z)<|Rh z G (mv z)<|Rh z G (sb_ z z) ?_
    obtain ⟨aN,aO,al⟩:=bdS<|ifT a1 G;refine RXg z z G z (at_ (α:=Int) x_ z_3 z z z (J.g<|a2.e sd) aO) ?_;rintro _ ⟨_,_,_,rfl,aP,aQ,_⟩;obtain ⟨rfl,_⟩:=O_ aQ;exact Rh z G (l0 g_3 z<|aP.at0 z)<|Rh z G (mv z)<|Rh z G (b_s z z)<|Rh z H (pT z G z)<|R z (pF z H z)<|Wl (fun _ q=>⟨decide<|aF<=aN,som al,q.k<|s6 z z z z z z,sd⟩)
   iterate 8 refine Nh z G ?_
   exact Rh z H (pF z G z)<|R z (pF z H z)<|Wl (fun _ q=>⟨false,som<|ifF a1 G,q.k<|s6 z z z z z z,sd⟩)
  rintro aR _ ⟨xl,rfl,_,a3⟩;revert aR;refine Wo<|Wc z (fun hcm=>?_) (fun hcm=>?_)
  ·exact Ws<|Rw z<|Wr<|rtO<|qL (som<|ifT Y hcm).symm<|d_ hr z ⟨bup (bup (bup (bup (bup (bup h4 h3) s7) s8) sb) sc) a3,z⟩
  exact Wk<|Wg<|R z (inc_ W (lt_ (repS.len J) D_) z z)<|Rm z<|Wl (fun _ q=>⟨(),(som<|ifF Y hcm).symm,⟨q.k<|s5 z z z z z,bup sc a3⟩⟩)
 ·rintro _ _ _ ⟨am,aS⟩;refine Wu ?_ am;refine Ws<|Rl z z z<|Wn<|Wq<|Wc z (fun hc=>(W_ hc).elim) (fun _=>?_)
  exact We<|fun _ q=>⟨rfl,⟨q.k<|s1 z,aS⟩⟩
 ·rintro _ aT _ rfl ⟨_,aU⟩;have an:=elL hms;revert aT;refine Wo<|Wm z<|R z (a_i z z)<|Rw z ?_
  obtain rfl:=som an;exact Wr<|d_ hr z ⟨bup (bup (bup (bup (bup h4 h3) s7) s8) sb) aU,z⟩
 rintro _ _ _ _ rfl ⟨rfl,ao⟩;have ap:=elR hms;obtain rfl:=som ap;exact ⟨ao,z⟩
theorem W_w32 {x1:b_}{x2:e_}{res:Bool}(hm:h_h n x1 x2=some res)(L:B<=w0.z)(a7:repS w0 B (sl A0 N0 C0) x1.rules)(a3:x2.name.b.length<=LEN)(a4:inI x2.kind)(V:inI x2.size)(W:repS w0 B (sl A3 N3 C3) x2.bytes)(a5:repS w0 B (sl A4 N4 C4) x2.names)(a6:repS w0 B (sl A2 N2 C2) x2.tags)(Y:repS w0 B (sl A5 N5 C5) x2.kids):i_ prog 120 [(.agg #[sl A0 N0 C0]),(.agg #[Str.v x2.name,vI x2.kind,vI x2.size,vB x2.little,sl A3 N3 C3,sl A4 N4 C4,sl A2 N2 C2,sl A5 N5 C5])] w0 (Q7 w0 B res):=by
 unfold h_h at hm
 refine goG func120 z z z fun fn hr=>Ws<|E z (fb z) ?_
 rintro _ ww ⟨rfl,aJ⟩;have h1:=aJ.below;have hx:Blk ww w0.z [sl A0 N0 C0]:=aJ.blk;refine E z (fb z) ?_;rintro _ J ⟨rfl,aK⟩;have G:=aK.below;have h6:Blk J ww.z (vR x2 A3 N3 C3 A4 N4 C4 A2 N2 C2 A5 N5 C5):=aK.blk;refine Rw z<|Wq<|Ws<|Rf z a_e z<|R z (l0 g_3 z<|h6.at z)<|Wn<|Wb<|Ws<|Rq z z z<|Rw z<|Wc z (fun hcy=>?_) (fun hcy=>?_)
 ·refine Wq ?_;obtain ⟨bp,b1,b2⟩:=bdS<|ifT hm hcy;refine Wt (fun a w=>∃(xz:Bool),xz=bp/\Sat 102 [(4,vB xz)] a/\Below J.z J w) ?_ ?_
  ·refine Wg<|R z (lN (vs:=vR x2 A3 N3 C3 A4 N4 C4 A2 N2 C2 A5 N5 C5) G_ m_ z z fid<|h6.row 0 8 z) ?_
   have hq:=(h1.ag B).e G;have aL:=lt_ h1.s G.s;obtain ⟨bq,bt,ap⟩:=bdS b1;refine E z (fc call150 z<|d_i bt (zt' L aL) a3 a4 V (W.g hq) (a5.g hq) (a6.g hq) (Y.g hq)<|ii z) ?_;rintro _ _ ⟨se,rfl⟩;refine Rm z ?_
   rcases bs bq with hca | hca
   ·refine Rh z hca (fd a_F z) ?_;have aM:=h6.e se;refine Rh z hca (l0 g_3 z<|aM.at z) ?_;obtain ⟨bu,bv,aq⟩:=bdS<|ifT ap hca;refine Eg z z hca z (fc call83 z<|d_h bv (zt' L<|lt_ aL se.s) V (ii z)<|ii z) ?_;rintro _ _ ⟨sr,rfl⟩;refine R z (pT z hca z)<|Rm z ?_
    rcases bs bu with O | O
    ·have ar:=ifT aq O;refine Rh z O (fd c_s z) ?_;have aN:=aM.e sr;refine Rh z O (l0 g_4 z<|aN.at z)<|Rh z O (not_ z)<|Rh z O (mv z) ?_
     rcases bs (!x2.little) with hcb | hcb
     ·iterate 3 refine Nh z hcb ?_
      exact Rh z O (pT z hcb z)<|R z (pT z O z)<|Ra z<|Wl (fun _ q=>⟨true,som<|ifT ar hcb,q.k<|s1 z,bup se sr⟩)
     exact Rh z hcb (fd a_F z)<|Rh z hcb (l0 g_3 z<|aN.at z)<|Rh z hcb (a_i z z)<|Rh z O (pF z hcb z)<|R z (pT z O z)<|Ra z<|Wl (fun _ q=>⟨decide<|1<x2.size,som<|ifF ar hcb,q.k<|s1 z,bup se sr⟩)
    iterate 4 refine Nh z O ?_
    exact Nv z<|Nv z<|Nv z<|Nh z O<|R z (pF z O z)<|Ra z<|Wl (fun _ q=>⟨false,som<|ifF aq O,q.k<|s1 z,bup se sr⟩)
   iterate 3 refine Nh z hca ?_
   exact R z (pF z hca z)<|Rm z<|Nh z z<|Nh z z<|Nh z z<|Nh z z<|Nv z<|Nv z<|Nv z<|Nh z z<|R z (pF z z z)<|Ra z<|Wl (fun _ q=>⟨false,som<|ifF ap hca,q.k<|s1 z,se⟩)
  rintro bw _ ⟨xz,rfl,_,bx⟩;revert bw;refine Wo ?_;obtain rfl:=som b2;exact Wr<|rtO<|d_ hr z ⟨bup (bup h1 G) bx,z⟩
 have au:=ifF hm hcy;refine Ws<|Rq z z z<|Rw z<|Wc z (fun a8=>?_) (fun a8=>?_)
 ·refine Wq ?_;obtain ⟨bz,b3,b4⟩:=bdS<|ifT au a8;refine Wt (fun a w=>∃(aj:Bool),aj=bz/\Sat 102 [(4,vB aj)] a/\Below J.z J w) ?_ ?_
  ·refine Wg<|R z (lN (vs:=vR x2 A3 N3 C3 A4 N4 C4 A2 N2 C2 A5 N5 C5) G_ m_ z z fid<|h6.row 0 8 z) ?_
   have hj:=(h1.ag B).e G;have aO:=lt_ h1.s G.s;obtain ⟨bA,bB,av⟩:=bdS b3;refine E z (fc call150 z<|d_i bB (zt' L aO) a3 a4 V (W.g hj) (a5.g hj) (a6.g hj) (Y.g hj)<|ii z) ?_;rintro _ _ ⟨sk,rfl⟩;refine Rm z ?_
   rcases bs bA with a1 | a1
   ·refine Rh z a1 (fd b_1 z)<|Rh z a1 (l0 R_ z<|(h6.e sk).at z) ?_
    have aP:=W.g<|hj.e sk
    refine Rh z a1 (lnR o_ z aP) ?_;obtain ⟨bC,bD,b5⟩:=bdS<|ifT av a1;refine Eg z z a1 z (fc call83 z<|d_h bD (zt' L<|lt_ aO sk.s) (b_D<|repS.len aP) (ii z)<|ii z) ?_;rintro _ _ ⟨bE,rfl⟩;exact R z (pT z a1 z)<|Ra z<|Wl (fun _ q=>⟨bC,som b5,q.k<|s1 z,bup sk bE⟩)
   iterate 4 refine Nh z a1 ?_
   exact R z (pF z a1 z)<|Ra z<|Wl (fun _ q=>⟨false,som<|ifF av a1,q.k<|s1 z,sk⟩)
  rintro bF _ ⟨aj,rfl,_,bG⟩;revert bF;refine Wo ?_;obtain rfl:=som b4;exact Wr<|rtO<|d_ hr z ⟨bup (bup h1 G) bG,z⟩
 have aw:=ifF au a8;refine Ws<|Rq z z z<|Rw z<|Wc z (fun a9=>?_) (fun a9=>?_)
 ·refine Wq ?_;obtain ⟨bH,b6,b7⟩:=bdS<|ifT aw a9;refine Wt (fun a w=>∃(ak:Bool),ak=bH/\Sat 102 [(4,vB ak)] a/\Below J.z J w) ?_ ?_
  ·refine Wg<|R z (lN (vs:=vR x2 A3 N3 C3 A4 N4 C4 A2 N2 C2 A5 N5 C5) G_ m_ z z fid<|h6.row 0 8 z) ?_
   have ht:=(h1.ag B).e G;have aQ:=lt_ h1.s G.s;obtain ⟨bI,bJ,ax⟩:=bdS b6;refine E z (fc call150 z<|d_i bJ (zt' L aQ) a3 a4 V (W.g ht) (a5.g ht) (a6.g ht) (Y.g ht)<|ii z) ?_;rintro _ _ ⟨ss,rfl⟩;refine Rm z ?_
   rcases bs bI with hcc | hcc
   ·refine Rh z hcc (fd a_F z)<|Rh z hcc (l0 g_3 z<|(h6.e ss).at z) ?_
    obtain ⟨bK,bL,b8⟩:=bdS<|ifT ax hcc;refine Eg z z hcc z (fc call83 z<|d_h bL (zt' L<|lt_ aQ ss.s) V (ii z)<|ii z) ?_;rintro _ _ ⟨bM,rfl⟩;exact R z (pT z hcc z)<|Ra z<|Wl (fun _ q=>⟨bK,som b8,q.k<|s1 z,bup ss bM⟩)
   iterate 3 refine Nh z hcc ?_
   exact R z (pF z hcc z)<|Ra z<|Wl (fun _ q=>⟨false,som<|ifF ax hcc,q.k<|s1 z,ss⟩)
  rintro bN _ ⟨ak,rfl,_,bO⟩;revert bN;refine Wo ?_;obtain rfl:=som b7;exact Wr<|rtO<|d_ hr z ⟨bup (bup h1 G) bO,z⟩
 have ay:=ifF aw a9;refine Ws<|Rq z z z<|Rw z<|Wc z (fun aa=>?_) (fun aa=>?_)
 ·refine Wq ?_;obtain ⟨bP,b9,ba⟩:=bdS<|ifT ay aa;refine Wt (fun a w=>∃(al:Bool),al=bP/\Sat 102 [(4,vB al)] a/\Below J.z J w) ?_ ?_
  ·refine Wd (X:=noX) 0 (pl_ 12 [1,8]) mo (by kernel_rfl) fun cv sf _=>?_
   have aR:=h6.e sf;refine dR z z (lN (vs:=vR x2 A3 N3 C3 A4 N4 C4 A2 N2 C2 A5 N5 C5) G_ m_ z z fid<|aR.row 0 8 z) ?_;have hl:=((h1.ag B).e G).e sf;have aS:=lt_ (lt_ h1.s G.s) sf.s;obtain ⟨bQ,bR,az⟩:=bdS b9;refine dE z z (fc call150 z<|d_i bR (zt' L aS) a3 a4 V (W.g hl) (a5.g hl) (a6.g hl) (Y.g hl)<|ii z) (.inr fun _ _ h=>l_<|h.1) ?_;rintro _ _ ⟨sg,rfl⟩;refine dM z z z ?_
   rcases bs bQ with H | H
   ·refine dRg z z z H z (lN (vs:=[sl A0 N0 C0]) w_ u_ z z fid<|(((hx.e G).e sf).e sg).row 0 1 z)<|dRg z z z H z (fd N_ z)<|dRg z z z H z (l0 A_ z<|(aR.e sg).at z) ?_
    obtain ⟨_,bS,bb⟩:=bdS<|ifT az H;have aT:=hl.e sg;refine b_M z z z H z (at_ (α:=Int) x_ z_3 z z z (Y.g aT) bS) ?_;rintro _ ⟨_,_,_,rfl,bT,bU,_⟩;obtain ⟨rfl,bV⟩:=O_ bU;refine dRg z z z H z (l0 g_3 z<|bT.at0 z) ?_;obtain ⟨bW,bX,bc⟩:=bdS bb;refine dEg z z z H z (fc call151 z<|e_l bX (zt' L<|lt_ aS sg.s) (a7.g aT) bV) (.inr fun _ _ h=>l_<|h.1) ?_;rintro _ _ ⟨bY,rfl,_⟩;exact dRg z z z H z (a_i z z)<|dR z z (pT z H z)<|dQ z z z<|pD (fun _ q=>⟨decide<|0<bW,som bc,q.k<|s1 z,bup (bup sf sg) bY⟩)
   iterate 5 refine dRn z z z H z ?_
   exact dEn z z z H z<|dRn z z z H z<|dR z z (pF z H z)<|dQ z z z<|pD (fun _ q=>⟨false,som<|ifF az H,q.k<|s1 z,bup sf sg⟩)
  rintro bZ _ ⟨al,rfl,_,c0⟩;revert bZ;refine Wo ?_;obtain rfl:=som ba;exact Wr<|rtO<|d_ hr z ⟨bup (bup h1 G) c0,z⟩
 have aA:=ifF ay aa;refine Ws<|Rq z z z<|Rw z<|Wc z (fun ab=>?_) (fun ab=>?_)
 ·refine Wq ?_;obtain ⟨c1,be,bf⟩:=bdS<|ifT aA ab;refine Wt (fun a w=>∃(am:Bool),am=c1/\Sat 102 [(4,vB am)] a/\Below J.z J w) ?_ ?_
  ·refine Wd (X:=noX) 0 (pl_ 12 [1,8]) mo (by kernel_rfl) fun cw sh _=>?_
   have aU:=h6.e sh;refine dR z z (lN (vs:=vR x2 A3 N3 C3 A4 N4 C4 A2 N2 C2 A5 N5 C5) G_ m_ z z fid<|aU.row 0 8 z) ?_;have hn:=((h1.ag B).e G).e sh;have aV:=lt_ (lt_ h1.s G.s) sh.s;obtain ⟨c2,c3,aB⟩:=bdS be;refine dE z z (fc call150 z<|d_i c3 (zt' L aV) a3 a4 V (W.g hn) (a5.g hn) (a6.g hn) (Y.g hn)<|ii z) (.inr fun _ _ h=>l_<|h.1) ?_;rintro _ _ ⟨si,rfl⟩;refine dM z z z ?_
   rcases bs c2 with I | I
   ·refine dRg z z z I z (lN (vs:=[sl A0 N0 C0]) w_ u_ z z fid<|(((hx.e G).e sh).e si).row 0 1 z)<|dRg z z z I z (fd N_ z)<|dRg z z z I z (l0 A_ z<|(aU.e si).at z) ?_
    obtain ⟨_,c4,bg⟩:=bdS<|ifT aB I;have aW:=hn.e si;refine b_M z z z I z (at_ (α:=Int) x_ z_3 z z z (Y.g aW) c4) ?_;rintro _ ⟨_,_,_,rfl,c5,c6,_⟩;obtain ⟨rfl,c7⟩:=O_ c6;refine dRg z z z I z (l0 g_3 z<|c5.at0 z) ?_;obtain ⟨c8,c9,bh⟩:=bdS bg;refine dEg z z z I z (fc call151 z<|e_l c9 (zt' L<|lt_ aV si.s) (a7.g aW) c7) (.inr fun _ _ h=>l_<|h.1) ?_;rintro _ _ ⟨ca,rfl,_⟩;exact dRg z z z I z (a_i z z)<|dR z z (pT z I z)<|dQ z z z<|pD (fun _ q=>⟨decide<|0<c8,som bh,q.k<|s1 z,bup (bup sh si) ca⟩)
   iterate 5 refine dRn z z z I z ?_
   exact dEn z z z I z<|dRn z z z I z<|dR z z (pF z I z)<|dQ z z z<|pD (fun _ q=>⟨false,som<|ifF aB I,q.k<|s1 z,bup sh si⟩)
  rintro cb _ ⟨am,rfl,_,cc⟩;revert cb;refine Wo ?_;obtain rfl:=som bf;exact Wr<|rtO<|d_ hr z ⟨bup (bup h1 G) cc,z⟩
 have aC:=ifF aA ab;refine Ws<|Rq z z z<|Rw z<|Wc z (fun ad=>?_) (fun ad=>?_)
 ·refine Ws<|R z (lN (vs:=vR x2 A3 N3 C3 A4 N4 C4 A2 N2 C2 A5 N5 C5) G_ m_ z z fid<|h6.row 0 8 z) ?_
  have hu:=(h1.ag B).e G;obtain ⟨_,cd,bi⟩:=bdS<|ifT aC ad;refine E z (fc call152 z<|W_w30 cd (zt' L<|lt_ h1.s G.s) a3 a4 V (W.g hu) (a5.g hu) (a6.g hu)<|Y.g hu) ?_;rintro _ _ ⟨ce,rfl⟩;refine Rw z ?_
  obtain rfl:=som bi;exact Wr<|rtO<|d_ hr z ⟨bup (bup h1 G) ce,z⟩
 have aD:=ifF aC ad;refine Ws<|Rq z z z<|Rw z<|Wc z (fun ae=>?_) (fun ae=>?_)
 ·refine Ws<|R z (lN (vs:=[sl A0 N0 C0]) w_ u_ z z fid<|(hx.e G).row 0 1 z)<|R z (lN (vs:=vR x2 A3 N3 C3 A4 N4 C4 A2 N2 C2 A5 N5 C5) G_ m_ z z fid<|h6.row 0 8 z) ?_
  have ho:=(h1.ag B).e G;obtain ⟨_,cf,bj⟩:=bdS<|ifT aD ae;refine E z (fc call153 z<|W_w31 cf (zt' L<|lt_ h1.s G.s) (a7.g ho) a3 a4 V (W.g ho) (a5.g ho) (a6.g ho)<|Y.g ho) ?_;rintro _ _ ⟨cg,rfl⟩;refine Rw z ?_
  obtain rfl:=som bj;exact Wr<|rtO<|d_ hr z ⟨bup (bup h1 G) cg,z⟩
 refine Wq<|Ws<|Rq z z z<|Rw z ?_
 obtain ⟨ch,aE,aF⟩:=bdS<|ifF aD ae;refine Wt (fun a w=>∃(an:Bool),an=ch/\Sat 102 [(3,pt ww.z),(6,vI x2.kind),(80,vB an)] a/\Below J.z J w) ?_ ?_
 ·refine Wc z (fun af=>?_)<|fun af=>?_
  ·exact a_k<|fun _ q=>⟨x2.kind==8,som<|ifT aE af,q.k<|s3 z z z,br J⟩
  exact Wg<|Rq z z z<|Ra z<|Wl (fun _ q=>⟨x2.kind==9,som<|ifF aE af,q.k<|s3 z z z,br J⟩)
 rintro ci aX ⟨an,rfl,_,sd⟩;revert ci;refine Wo<|Wc z (fun ah=>?_) (fun ah=>?_)
 ·refine Ws<|R z (lN (vs:=vR x2 A3 N3 C3 A4 N4 C4 A2 N2 C2 A5 N5 C5) G_ m_ z z fid<|(h6.e sd).row 0 8 z) ?_
  have hv:=((h1.ag B).e G).e sd;obtain ⟨_,cj,bk⟩:=bdS<|ifT aF ah;refine E z (fc call150 z<|d_i cj (zt' L<|lt_ (lt_ h1.s G.s) sd.s) a3 a4 V (W.g hv) (a5.g hv) (a6.g hv) (Y.g hv)<|ii z) ?_;rintro _ _ ⟨ck,rfl⟩;refine Rw z ?_
  obtain rfl:=som bk;exact Wr<|rtO<|d_ hr z ⟨bup (bup (bup h1 G) sd) ck,z⟩
 have aG:=ifF aF ah;refine Ws<|Rq z z z<|Rw z<|Wc z (fun ai=>?_) (fun ai=>?_)
 ·refine Wq ?_;obtain ⟨cl,bm,bn⟩:=bdS<|ifT aG ai;refine Wt (fun a w=>∃(ao:Bool),ao=cl/\Sat 102 [(4,vB ao)] a/\Below aX.z aX w) ?_ ?_
  ·refine Wg ?_;have aY:=h6.e sd;refine R z (lN (vs:=vR x2 A3 N3 C3 A4 N4 C4 A2 N2 C2 A5 N5 C5) G_ m_ z z fid<|aY.row 0 8 z) ?_;have hp:=((h1.ag B).e G).e sd;obtain ⟨cm,cn,aH⟩:=bdS bm;refine E z (fc call150 z<|d_i cn (zt' L<|lt_ (lt_ h1.s G.s) sd.s) a3 a4 V (W.g hp) (a5.g hp) (a6.g hp) (Y.g hp)<|ii z) ?_;rintro _ _ ⟨sm,rfl⟩;refine Rm z ?_
   rcases bs cm with a2 | a2
   ·have aI:=ifT aH a2;refine Rh z a2 (fd b_1 z) ?_;have aZ:=aY.e sm;refine Rh z a2 (l0 R_ z<|aZ.at z) ?_;have b0:=W.g<|hp.e sm
    refine Rh z a2 (lnR o_ z b0)<|Rh z a2 (eql z z)<|R z (pT z a2 z)<|Rm z ?_
    rcases bs ((x2.bytes.length:Int)==1) with a0 | a0
    ·refine Rh z a0 (fd b_1 z)<|Rh z a0 (l0 R_ z<|aZ.at z) ?_
     obtain ⟨co,cp,bo⟩:=bdS<|ifT aI a0;refine RXg z z a0 z (at_ (α:=UInt8) o_ z_5 z z z b0 cp) ?_;rintro _ ⟨_,_,_,rfl,cq,cr,_⟩;obtain rfl:=u8 cr;exact Rh z a0 (l0 g_5 z<|cq.at0 z)<|Rh z a0 (nq z z)<|R z (pT z a0 z)<|Ra z<|Wl (fun _ q=>⟨(byteI co) != (byteI (92:UInt8)),som bo,q.k<|s1 z,sm⟩)
    iterate 5 refine Nh z a0 ?_
    exact R z (pF z a0 z)<|Ra z<|Wl (fun _ q=>⟨false,som<|ifF aI a0,q.k<|s1 z,sm⟩)
   iterate 4 refine Nh z a2 ?_
   exact R z (pF z a2 z)<|Rm z<|Nh z z<|Nh z z<|Nh z z<|Nh z z<|Nh z z<|R z (pF z z z)<|Ra z<|Wl (fun _ q=>⟨false,som<|ifF aH a2,q.k<|s1 z,sm⟩)
  rintro ct _ ⟨ao,rfl,_,cu⟩;revert ct;refine Wo ?_;obtain rfl:=som bn;exact Wr<|rtO<|d_ hr z ⟨bup (bup (bup h1 G) sd) cu,z⟩
 refine Wk<|Ws<|Rw z ?_
 obtain rfl:=som<|ifF aG ai;exact Wr<|d_ hr z ⟨bup (bup h1 G) sd,z⟩
theorem W_w33 {x1:b_}{x2:Int}{res:Bool}(hm:h_i n x1 x2=some res)(V:B<=w0.z)(O:repS w0 B (sl A0 N0 C0) x1.rules)(aU:inI x2):i_ prog 84 [(.agg #[sl A0 N0 C0]),vI x2] w0 (Q7 w0 B res):=by
 unfold h_i at hm
 refine goG func84 z z z fun fn hr=>Ws<|E z (fb z) ?_
 rintro _ bf ⟨rfl,am⟩;have h2:=am.below;have ho:Blk bf w0.z [sl A0 N0 C0]:=am.blk;refine Rw z<|Wq<|Ws<|R z (lN (vs:=[sl A0 N0 C0]) w_ u_ z z fid<|ho.row 0 1 z)<|Rm z ?_
 obtain ⟨_,bg,a8⟩:=bdS hm;refine E z (fc call102 z<|j_D bg (zt' V h2.s) (O.e h2) aU) ?_;rintro _ J ⟨s5,rfl⟩;refine R z (not_ z)<|Wx z (fun hcp=>?_) (fun hcp=>?_)
 ·refine Ws<|Rw z ?_
  obtain rfl:=som<|ifT a8 hcp;exact Wr<|d_ hr z ⟨bup h2 s5,z⟩
 refine Wk<|Ws<|Rf z a_9 z ?_
 have an:=ho.e s5;refine R z (l0 a_d z<|an.at z)<|Rm z ?_
 obtain ⟨L,bh,aV⟩:=bdS<|ifF a8 hcp;have ao:=(h2.ag B).e s5;refine RX z (at_ (α:=e_) a_0 m_ z z z (O.g ao) bh) ?_;rintro _ ⟨_,_,_,rfl,bi,bj,_⟩;obtain ⟨aq,nr,cs,au,nt,cv,aw,nx,cy,ae,nf,cg,rfl,ap,bk,bm,bn,bo,bp,hj⟩:=a_w bj;refine R z (lN (vs:=vR L aq nr cs au nt cv aw nx cy ae nf cg) G_ m_ z z fid bi)<|E z (fa b_l) ?_
 rintro _ bq ⟨rfl,ar⟩;have h4:=ar.below;have av:Blk bq J.z [(Str.v (⟨[]⟩:Str)),vI 0,vI 0,vB false,sl none 0 0,sl none 0 0,sl none 0 0,sl none 0 0]:=ar.blk;refine E0 (fs0 (cur':=vR L aq nr cs au nt cv aw nx cy ae nf cg) m_ z z av z z z z) ?_;rintro _ ax ⟨hk,bt⟩;have h3:=bt.one;refine Wn<|Wq<|Wq ?_
 obtain ⟨bu,aW,a9⟩:=bdS aV;refine Wt (fun a w=>∃(xz:Bool),xz=bu/\Sat 65 [(1,vI x2),(2,pt w0.z),(5,pt J.z),(31,vB xz)] a/\Below ax.z ax w) ?_ ?_
 ·refine Wg<|Rf z d_d z<|R z (l0 g_9 z<|hk.at z) ?_
  obtain ⟨bv,bw,aa⟩:=bdS aW;refine E z (fc call118 z<|j_E bw (zt' V<|lt_ (lt_ (lt_ h2.s s5.s) h4.s) h3.s) ap) ?_;rintro _ _ ⟨sm,rfl⟩;refine R z (not_ z)<|Rm z ?_
  rcases bs (!bv) with G | G
  ·iterate 3 refine Nh z G ?_
   exact Nv z<|Nv z<|Nv z<|Nh z G<|R z (pT z G z)<|Wl (fun _ q=>⟨true,som<|ifT aa G,q.k<|s4 z z z z,sm⟩)
  have ab:=ifF aa G;refine Rh z G (fd c_s z) ?_;have ay:=hk.e sm;refine Rh z G (l0 g_4 z<|ay.at z)<|Rh z G (mv z) ?_
  rcases bs L.little with H | H
  ·exact Rh z H (fd a_e z)<|Rh z H (l0 g_3 z<|ay.at z)<|Rh z H (nq z z)<|Rh z G (pT z H z)<|R z (pF z G z)<|Wl (fun _ q=>⟨L.kind != 1,som<|ifT ab H,q.k<|s4 z z z z,sm⟩)
  iterate 3 refine Nh z H ?_
  exact Rh z G (pF z H z)<|R z (pF z G z)<|Wl (fun _ q=>⟨false,som<|ifF ab H,q.k<|s4 z z z z,sm⟩)
 rintro bx wh ⟨xz,rfl,_,s1⟩;revert bx;refine Wo<|Wc z (fun W=>?_) (fun W=>?_)
 ·refine Ws<|Rw z ?_
  obtain rfl:=som<|ifT a9 W;exact Wr<|d_ hr z ⟨bup (bM (bup (bup h2 s5) h4) h3<|m1<|lt_ h2.s s5.s) s1,z⟩
 refine Wk<|Wq<|Ws<|Rf z a_9 z ?_
 have az:=((an.e h4).c h3<|djs<|mm1 ho.lt s5.s).e s1;refine R z (l0 a_d z<|az.at z)<|Rm z ?_
 obtain ⟨bz,bA,aX⟩:=bdS<|ifF a9 W;have hd:=lt_ h2.s s5.s;have aA:∀k∈[J.z],¬B k:=or0 (f_ lr)<|t_<|zt' V hd;have aB:=((ao.e h4).c h3<|g_ aA).e s1;refine RX z (rX a_0 m_ z z (O.g aB) z z bA) ?_;rintro _ ⟨bB,bC,bD,rfl,a1⟩;refine R z (lnR a_0 z a1)<|Rm z<|Wn ?_
 obtain ⟨_,aY,ad⟩:=bdS aX;refine Wf (σ:=Unit) (ρ:=Bool) (fun (aC:Nat)(_:Unit) a w=>Sat 65 [(1,vI x2),(2,pt w0.z),(5,pt J.z),(35,sl bB bC bD),(36,vI (bz.length:Int)),(37,vI ((aC:Nat):Int))] a/\Below wh.z wh w) (fun (_:Unit) a w=>Sat 65 [(1,vI x2),(2,pt w0.z),(5,pt J.z)] a/\Below wh.z wh w) (rQ prog fn<|Q7 w0 B) aY ?_ ?_ ?_ ?_ ?_
 ·exact fun _ q=>⟨q.k<|s6 z z z z z z,br wh⟩
 ·rintro aC _ _ bE _ af ⟨aZ,sa⟩ b0;refine Wu ?_ aZ;refine Ws<|Rl z z z<|Wn<|Wq<|Wc z (fun _=>?_) (fun hc=>(V_ af hc).elim)
  refine Wk<|Wq<|Wb<|Ws ?_
  obtain ⟨aD,bF,ah⟩:=bdS b0;refine RX z (at_ (α:=e_) a_0 m_ z z z (a1.e sa) bF) ?_;rintro _ ⟨_,_,_,rfl,bG,bH,_⟩;obtain ⟨aE,aF,aG,aH,aI,aJ,aK,aL,aM,aN,aO,aP,rfl,_,_,_,_,_,_,_⟩:=a_w bH;refine R z (lN (vs:=vR aD aE aF aG aH aI aJ aK aL aM aN aO aP) G_ m_ z z fid bG)<|E z (fa b_l) ?_
  rintro _ bI ⟨rfl,aQ⟩;have a2:=aQ.below;refine E0 (fs0 (cur':=vR aD aE aF aG aH aI aJ aK aL aM aN aO aP) m_ z z (aQ.blk:Blk bI bE.z [(Str.v (⟨[]⟩:Str)),vI 0,vI 0,vB false,sl none 0 0,sl none 0 0,sl none 0 0,sl none 0 0]) z z z z) ?_;rintro _ _ ⟨bJ,bK⟩;have a3:=bK.one;refine Wn<|Ws<|Rf z d_d z<|R z (l0 g_9 z<|bJ.at z)<|Rf z d_d z<|R z (l0 g_9 z<|((((hk.e s1).e sa).e a2).c a3<|djs<|mm1 av.lt<|lt_ (lt_ h3.s s1.s) sa.s).at z)<|R z (a_V z z)<|Wx z (fun Y=>?_) (fun Y=>?_)
  ·exact Ws<|Rw z<|Wr<|rtO<|qL (som<|ifT ah Y).symm<|d_ hr z ⟨bM (bup (bup (bup (bM (bup (bup h2 s5) h4) h3<|m1 hd) s1) sa) a2) a3<|m1<|lt_ (lt_ (lt_ (lt_ hd h4.s) h3.s) s1.s) sa.s,z⟩
  exact Wk<|Wg<|R z (inc_ af (lt_ (repS.len a1) D_) z z)<|Rm z<|Wl (fun _ q=>⟨(),(som<|ifF ah Y).symm,⟨q.k<|s6 z z z z z z,bM (bup sa a2) a3<|m1 sa.s⟩⟩)
 ·rintro _ _ _ ⟨b1,bL⟩;refine Wu ?_ b1;refine Ws<|Rl z z z<|Wn<|Wq<|Wc z (fun hc=>(W_ hc).elim) (fun _=>?_)
  exact We<|fun _ q=>⟨rfl,⟨q.k<|s3 z z z,bL⟩⟩
 ·rintro _ bN wi rfl ⟨_,sb⟩;have b2:=elL ad;revert bN;refine Wo<|Wq<|Ws<|Rf z N_ z ?_
  have aR:=(hk.e s1).e sb;refine R z (l0 A_ z<|aR.at z) ?_;have a4:=(((h4.ag B).c h3<|g_ aA).e s1).e sb;refine R z (lnR x_ z<|hj.g a4)<|Rm z<|Wn ?_
  obtain ⟨_,b3,ai⟩:=bdS b2;refine Wf (σ:=Unit) (ρ:=Bool) (fun (a5:Nat)(_:Unit) a w=>Sat 65 [(1,vI x2),(2,pt w0.z),(5,pt J.z),(48,sl ae nf cg),(49,vI (L.kids.length:Int)),(50,vI ((a5:Nat):Int))] a/\Below wi.z wi w) (fun (_:Unit) a w=>Sat 65 [(2,pt w0.z),(5,pt J.z)] a/\Below wi.z wi w) (rQ prog fn<|Q7 w0 B) b3 ?_ ?_ ?_ ?_ ?_
  ·exact fun _ q=>⟨q.k<|s6 z z z z z z,br wi⟩
  ·rintro a5 _ _ wl _ aj ⟨b4,a6⟩ b5;refine Wu ?_ b4;refine Ws<|Rl z z z<|Wn<|Wq<|Wc z (fun _=>?_) (fun hc=>(V_ aj hc).elim)
   refine Wk<|Wq<|Wb<|Ws ?_
   obtain ⟨aS,bO,b6⟩:=bdS b5;refine RX z (at_ (α:=Int) x_ z_3 z z z (hj.g<|a4.e a6) bO) ?_;rintro _ ⟨_,_,_,rfl,bP,bQ,_⟩;obtain ⟨rfl,_⟩:=O_ bQ;refine R z (l0 g_3 z<|bP.at0 z)<|Rw z<|Wq ?_
   obtain ⟨bR,ak,al⟩:=bdS b6;refine Wt (fun a w=>∃(a7:Bool),a7=bR/\Sat 65 [(1,vI x2),(2,pt w0.z),(5,pt J.z),(48,sl ae nf cg),(49,vI (L.kids.length:Int)),(50,vI ((a5:Nat):Int)),(60,vB a7)] a/\Below wl.z wl w) ?_ ?_
   ·refine Wg<|Rm z<|Rl z z z<|Rm z ?_
    rcases bs (decide<|aS<0) with I | I
    ·iterate 3 refine Nh z I ?_
     exact R z (pT z I z)<|Wl (fun _ q=>⟨true,som<|ifT ak I,q.k<|s7 z z z z z z z,br wl⟩)
    exact Rh z I (mv z)<|Rh z I (mv z)<|Rh z I (b_s z z)<|R z (pF z I z)<|Wl (fun _ q=>⟨decide<|x2<=aS,som<|ifF ak I,q.k<|s7 z z z z z z z,br wl⟩)
   rintro bS _ ⟨a7,rfl,_,aT⟩;revert bS;refine Wo<|Wc z (fun a0=>?_) (fun a0=>?_)
   ·exact Ws<|Rw z<|Wr<|rtO<|qL (som<|ifT al a0).symm<|d_ hr z ⟨bup (bup (bup (bup (bM (bup (bup h2 s5) h4) h3<|m1 hd) s1) sb) a6) aT,z⟩
   exact Wk<|Wg<|R z (inc_ aj (lt_ (repS.len hj) D_) z z)<|Rm z<|Wl (fun _ q=>⟨(),(som<|ifF al a0).symm,⟨q.k<|s6 z z z z z z,bup a6 aT⟩⟩)
  ·rintro _ _ _ ⟨b7,bT⟩;refine Wu ?_ b7;refine Ws<|Rl z z z<|Wn<|Wq<|Wc z (fun hc=>(W_ hc).elim) (fun _=>?_)
   exact We<|fun _ q=>⟨rfl,⟨q.k<|s2 z z,bT⟩⟩
  ·rintro _ bU _ rfl ⟨_,sc⟩;have b8:=elL ai;revert bU;refine Wo<|Ws<|R z (lN (vs:=[sl A0 N0 C0]) w_ u_ z z fid<|((az.e sb).e sc).row 0 1 z)<|R z (lN (vs:=vR L aq nr cs au nt cv aw nx cy ae nf cg) G_ m_ z z fid<|(aR.e sc).row 0 8 z) ?_
   have hn:=a4.e sc;obtain ⟨_,bV,b9⟩:=bdS b8;refine E z (fc call120 z<|W_w32 bV (zt' V<|lt_ (lt_ (lt_ (lt_ (lt_ hd h4.s) h3.s) s1.s) sb.s) sc.s) (O.g<|(aB.e sb).e sc) ap bk bm (bn.g hn) (bo.g hn) (bp.g hn)<|hj.g hn) ?_;rintro _ _ ⟨bW,rfl⟩;refine Rw z ?_
   obtain rfl:=som b9;exact Wr<|d_ hr z ⟨bup (bup (bup (bup (bM (bup (bup h2 s5) h4) h3<|m1 hd) s1) sb) sc) bW,z⟩
  rintro _ _ _ _ rfl ⟨rfl,ba⟩;have bb:=elR ai;obtain rfl:=som bb;exact ⟨ba,z⟩
 rintro _ _ _ _ rfl ⟨rfl,bc⟩;have be:=elR ad;obtain rfl:=som be;exact ⟨bc,z⟩
theorem W_w1l {x1:b_}{res:Bool}(hm:f_G n x1=some res)(V:B<=w0.z)(H:repS w0 B (sl A0 N0 C0) x1.rules):i_ prog 45 [(.agg #[sl A0 N0 C0])] w0 (Q7 w0 B res):=by
 unfold f_G at hm
 refine goG func45 z z z fun fn hr=>Ws<|E z (fb z) ?_
 rintro _ wh ⟨rfl,W⟩;have G:=W.below;have Y:Blk wh w0.z [sl A0 N0 C0]:=W.blk;refine Rw z<|Wq<|Ws<|Rf z a_9 z<|R z (l0 a_d z<|Y.at z) ?_
 have h9:=H.e G;refine R z (lnR a_0 z h9) ?_;obtain ⟨_,ei,hma⟩:=bdS hm;refine E z (fc call83 z<|d_h ei (zt' V G.s) (b_D<|repS.len h9) (ii z)<|ii z) ?_;rintro _ I ⟨s1,rfl⟩;refine R z (not_ z)<|Wx z (fun J=>?_) (fun J=>?_)
 ·refine Ws<|Rw z ?_
  obtain rfl:=som<|ifT hma J;exact Wr<|d_ hr z ⟨bup G s1,z⟩
 refine Wk<|Wq<|Ws<|Rf z a_9 z ?_
 have hb:=Y.e s1;refine R z (l0 a_d z<|hb.at z) ?_;have hd:=(G.ag B).e s1;refine R z (lnR a_0 z<|H.g hd)<|Rm z<|Wn ?_
 obtain ⟨_,huj,hmc⟩:=bdS<|ifF hma J;refine Wf (σ:=Unit) (ρ:=Bool) (fun (ke:Nat)(_:Unit) a w=>Sat 20 [(1,pt w0.z),(11,vI (x1.rules.length:Int)),(12,vI ((ke:Nat):Int))] a/\Below I.z I w) (fun (_:Unit) a w=>Sat 20 [] a/\Below I.z I w) (rQ prog fn<|Q7 w0 B) huj ?_ ?_ ?_ ?_ ?_
 ·exact fun _ q=>⟨q.k<|s3 z z z,br I⟩
 ·rintro ke _ _ _ _ L ⟨hSk,s4⟩ hml;refine Wu ?_ hSk;refine Ws<|Rl z z z<|Wn<|Wq<|Wc z (fun _=>?_) (fun hc=>(V_ L hc).elim)
  refine Wk<|Wq<|Wb<|Wm z<|Rw z<|Ws<|R z (lN (vs:=[sl A0 N0 C0]) w_ u_ z z fid<|(hb.e s4).row 0 1 z)<|Rm z ?_
  obtain ⟨_,em,hmf⟩:=bdS hml;refine E z (fc call84 z<|W_w33 em (zt' V<|lt_ (lt_ G.s s1.s) s4.s) (H.g<|hd.e s4)<|ic (Nat.le_of_lt L)<|lt_ (repS.len H) D_) ?_;rintro _ _ ⟨sg,rfl⟩;refine R z (not_ z)<|Wx z (fun O=>?_) (fun O=>?_)
  ·exact Ws<|Rw z<|Wr<|rtO<|qL (som<|ifT hmf O).symm<|d_ hr z ⟨bup (bup (bup G s1) s4) sg,z⟩
  exact Wk<|Wg<|R z (inc_ L (lt_ (repS.len H) D_) z z)<|Rm z<|Wl (fun _ q=>⟨(),(som<|ifF hmf O).symm,⟨q.k<|s3 z z z,bup s4 sg⟩⟩)
 ·rintro _ _ _ ⟨hSn,so⟩;refine Wu ?_ hSn;refine Ws<|Rl z z z<|Wn<|Wq<|Wc z (fun hc=>(W_ hc).elim) (fun _=>?_)
  exact We<|fun _ q=>⟨rfl,⟨q.k sn,so⟩⟩
 ·rintro _ ap _ rfl ⟨_,sq⟩;have hmr:=elL hmc;revert ap;refine Wo<|Ws<|Rw z ?_
  obtain rfl:=som hmr;exact Wr<|d_ hr z ⟨bup (bup G s1) sq,z⟩
 rintro _ _ _ _ rfl ⟨rfl,hqs⟩;have hmt:=elR hmc;obtain rfl:=som hmt;exact ⟨hqs,z⟩
theorem g_2 {x1:b_}{x2:Int}{res:Bool}(hm:d_A n x1 x2=some res)(J:B<=w0.z)(I:repS w0 B (sl A0 N0 C0) x1.rules)(O:inI x2):i_ prog 78 [(.agg #[sl A0 N0 C0]),vI x2] w0 (Q7 w0 B res):=by
 unfold d_A at hm
 refine goG func78 z z z fun fn hr=>Ws<|E z (fb z) ?_
 rintro _ H ⟨rfl,h5⟩;have h1:=h5.below;have h6:Blk H w0.z [sl A0 N0 C0]:=h5.blk;refine Rw z<|Wq ?_
 obtain ⟨u8,V,hma⟩:=bdS hm;refine Wt (fun a w=>∃(x4:Bool),x4=u8/\Sat 12 [(4,vB x4)] a/\Below H.z H w) ?_ ?_
 ·refine Wg<|R z (lN (vs:=[sl A0 N0 C0]) w_ u_ z z fid<|h6.row 0 1 z) ?_
  obtain ⟨rb,ec,L⟩:=bdS V;refine E z (fc call45 z<|W_w1l ec (zt' J h1.s)<|I.e h1) ?_;rintro _ _ ⟨s2,rfl⟩;refine Rm z ?_
  rcases bs rb with G | G
  ·refine Rh z G (lN (vs:=[sl A0 N0 C0]) w_ u_ z z fid<|(h6.e s2).row 0 1 z)<|Rh z G (mv z) ?_
   obtain ⟨rd,ee,hmf⟩:=bdS<|ifT L G;refine Eg z z G z (fc call102 z<|j_D ee (zt' J<|lt_ h1.s s2.s) (I.g<|(h1.ag B).e s2) O) ?_;rintro _ _ ⟨sg,rfl⟩;exact R z (pT z G z)<|Ra z<|Wl (fun _ q=>⟨rd,som hmf,q.k<|s1 z,bup s2 sg⟩)
  iterate 3 refine Nh z G ?_
  exact R z (pF z G z)<|Ra z<|Wl (fun _ q=>⟨false,som<|ifF L G,q.k<|s1 z,s2⟩)
 rintro ah _ ⟨x4,rfl,_,si⟩;revert ah;refine Wo ?_;obtain rfl:=som hma;exact Wr<|d_ hr z ⟨bup h1 si,z⟩
def Q21 (w0:World)(B:Zone)(r:(Option<|Int×Int))(v:Value)(w':World):Prop:=Bw w0 w'/\(fun G=>∃(v1:Value)(S1:List Nat),v1=v/\a_A 119 w' S1 v1 G/\(∀k∈S1,w0.z<=k)) r
theorem d_E {x1:Int}{x2:Int}{res:(Option<|Int×Int)}(hm:b_K x1 x2=some res)(L:B<=w0.z)(H:inI x1)(I:inI x2):i_ prog 112 [vI x1,vI x2] w0 (Q21 w0 B res):=by
 unfold b_K at hm
 refine goG func112 z z z fun fn hr=>Ws<|Rw z<|Wm z<|Rm z<|R z (bP (parts:=[(0,.tmp 5),(1,.tmp 6)]) (cs:=[vI x1,vI x2]) o_m z z)<|E z (fb z) ?_
 rintro _ J ⟨rfl,G⟩;refine R z (m_b d_119 (fun _ h=>by cases h) z)<|Rw z ?_
 obtain rfl:=som hm;exact Wr<|d_ hr z ⟨G.below,.iface 119<|pt w0.z,[w0.z],z,p_t (G.blk:Blk J w0.z [vI x1,vI x2]) H I z,f_ lr⟩
def Q22 (w0:World)(B:Zone)(r:(List UInt8)×(Option<|Int×Int))(v:Value)(w':World):Prop:=Bw w0 w'/\un2 (fun J L=>∃(G:Option Addr)(H I:Nat)(v2:Value)(S2:List Nat),v = .tuple #[sl G H I,v2]/\repS w' w'.z (sl G H I) J/\a_A 119 w' S2 v2 L/\(∀k∈S2,w0.z<=k)) r
theorem h_W {x1:a_t}{b1 o1:Nat}{x2:Int}{x3:Int}{res:(List UInt8)×(Option<|Int×Int)}(hm:e_e x1 x2 x3=some res)(I:B<=w0.z)(a0:repS w0 B (sl A0 N0 C0) x1.d.rules)(H:repS w0 B (sl A1 N1 C1) x1.b)(hC1:P_ w0 b1 o1 [sl A0 N0 C0,sl A1 N1 C1])(hC1b:B b1)(J:inI x2)(a1:inI x3):i_ prog 142 [(.pointer<|some ⟨b1,o1,none⟩),vI x2,vI x3] w0 (Q22 w0 B res):=by
 unfold e_e at hm
 refine goG func142 z z z fun fn hr=>Ws<|Ra z<|Rw z<|Wq<|Wm z<|Rm z<|R z (B_ z)<|Rf z e_T z<|R z (l0 R_ z<|hC1.at (j:=1) z)<|R z (lnR o_ z H)<|Rm z<|R z (sb_ z z)<|R z (a_i z z)<|Wx z (fun G=>?_) (fun G=>?_)
 ·refine Wm z ?_
  obtain ⟨_,V,L⟩:=bdS<|ifT hm G;refine E z (fc call112 z<|d_E (B:=B) V I J<|ii z) ?_;rintro _ _ ⟨s1,v4,W,rfl,h6,Y⟩;refine Ra z<|Rw z ?_
  obtain rfl:=som L;exact Wr<|a_4 hr z z ⟨s1,none,0,0,v4,W,z,repS.mono (or_ onL an_)<|a_p s1.s,h6,Y⟩
 refine Wk<|Wm z<|R z (B_ z)<|Rf z e_T z<|R z (l0 R_ z<|hC1.at (j:=1) z)<|RM z z<|Rm z<|R z (add_ z z) ?_
 obtain ⟨_,e8,O⟩:=bdS<|ifF hm G;refine RX z (rX o_ z_5 z z H z z e8) ?_;rintro _ ⟨aa,nb,cc,rfl,hd⟩;refine Ra z<|Rw z ?_
 obtain rfl:=som O;exact Wr<|a_4 hr z z ⟨br w0,aa,nb,cc,.nilIface,([]:List Nat),z,repS.mono hd I,d_N,an_⟩
theorem j_F {x1:List UInt8}{x2:Bool}{res:Int}(hm:e_M x1 x2=some res)(W:B<=w0.z)(G:repS w0 B (sl A0 N0 C0) x1):i_ prog 143 [sl A0 N0 C0,vB x2] w0 (Q0 w0 B res):=by
 unfold e_M at hm
 refine goG func143 z z z fun fn hr=>Ws<|Rw z<|Wq<|Wm z<|R z (lnR o_ z G)<|R z (a_i z z)<|Wx z (fun I=>?_) (fun I=>?_)
 ·refine Ws<|Rw z ?_
  obtain rfl:=som<|ifT hm I;exact Wr<|d_ hr z ⟨br w0,z,ii z⟩
 refine Wk<|Ws<|Rw z<|Wq<|Wm z<|R z (lnR o_ z G)<|Rm z<|Wn ?_
 obtain ⟨_,huc,L⟩:=bdS<|ifF hm I;refine Wf (σ:=Int) (ρ:=Int) (fun (k5:Nat)(x0:Int) a w=>Sat 38 [(0,sl A0 N0 C0),(1,vB x2),(5,vI x0),(11,vI (x1.length:Int)),(12,vI ((k5:Nat):Int))] a/\Below w0.z w0 w/\inI x0) (fun (x0:Int) a w=>Sat 38 [(5,vI x0)] a/\Below w0.z w0 w/\inI x0) (rQ prog fn<|Q0 w0 B) huc ?_ ?_ ?_ ?_ ?_
 ·exact fun _ q=>⟨q.k<|s5 z z z z z,br w0,ii z⟩
 ·rintro k5 x0 _ H _ O ⟨hSd,s6,h2⟩ hme;refine Wu ?_ hSd;refine Ws<|Rl z z z<|Wn<|Wq<|Wc z (fun _=>?_) (fun hc=>(V_ O hc).elim)
  refine Wk<|Wq<|Wb<|Wm z<|Rw z<|Wm z<|Wn ?_
  obtain ⟨uf,hua,hmg⟩:=bdS hme;refine Wt (fun a w=>∃(x3:Int),x3=uf/\Sat 38 [(0,sl A0 N0 C0),(1,vB x2),(5,vI x3),(11,vI (x1.length:Int)),(12,vI ((k5:Nat):Int))] a/\Below H.z H w/\inI x3) ?_ ?_
  ·refine Wc z (fun J=>?_)<|fun J=>?_
   ·refine Wg<|Rm z<|R z (i_G z z (by decide))<|RM z z ?_
    have hb:=G.e s6;refine R z (lnR o_ z hb)<|R z (sb_ z z)<|Rm z<|R z (sb_ z z) ?_
    obtain ⟨xh,ei,hmj⟩:=bdS<|ifT hua J;refine RX z (at_ (α:=UInt8) o_ z_5 z z z hb ei) ?_;rintro _ ⟨_,_,_,rfl,hk,hl,_⟩;obtain rfl:=u8 hl;exact R z (l0 g_5 z<|hk.at0 z)<|R z (c_e d_5 d_3 z)<|R z (rd_or z z)<|Ra z<|Wl (fun _ q=>⟨c_w .i64 (· ||| ·) (b_E .i64 x0 8)<|byteI xh,som hmj,q.k<|s5 z z z z z,br H,l_Y _ _ _⟩)
   refine Wg<|Rm z<|R z (i_G z z (by decide))<|RM z z ?_
   obtain ⟨xm,en,hmo⟩:=bdS<|ifF hua J;refine RX z (at_ (α:=UInt8) o_ z_5 z z z (G.e s6) en) ?_;rintro _ ⟨_,_,_,rfl,hp,hq,_⟩;obtain rfl:=u8 hq;exact R z (l0 g_5 z<|hp.at0 z)<|R z (c_e d_5 d_3 z)<|R z (rd_or z z)<|Ra z<|Wl (fun _ q=>⟨c_w .i64 (· ||| ·) (b_E .i64 x0 8)<|byteI xm,som hmo,q.k<|s5 z z z z z,br H,l_Y _ _ _⟩)
  rintro ar _ ⟨x3,rfl,_,ss,ht⟩;revert ar;exact Wo<|Wg<|R z (inc_ O (lt_ (repS.len G) D_) z z)<|Rm z<|Wl (fun _ q=>⟨x3,(som hmg).symm,⟨q.k<|s5 z z z z z,bup s6 ss,ht⟩⟩)
 ·rintro x0 _ _ ⟨hSu,sv,h2⟩;refine Wu ?_ hSu;refine Ws<|Rl z z z<|Wn<|Wq<|Wc z (fun hc=>(W_ hc).elim) (fun _=>?_)
  exact We<|fun _ q=>⟨rfl,⟨q.k<|s1 z,sv,h2⟩⟩
 ·rintro x0 aw _ rfl ⟨_,sx,h2⟩;have hmy:=elL L;revert aw;refine Wo<|Wm z<|Rw z ?_
  obtain rfl:=som hmy;exact Wr<|d_ hr z ⟨sx,z,h2⟩
 rintro _ _ _ _ rfl ⟨rfl,hqz⟩;have V:=elR L;obtain rfl:=som V;exact ⟨hqz,z⟩
def Q23 (w0:World)(B:Zone)(r:Int×Int×(Option<|Int×Int))(v:Value)(w':World):Prop:=Bw w0 w'/\un3 (fun G H I=>∃(v1:Value)(S1:List Nat),v = .tuple #[vI G,vI H,v1]/\inI G/\inI H/\a_A 119 w' S1 v1 I/\(∀k∈S1,w0.z<=k)) r
theorem h_X {x1:a_t}{b1 o1:Nat}{x2:Int}{x3:Int}{res:Int×Int×(Option<|Int×Int)}(hm:e_f x1 x2 x3=some res)(L:B<=w0.z)(I:repS w0 B (sl A0 N0 C0) x1.d.rules)(a0:repS w0 B (sl A1 N1 C1) x1.b)(hC1:P_ w0 b1 o1 [sl A0 N0 C0,sl A1 N1 C1])(hC1b:B b1)(ab:inI x2)(J:inI x3):i_ prog 103 [(.pointer<|some ⟨b1,o1,none⟩),vI x2,vI x3] w0 (Q23 w0 B res):=by
 unfold e_f at hm
 refine goG func103 z z z fun fn hr=>Ws<|RA z z<|Rw z<|Wm z<|R z (B_ z)<|Rf z l_f z<|Rf z a_9 z<|R z (l0 a_d z<|hC1.at (j:=0) z)<|Rm z ?_
 obtain ⟨x5,eq,hmr⟩:=bdS hm;refine RX z (at_ (α:=e_) a_0 m_ z z z I eq) ?_;rintro _ ⟨_,_,_,rfl,ht,hu,_⟩;obtain ⟨O,V,W,Y,na,cb,ac,nd,ce,af,ng,ch,rfl,_,_,hv,_,_,_,_⟩:=a_w hu;refine R z (lN (vs:=vR x5 O V W Y na cb ac nd ce af ng ch) G_ m_ z z fid ht)<|E z (fa b_l) ?_
 rintro _ ws ⟨rfl,hi⟩;have G:=hi.below;refine E0 (fs0 (cur':=vR x5 O V W Y na cb ac nd ce af ng ch) m_ z z (hi.blk:Blk ws w0.z [(Str.v (⟨[]⟩:Str)),vI 0,vI 0,vB false,sl none 0 0,sl none 0 0,sl none 0 0,sl none 0 0]) z z z z) ?_;rintro _ _ ⟨hj,sx⟩;have h1:=sx.one;refine Wn<|Wm z<|Rm z<|Rf z a_F z<|R z (l0 g_3 z<|hj.at z) ?_
 have hk:∀k∈[w0.z],¬B k:=or0 (f_ lr)<|t_ L;have hl:=(G.ag B).c h1<|g_ hk
 have hn:=lt_ G.s h1.s;obtain ⟨_,_,ey,hmm⟩:=a_3 hmr;refine E z (fc call142 z<|h_W ey (zt' L hn) (I.g hl) (a0.g hl) ((hC1.e G).c h1<|(g_ hk) _ hC1b) hC1b J hv) ?_;rintro _ wz ⟨s3,_,_,_,a2,a3,rfl,a4,ho,a5⟩;refine Rm z<|Re z z z<|Re z z z<|Ra z<|Rw z<|Wq<|Wm z<|R z (d_n d_e z z ho)<|Wx z (fun H=>?_) (fun H=>?_)
 ·refine Wm z<|Rm z<|RA z z<|Rw z ?_
  obtain rfl:=som<|ifT hmm H;exact Wr<|z_ hr z z z ⟨bup (bM G h1<|f_ lr) s3,a2,a3,z,ii z,J,ho,p_ a5 hn⟩
 refine Wk<|Wq (Wd (X:=noX) 0 (.rd 0<|.rd 1<|.rd 2<|.rd 4<|.rd 5<|.rd 6<|.rd 7<|.ef 3<|.rd 8<|.rd 9<|.rd 10 .done) mo (by kernel_rfl) fun ad s2 _=>dM z z z<|dR z z (fd c_s z) ?_)
 have hp:=(hj.e s3).e s2;refine dR z z (l0 g_4 z<|hp.at z)<|dM z z z<|dR z z (fd a_F z)<|dR z z (l0 g_3 z<|hp.at z)<|dR z z (add_ z z) ?_
 obtain ⟨_,a7,a1⟩:=bdS<|ifF hmm H;refine dE z z (fc call143 z<|j_F (B:=wz.z) a7 (a_p s2.s)<|a4.e s2) (.inr fun _ _ h=>l_<|h.1) ?_;rintro _ _ ⟨a8,rfl,aa⟩
 iterate 3 refine dQ z z z ?_
 refine pD<|Wo ?_
 obtain rfl:=som a1;exact Wr<|z_ hr z z z ⟨bup (bup (bup (bM G h1<|f_ lr) s3) s2) a8,.nilIface,([]:List Nat),z,aa,iA _ _,d_N,an_⟩
def Q24 (w0:World)(B:Zone)(r:Int×(Option<|Int×Int))(v:Value)(w':World):Prop:=Bw w0 w'/\un2 (fun G H=>∃(v1:Value)(S1:List Nat),v = .tuple #[vI G,v1]/\inI G/\a_A 119 w' S1 v1 H/\(∀k∈S1,w0.z<=k)) r
theorem W_w34 {x1:a_t}{b1 o1:Nat}{x2:e_}{x3:Int}{res:Int×(Option<|Int×Int)}(hm:h_t x1 x2 x3=some res)(V:B<=w0.z)(ad:repS w0 B (sl A0 N0 C0) x1.d.rules)(a0:repS w0 B (sl A1 N1 C1) x1.b)(hC1:P_ w0 b1 o1 [sl A0 N0 C0,sl A1 N1 C1])(hC1b:B b1)(ae:x2.name.b.length<=LEN)(af:inI x2.kind)(ah:inI x2.size)(I:repS w0 B (sl A3 N3 C3) x2.bytes)(ai:repS w0 B (sl A4 N4 C4) x2.names)(aj:repS w0 B (sl A2 N2 C2) x2.tags)(ak:repS w0 B (sl A5 N5 C5) x2.kids)(J:inI x3):i_ prog 104 [(.pointer<|some ⟨b1,o1,none⟩),.agg #[Str.v x2.name,vI x2.kind,vI x2.size,vB x2.little,sl A3 N3 C3,sl A4 N4 C4,sl A2 N2 C2,sl A5 N5 C5],vI x3] w0 (Q24 w0 B res):=by
 unfold h_t at hm
 refine goG func104 z z z fun fn hr=>Ws<|E z (fb z) ?_
 rintro _ H ⟨rfl,h6⟩;have G:=h6.below;have Y:Blk H w0.z (vR x2 A3 N3 C3 A4 N4 C4 A2 N2 C2 A5 N5 C5):=h6.blk;refine Ra z<|Rw z<|Wq<|Ws<|Rf z b_1 z<|R z (l0 R_ z<|Y.at z)<|R z (lnR o_ z<|I.e G)<|Rm z<|Wn ?_
 obtain ⟨_,hui,W⟩:=bdS hm;refine Wf (σ:=Unit) (ρ:=Int×(Option<|Int×Int)) (fun (k9:Nat)(_:Unit) a w=>Sat 52 [(0,.pointer<|some ⟨b1,o1,none⟩),(2,vI x3),(4,pt w0.z),(11,sl A3 N3 C3),(12,vI (x2.bytes.length:Int)),(13,vI ((k9:Nat):Int))] a/\Below H.z H w) (fun (_:Unit) a w=>Sat 52 [(2,vI x3),(4,pt w0.z)] a/\Below H.z H w) (rQ prog fn<|Q24 w0 B) hui ?_ ?_ ?_ ?_ ?_
 ·exact fun _ q=>⟨q.k<|s6 z z z z z z,br H⟩
 ·rintro k9 _ _ _ _ hka ⟨hSj,s1⟩ hmk;refine Wu ?_ hSj;refine Ws<|Rl z z z<|Wn<|Wq<|Wc z (fun _=>?_) (fun hc=>(V_ hka hc).elim)
  refine Wk<|Wq<|Wb<|Wm z ?_
  obtain ⟨_,el,hmb⟩:=bdS hmk;have hd:=(G.ag B).e s1;refine RX z (at_ (α:=UInt8) o_ z_5 z z z (I.g hd) el) ?_;rintro _ ⟨_,_,_,rfl,hn,ho,_⟩;obtain rfl:=u8 ho;refine R z (l0 g_5 z<|hn.at0 z)<|Ra z<|Rw z<|Wq<|Wm z<|Rm z<|R z (add_ z z)<|Rm z<|R z (B_ z)<|Rf z e_T z ?_
  have he:=(hC1.e G).e s1;refine R z (l0 R_ z<|he.at (j:=1) z) ?_;have hf:=a0.g hd;refine R z (lnR o_ z hf)<|R z (b_s z z)<|Wx z (fun L=>?_) (fun L=>?_)
  ·refine Wm z<|Rm z ?_
   have hg:=lt_ G.s s1.s;obtain ⟨_,em,hmp⟩:=bdS<|ifT hmb L;refine E z (fc call112 z<|d_E em (zt' V hg) J<|ii z) ?_;rintro _ _ ⟨sq,vr,Ss,rfl,ht,hu⟩;exact Ra z<|Rw z<|Wr<|rtO<|qL (som hmp).symm<|a_4 hr z z ⟨bup (bup G s1) sq,vr,Ss,z,J,ht,p_ hu hg⟩
  refine Wk<|Wm z<|R z (B_ z)<|Rf z e_T z<|R z (l0 R_ z<|he.at (j:=1) z)<|RM z z<|R z (add_ z z) ?_
  obtain ⟨_,ev,hmc⟩:=bdS<|ifF hmb L;refine RX z (at_ (α:=UInt8) o_ z_5 z z z hf ev) ?_;rintro _ ⟨_,_,_,rfl,hw,hx,_⟩;obtain rfl:=u8 hx;refine R z (l0 g_5 z<|hw.at0 z)<|Rm z<|R z (nq z z)<|Wx z (fun O=>?_) (fun O=>?_)
  ·refine Wm z<|RM z z<|R z (add_ z z) ?_
   have hh:=lt_ G.s s1.s;obtain ⟨_,ey,hmz⟩:=bdS<|ifT hmc O;refine E z (fc call112 z<|d_E ey (zt' V hh) (iA _ _)<|ii z) ?_;rintro _ _ ⟨a5,a6,a7,rfl,a8,a9⟩;exact Ra z<|Rw z<|Wr<|rtO<|qL (som hmz).symm<|a_4 hr z z ⟨bup (bup G s1) a5,a6,a7,z,J,a8,p_ a9 hh⟩
  exact Wk<|Wg<|R z (inc_ hka (lt_ (repS.len I) D_) z z)<|Rm z<|Wl (fun _ q=>⟨(),(som<|ifF hmc O).symm,⟨q.k<|s6 z z z z z z,s1⟩⟩)
 ·rintro _ _ _ ⟨a1,aa⟩;refine Wu ?_ a1;refine Ws<|Rl z z z<|Wn<|Wq<|Wc z (fun hc=>(W_ hc).elim) (fun _=>?_)
  exact We<|fun _ q=>⟨rfl,⟨q.k<|s2 z z,aa⟩⟩
 ·rintro _ ab _ rfl ⟨_,s5⟩;have a2:=elL W;revert ab;refine Wo<|Wm z<|Rf z b_1 z<|R z (l0 R_ z<|(Y.e s5).at z)<|R z (lnR o_ z<|I.g<|(G.ag B).e s5)<|R z (add_ z z)<|Ra z<|Rw z ?_
  obtain rfl:=som a2;exact Wr<|a_4 hr z z ⟨bup G s5,.nilIface,([]:List Nat),z,iA _ _,d_N,an_⟩
 rintro _ _ _ _ rfl ⟨rfl,a3⟩;have a4:=elR W;obtain rfl:=som a4;exact ⟨a3,z⟩
def Q25 (w0:World)(B:Zone)(r:Val×Int×(Option<|Int×Int))(v:Value)(w':World):Prop:=Bw w0 w'/\un3 (fun G H W=>∃(I:Option Addr)(J L:Nat)(S1:List Nat)(a2:Option Addr)(O V:Nat)(S2:List Nat)(v3:Value)(S3:List Nat),v = .tuple #[(.agg #[vI G.number,sl I J L,sl a2 O V]),vI H,v3]/\inI G.number/\a_ w' S1 (sl I J L) G.bytes/\a_ w' S2 (sl a2 O V) G.items/\inI H/\a_A 119 w' S3 v3 W/\(∀k∈S3,w0.z<=k)/\(S1++S2).Nodup/\(∀k∈(S1++S2),w0.z<=k)) r
theorem W_w1m {x1:a_t}{b1 o1:Nat}{x2:Int}{x3:Int}{res:Val×Int×(Option<|Int×Int)}(hm:f_O x1 x2 x3=some res)(a2:B<=w0.z)(Y:repS w0 B (sl A0 N0 C0) x1.d.rules)(a0:repS w0 B (sl A1 N1 C1) x1.b)(hC1:P_ w0 b1 o1 [sl A0 N0 C0,sl A1 N1 C1])(hC1b:B b1)(O:inI x2)(a1:inI x3):i_ prog 105 [(.pointer<|some ⟨b1,o1,none⟩),vI x2,vI x3] w0 (Q25 w0 B res):=by
 unfold f_O at hm
 refine goG func105 z z z fun fn hr=>Ws<|E z (fa J_) ?_
 rintro _ wk ⟨rfl,W⟩;have G:=W.below;have h2:Blk wk w0.z [vI 0,sl none 0 0,sl none 0 0]:=W.blk;refine Ra z<|Rw z<|Wm z<|RM z z ?_
 obtain ⟨_,_,el,V⟩:=a_3 hm;refine E z (fc call142 z<|h_W el (zt' a2 G.s) (Y.e G) (a0.e G) (hC1.e G) hC1b O a1) ?_;rintro _ _ ⟨s1,_,_,_,vm,Sn,rfl,ho,ha,hb⟩;refine Rm z<|Re z z z<|Re z z z<|Ra z<|Rw z<|Wq<|Wm z<|R z (d_n d_e z z ha)<|Wx z (fun H=>?_) (fun H=>?_)
 ·refine Ws<|R z (bP (parts:=[]) (cs:=[vI 0,sl none 0 0,sl none 0 0]) L_ z z)<|RM z z<|E0 (fs0 (cur':=[vI 0,sl none 0 0,sl none 0 0]) c_ z z (h2.e s1) z z z z) ?_
  rintro _ _ ⟨hp,sq⟩;have hc:=sq.one;refine Ra z<|Rw z ?_
  obtain rfl:=som<|ifT V H;exact Wr<|z_ hr (q_ r_ c_ z hp z) z z ⟨bM (bup G s1) hc<|f_ lr,none,0,0,[],none,0,0,[],vm,Sn,z,ii z,onL,onL,O,ha.c hc<|n_ hb h2.lt lr,p_ hb G.s,nd0,al0⟩
 refine Wk<|Ws<|E z (f0 (α:=UInt8) a_o) ?_
 rintro _ _ ⟨_,_,_,rfl,s3,ht⟩;refine Rm z ?_;obtain ⟨_,er,hms⟩:=bdS<|ifF V H;refine E z (fN (α:=UInt8) a_o er z z ht a_b<|ho.e s3) ?_;rintro _ _ ⟨Sd,I,J,L,rfl,se,hu,hv,hf⟩;refine R z (bP (parts:=[(1,.tmp 25)]) (cs:=[vI 0,sl I J L,sl none 0 0]) L_ z z)<|RM z z<|R z (add_ z z) ?_
 have hg:=mm1 h2.lt s1.s;refine E0 (fs0 (cur':=[vI 0,sl I J L,sl none 0 0]) c_ z z (((h2.e s1).e s3).c se<|djs hg) z z z z) ?_;rintro _ _ ⟨hw,sx⟩;have hh:=sx.one;refine Ra z<|Rw z ?_
 obtain rfl:=som hms;have hi:=lt_ G.s s1.s;have hj:=m1 hi;exact Wr<|z_ hr (q_ r_ c_ z hw z) z z ⟨bM (bM (bup (bup G s1) s3) se hj) hh<|f_ lr,I,J,L,Sd,none,0,0,[],.nilIface,([]:List Nat),z,ii z,hu.c hh (or1 hf hg (a_f (f_ h2.lt)<|lt_ s1.s s3.s):∀k∈Sd,k∉[w0.z]),onL,iA _ _,d_N,an_,na_ hv a_x<|nmN _,aa_ (a_E hf hj<|lt_ hi s3.s) an_⟩
theorem W_w1n {x1:List UInt8}{res:Int}(hm:f_H x1=some res)(W:B<=w0.z)(G:repS w0 B (sl A0 N0 C0) x1):i_ prog 144 [sl A0 N0 C0] w0 (Q0 w0 B res):=by
 unfold f_H at hm
 refine goG func144 z z z fun fn hr=>Ws<|Rw z<|Ws<|Rw z<|Wq<|Wm z<|R z (lnR o_ z G)<|Rm z<|Wn ?_
 obtain ⟨_,J,H⟩:=bdS hm;refine Wf (σ:=Int) (ρ:=Int) (fun (k3:Nat)(x0:Int) a w=>Sat 19 [(3,vI x0),(6,sl A0 N0 C0),(7,vI (x1.length:Int)),(8,vI ((k3:Nat):Int))] a/\Below w0.z w0 w/\inI x0) (fun (x0:Int) a w=>Sat 19 [(3,vI x0)] a/\Below w0.z w0 w/\inI x0) (rQ prog fn<|Q0 w0 B) J ?_ ?_ ?_ ?_ ?_
 ·exact fun _ q=>⟨q.k<|s4 z z z z,br w0,ii z⟩
 ·rintro k3 x0 _ _ _ I ⟨L,s5,h1⟩ O;refine Wu ?_ L;refine Ws<|Rl z z z<|Wn<|Wq<|Wc z (fun _=>?_) (fun hc=>(V_ I hc).elim)
  refine Wk<|Wq<|Wb<|Ws ?_
  obtain ⟨V,ea,hmb⟩:=bdS O;refine RX z (at_ (α:=UInt8) o_ z_5 z z z (G.e s5) ea) ?_;rintro _ ⟨_,_,_,rfl,hd,he,_⟩;obtain rfl:=u8 he;exact R z (l0 g_5 z<|hd.at0 z)<|Rw z<|Wg<|RM z z<|R z (c_e d_5 d_3 z)<|R z (add_ z z)<|Rw z<|Wg<|R z (inc_ I (lt_ (repS.len G) D_) z z)<|Rm z<|Wl (fun _ q=>⟨j_ x0<|byteI V,(som hmb).symm,⟨q.k<|s4 z z z z,s5,iA _ _⟩⟩)
 ·rintro x0 _ _ ⟨hSc,sf,h1⟩;refine Wu ?_ hSc;refine Ws<|Rl z z z<|Wn<|Wq<|Wc z (fun hc=>(W_ hc).elim) (fun _=>?_)
  exact We<|fun _ q=>⟨rfl,⟨q.k<|s1 z,sf,h1⟩⟩
 ·rintro x0 ag _ rfl ⟨_,sh,h1⟩;have hmi:=elL H;revert ag;refine Wo<|Wm z<|R z (k_n z z (by decide))<|Rw z ?_
  obtain rfl:=som hmi;exact Wr<|d_ hr z ⟨sh,z,k_4 h1⟩
 rintro _ _ _ _ rfl ⟨rfl,hqj⟩;have hmk:=elR H;obtain rfl:=som hmk;exact ⟨hqj,z⟩
theorem W_w1o {x1:List UInt8}{x2:Int}{x3:UInt8}{res:(List UInt8)×Int×Bool}(hm:f_I n x1 x2 x3=some res)(aq:B<=w0.z)(Y:repS w0 B (sl A0 N0 C0) x1)(a0:inI x2):i_ prog 111 [sl A0 N0 C0,vI x2,vU<|byteI x3] w0 (Q10 w0 B res):=by
 unfold f_I at hm
 refine goG func111 z z z fun fn hr=>Ws<|RA z z<|Rw z<|Ws<|E z (f0 (α:=UInt8) a_o) ?_
 rintro _ wg ⟨aj,nk,cl,rfl,s8,hv⟩;refine Rw z<|Wq<|Wq ?_
 obtain ⟨ar,huw,hmx⟩:=bdS hm;refine Wt (fun a w=>∃(xm:Bool),xm=ar/\Sat 58 [(0,sl A0 N0 C0),(1,vI x2),(2,vU<|byteI x3),(9,sl aj nk cl),(19,vB xm)] a/\Below wg.z wg w) ?_ ?_
 ·refine Wg<|Rm z<|Rl z z z<|Rm z ?_
  rcases bs (decide<|x2<0) with I | I
  ·iterate 4 refine Nh z I ?_
   exact R z (pT z I z)<|Wl (fun _ q=>⟨true,som<|ifT huw I,q.k<|s5 z z z z z,br wg⟩)
  exact Rh z I (mv z)<|Rh z I (mv z)<|Rh z I (lnR o_ z<|Y.e s8)<|Rh z I (a_i z z)<|R z (pF z I z)<|Wl (fun _ q=>⟨decide<|(x1.length:Int)<x2,som<|ifF huw I,q.k<|s5 z z z z z,br wg⟩)
 rintro au G ⟨xm,rfl,_,s6⟩;revert au;refine Wo<|Wc z (fun hcn=>?_) (fun hcn=>?_)
 ·refine Wm z<|Rm z<|RA z z<|Rw z ?_
  obtain rfl:=som<|ifT hmx hcn;exact Wr<|z_ hr z z z ⟨bup s8 s6,aj,nk,cl,[w0.z],z,hv.e s6,a0,a_b,f_ lr⟩
 refine Wk<|Wq<|Wm z<|Rw z ?_
 obtain ⟨_,ad,hmy⟩:=bdS<|ifF hmx hcn;refine d_P (σ:=(List UInt8)×Int) (ρ:=(List UInt8)×Int×Bool) (fun s a w=>un2 (fun xb V=>∃J L O H,Sat 58 [(0,sl A0 N0 C0),(1,vI x2),(2,vU<|byteI x3),(9,sl J L O),(10,vI V)] a/\Chg (· ∈ [w0.z]) G w/\a_ w H (sl J L O) xb/\H.Nodup/\(∀k∈H,k∈[w0.z]∨G.z<=k)/\inI V) s) (fun s a w=>un2 (fun xb V=>∃J L O H,Sat 58 [(1,vI x2)] a/\Chg (· ∈ [w0.z]) G w/\a_ w H (sl J L O) xb/\H.Nodup/\(∀k∈H,k∈[w0.z]∨G.z<=k)/\inI V) s) (rQ prog fn<|Q10 w0 B) ad ?_ ?_ ?_ ?_
 ·exact fun _ q=>⟨aj,nk,cl,[w0.z],q.k<|s5 z z z z z,cr [w0.z] G,hv.e s6,a_b,io sr,a0⟩
 ·rintro ⟨xb,V⟩ _ W _ ⟨J,L,O,H,ae,sa,hc,hd,he,ho⟩ af;have hmz:=a_G af;refine Wu ?_ ae;refine Wq<|Wm z<|Rm z ?_
  have a6:=((s8.ag B).e s6).c sa<|g_ (or0 (f_ lr) (t_ aq):∀k∈[w0.z],¬B k)
  have hh:=Y.g a6;refine R z (lnR o_ z hh)<|Rl z z z<|Wx z (fun hcp=>?_) (fun hcp=>?_)
  ·refine Wk<|Wq<|Wb<|Wq<|Wm z<|Rm z ?_
   obtain ⟨_,av,a1⟩:=bdS<|ifT hmz hcp;refine RX z (at_ (α:=UInt8) o_ z_5 z z z hh av) ?_;rintro _ ⟨_,_,_,rfl,aw,ax,_⟩;obtain rfl:=u8 ax;refine R z (l0 g_5 z<|aw.at0 z)<|Rm z<|Rq z z z<|Wx z (fun hcq=>?_) (fun hcq=>?_)
   ·refine Wm z<|Rm z<|R z (add_ z z)<|RA z z<|Rw z ?_
    exact Wr<|rtO<|qL (som<|ifT a1 hcq).symm<|z_ hr z z z ⟨bM (bup s8 s6) sa<|f_ lr,J,L,O,H,z,hc,iA _ _,hd,(or1 he (f_ lr) (c_3<|lt_ s8.s s6.s):∀k∈H,w0.z<=k)⟩
   refine Wk<|Wq<|Wm z<|Rm z ?_
   obtain ⟨_,ay,ah⟩:=bdS<|ifF a1 hcq;refine RX z (at_ (α:=UInt8) o_ z_5 z z z hh ay) ?_;rintro _ ⟨_,_,_,rfl,az,aA,_⟩;obtain rfl:=u8 aA;refine R z (l0 g_5 z<|az.at0 z)<|Rq z z z<|Wn ?_
   obtain ⟨aB,a2,a4⟩:=bdS ah;refine Wt (fun a w=>∃(xf:Int),Sum.inl xf=aB/\Sat 58 [(0,sl A0 N0 C0),(1,vI x2),(2,vU<|byteI x3),(9,sl J L O),(10,vI xf)] a/\Below W.z W w/\inI xf) ?_ ?_
   ·refine Wc z (fun hcr=>?_)<|fun hcr=>?_
    ·have a5:=ifT a2 hcr;refine Wm z<|R z (add_ z z)<|Rw z<|Wm z<|Rm z<|R z (lnR o_ z hh)<|Rq z z z<|Wx z (fun hcs=>?_) (fun hcs=>?_)
     ·obtain rfl:=som<|ifT a5 hcs;have ai:=elR a4;exact We<|exO z (fun _ q=>c_v (som ai).symm ⟨J,L,O,H,q.k<|s1 z,(cM (cr [w0.z] G) sa (io sr):Chg (· ∈ [w0.z]) G W),hc,hd,(or1 he (io sr) (M_ lr):∀k∈H,k∈[w0.z]∨G.z<=k),iA _ _⟩)
     exact a_k<|fun _ q=>⟨j_ V 1,som<|ifF a5 hcs,q.k<|s5 z z z z z,br W,iA _ _⟩
    exact a_k<|fun _ q=>⟨V,som<|ifF a2 hcr,q.k<|s5 z z z z z,br W,ho⟩
   rintro aC a7 ⟨xf,rfl,_,si,_⟩;have ak:=elL a4;revert aC;refine Wo<|Wg<|RM z z<|Rm z ?_
   obtain ⟨aD,aE,al⟩:=bdS ak;refine RX z (at_ (α:=UInt8) o_ z_5 z z z (Y.g<|a6.e si) aE) ?_;rintro _ ⟨_,_,_,rfl,aF,aG,_⟩;obtain rfl:=u8 aG;refine R z (l0 g_5 z<|aF.at0 z)<|E z (fS [(.tmp 53)] a_o z z z (b_V z) (lb z)<|lb z) ?_
   rintro _ a8 ⟨rfl,ht⟩;have hu:=ht.below;have aY:=d_k ht f_6;obtain ⟨aH,aI,am⟩:=bdS al;refine E z (c_u (α:=UInt8) a_o aI z z ((hc.e si).e hu) hd (ht.blk:Blk a8 a7.z [vU (byteI aD)]) f_6 an_ a_x) ?_;rintro _ aJ ⟨a9,aK,aL,aM,rfl,aN,aO,aP,aQ⟩;refine Rw z<|Wg<|Rm z<|R z (add_ z z)<|Ra z<|Wl ?_
   have aa:∀k∈H,k∈[w0.z]∨G.z<=k:=or1 he (io sr)<|M_ lr;exact fun _ q=>⟨(aH,j_ xf 1),(som am).symm,⟨aK,aL,aM,a9,q.k<|s5 z z z z z,(cM (h_ (h_ (cM (cr [w0.z] G) sa (io sr):Chg (· ∈ [w0.z]) G W) si:Chg (· ∈ [w0.z]) G a7) hu:Chg (· ∈ [w0.z]) G a8) aN aa:Chg (· ∈ [w0.z]) G aJ),aO,aP,(or2 aQ aa an_ (M_<|lt_ (lt_ sa.s si.s) hu.s):∀k∈a9,k∈[w0.z]∨G.z<=k),iA _ _⟩⟩
  exact We<|fun _ q=>c_v (som<|ifF hmz hcp).symm ⟨J,L,O,H,q.k<|s1 z,(cM (cr [w0.z] G) sa (io sr):Chg (· ∈ [w0.z]) G W),hc,hd,(or1 he (io sr) (M_ lr):∀k∈H,k∈[w0.z]∨G.z<=k),ho⟩
 ·rintro ⟨xb,V⟩ aR aS rfl ⟨J,L,O,H,_,ab,hc,hd,he,ho⟩;have an:=elL hmy;revert aR;refine Wo<|Ws<|E z (f0 (α:=UInt8) a_o) ?_
  rintro _ _ ⟨aT,aU,aV,rfl,aW,aX⟩;refine Rm z<|RA z z<|Rw z ?_
  obtain rfl:=som<|a_G an;exact Wr<|z_ hr z z z ⟨bup (bM (bup s8 s6) ab<|f_ lr) aW,aT,aU,aV,[aS.z],z,aX,a0,a_b,m1<|lt_ (lt_ s8.s s6.s) ab.s⟩
 rintro _ _ _ _ rfl ⟨rfl,ao⟩;have ap:=elR hmy;obtain rfl:=som ap;exact ⟨ao,z⟩
def Q26 (w0:World)(B:Zone)(S2_1:List Nat)(S2_2:List Nat)(r:Val×Int×(Option<|Int×Int))(v:Value)(w':World):Prop:=Chg (· ∈ (S2_1++S2_2)) w0 w'/\un3 (fun G H W=>∃(I:Option Addr)(J L:Nat)(S1:List Nat)(a2:Option Addr)(O V:Nat)(S2:List Nat)(v3:Value)(S3:List Nat),v = .tuple #[(.agg #[vI G.number,sl I J L,sl a2 O V]),vI H,v3]/\inI G.number/\a_ w' S1 (sl I J L) G.bytes/\a_ w' S2 (sl a2 O V) G.items/\inI H/\a_A 119 w' S3 v3 W/\(∀k∈S3,w0.z<=k)/\(S1++S2).Nodup/\(∀k∈(S1++S2),k∈(S2_1++S2_2)∨w0.z<=k)) r
structure j_G (f:a_t->Int->Int->Option (Val×Int×(Option<|Int×Int))):Prop where
  run:∀{A0 A1:Option Addr}{N0 C0 N1 C1 b1 o1:Nat}{B:Zone}{x1:a_t}{x2:Int}{x3:Int}{res:Val×Int×(Option<|Int×Int)}{w0:World}(hm:f x1 x2 x3=some res)(hBw:B<=w0.z)(p1_0:repS w0 B (sl A0 N0 C0) x1.d.rules)(p1_1:repS w0 B (sl A1 N1 C1) x1.b)(hC1:P_ w0 b1 o1 [sl A0 N0 C0,sl A1 N1 C1])(hC1b:B b1)(p2_0:inI x2)(p3_0:inI x3),i_ prog 79 [(.pointer<|some ⟨b1,o1,none⟩),vI x2,vI x3] w0<|Q25 w0 B res
structure j_H (f:a_t->e_->Int->Option (Val×Int×(Option<|Int×Int))):Prop where
  run:∀{A0 A1 A3 A4 A2 A5:Option Addr}{N0 C0 N1 C1 b1 o1 N3 C3 N4 C4 N2 C2 N5 C5:Nat}{B:Zone}{x1:a_t}{x2:e_}{x3:Int}{res:Val×Int×(Option<|Int×Int)}{w0:World}(hm:f x1 x2 x3=some res)(hBw:B<=w0.z)(p1_0:repS w0 B (sl A0 N0 C0) x1.d.rules)(p1_1:repS w0 B (sl A1 N1 C1) x1.b)(hC1:P_ w0 b1 o1 [sl A0 N0 C0,sl A1 N1 C1])(hC1b:B b1)(p2_0:x2.name.b.length<=LEN)(p2_1:inI x2.kind)(p2_2:inI x2.size)(p2_4:repS w0 B (sl A3 N3 C3) x2.bytes)(p2_5:repS w0 B (sl A4 N4 C4) x2.names)(p2_6:repS w0 B (sl A2 N2 C2) x2.tags)(p2_7:repS w0 B (sl A5 N5 C5) x2.kids)(p3_0:inI x3),i_ prog 106 [(.pointer<|some ⟨b1,o1,none⟩),.agg #[Str.v x2.name,vI x2.kind,vI x2.size,vB x2.little,sl A3 N3 C3,sl A4 N4 C4,sl A2 N2 C2,sl A5 N5 C5],vI x3] w0<|Q25 w0 B res
structure j_I (f:a_t->Val->(List Int)->Int->Option (Val×Int×(Option<|Int×Int))):Prop where
  run:∀{A0 A1 A9 AG A7:Option Addr}{N0 C0 N1 C1 b1 o1 N9 C9 NG CG N7 C7:Nat}{S2_1 S2_2:List Nat}{B:Zone}{x1:a_t}{x2:Val}{x3:List Int}{x4:Int}{res:Val×Int×(Option<|Int×Int)}{w0:World}(hm:f x1 x2 x3 x4=some res)(hBw:B<=w0.z)(p1_0:repS w0 B (sl A0 N0 C0) x1.d.rules)(p1_1:repS w0 B (sl A1 N1 C1) x1.b)(hC1:P_ w0 b1 o1 [sl A0 N0 C0,sl A1 N1 C1])(hC1b:B b1)(p2_0:inI x2.number)(p2_1:a_ w0 S2_1 (sl A9 N9 C9) x2.bytes)(p2_1n:S2_1.Nodup)(p2_1g:∀k∈S2_1,¬B k)(p2_2:a_ w0 S2_2 (sl AG NG CG) x2.items)(p2_2n:S2_2.Nodup)(p2_2g:∀k∈S2_2,¬B k)(p2_2d1:∀k∈S2_2,k∉S2_1)(p3_0:repS w0 B (sl A7 N7 C7) x3)(p4_0:inI x4),i_ prog 107 [(.pointer<|some ⟨b1,o1,none⟩),.agg #[vI x2.number,sl A9 N9 C9,sl AG NG CG],sl A7 N7 C7,vI x4] w0<|Q26 w0 B S2_1 S2_2 res
structure j_J (f:a_t->e_->Int->Option (Val×Int×(Option<|Int×Int))):Prop where
  run:∀{A0 A1 A3 A4 A2 A5:Option Addr}{N0 C0 N1 C1 b1 o1 N3 C3 N4 C4 N2 C2 N5 C5:Nat}{B:Zone}{x1:a_t}{x2:e_}{x3:Int}{res:Val×Int×(Option<|Int×Int)}{w0:World}(hm:f x1 x2 x3=some res)(hBw:B<=w0.z)(p1_0:repS w0 B (sl A0 N0 C0) x1.d.rules)(p1_1:repS w0 B (sl A1 N1 C1) x1.b)(hC1:P_ w0 b1 o1 [sl A0 N0 C0,sl A1 N1 C1])(hC1b:B b1)(p2_0:x2.name.b.length<=LEN)(p2_1:inI x2.kind)(p2_2:inI x2.size)(p2_4:repS w0 B (sl A3 N3 C3) x2.bytes)(p2_5:repS w0 B (sl A4 N4 C4) x2.names)(p2_6:repS w0 B (sl A2 N2 C2) x2.tags)(p2_7:repS w0 B (sl A5 N5 C5) x2.kids)(p3_0:inI x3),i_ prog 108 [(.pointer<|some ⟨b1,o1,none⟩),.agg #[Str.v x2.name,vI x2.kind,vI x2.size,vB x2.little,sl A3 N3 C3,sl A4 N4 C4,sl A2 N2 C2,sl A5 N5 C5],vI x3] w0<|Q25 w0 B res
structure j_K (f:a_t->e_->Int->Option (Val×Int×(Option<|Int×Int))):Prop where
  run:∀{A0 A1 A3 A4 A2 A5:Option Addr}{N0 C0 N1 C1 b1 o1 N3 C3 N4 C4 N2 C2 N5 C5:Nat}{B:Zone}{x1:a_t}{x2:e_}{x3:Int}{res:Val×Int×(Option<|Int×Int)}{w0:World}(hm:f x1 x2 x3=some res)(hBw:B<=w0.z)(p1_0:repS w0 B (sl A0 N0 C0) x1.d.rules)(p1_1:repS w0 B (sl A1 N1 C1) x1.b)(hC1:P_ w0 b1 o1 [sl A0 N0 C0,sl A1 N1 C1])(hC1b:B b1)(p2_0:x2.name.b.length<=LEN)(p2_1:inI x2.kind)(p2_2:inI x2.size)(p2_4:repS w0 B (sl A3 N3 C3) x2.bytes)(p2_5:repS w0 B (sl A4 N4 C4) x2.names)(p2_6:repS w0 B (sl A2 N2 C2) x2.tags)(p2_7:repS w0 B (sl A5 N5 C5) x2.kids)(p3_0:inI x3),i_ prog 109 [(.pointer<|some ⟨b1,o1,none⟩),.agg #[Str.v x2.name,vI x2.kind,vI x2.size,vB x2.little,sl A3 N3 C3,sl A4 N4 C4,sl A2 N2 C2,sl A5 N5 C5],vI x3] w0<|Q25 w0 B res
structure j_L (f:a_t->e_->Int->Option (Val×Int×(Option<|Int×Int))):Prop where
  run:∀{A0 A1 A3 A4 A2 A5:Option Addr}{N0 C0 N1 C1 b1 o1 N3 C3 N4 C4 N2 C2 N5 C5:Nat}{B:Zone}{x1:a_t}{x2:e_}{x3:Int}{res:Val×Int×(Option<|Int×Int)}{w0:World}(hm:f x1 x2 x3=some res)(hBw:B<=w0.z)(p1_0:repS w0 B (sl A0 N0 C0) x1.d.rules)(p1_1:repS w0 B (sl A1 N1 C1) x1.b)(hC1:P_ w0 b1 o1 [sl A0 N0 C0,sl A1 N1 C1])(hC1b:B b1)(p2_0:x2.name.b.length<=LEN)(p2_1:inI x2.kind)(p2_2:inI x2.size)(p2_4:repS w0 B (sl A3 N3 C3) x2.bytes)(p2_5:repS w0 B (sl A4 N4 C4) x2.names)(p2_6:repS w0 B (sl A2 N2 C2) x2.tags)(p2_7:repS w0 B (sl A5 N5 C5) x2.kids)(p3_0:inI x3),i_ prog 110 [(.pointer<|some ⟨b1,o1,none⟩),.agg #[Str.v x2.name,vI x2.kind,vI x2.size,vB x2.little,sl A3 N3 C3,sl A4 N4 C4,sl A2 N2 C2,sl A5 N5 C5],vI x3] w0<|Q25 w0 B res
abbrev e_m (n:Nat):Prop:=j_G (a_c n).impl_fileReader_value/\j_H (a_c n).impl_fileReader_array/\j_I (a_c n).impl_fileReader_items/\j_J (a_c n).impl_fileReader_choice/\j_K (a_c n).impl_fileReader_option/\j_L (a_c n).impl_fileReader_checked
theorem T_w02 (ih:e_m n):j_G (h_u n<|a_c n):=by
 obtain ⟨_,d5,d6,d7,d8,d9⟩:=ih
 constructor
 intro A0 A1 N0 C0 N1 C1 b1 o1 B x1 x2 x3 res w0 hm H L O hC1 hC1b cS I;unfold h_u at hm
 refine goG func79 z z z fun fn hr=>Ws<|E z (fa J_) ?_
 rintro _ J ⟨rfl,bh⟩;have h2:=bh.below;have h3:Blk J w0.z [vI 0,sl none 0 0,sl none 0 0]:=bh.blk;refine Ra z<|Rw z<|Wm z<|R z (B_ z)<|Rf z l_f z<|Rf z a_9 z ?_
 have h5:=hC1.e h2;refine R z (l0 a_d z<|h5.at (j:=0) z)<|Rm z ?_
 obtain ⟨W,da,b5⟩:=bdS hm;refine RX z (at_ (α:=e_) a_0 m_ z z z (L.e h2) da) ?_;rintro _ ⟨_,_,_,rfl,db,dc,_⟩;obtain ⟨aa,nb,cc,ad,ne,cf,ah,ng,ci,aj,nk,cl,rfl,hq,ht,ho,hp,hu,hv,hn⟩:=a_w dc;refine R z (lN (vs:=vR W aa nb cc ad ne cf ah ng ci aj nk cl) G_ m_ z z fid db)<|E z (fa b_l) ?_
 rintro _ dd ⟨rfl,bi⟩;have G:=bi.below;refine E0 (fs0 (cur':=vR W aa nb cc ad ne cf ah ng ci aj nk cl) m_ z z (bi.blk:Blk dd J.z [(Str.v (⟨[]⟩:Str)),vI 0,vI 0,vB false,sl none 0 0,sl none 0 0,sl none 0 0,sl none 0 0]) z z z z) ?_;rintro _ _ ⟨V,de⟩;have h1:=de.one;refine Wn<|Wq<|Ws<|Rf z a_e z<|R z (l0 g_3 z<|V.at z)<|Wn<|Wb<|Ws<|Rq z z z<|Rw z<|Wc z (fun hcr=>?_) (fun hcr=>?_)
 ·refine Wm z<|RM z z ?_
  have bj:∀k∈[J.z],¬B k:=or0 (f_ lr)<|t_<|zt' H h2.s;have bk:=((h2.ag B).e G).c h1<|g_ bj
  have bm:=lt_ (lt_ h2.s G.s) h1.s;obtain ⟨bn,_,_,df,cT⟩:=I_<|ifT b5 hcr;refine E z (fc call103 z<|h_X df (zt' H bm) (L.g bk) (O.g bk) ((h5.e G).c h1<|(g_ bj) _ hC1b) hC1b cS I) ?_;rintro _ _ ⟨bo,dg,dh,rfl,di,dj,dk,bp⟩;refine Rm z ?_
  iterate 3 refine Re z z z ?_
  refine RA z z<|Rw z<|Wm z<|R z (bP (parts:=[(0,.tmp 41)]) (cs:=[vI bn,sl none 0 0,sl none 0 0]) L_ z z)<|RM z z<|E0 (fs0 (cur':=[vI bn,sl none 0 0,sl none 0 0]) c_ z z (((h3.e G).c h1<|djs<|mmr h3.lt).e bo) z z z z) ?_
  rintro _ _ ⟨dl,dm⟩;have bq:=dm.one;refine Ra z<|Rw z ?_
  obtain rfl:=som cT;exact Wr<|rtO<|z_ hr (q_ r_ c_ z dl z) z z ⟨bM (bup (bM (bup h2 G) h1<|m1 h2.s) bo) bq<|f_ lr,none,0,0,[],none,0,0,[],dg,dh,z,di,onL,onL,dj,dk.c bq<|n_ bp h3.lt<|lt_ G.s h1.s,p_ bp bm,nd0,al0⟩
 have b6:=ifF b5 hcr;refine Ws<|Rq z z z<|Rw z<|Wc z (fun hcs=>?_) (fun hcs=>?_)
 ·refine Wm z<|R z (lN (vs:=vR W aa nb cc ad ne cf ah ng ci aj nk cl) G_ m_ z z fid<|V.row 0 8 z)<|Rm z ?_
  have aC:∀k∈[J.z],¬B k:=or0 (f_ lr)<|t_<|zt' H h2.s;have br:=((h2.ag B).e G).c h1<|g_ aC
  have hw:=(G.ag B).c h1<|g_ aC
  have bs:=lt_ (lt_ h2.s G.s) h1.s;obtain ⟨_,_,dn,cU⟩:=a_3<|ifT b6 hcs;refine E z (fc call104 z<|W_w34 dn (zt' H bs) (L.g br) (O.g br) ((h5.e G).c h1<|(g_ aC) _ hC1b) hC1b hq ht ho (hp.g hw) (hu.g hw) (hv.g hw) (hn.g hw) I) ?_;rintro _ _ ⟨bt,dp,dq,rfl,dr,ds,bu⟩;refine Rm z<|Re z z z<|Re z z z<|Ra z<|Rw z<|Ws<|R z (bP (parts:=[]) (cs:=[vI 0,sl none 0 0,sl none 0 0]) L_ z z)<|RM z z<|E0 (fs0 (cur':=[vI 0,sl none 0 0,sl none 0 0]) c_ z z (((h3.e G).c h1<|djs<|mmr h3.lt).e bt) z z z z) ?_
  rintro _ _ ⟨dt,du⟩;have bv:=du.one;refine Ra z<|Rw z ?_
  obtain rfl:=som cU;exact Wr<|rtO<|z_ hr (q_ r_ c_ z dt z) z z ⟨bM (bup (bM (bup h2 G) h1<|m1 h2.s) bt) bv<|f_ lr,none,0,0,[],none,0,0,[],dp,dq,z,ii z,onL,onL,dr,ds.c bv<|n_ bu h3.lt<|lt_ G.s h1.s,p_ bu bs,nd0,al0⟩
 have b7:=ifF b6 hcs;refine Ws<|Rq z z z<|Rw z<|Wc z (fun ar=>?_) (fun ar=>?_)
 ·refine Wm z<|Rm z<|Rf z a_F z<|R z (l0 g_3 z<|V.at z) ?_
  have bw:∀k∈[J.z],¬B k:=or0 (f_ lr)<|t_<|zt' H h2.s;have bx:=((h2.ag B).e G).c h1<|g_ bw
  have hx:=lt_ (lt_ h2.s G.s) h1.s;obtain ⟨dv,_,_,dw,cV⟩:=I_<|ifT b7 ar;refine E z (fc call105 z<|W_w1m dw (zt' H hx) (L.g bx) (O.g bx) ((h5.e G).c h1<|(g_ bw) _ hC1b) hC1b I ho) ?_;rintro _ _ ⟨bz,bA,bB,bC,dx,bD,bE,bF,dy,dz,dA,rfl,dB,dC,dD,dF,dG,bG,aD,hy⟩
  iterate 3 refine Re z z z ?_
  refine E0 (fs0 (cur':=[vI dv.number,sl bA bB bC,sl bD bE bF]) c_ z z (((h3.e G).c h1<|djs<|mmr h3.lt).e bz) z z z z) ?_;rintro _ _ ⟨dH,dI⟩;have hz:=dI.one;refine Ra z<|Rw z ?_
  obtain rfl:=som cV;have aE:=lt_ G.s h1.s;exact Wr<|rtO<|z_ hr (q_ r_ c_ z dH z) z z ⟨bM (bup (bM (bup h2 G) h1<|m1 h2.s) bz) hz<|f_ lr,bA,bB,bC,dx,bD,bE,bF,dy,dz,dA,z,dB,dC.c hz<|n_ (al_ hy) h3.lt aE,dD.c hz<|n_ (ar_ hy) h3.lt aE,dF,dG.c hz<|n_ bG h3.lt aE,p_ bG hx,na_ (nl_ aD) (nr_ aD)<|nj aD,aa_ (p_ (al_ hy) hx)<|p_ (ar_ hy) hx⟩
 have b8:=ifF b7 ar;refine Ws<|Rq z z z<|Rw z<|Wc z (fun au=>?_) (fun au=>?_)
 ·refine Wm z<|Rf z N_ z<|R z (l0 A_ z<|V.at z) ?_
  obtain ⟨_,dJ,cW⟩:=bdS<|ifT b8 au;have aF:∀k∈[J.z],¬B k:=or0 (f_ lr)<|t_<|zt' H h2.s;refine RX z (at_ (α:=Int) x_ z_3 z z z (hn.g<|(G.ag B).c h1<|g_ aF) dJ) ?_;rintro _ ⟨_,_,_,rfl,dK,dL,_⟩;obtain ⟨rfl,dN⟩:=O_ dL;refine R z (l0 g_3 z<|dK.at0 z)<|Rm z ?_
  have bH:=(h5.e G).c h1<|(g_ aF) _ hC1b
  have aG:=((h2.ag B).e G).c h1<|g_ aF
  have aH:=lt_ (lt_ h2.s G.s) h1.s;obtain ⟨_,_,_,dO,b9⟩:=I_ cW;refine E z (fc call103 z<|h_X dO (zt' H aH) (L.g aG) (O.g aG) bH hC1b dN I) ?_;rintro _ _ ⟨s8,dP,dS,rfl,dT,dU,bI,bJ⟩;refine Rm z ?_
  iterate 3 refine Re z z z ?_
  refine RA z z<|Rw z<|Wq<|Wm z<|R z (d_n d_e z z bI)<|Wx z (fun av=>?_) (fun av=>?_)
  ·refine Ws<|R z (bP (parts:=[]) (cs:=[vI 0,sl none 0 0,sl none 0 0]) L_ z z)<|RM z z<|E0 (fs0 (cur':=[vI 0,sl none 0 0,sl none 0 0]) c_ z z (((h3.e G).c h1<|djs<|mmr h3.lt).e s8) z z z z) ?_
   rintro _ _ ⟨dV,dW⟩;have bK:=dW.one;refine Ra z<|Rw z ?_
   obtain rfl:=som<|ifT b9 av;exact Wr<|rtO<|z_ hr (q_ r_ c_ z dV z) z z ⟨bM (bup (bM (bup h2 G) h1<|m1 h2.s) s8) bK<|f_ lr,none,0,0,[],none,0,0,[],dP,dS,z,ii z,onL,onL,I,bI.c bK<|n_ bJ h3.lt<|lt_ G.s h1.s,p_ bJ aH,nd0,al0⟩
  refine Wk<|Wm z<|RM z z ?_
  have bL:=aG.e s8;have Y:=lt_ aH s8.s;obtain ⟨dX,_,_,dY,cX⟩:=I_<|ifF b9 av;refine E z (fc call105 z<|W_w1m dY (zt' H Y) (L.g bL) (O.g bL) (bH.e s8) hC1b dU dT) ?_;rintro _ _ ⟨bN,bO,bQ,bR,dZ,bS,bT,bU,e0,e1,e2,rfl,e3,e4,e5,e6,e7,bV,aI,a0⟩
  iterate 3 refine Re z z z ?_
  refine E0 (fs0 (cur':=[vI dX.number,sl bO bQ bR,sl bS bT bU]) c_ z z ((((h3.e G).c h1<|djs<|mmr h3.lt).e s8).e bN) z z z z) ?_;rintro _ _ ⟨e8,e9⟩;have a1:=e9.one;refine Ra z<|Rw z ?_
  obtain rfl:=som cX;have aJ:=lt_ (lt_ G.s h1.s) s8.s;exact Wr<|rtO<|z_ hr (q_ r_ c_ z e8 z) z z ⟨bM (bup (bup (bM (bup h2 G) h1<|m1 h2.s) s8) bN) a1<|f_ lr,bO,bQ,bR,dZ,bS,bT,bU,e0,e1,e2,z,e3,e4.c a1<|n_ (al_ a0) h3.lt aJ,e5.c a1<|n_ (ar_ a0) h3.lt aJ,e6,e7.c a1<|n_ bV h3.lt aJ,p_ bV Y,na_ (nl_ aI) (nr_ aI)<|nj aI,aa_ (p_ (al_ a0) Y)<|p_ (ar_ a0) Y⟩
 have ba:=ifF b8 au;refine Ws<|Rq z z z<|Rw z<|Wc z (fun aw=>?_) (fun aw=>?_)
 ·refine Wm z<|R z (lN (vs:=vR W aa nb cc ad ne cf ah ng ci aj nk cl) G_ m_ z z fid<|V.row 0 8 z)<|Rm z ?_
  have aK:∀k∈[J.z],¬B k:=or0 (f_ lr)<|t_<|zt' H h2.s;have bW:=((h2.ag B).e G).c h1<|g_ aK
  have a2:=(G.ag B).c h1<|g_ aK
  have a3:=lt_ (lt_ h2.s G.s) h1.s;obtain ⟨ea,_,_,eb,cY⟩:=I_<|ifT ba aw;refine E z (fc call106 z<|d5.run eb (zt' H a3) (L.g bW) (O.g bW) ((h5.e G).c h1<|(g_ aK) _ hC1b) hC1b hq ht ho (hp.g a2) (hu.g a2) (hv.g a2) (hn.g a2) I) ?_;rintro _ _ ⟨bX,bY,bZ,c0,ec,c1,c2,c3,ed,ee,ef,rfl,eg,eh,ei,ej,ek,c4,aL,a4⟩
  iterate 3 refine Re z z z ?_
  refine E0 (fs0 (cur':=[vI ea.number,sl bY bZ c0,sl c1 c2 c3]) c_ z z (((h3.e G).c h1<|djs<|mmr h3.lt).e bX) z z z z) ?_;rintro _ _ ⟨em,en⟩;have a5:=en.one;refine Ra z<|Rw z ?_
  obtain rfl:=som cY;have aM:=lt_ G.s h1.s;exact Wr<|rtO<|z_ hr (q_ r_ c_ z em z) z z ⟨bM (bup (bM (bup h2 G) h1<|m1 h2.s) bX) a5<|f_ lr,bY,bZ,c0,ec,c1,c2,c3,ed,ee,ef,z,eg,eh.c a5<|n_ (al_ a4) h3.lt aM,ei.c a5<|n_ (ar_ a4) h3.lt aM,ej,ek.c a5<|n_ c4 h3.lt aM,p_ c4 a3,na_ (nl_ aL) (nr_ aL)<|nj aL,aa_ (p_ (al_ a4) a3)<|p_ (ar_ a4) a3⟩
 have bb:=ifF ba aw;refine Ws<|Rq z z z<|Rw z<|Wc z (fun ax=>?_) (fun ax=>?_)
 ·refine Wm z<|R z (bP (parts:=[]) (cs:=[vI 0,sl none 0 0,sl none 0 0]) L_ z z)<|Rf z N_ z<|R z (l0 A_ z<|V.at z)<|Rm z ?_
  have aN:∀k∈[J.z],¬B k:=or0 (f_ lr)<|t_<|zt' H h2.s;have c5:=((h2.ag B).e G).c h1<|g_ aN
  have a6:=lt_ (lt_ h2.s G.s) h1.s;obtain ⟨eo,_,_,ep,cZ⟩:=I_<|ifT bb ax;refine E z (fc call107 z<|d6.run (B:=B) (x2:=(⟨0,([]:List UInt8),([]:List Val)⟩:Val)) ep (zt' H a6) (L.g c5) (O.g c5) ((h5.e G).c h1<|(g_ aN) _ hC1b) hC1b (ii z) onL a_x an_ onL a_x an_ an_ (hn.g<|(G.ag B).c h1<|g_ aN) I) ?_;rintro _ _ ⟨c6,c7,c8,c9,ca,cb,cd,ce,cg,er,es,rfl,eu,ew,ex,ey,ez,ch,aO,a7⟩
  iterate 3 refine Re z z z ?_
  refine E0 (fs0 (cur':=[vI eo.number,sl c7 c8 c9,sl cb cd ce]) c_ z z (((h3.e G).c h1<|djs<|mmr h3.lt).c c6<|atp<|nmA (nmN _)<|nmN _) z z z z) ?_;rintro _ _ ⟨eA,eB⟩;have a8:=eB.one;refine Ra z<|Rw z ?_
  obtain rfl:=som cZ;have aP:=lt_ G.s h1.s;exact Wr<|rtO<|z_ hr (q_ r_ c_ z eA z) z z ⟨bM (bM (bM (bup h2 G) h1<|m1 h2.s) c6 al0) a8<|f_ lr,c7,c8,c9,ca,cb,cd,ce,cg,er,es,z,eu,ew.c a8 (or1 (al_ a7) al0 (a_f (f_ h3.lt) aP):∀k∈ca,k∉[w0.z]),ex.c a8 (or1 (ar_ a7) al0 (a_f (f_ h3.lt) aP):∀k∈cg,k∉[w0.z]),ey,ez.c a8<|n_ ch h3.lt aP,p_ ch a6,na_ (nl_ aO) (nr_ aO)<|nj aO,aa_ (a_E (al_ a7) al0 a6)<|a_E (ar_ a7) al0 a6⟩
 have bc:=ifF bb ax;refine Ws<|Rq z z z<|Rw z<|Wc z (fun ay=>?_) (fun ay=>?_)
 ·refine Wm z<|R z (lN (vs:=vR W aa nb cc ad ne cf ah ng ci aj nk cl) G_ m_ z z fid<|V.row 0 8 z)<|Rm z ?_
  have aQ:∀k∈[J.z],¬B k:=or0 (f_ lr)<|t_<|zt' H h2.s;have cj:=((h2.ag B).e G).c h1<|g_ aQ
  have a9:=(G.ag B).c h1<|g_ aQ
  have ab:=lt_ (lt_ h2.s G.s) h1.s;obtain ⟨eC,_,_,eD,d0⟩:=I_<|ifT bc ay;refine E z (fc call108 z<|d7.run eD (zt' H ab) (L.g cj) (O.g cj) ((h5.e G).c h1<|(g_ aQ) _ hC1b) hC1b hq ht ho (hp.g a9) (hu.g a9) (hv.g a9) (hn.g a9) I) ?_;rintro _ _ ⟨ck,cm,cn,co,eE,cp,cq,cr,eF,eG,eH,rfl,eI,eJ,eK,eL,eM,ct,aR,ae⟩
  iterate 3 refine Re z z z ?_
  refine E0 (fs0 (cur':=[vI eC.number,sl cm cn co,sl cp cq cr]) c_ z z (((h3.e G).c h1<|djs<|mmr h3.lt).e ck) z z z z) ?_;rintro _ _ ⟨eN,eO⟩;have af:=eO.one;refine Ra z<|Rw z ?_
  obtain rfl:=som d0;have aS:=lt_ G.s h1.s;exact Wr<|rtO<|z_ hr (q_ r_ c_ z eN z) z z ⟨bM (bup (bM (bup h2 G) h1<|m1 h2.s) ck) af<|f_ lr,cm,cn,co,eE,cp,cq,cr,eF,eG,eH,z,eI,eJ.c af<|n_ (al_ ae) h3.lt aS,eK.c af<|n_ (ar_ ae) h3.lt aS,eL,eM.c af<|n_ ct h3.lt aS,p_ ct ab,na_ (nl_ aR) (nr_ aR)<|nj aR,aa_ (p_ (al_ ae) ab)<|p_ (ar_ ae) ab⟩
 have be:=ifF bc ay;refine Ws<|Rq z z z<|Rw z<|Wc z (fun az=>?_) (fun az=>?_)
 ·refine Wm z<|R z (lN (vs:=vR W aa nb cc ad ne cf ah ng ci aj nk cl) G_ m_ z z fid<|V.row 0 8 z)<|Rm z ?_
  have aT:∀k∈[J.z],¬B k:=or0 (f_ lr)<|t_<|zt' H h2.s;have cu:=((h2.ag B).e G).c h1<|g_ aT
  have ai:=(G.ag B).c h1<|g_ aT
  have ak:=lt_ (lt_ h2.s G.s) h1.s;obtain ⟨eP,_,_,eQ,d1⟩:=I_<|ifT be az;refine E z (fc call109 z<|d8.run eQ (zt' H ak) (L.g cu) (O.g cu) ((h5.e G).c h1<|(g_ aT) _ hC1b) hC1b hq ht ho (hp.g ai) (hu.g ai) (hv.g ai) (hn.g ai) I) ?_;rintro _ _ ⟨cv,cw,cx,cy,eR,cz,cA,cB,eS,eT,eU,rfl,eV,eW,eX,eY,eZ,cC,aU,al⟩
  iterate 3 refine Re z z z ?_
  refine E0 (fs0 (cur':=[vI eP.number,sl cw cx cy,sl cz cA cB]) c_ z z (((h3.e G).c h1<|djs<|mmr h3.lt).e cv) z z z z) ?_;rintro _ _ ⟨f0,f1⟩;have am:=f1.one;refine Ra z<|Rw z ?_
  obtain rfl:=som d1;have aV:=lt_ G.s h1.s;exact Wr<|rtO<|z_ hr (q_ r_ c_ z f0 z) z z ⟨bM (bup (bM (bup h2 G) h1<|m1 h2.s) cv) am<|f_ lr,cw,cx,cy,eR,cz,cA,cB,eS,eT,eU,z,eV,eW.c am<|n_ (al_ al) h3.lt aV,eX.c am<|n_ (ar_ al) h3.lt aV,eY,eZ.c am<|n_ cC h3.lt aV,p_ cC ak,na_ (nl_ aU) (nr_ aU)<|nj aU,aa_ (p_ (al_ al) ak)<|p_ (ar_ al) ak⟩
 have bf:=ifF be az;refine Ws<|Rq z z z<|Rw z<|Wc z (fun aA=>?_) (fun aA=>?_)
 ·refine Wm z<|R z (lN (vs:=vR W aa nb cc ad ne cf ah ng ci aj nk cl) G_ m_ z z fid<|V.row 0 8 z)<|Rm z ?_
  have aW:∀k∈[J.z],¬B k:=or0 (f_ lr)<|t_<|zt' H h2.s;have cD:=((h2.ag B).e G).c h1<|g_ aW
  have an:=(G.ag B).c h1<|g_ aW
  have ao:=lt_ (lt_ h2.s G.s) h1.s;obtain ⟨f2,_,_,f3,d2⟩:=I_<|ifT bf aA;refine E z (fc call110 z<|d9.run f3 (zt' H ao) (L.g cD) (O.g cD) ((h5.e G).c h1<|(g_ aW) _ hC1b) hC1b hq ht ho (hp.g an) (hu.g an) (hv.g an) (hn.g an) I) ?_;rintro _ _ ⟨cE,cF,cG,cH,f4,cI,cJ,cK,f5,f6,f7,rfl,f8,f9,fb,fe,ff,cL,aX,ap⟩
  iterate 3 refine Re z z z ?_
  refine E0 (fs0 (cur':=[vI f2.number,sl cF cG cH,sl cI cJ cK]) c_ z z (((h3.e G).c h1<|djs<|mmr h3.lt).e cE) z z z z) ?_;rintro _ _ ⟨fg,fh⟩;have aq:=fh.one;refine Ra z<|Rw z ?_
  obtain rfl:=som d2;have aY:=lt_ G.s h1.s;exact Wr<|rtO<|z_ hr (q_ r_ c_ z fg z) z z ⟨bM (bup (bM (bup h2 G) h1<|m1 h2.s) cE) aq<|f_ lr,cF,cG,cH,f4,cI,cJ,cK,f5,f6,f7,z,f8,f9.c aq<|n_ (al_ ap) h3.lt aY,fb.c aq<|n_ (ar_ ap) h3.lt aY,fe,ff.c aq<|n_ cL h3.lt aY,p_ cL ao,na_ (nl_ aX) (nr_ aX)<|nj aX,aa_ (p_ (al_ ap) ao)<|p_ (ar_ ap) ao⟩
 refine Wk<|Wq (Wd (X:=noX) 0 (pl_ 17 [9]) mo (by kernel_rfl) fun fz s6 _=>dM z z z<|dR z z (B_ z)<|dR z z (fd e_T z) ?_)
 have aZ:∀k∈[J.z],¬B k:=or0 (f_ lr)<|t_<|zt' H h2.s;refine dR z z (l0 R_ z<|(((h5.e G).c h1<|(g_ aZ) _ hC1b).e s6).at (j:=1) z)<|dM z z z<|dR z z (fd b_1 z)<|dR z z (l0 R_ z<|(V.e s6).at z) ?_
 obtain ⟨_,fi,d3⟩:=bdS<|ifF bf aA;refine dRX z z (at_ (α:=UInt8) o_ z_5 z z z (hp.g<|((G.ag B).c h1<|g_ aZ).e s6) fi) ?_;rintro _ ⟨_,_,_,rfl,fj,fk,_⟩;obtain rfl:=u8 fk;refine dR z z (l0 g_5 z<|fj.at0 z) ?_;have b0:=lt_ (lt_ (lt_ h2.s G.s) h1.s) s6.s;obtain ⟨_,_,_,fl,bg⟩:=I_ d3;refine dE z z (fc call111 z<|W_w1o fl (zt' H b0) (O.g<|(((h2.ag B).e G).c h1<|g_ aZ).e s6) I) (.inr fun _ _ h=>l_<|h.1) ?_;rintro _ _ ⟨sm,b2,b3,b4,fm,rfl,fo,fp,fq,cM⟩;refine dM z z z ?_
 iterate 3 refine dR z z (ext_ z z) ?_
 iterate 3 refine dQ z z z ?_
 refine pD<|Wo<|Wq<|Wm z<|R z (not_ z)<|Wx z (fun aB=>?_) (fun aB=>?_)
 ·refine Ws<|R z (bP (parts:=[]) (cs:=[vI 0,sl none 0 0,sl none 0 0]) L_ z z)<|RM z z ?_
  have cN:=lt_ b0 sm.s;obtain ⟨_,fr,d4⟩:=bdS<|ifT bg aB;refine E z (fc call112 z<|d_E fr (zt' H cN) I<|ii z) ?_;rintro _ _ ⟨cO,fs,ft,rfl,fu,cP⟩;refine E0 (fs0 (cur':=[vI 0,sl none 0 0,sl none 0 0]) c_ z z (((((h3.e G).c h1<|djs<|mmr h3.lt).e s6).e sm).e cO) z z z z) ?_;rintro _ _ ⟨fv,fw⟩;have cQ:=fw.one;refine Ra z<|Rw z ?_
  obtain rfl:=som d4;exact Wr<|z_ hr (q_ r_ c_ z fv z) z z ⟨bM (bup (bup (bup (bM (bup h2 G) h1<|m1 h2.s) s6) sm) cO) cQ<|f_ lr,none,0,0,[],none,0,0,[],fs,ft,z,ii z,onL,onL,I,fu.c cQ<|n_ cP h3.lt<|lt_ (lt_ (lt_ G.s h1.s) s6.s) sm.s,p_ cP cN,nd0,al0⟩
 refine Wk<|Wm z<|R z (bP (parts:=[(1,.tmp 159)]) (cs:=[vI 0,sl b2 b3 b4,sl none 0 0]) L_ z z)<|Rm z<|E0 (fs0 (cur':=[vI 0,sl b2 b3 b4,sl none 0 0]) c_ z z ((((h3.e G).c h1<|djs<|mmr h3.lt).e s6).e sm) z z z z) ?_
 rintro _ _ ⟨fx,fy⟩;have cR:=fy.one;refine Ra z<|Rw z ?_
 obtain rfl:=som<|ifF bg aB;exact Wr<|z_ hr (q_ r_ c_ z fx z) z z ⟨bM (bup (bup (bM (bup h2 G) h1<|m1 h2.s) s6) sm) cR<|f_ lr,b2,b3,b4,fm,none,0,0,[],.nilIface,([]:List Nat),z,ii z,fo.c cR<|n_ cM h3.lt<|lt_ (lt_ G.s h1.s) s6.s,onL,fp,d_N,an_,na_ fq a_x<|nmN _,aa_ (p_ cM b0) an_⟩
theorem T_w1p (ih:e_m n):j_H (h_v n<|a_c n):=by
 obtain ⟨_,_,aJ,_,_,_⟩:=ih
 constructor
 intro A0 A1 A3 A4 A2 A5 N0 C0 N1 C1 b1 o1 N3 C3 N4 C4 N2 C2 N5 C5 B x1 x2 x3 res w0 hm O W Y hC1 hC1b bx bz bA bB bC bD a0 V;unfold h_v at hm
 refine goG func106 z z z fun fn hr=>Ws<|E z (fb z) ?_
 rintro _ J ⟨rfl,hw⟩;have h4:=hw.below;have hx:Blk J w0.z (vR x2 A3 N3 C3 A4 N4 C4 A2 N2 C2 A5 N5 C5):=hw.blk;refine E z (fa J_) ?_;rintro _ aK ⟨rfl,hy⟩;have h6:=hy.below;have h5:Blk aK J.z [vI 0,sl none 0 0,sl none 0 0]:=hy.blk;refine Ra z<|Rw z<|Wm z<|Rf z N_ z ?_
 have hz:=hx.e h6;refine R z (l0 A_ z<|hz.at z) ?_;obtain ⟨_,aL,aw⟩:=bdS hm;have hd:=(h4.ag B).e h6;refine RX z (at_ (α:=Int) x_ z_3 z z z (a0.g hd) aL) ?_;rintro _ ⟨_,_,_,rfl,aM,aN,_⟩;obtain ⟨rfl,aO⟩:=O_ aN;refine R z (l0 g_3 z<|aM.at0 z)<|Rm z ?_
 have a4:=(hC1.e h4).e h6;have he:=lt_ h4.s h6.s;obtain ⟨_,rr,_,aP,hms⟩:=I_ aw;refine E z (fc call103 z<|h_X aP (zt' O he) (W.g hd) (Y.g hd) a4 hC1b aO V) ?_;rintro _ H ⟨G,aQ,aR,rfl,_,aS,a5,a6⟩;refine Rm z ?_
 iterate 3 refine Re z z z ?_
 refine RA z z<|Rw z<|Wq<|Wm z<|R z (d_n d_e z z a5)<|Wx z (fun hcm=>?_) (fun hcm=>?_)
 ·refine Ws<|R z (bP (parts:=[]) (cs:=[vI 0,sl none 0 0,sl none 0 0]) L_ z z)<|RM z z<|E0 (fs0 (cur':=[vI 0,sl none 0 0,sl none 0 0]) c_ z z (h5.e G) z z z z) ?_
  rintro _ _ ⟨aT,aU⟩;have a7:=aU.one;refine Ra z<|Rw z ?_
  obtain rfl:=som<|ifT hms hcm;exact Wr<|z_ hr (q_ r_ c_ z aT z) z z ⟨bM (bup (bup h4 h6) G) a7<|m1 h4.s,none,0,0,[],none,0,0,[],aQ,aR,z,ii z,onL,onL,V,a5.c a7<|n_ a6 h5.lt lr,p_ a6 he,nd0,al0⟩
 have a1:=ifF hms hcm;refine Wk<|Wq<|Wm z<|R z (a_i z z)<|Wx z (fun hco=>?_) (fun hco=>?_)
 ·refine Ws<|R z (bP (parts:=[]) (cs:=[vI 0,sl none 0 0,sl none 0 0]) L_ z z)<|RM z z ?_
  have a8:=lt_ he G.s;obtain ⟨_,aV,ax⟩:=bdS<|ifT a1 hco;refine E z (fc call112 z<|d_E aV (zt' O a8) V<|ii z) ?_;rintro _ _ ⟨a9,aW,aX,rfl,aY,aa⟩;refine E0 (fs0 (cur':=[vI 0,sl none 0 0,sl none 0 0]) c_ z z ((h5.e G).e a9) z z z z) ?_;rintro _ _ ⟨aZ,b0⟩;have ab:=b0.one;refine Ra z<|Rw z ?_
  obtain rfl:=som ax;exact Wr<|z_ hr (q_ r_ c_ z aZ z) z z ⟨bM (bup (bup (bup h4 h6) G) a9) ab<|m1 h4.s,none,0,0,[],none,0,0,[],aW,aX,z,ii z,onL,onL,V,aY.c ab<|n_ aa h5.lt G.s,p_ aa a8,nd0,al0⟩
 refine Wk<|Wm z ?_
 obtain ⟨b2,b3,ay⟩:=bdS<|ifF a1 hco;refine E z (g_j (α:=Int) j_j (fun _=>c_W<|ii z) b3 z z) ?_;rintro _ I ⟨ac,nf,cg,rfl,s8,hp⟩;refine Rw z<|Wq<|Wm z<|R z (lnR x_ z<|a_.rep hp)<|Rm z<|Wn ?_
 obtain ⟨_,az,a2⟩:=bdS ay;refine Wf (σ:=List Int) (ρ:=Val×Int×(Option<|Int×Int)) (fun (ad:Nat)(L:List Int) a w=>∃(S3:List Nat),Sat 59 [(0,.pointer<|some ⟨b1,o1,none⟩),(4,pt w0.z),(6,pt J.z),(10,vI rr),(12,sl ac nf cg),(39,vI (b2.length:Int)),(40,vI ((ad:Nat):Int))] a/\Chg (· ∈ [H.z]) I w/\a_ w S3 (sl ac nf cg) L/\S3.Nodup/\(∀k∈S3,k∈[H.z]∨I.z<=k)) (fun (L:List Int) a w=>∃(S3:List Nat),Sat 59 [(0,.pointer<|some ⟨b1,o1,none⟩),(6,pt J.z),(10,vI rr),(12,sl ac nf cg)] a/\Chg (· ∈ [H.z]) I w/\a_ w S3 (sl ac nf cg) L/\S3.Nodup/\(∀k∈S3,k∈[H.z]∨I.z<=k)) (rQ prog fn<|Q25 w0 B) az ?_ ?_ ?_ ?_ ?_
 ·exact fun _ q=>⟨[H.z],q.k<|s7 z z z z z z z,cr [H.z] I,hp,a_b,io sr⟩
 ·rintro ad L _ b4 _ a3 ⟨S3,aA,sh,ha,hi,hj⟩ aB;refine Wu ?_ aA;refine Ws<|Rl z z z<|Wn<|Wq<|Wc z (fun _=>?_) (fun hc=>(V_ a3 hc).elim)
  refine Wk<|Wq<|Wb<|Wm z<|Rw z<|Wg<|RM z z<|Rf z N_ z<|R z (l0 A_ z<|(((hz.e G).e s8).c sh<|djs<|mm1 hx.lt<|lt_ h6.s G.s).at z) ?_
  obtain ⟨_,b5,aC⟩:=bdS aB;refine RX z (at_ (α:=Int) x_ z_3 z z z (a0.g<|((hd.e G).e s8).c sh<|g_ (or0 (f_ lr) (t_<|zt' O<|lt_ he G.s):∀k∈[H.z],¬B k)) b5) ?_;rintro _ ⟨_,_,_,rfl,b6,b7,_⟩;obtain ⟨rfl,b8⟩:=O_ b7;refine R z (l0 g_3 z<|b6.at0 z) ?_;obtain ⟨b9,ae,aD⟩:=bdS aC;refine RX z (g_h (α:=Int) x_ z_3 z z ha ae) ?_;rintro _ ⟨_,ba,rfl⟩;refine E0 (g_i (α:=Int) z_3 z ba z z z ae ha hi (c_W b8) an_ a_x) ?_;rintro _ bb ⟨af,bc,be,bf,bg⟩;refine Wn<|Wg<|R z (inc_ a3 (lt_ (a_.len hp) D_) z z)<|Rm z<|Wl ?_
  have ah:∀k∈S3,k∈[H.z]∨I.z<=k:=or1 hj (io sr)<|M_ lr;exact fun _ q=>⟨b9,(som aD).symm,⟨af,q.k<|s7 z z z z z z z,(cM (cM (cr [H.z] I) sh (io sr):Chg (· ∈ [H.z]) I b4) bc ah:Chg (· ∈ [H.z]) I bb),be,bf,(or2 bg ah an_ (M_ sh.s):∀k∈af,k∈[H.z]∨I.z<=k)⟩⟩
 ·rintro L _ bh ⟨S3,aE,bi,ha,hi,hj⟩;refine Wu ?_ aE;refine Ws<|Rl z z z<|Wn<|Wq<|Wc z (fun hc=>(W_ hc).elim) (fun _=>?_)
  exact We<|fun _ q=>⟨rfl,⟨S3,q.k<|s4 z z z z,(cM (cr [H.z] I) bi (io sr):Chg (· ∈ [H.z]) I bh),ha,hi,(or1 hj (io sr) (M_ lr):∀k∈S3,k∈[H.z]∨I.z<=k)⟩⟩
 ·rintro L bj bk rfl ⟨S3,_,sb,ha,hi,hj⟩;have aF:=elL a2;revert bj;refine Wo<|Wm z<|R z (bP (parts:=[]) (cs:=[vI 0,sl none 0 0,sl none 0 0]) L_ z z)<|RM z z ?_
  have hq:=lt_ he G.s;have ai:∀k∈[H.z],¬B k:=or0 (f_ lr)<|t_<|zt' O hq;have aj:=((hd.e G).e s8).c sb<|g_ ai
  have hk:=lt_ (lt_ hq s8.s) sb.s;have ht:=zt' O hk;obtain ⟨bm,_,_,bn,aG⟩:=I_ aF;refine E z (fc call107 z<|aJ.run (B:=bk.z) (x2:=(⟨0,([]:List UInt8),([]:List Val)⟩:Val)) bn zr (repS.mono (W.g aj) ht) (repS.mono (Y.g aj) ht) (((a4.e G).e s8).c sb<|(g_ ai) _ hC1b) (zap' ht hC1b) (ii z) onL a_x (nbl an_) onL a_x (nbl an_) an_ (a_.rep ha) aS) ?_;rintro _ _ ⟨ak,al,am,an,ao,ap,aq,ar,au,bo,bp,rfl,bq,br,bs,bt,bu,av,hu,hl⟩
  iterate 3 refine Re z z z ?_
  refine E0 (fs0 (cur':=[vI bm.number,sl al am an,sl ap aq ar]) c_ z z ((((h5.e G).e s8).c sb<|djs<|mm1 h5.lt G.s).c ak<|atp<|nmA (nmN _)<|nmN _) z z z z) ?_;rintro _ _ ⟨bv,bw⟩;have hn:=bw.one;refine Ra z<|Rw z ?_
  obtain rfl:=som aG;have hv:=lt_ (lt_ G.s s8.s) sb.s;exact Wr<|z_ hr (q_ r_ c_ z bv z) z z ⟨bM (bM (bM (bup (bup (bup h4 h6) G) s8) sb<|m1 hq) ak al0) hn<|m1 h4.s,al,am,an,ao,ap,aq,ar,au,bo,bp,z,bq,br.c hn (or1 (al_ hl) al0 (a_f (f_ h5.lt) hv):∀k∈ao,k∉[J.z]),bs.c hn (or1 (ar_ hl) al0 (a_f (f_ h5.lt) hv):∀k∈au,k∉[J.z]),bt,bu.c hn<|n_ av h5.lt hv,p_ av hk,na_ (nl_ hu) (nr_ hu)<|nj hu,aa_ (a_E (al_ hl) al0 hk)<|a_E (ar_ hl) al0 hk⟩
 rintro _ _ _ _ rfl ⟨rfl,aH⟩;have aI:=elR a2;obtain rfl:=som aI;exact ⟨aH,z⟩
theorem T_w1q (ih:e_m n):j_I (h_w n<|a_c n):=by
 obtain ⟨aY,_,_,_,_,_⟩:=ih
 constructor
 intro A0 A1 A9 AG A7 N0 C0 N1 C1 b1 o1 N9 C9 NG CG N7 C7 S2_1 S2_2 B x1 x2 x3 x4 res w0 hm ae aL aM hC1 hC1b aN Y p2_1n p2_1g a0 p2_2n p2_2g p2_2d1 a1 aO;unfold h_w at hm
 refine goG func107 z z z fun fn hr=>Ws<|E z (fb z) ?_
 rintro _ wb ⟨rfl,af⟩;have h2:=af.below;have he:Blk wb w0.z [vI x2.number,sl A9 N9 C9,sl AG NG CG]:=af.blk;refine E z (fa J_) ?_;rintro _ G ⟨rfl,ah⟩;have W:=ah.below;have hk:Blk G wb.z [vI 0,sl none 0 0,sl none 0 0]:=ah.blk;refine Ra z<|Rw z<|Wq<|Wm z ?_
 have ai:=(h2.ag B).e W;refine R z (lnR x_ z<|a1.g ai)<|Rm z<|Wn ?_
 obtain ⟨_,aP,aa⟩:=bdS hm;refine Wf (σ:=Int×(List Val)) (ρ:=Val×Int×(Option<|Int×Int)) (fun (aj:Nat) s a w=>un2 (fun xc xh=>∃I J L H,Sat 45 [(0,.pointer<|some ⟨b1,o1,none⟩),(3,vI xc),(5,pt w0.z),(8,pt wb.z),(16,sl A7 N7 C7),(17,vI (x3.length:Int)),(18,vI ((aj:Nat):Int))] a/\Chg (· ∈ (S2_2++[w0.z])) G w/\inI xc/\a_ w H (sl I J L) xh/\H.Nodup/\(∀k∈H,k∈S2_2∨G.z<=k)/\Blk w w0.z [vI x2.number,sl A9 N9 C9,sl I J L]) s) (fun s a w=>un2 (fun xc xh=>∃I J L H,Sat 45 [(3,vI xc),(5,pt w0.z),(8,pt wb.z)] a/\Chg (· ∈ (S2_2++[w0.z])) G w/\inI xc/\a_ w H (sl I J L) xh/\H.Nodup/\(∀k∈H,k∈S2_2∨G.z<=k)/\Blk w w0.z [vI x2.number,sl A9 N9 C9,sl I J L]) s) (rQ prog fn<|Q26 w0 B S2_1 S2_2) aP ?_ ?_ ?_ ?_ ?_
 ·exact fun _ q=>⟨AG,NG,CG,S2_2,q.k<|s7 z z z z z z z,cr (S2_2++[w0.z]) G,aO,(a0.e h2).e W,p2_2n,io sr,he.e W⟩
 ·rintro aj ⟨xc,xh⟩ _ ak _ ab ⟨I,J,L,H,aQ,s6,hi,hf,hl,hd,hn⟩ aR;refine Wu ?_ aQ;refine Ws<|Rl z z z<|Wn<|Wq<|Wc z (fun _=>?_) (fun hc=>(V_ ab hc).elim)
  refine Wk<|Wq<|Wb<|Ws ?_
  obtain ⟨_,aZ,aS⟩:=bdS<|a_G aR;have al:∀k∈[w0.z],¬B k:=or0 (f_ lr)<|t_ ae;have ht:=ai.c s6<|nmA (g_ p2_2g)<|g_ al
  refine RX z (at_ (α:=Int) x_ z_3 z z z (a1.g ht) aZ) ?_;rintro _ ⟨_,_,_,rfl,b0,b2,_⟩;obtain ⟨rfl,b3⟩:=O_ b2;refine R z (l0 g_3 z<|b0.at0 z)<|Rw z<|Wm z<|RM z z ?_
  have hu:=lt_ (lt_ h2.s W.s) s6.s;obtain ⟨ro,b4,_,b5,ad⟩:=I_ aS;refine E z (fc call79 z<|aY.run b5 (zt' ae hu) (aL.g ht) (aM.g ht) (((hC1.e h2).e W).c s6<|(nmA (g_ p2_2g)<|g_ al) _ hC1b) hC1b b3 hi) ?_;rintro _ wm ⟨sa,ar,ns,cv,am,aw,nx,cy,an,b6,b7,rfl,b8,hp,hq,b9,ao,ap,hz,hj⟩;refine Rm z ?_
  iterate 3 refine Re z z z ?_
  refine E z (fa J_) ?_;rintro _ a4 ⟨rfl,aq⟩;have O:=aq.below;refine E0 (fs0 (cur':=[vI ro.number,sl ar ns cv,sl aw nx cy]) c_ z z (aq.blk:Blk a4 wm.z [vI 0,sl none 0 0,sl none 0 0]) z z z z) ?_;rintro _ a5 ⟨ba,bb⟩;have V:=bb.one;refine Ra z<|Rw z<|Wq<|Wm z ?_
  have au:=(ao.e O).c V<|ds<|mnr<|a_A.lt ao
  refine R z (d_n d_e z z au)<|Wx z (fun a2=>?_) (fun a2=>?_)
  ·refine Ws<|R z (bP (parts:=[]) (cs:=[vI 0,sl none 0 0,sl none 0 0]) L_ z z)<|RM z z ?_
   refine E0 (fs0 (cur':=[vI 0,sl none 0 0,sl none 0 0]) c_ z z ((((hk.c s6<|atp<|nmA (mno (a_.lt a0) h2.s)<|mmr he.lt).e sa).e O).c V<|djs<|mm1 hk.lt<|lt_ s6.s sa.s) z z z z) ?_;rintro _ bc ⟨be,bf⟩;have av:=bf.one;refine Ra z<|Rw z ?_
   exact Wr<|rtO<|qL (som<|ifT ad a2).symm<|z_ hr (q_ r_ c_ z be z) z z ⟨(cM (cM (h_ (h_ (cM (h_ (h_ (cr (S2_1++S2_2) w0) h2:Chg (· ∈ (S2_1++S2_2)) w0 wb) W:Chg (· ∈ (S2_1++S2_2)) w0 G) s6 (aa_ (io<|a_L sr) (mor lr:∀k∈[w0.z],k∈(S2_1++S2_2)∨w0.z<=k)):Chg (· ∈ (S2_1++S2_2)) w0 ak) sa:Chg (· ∈ (S2_1++S2_2)) w0 wm) O:Chg (· ∈ (S2_1++S2_2)) w0 a4) V (mor (lt_ hu sa.s):∀k∈[wm.z],k∈(S2_1++S2_2)∨w0.z<=k):Chg (· ∈ (S2_1++S2_2)) w0 a5) av (mor h2.s:∀k∈[wb.z],k∈(S2_1++S2_2)∨w0.z<=k):Chg (· ∈ (S2_1++S2_2)) w0 bc),none,0,0,[],none,0,0,[],b6,b7,z,ii z,onL,onL,hi,au.c av<|n_ ap hk.lt s6.s,p_ ap hu,nd0,al0⟩
  refine Wk<|Ws<|Rf z Z_ z ?_
  have a6:=lt_ W.s s6.s;have ax:=lt_ a6 sa.s;have ay:=((hn.e sa).e O).c V<|djs<|mm1 he.lt ax
  refine R z (l0 a_2 z<|ay.at z)<|R z (lN (vs:=[vI ro.number,sl ar ns cv,sl aw nx cy]) r_ c_ z z fid<|ba.row 0 3 z)<|E z (fS [(.tmp 37)] b_x z z z (b_V z) (lb z)<|lb z) ?_
  rintro _ az ⟨rfl,aA⟩;have hg:=aA.below;have bw:=(hp.e O).c V<|ds<|mnr<|a_.lt hp
  have bx:=(hq.e O).c V<|ds<|mnr<|a_.lt hq
  obtain ⟨bg,bh,aT⟩:=bdS<|ifF ad a2;refine E z (c_u (α:=Val) b_x bh z z ((((hf.e sa).e O).c V<|ds<|mno (a_.lt hf) sa.s).e hg) hl (aA.blk:Blk az a5.z [vI ro.number,sl ar ns cv,sl aw nx cy]) (j_i (x:=ro) (S1:=am) (S2:=an) b8 (((hp.e O).c V<|ds<|mnr<|a_.lt hp).e hg)<|((hq.e O).c V<|ds<|mnr<|a_.lt hq).e hg) (aa_ (b_w (al_ hj) (a_.lt hf) lr)<|b_w (ar_ hj) (a_.lt hf) lr)<|na_ (nl_ hz) (nr_ hz)<|nj hz) ?_;rintro _ bi ⟨a7,aB,aC,aD,rfl,aE,bj,bk,aF⟩;refine Rf z Z_ z ?_;have aG:∀k∈H,k∉[w0.z]:=or1 hd (ds<|mnr<|a_.lt a0)<|a_f (f_ he.lt) W.s;refine E0 (fs0 (cur':=[vI x2.number,sl A9 N9 C9,sl aB aC aD]) z_40 z z ((ay.e hg).c aE<|djs aG) z z z z) ?_;rintro _ bm ⟨bn,bo⟩;have aH:=bo.one;refine Wn<|Wg<|Rm z<|Rw z<|Wg<|R z (inc_ ab (lt_ (repS.len a1) D_) z z)<|Rm z<|Wl ?_
  have aI:=lt_ s6.s sa.s;exact fun _ q=>⟨(b4,bg),(som aT).symm,⟨aB,aC,aD,a7,q.k<|s7 z z z z z z z,(cM (cM (h_ (cM (h_ (h_ (cM (cr (S2_2++[w0.z]) G) s6 (aa_ (io<|a_U sr)<|io<|a_L sr):Chg (· ∈ (S2_2++[w0.z])) G ak) sa:Chg (· ∈ (S2_2++[w0.z])) G wm) O:Chg (· ∈ (S2_2++[w0.z])) G a4) V (mor aI:∀k∈[wm.z],k∈(S2_2++[w0.z])∨G.z<=k):Chg (· ∈ (S2_2++[w0.z])) G a5) hg:Chg (· ∈ (S2_2++[w0.z])) G az) aE (or1 hd (io<|a_U sr) (M_ lr):∀k∈H,k∈(S2_2++[w0.z])∨G.z<=k):Chg (· ∈ (S2_2++[w0.z])) G bi) aH (io<|a_L sr):Chg (· ∈ (S2_2++[w0.z])) G bm),b9,bj.c aH (or2 aF aG (aa_ (n_ (al_ hj) he.lt a6)<|n_ (ar_ hj) he.lt a6) (a_f (f_ he.lt)<|lt_ (lt_ (lt_ ax O.s) V.s) hg.s):∀k∈a7,k∉[w0.z]),bk,(or2 aF (or1 hd (io sr) (M_ lr):∀k∈H,k∈S2_2∨G.z<=k) (aa_ (or0 (al_ hj) (M_ s6.s):∀k∈am,k∈S2_2∨G.z<=k) (or0 (ar_ hj) (M_ s6.s):∀k∈an,k∈S2_2∨G.z<=k)) (M_<|lt_ (lt_ (lt_ aI O.s) V.s) hg.s):∀k∈a7,k∈S2_2∨G.z<=k),bn⟩⟩
 ·rintro ⟨xc,xh⟩ _ bp ⟨I,J,L,H,aU,bq,hi,hf,hl,hd,hn⟩;refine Wu ?_ aU;refine Ws<|Rl z z z<|Wn<|Wq<|Wc z (fun hc=>(W_ hc).elim) (fun _=>?_)
  exact We<|fun _ q=>⟨rfl,⟨I,J,L,H,q.k<|s3 z z z,(cM (cr (S2_2++[w0.z]) G) bq (aa_ (io<|a_U sr)<|io<|a_L sr):Chg (· ∈ (S2_2++[w0.z])) G bp),hi,hf,hl,(or1 hd (io sr) (M_ lr):∀k∈H,k∈S2_2∨G.z<=k),hn⟩⟩
 ·rintro ⟨xc,xh⟩ br bs rfl ⟨I,J,L,H,_,a8,hi,hf,hl,hd,hn⟩;have aV:=elL aa;revert br;refine Wo<|Ws<|R z (lN (vs:=[vI x2.number,sl A9 N9 C9,sl I J L]) r_ c_ z z fid<|hn.row 0 3 z)<|Rm z ?_
  have aJ:=mno (a_.lt a0) h2.s;refine E0 (fs0 (cur':=[vI x2.number,sl A9 N9 C9,sl I J L]) c_ z z (hk.c a8<|atp<|nmA aJ<|mmr he.lt) z z z z) ?_;rintro _ bt ⟨bu,bv⟩;have a9:=bv.one;refine Ra z<|Rw z ?_
  obtain rfl:=som<|a_G aV;have aK:=lt_ h2.s W.s;exact Wr<|z_ hr (q_ r_ c_ z bu z) z z ⟨(cM (cM (h_ (h_ (cr (S2_1++S2_2) w0) h2:Chg (· ∈ (S2_1++S2_2)) w0 wb) W:Chg (· ∈ (S2_1++S2_2)) w0 G) a8 (aa_ (io<|a_L sr) (mor lr:∀k∈[w0.z],k∈(S2_1++S2_2)∨w0.z<=k)):Chg (· ∈ (S2_1++S2_2)) w0 bs) a9 (mor h2.s:∀k∈[wb.z],k∈(S2_1++S2_2)∨w0.z<=k):Chg (· ∈ (S2_1++S2_2)) w0 bt),A9,N9,C9,S2_1,I,J,L,H,.nilIface,([]:List Nat),z,aN,(((Y.e h2).e W).c a8<|nmA (ds p2_2d1)<|ds<|mnr<|a_.lt Y).c a9<|ds<|mno (a_.lt Y) h2.s,hf.c a9 (or1 hd (ds aJ) (a_f (f_ hk.lt) lr):∀k∈H,k∉[wb.z]),hi,d_N,an_,na_ p2_1n hl<|ds<|c_H hd p2_2d1 (a_.lt Y) aK,aa_ (io<|a_U sr) (or1 hd (io<|a_L sr) (M_ aK):∀k∈H,k∈(S2_1++S2_2)∨w0.z<=k)⟩
 rintro _ _ _ _ rfl ⟨rfl,aW⟩;have aX:=elR aa;obtain rfl:=som aX;exact ⟨aW,z⟩
theorem T_w1r (ih:e_m n):j_J (h_x n<|a_c n):=by
 obtain ⟨_,_,ar,_,_,_⟩:=ih
 constructor
 intro A0 A1 A3 A4 A2 A5 N0 C0 N1 C1 b1 o1 N3 C3 N4 C4 N2 C2 N5 C5 B x1 x2 x3 res w0 hm Y a0 a1 hC1 hC1b b7 b8 b9 ba bb J a2 L;unfold h_x at hm
 refine goG func108 z z z fun fn hr=>Ws<|E z (fb z) ?_
 rintro _ H ⟨rfl,hk⟩;have h1:=hk.below;refine E z (fa J_) ?_;rintro _ au ⟨rfl,hl⟩;have h4:=hl.below;have h2:Blk au H.z [vI 0,sl none 0 0,sl none 0 0]:=hl.blk;refine Ra z<|Rw z<|Wm z<|Rf z N_ z ?_
 have hn:=(hk.blk:Blk H w0.z (vR x2 A3 N3 C3 A4 N4 C4 A2 N2 C2 A5 N5 C5)).e h4;refine R z (l0 A_ z<|hn.at z) ?_;obtain ⟨_,av,af⟩:=bdS hm;have O:=(h1.ag B).e h4;refine RX z (at_ (α:=Int) x_ z_3 z z z (a2.g O) av) ?_;rintro _ ⟨_,_,_,rfl,aw,ax,_⟩;obtain ⟨rfl,az⟩:=O_ ax;refine R z (l0 g_3 z<|aw.at0 z)<|Rm z ?_
 have ho:=(hC1.e h1).e h4;have V:=lt_ h1.s h4.s;obtain ⟨re,aA,_,aB,hmm⟩:=I_ af;refine E z (fc call103 z<|h_X aB (zt' Y V) (a0.g O) (a1.g O) ho hC1b az L) ?_;rintro _ I ⟨G,aC,aD,rfl,aE,aF,hp,hq⟩;refine Rm z ?_
 iterate 3 refine Re z z z ?_
 refine RA z z<|Rw z<|Wq<|Wm z<|R z (d_n d_e z z hp)<|Wx z (fun hcf=>?_) (fun hcf=>?_)
 ·refine Ws<|R z (bP (parts:=[]) (cs:=[vI 0,sl none 0 0,sl none 0 0]) L_ z z)<|RM z z<|E0 (fs0 (cur':=[vI 0,sl none 0 0,sl none 0 0]) c_ z z (h2.e G) z z z z) ?_
  rintro _ _ ⟨aG,aH⟩;have ht:=aH.one;refine Ra z<|Rw z ?_
  obtain rfl:=som<|ifT hmm hcf;exact Wr<|z_ hr (q_ r_ c_ z aG z) z z ⟨bM (bup (bup h1 h4) G) ht<|m1 h1.s,none,0,0,[],none,0,0,[],aC,aD,z,ii z,onL,onL,L,hp.c ht<|n_ hq h2.lt lr,p_ hq V,nd0,al0⟩
 refine Wk<|Wq<|Ws<|Rf z a_R z ?_
 have hu:=hn.e G;refine R z (l0 A_ z<|hu.at z) ?_;have hv:=O.e G;refine R z (lnR x_ z<|J.g hv)<|Rm z<|Wn ?_
 obtain ⟨_,ah,hmr⟩:=bdS<|ifF hmm hcf;refine Wf (σ:=Unit) (ρ:=Val×Int×(Option<|Int×Int)) (fun (ks:Nat)(_:Unit) a w=>Sat 61 [(0,.pointer<|some ⟨b1,o1,none⟩),(2,vI x3),(4,pt w0.z),(6,pt H.z),(9,vI re),(10,vI aA),(31,sl A2 N2 C2),(32,vI (x2.tags.length:Int)),(33,vI ((ks:Nat):Int))] a/\Below I.z I w) (fun (_:Unit) a w=>Sat 61 [(2,vI x3),(6,pt H.z)] a/\Below I.z I w) (rQ prog fn<|Q25 w0 B) ah ?_ ?_ ?_ ?_ ?_
 ·exact fun _ q=>⟨q.k<|s9 z z z z z z z z z,br I⟩
 ·rintro ks _ _ _ _ hkg ⟨ai,s3⟩ aj;refine Wu ?_ ai;refine Ws<|Rl z z z<|Wn<|Wq<|Wc z (fun _=>?_) (fun hc=>(V_ hkg hc).elim)
  refine Wk<|Wq<|Wb<|Wm z ?_
  obtain ⟨_,aI,hmw⟩:=bdS aj;have W:=hv.e s3;refine RX z (at_ (α:=Int) x_ z_3 z z z (J.g W) aI) ?_;rintro _ ⟨_,_,_,rfl,aJ,aK,_⟩;obtain ⟨rfl,_⟩:=O_ aK;refine R z (l0 g_3 z<|aJ.at0 z)<|Ra z<|Rw z<|Wm z<|Rm z<|Rq z z z<|Wx z (fun hch=>?_) (fun hch=>?_)
  ·refine Wm z<|Rm z<|R z (bP (parts:=[(0,.tmp 42)]) (cs:=[vI re,sl none 0 0,sl none 0 0]) L_ z z)<|Rf z N_ z<|R z (l0 A_ z<|(hu.e s3).at z)<|Rm z<|R z (inc_ hkg (lt_ (repS.len J) D_) z z)<|Rm z<|R z (add_ z z) ?_
   obtain ⟨_,aL,ak⟩:=bdS<|ifT hmw hch;refine RX z (rX x_ z_3 z z (a2.g W) z z aL) ?_;rintro _ ⟨_,_,_,rfl,aM⟩;refine Rm z ?_;have ha:=lt_ (lt_ V G.s) s3.s;obtain ⟨aN,_,_,aO,al⟩:=I_ ak;refine E z (fc call107 z<|ar.run (B:=B) (x2:=(⟨re,([]:List UInt8),([]:List Val)⟩:Val)) aO (zt' Y ha) (a0.g W) (a1.g W) ((ho.e G).e s3) hC1b aE onL a_x an_ onL a_x an_ an_ aM aF) ?_;rintro _ _ ⟨sx,ay,nz,a3,a4,a5,a6,a7,a8,aP,aQ,rfl,aR,aS,aT,aU,aV,a9,hi,hb⟩
   iterate 3 refine Re z z z ?_
   refine E0 (fs0 (cur':=[vI aN.number,sl ay nz a3,sl a5 a6 a7]) c_ z z (((h2.e G).e s3).c sx<|atp<|nmA (nmN _)<|nmN _) z z z z) ?_;rintro _ _ ⟨aW,aX⟩;have hd:=aX.one;refine Ra z<|Rw z ?_
   have hj:=lt_ G.s s3.s;exact Wr<|rtO<|qL (som al).symm<|z_ hr (q_ r_ c_ z aW z) z z ⟨bM (bM (bup (bup (bup h1 h4) G) s3) sx al0) hd<|m1 h1.s,ay,nz,a3,a4,a5,a6,a7,a8,aP,aQ,z,aR,aS.c hd (or1 (al_ hb) al0 (a_f (f_ h2.lt) hj):∀k∈a4,k∉[H.z]),aT.c hd (or1 (ar_ hb) al0 (a_f (f_ h2.lt) hj):∀k∈a8,k∉[H.z]),aU,aV.c hd<|n_ a9 h2.lt hj,p_ a9 ha,na_ (nl_ hi) (nr_ hi)<|nj hi,aa_ (a_E (al_ hb) al0 ha)<|a_E (ar_ hb) al0 ha⟩
  exact Wk<|Wg<|R z (inc_ hkg (lt_ (repS.len J) D_) z z)<|Rm z<|Wl (fun _ q=>⟨(),(som<|ifF hmw hch).symm,⟨q.k<|s9 z z z z z z z z z,s3⟩⟩)
 ·rintro _ _ _ ⟨am,aY⟩;refine Wu ?_ am;refine Ws<|Rl z z z<|Wn<|Wq<|Wc z (fun hc=>(W_ hc).elim) (fun _=>?_)
  exact We<|fun _ q=>⟨rfl,⟨q.k<|s2 z z,aY⟩⟩
 ·rintro _ aZ _ rfl ⟨_,sc⟩;have an:=elL hmr;revert aZ;refine Wo<|Ws<|R z (bP (parts:=[]) (cs:=[vI 0,sl none 0 0,sl none 0 0]) L_ z z)<|RM z z ?_
  have aa:=lt_ (lt_ V G.s) sc.s;obtain ⟨_,b0,ao⟩:=bdS an;refine E z (fc call112 z<|d_E b0 (zt' Y aa) L<|ii z) ?_;rintro _ _ ⟨ab,b2,b3,rfl,b4,ad⟩;refine E0 (fs0 (cur':=[vI 0,sl none 0 0,sl none 0 0]) c_ z z (((h2.e G).e sc).e ab) z z z z) ?_;rintro _ _ ⟨b5,b6⟩;have ae:=b6.one;refine Ra z<|Rw z ?_
  obtain rfl:=som ao;exact Wr<|z_ hr (q_ r_ c_ z b5 z) z z ⟨bM (bup (bup (bup (bup h1 h4) G) sc) ab) ae<|m1 h1.s,none,0,0,[],none,0,0,[],b2,b3,z,ii z,onL,onL,L,b4.c ae<|n_ ad h2.lt<|lt_ G.s sc.s,p_ ad aa,nd0,al0⟩
 rintro _ _ _ _ rfl ⟨rfl,ap⟩;have aq:=elR hmr;obtain rfl:=som aq;exact ⟨ap,z⟩
theorem T_w1s (ih:e_m n):j_K (h_y n<|a_c n):=by
 obtain ⟨_,_,a6,_,_,_⟩:=ih
 constructor
 intro A0 A1 A3 A4 A2 A5 N0 C0 N1 C1 b1 o1 N3 C3 N4 C4 N2 C2 N5 C5 B x1 x2 x3 res w0 hm O W Y hC1 hC1b aI aJ aK aL aM aN a3 H;unfold h_y at hm
 refine goG func109 z z z fun fn hr=>Ws<|E z (fb z) ?_
 rintro _ I ⟨rfl,hf⟩;have h1:=hf.below;refine E z (fa J_) ?_;rintro _ a7 ⟨rfl,hg⟩;have h3:=hg.below;have h2:Blk a7 I.z [vI 0,sl none 0 0,sl none 0 0]:=hg.blk;refine Ra z<|Rw z<|Wm z<|Rm z ?_
 have hh:=(hC1.e h1).e h3;have V:=(h1.ag B).e h3;have h5:=lt_ h1.s h3.s;obtain ⟨_,_,a8,hmi⟩:=a_3 hm;refine E z (fc call142 z<|h_W a8 (zt' O h5) (W.g V) (Y.g V) hh hC1b H<|ii z) ?_;rintro _ _ ⟨G,_,_,_,a9,aa,rfl,hj,hk,hl⟩;refine Rm z<|Re z z z<|Re z z z<|Ra z<|Rw z<|Wq<|Wb<|Wm z<|R z (d_n d_e z z hk)<|Rw z<|Wc z (fun hca=>?_) (fun hca=>?_)
 ·refine Ws<|R z (bP (parts:=[]) (cs:=[vI 0,sl none 0 0,sl none 0 0]) L_ z z)<|RM z z<|E0 (fs0 (cur':=[vI 0,sl none 0 0,sl none 0 0]) c_ z z (h2.e G) z z z z) ?_
  rintro _ _ ⟨ab,ad⟩;have hn:=ad.one;refine Ra z<|Rw z ?_
  obtain rfl:=som<|ifT hmi hca;exact Wr<|rtO<|z_ hr (q_ r_ c_ z ab z) z z ⟨bM (bup (bup h1 h3) G) hn<|m1 h1.s,none,0,0,[],none,0,0,[],a9,aa,z,ii z,onL,onL,H,hk.c hn<|n_ hl h2.lt lr,p_ hl h5,nd0,al0⟩
 refine Wm z ?_
 obtain ⟨_,ae,hmm⟩:=bdS<|ifF hmi hca;refine RX z (at_ (α:=UInt8) o_ z_5 z z z hj ae) ?_;rintro _ ⟨_,_,_,rfl,af,ah,_⟩;obtain rfl:=u8 ah;refine R z (l0 g_5 z<|af.at0 z)<|R z (a_i z z)<|Rw z<|Wc z (fun hcb=>?_) (fun hcb=>?_)
 ·refine Ws<|R z (bP (parts:=[]) (cs:=[vI 0,sl none 0 0,sl none 0 0]) L_ z z)<|RM z z ?_
  have ho:=lt_ h5 G.s;obtain ⟨_,ai,a4⟩:=bdS<|ifT hmm hcb;refine E z (fc call112 z<|d_E ai (zt' O ho) H<|ii z) ?_;rintro _ _ ⟨sp,aj,ak,rfl,al,hq⟩;refine E0 (fs0 (cur':=[vI 0,sl none 0 0,sl none 0 0]) c_ z z ((h2.e G).e sp) z z z z) ?_;rintro _ _ ⟨am,an⟩;have ht:=an.one;refine Ra z<|Rw z ?_
  obtain rfl:=som a4;exact Wr<|rtO<|z_ hr (q_ r_ c_ z am z) z z ⟨bM (bup (bup (bup h1 h3) G) sp) ht<|m1 h1.s,none,0,0,[],none,0,0,[],aj,ak,z,ii z,onL,onL,H,al.c ht<|n_ hq h2.lt G.s,p_ hq ho,nd0,al0⟩
 refine Wm z ?_
 obtain ⟨_,ao,hmr⟩:=bdS<|ifF hmm hcb;refine RX z (at_ (α:=UInt8) o_ z_5 z z z hj ao) ?_;rintro _ ⟨_,_,_,rfl,ap,aq,_⟩;obtain rfl:=u8 aq;refine R z (l0 g_5 z<|ap.at0 z)<|Rq z z z<|Rw z<|Wc z (fun hcc=>?_) (fun hcc=>?_)
 ·refine Ws<|R z (bP (parts:=[]) (cs:=[vI 0,sl none 0 0,sl none 0 0]) L_ z z)<|Rm z<|R z (add_ z z)<|E0 (fs0 (cur':=[vI 0,sl none 0 0,sl none 0 0]) c_ z z (h2.e G) z z z z) ?_
  rintro _ _ ⟨ar,av⟩;refine Ra z<|Rw z ?_
  obtain rfl:=som<|ifT hmr hcc;exact Wr<|rtO<|z_ hr (q_ r_ c_ z ar z) z z ⟨bM (bup (bup h1 h3) G) av.one<|m1 h1.s,none,0,0,[],none,0,0,[],.nilIface,([]:List Nat),z,ii z,onL,onL,iA _ _,d_N,an_,nd0,al0⟩
 refine Wk<|Wm z<|R z (bP (parts:=[]) (cs:=[vI 0,sl none 0 0,sl none 0 0]) L_ z z)<|Rf z N_ z<|R z (l0 A_ z<|(((hf.blk:Blk I w0.z (vR x2 A3 N3 C3 A4 N4 C4 A2 N2 C2 A5 N5 C5)).e h3).e G).at z)<|Rm z<|R z (add_ z z) ?_
 have hd:=V.e G;have h6:=lt_ h5 G.s;obtain ⟨aw,_,_,ax,a5⟩:=I_<|ifF hmr hcc;refine E z (fc call107 z<|a6.run (B:=B) (x2:=(⟨0,([]:List UInt8),([]:List Val)⟩:Val)) ax (zt' O h6) (W.g hd) (Y.g hd) (hh.e G) hC1b (ii z) onL a_x an_ onL a_x an_ an_ (a3.g hd)<|iA _ _) ?_;rintro _ _ ⟨ss,au,nv,cw,Sx,ay,nz,a0,a1,az,aA,rfl,aB,aC,aD,aE,aF,a2,he,J⟩
 iterate 3 refine Re z z z ?_
 refine E0 (fs0 (cur':=[vI aw.number,sl au nv cw,sl ay nz a0]) c_ z z ((h2.e G).c ss<|atp<|nmA (nmN _)<|nmN _) z z z z) ?_;rintro _ _ ⟨aG,aH⟩;have L:=aH.one;refine Ra z<|Rw z ?_
 obtain rfl:=som a5;exact Wr<|z_ hr (q_ r_ c_ z aG z) z z ⟨bM (bM (bup (bup h1 h3) G) ss al0) L<|m1 h1.s,au,nv,cw,Sx,ay,nz,a0,a1,az,aA,z,aB,aC.c L (or1 (al_ J) al0 (a_f (f_ h2.lt) G.s):∀k∈Sx,k∉[I.z]),aD.c L (or1 (ar_ J) al0 (a_f (f_ h2.lt) G.s):∀k∈a1,k∉[I.z]),aE,aF.c L<|n_ a2 h2.lt G.s,p_ a2 h6,na_ (nl_ he) (nr_ he)<|nj he,aa_ (a_E (al_ J) al0 h6)<|a_E (ar_ J) al0 h6⟩
theorem T_w1t (ih:e_m n):j_L (h_z n<|a_c n):=by
 obtain ⟨_,_,ap,_,_,_⟩:=ih
 constructor
 intro A0 A1 A3 A4 A2 A5 N0 C0 N1 C1 b1 o1 N3 C3 N4 C4 N2 C2 N5 C5 B x1 x2 x3 res w0 hm J V O hC1 hC1b aW aX aY aZ b0 b2 al L;unfold h_z at hm
 refine goG func110 z z z fun fn hr=>Ws<|E z (fb z) ?_
 rintro _ wb ⟨rfl,hu⟩;have h6:=hu.below;refine E z (fa J_) ?_;rintro _ aq ⟨rfl,hv⟩;have H:=hv.below;have h3:Blk aq wb.z [vI 0,sl none 0 0,sl none 0 0]:=hv.blk;refine Ra z<|Rw z<|Wm z<|R z (bP (parts:=[]) (cs:=[vI 0,sl none 0 0,sl none 0 0]) L_ z z)<|Rf z N_ z<|R z (l0 A_ z<|((hu.blk:Blk wb w0.z (vR x2 A3 N3 C3 A4 N4 C4 A2 N2 C2 A5 N5 C5)).e H).at z)<|Rm z ?_
 have hw:=(hC1.e h6).e H;have hc:=(h6.ag B).e H;have I:=lt_ h6.s H.s;obtain ⟨rk,_,_,ar,hmr⟩:=I_ hm;refine E z (fc call107 z<|ap.run (B:=B) (x2:=(⟨0,([]:List UInt8),([]:List Val)⟩:Val)) ar (zt' J I) (V.g hc) (O.g hc) hw hC1b (ii z) onL a_x an_ onL a_x an_ an_ (al.g hc) L) ?_;rintro _ ws ⟨G,ad,ne,cf,Sx,ah,ng,ci,Sy,au,av,rfl,aw,hz,a0,a1,a2,a3,hl,hj⟩;refine Rm z ?_
 iterate 3 refine Re z z z ?_
 refine E z (fa J_) ?_;rintro _ ax ⟨rfl,a4⟩;have h1:=a4.below;refine E0 (fs0 (cur':=[vI rk.number,sl ad ne cf,sl ah ng ci]) c_ z z (a4.blk:Blk ax ws.z [vI 0,sl none 0 0,sl none 0 0]) z z z z) ?_;rintro _ _ ⟨ay,az⟩;have h2:=az.one;refine Ra z<|Rw z<|Wq<|Wm z ?_
 have a5:=(a2.e h1).c h2<|ds<|mnr<|a_A.lt a2
 refine R z (d_n d_e z z a5)<|Wx z (fun hcm=>?_) (fun hcm=>?_)
 ·refine Ws<|R z (bP (parts:=[]) (cs:=[vI 0,sl none 0 0,sl none 0 0]) L_ z z)<|RM z z<|E0 (fs0 (cur':=[vI 0,sl none 0 0,sl none 0 0]) c_ z z (((h3.c G<|atp<|nmA (nmN _)<|nmN _).e h1).c h2<|djs<|mm1 h3.lt G.s) z z z z) ?_
  rintro _ _ ⟨aA,aB⟩;have a6:=aB.one;refine Ra z<|Rw z ?_
  obtain rfl:=som<|ifT hmr hcm;exact Wr<|z_ hr (q_ r_ c_ z aA z) z z ⟨bM (bM (bup (bM (bup h6 H) G al0) h1) h2<|m1<|lt_ I G.s) a6<|m1 h6.s,none,0,0,[],none,0,0,[],au,av,z,ii z,onL,onL,L,a5.c a6<|n_ a3 h3.lt lr,p_ a3 I,nd0,al0⟩
 refine Wk<|Wm z<|Rm z ?_
 have ha:=lt_ I G.s;have a7:∀k∈[ws.z],¬B k:=or0 (f_ lr)<|t_<|zt' J ha;have a8:=((hw.c G<|(nmA (g_ an_)<|g_ an_) _ hC1b).e h1).c h2<|(g_ a7) _ hC1b
 have hn:=((hc.c G<|nmA (g_ an_)<|g_ an_).e h1).c h2<|g_ a7
 have ho:=lt_ (lt_ ha h1.s) h2.s;obtain ⟨_,_,aC,W⟩:=a_3<|ifF hmr hcm;refine E z (fc call142 z<|h_W aC (zt' J ho) (V.g hn) (O.g hn) a8 hC1b a1<|ii z) ?_;rintro _ _ ⟨s4,_,_,_,aD,aE,rfl,aF,a9,aa⟩;refine Rm z<|Re z z z<|Re z z z<|Ra z<|Rw z<|Wq<|Wm z<|R z (d_n d_e z z a9)<|Wx z (fun hcp=>?_) (fun hcp=>?_)
 ·refine Ws<|R z (bP (parts:=[]) (cs:=[vI 0,sl none 0 0,sl none 0 0]) L_ z z)<|RM z z<|E0 (fs0 (cur':=[vI 0,sl none 0 0,sl none 0 0]) c_ z z ((((h3.c G<|atp<|nmA (nmN _)<|nmN _).e h1).c h2<|djs<|mm1 h3.lt G.s).e s4) z z z z) ?_
  rintro _ _ ⟨aG,aH⟩;have ab:=aH.one;refine Ra z<|Rw z ?_
  obtain rfl:=som<|ifT W hcp;exact Wr<|z_ hr (q_ r_ c_ z aG z) z z ⟨bM (bup (bM (bup (bM (bup h6 H) G al0) h1) h2<|m1 ha) s4) ab<|m1 h6.s,none,0,0,[],none,0,0,[],aD,aE,z,ii z,onL,onL,L,a9.c ab<|n_ aa h3.lt<|lt_ (lt_ G.s h1.s) h2.s,p_ aa ho,nd0,al0⟩
 refine Wk<|Wq<|Wq (Wd (X:=noX) 0 (pl_ 13 [11]) mo (by kernel_rfl) fun b3 s5 _=>dM z z z ?_)
 obtain ⟨_,aI,am⟩:=bdS<|ifF W hcp;refine dRX z z (at_ (α:=UInt8) o_ z_5 z z z (aF.e s5) aI) ?_;rintro _ ⟨_,_,_,rfl,aJ,aK,_⟩;obtain rfl:=u8 aK;refine dR z z (l0 g_5 z<|aJ.at0 z)<|dR z z (c_e d_5 d_3 z)<|dM z z z<|dR z z (B_ z)<|dR z z (fd e_T z)<|dR z z (l0 R_ z<|((a8.e s4).e s5).at (j:=1) z)<|dM z z z<|dM z z z ?_
 obtain ⟨_,aL,an⟩:=bdS am;refine dRX z z (rX o_ z_5 z z (O.g<|(hn.e s4).e s5) z z aL) ?_;rintro _ ⟨_,_,_,rfl,aM⟩;have ae:=lt_ (lt_ ho s4.s) s5.s;obtain ⟨_,aN,Y⟩:=bdS an;refine dE z z (fc call144 z<|W_w1n aN (zt' J ae) aM) (.inr fun _ _ h=>l_<|h.1) ?_;rintro _ _ ⟨s7,rfl,_⟩;refine dR z z (nq z z)<|pD<|Wo<|Wc z (fun hcq=>?_) (fun hcq=>?_)
 ·refine Ws<|R z (bP (parts:=[]) (cs:=[vI 0,sl none 0 0,sl none 0 0]) L_ z z)<|RM z z ?_
  have af:=lt_ ae s7.s;obtain ⟨_,aO,ao⟩:=bdS<|ifT Y hcq;refine E z (fc call112 z<|d_E aO (zt' J af) a1<|ii z) ?_;rintro _ _ ⟨ai,aP,aQ,rfl,aR,aj⟩;refine E0 (fs0 (cur':=[vI 0,sl none 0 0,sl none 0 0]) c_ z z (((((((h3.c G<|atp<|nmA (nmN _)<|nmN _).e h1).c h2<|djs<|mm1 h3.lt G.s).e s4).e s5).e s7).e ai) z z z z) ?_;rintro _ _ ⟨aS,aT⟩;have ak:=aT.one;refine Ra z<|Rw z ?_
  obtain rfl:=som ao;exact Wr<|z_ hr (q_ r_ c_ z aS z) z z ⟨bM (bup (bup (bup (bup (bM (bup (bM (bup h6 H) G al0) h1) h2<|m1 ha) s4) s5) s7) ai) ak<|m1 h6.s,none,0,0,[],none,0,0,[],aP,aQ,z,ii z,onL,onL,L,aR.c ak<|n_ aj h3.lt<|lt_ (lt_ (lt_ (lt_ (lt_ G.s h1.s) h2.s) s4.s) s5.s) s7.s,p_ aj af,nd0,al0⟩
 refine Wk<|Ws<|R z (lN (vs:=[vI rk.number,sl ad ne cf,sl ah ng ci]) r_ c_ z z fid<|(((ay.e s4).e s5).e s7).row 0 3 z)<|Rm z<|R z (add_ z z)<|E0 (fs0 (cur':=[vI rk.number,sl ad ne cf,sl ah ng ci]) c_ z z ((((((h3.c G<|atp<|nmA (nmN _)<|nmN _).e h1).c h2<|djs<|mm1 h3.lt G.s).e s4).e s5).e s7) z z z z) ?_
 rintro _ _ ⟨aU,aV⟩;have ht:=aV.one;refine Ra z<|Rw z ?_
 obtain rfl:=som<|ifF Y hcq;exact Wr<|z_ hr (q_ r_ c_ z aU z) z z ⟨bM (bup (bup (bup (bM (bup (bM (bup h6 H) G al0) h1) h2<|m1 ha) s4) s5) s7) ht<|m1 h6.s,ad,ne,cf,Sx,ah,ng,ci,Sy,.nilIface,([]:List Nat),z,aw,(((((hz.e h1).c h2<|ds<|mnr<|a_.lt hz).e s4).e s5).e s7).c ht (or1 (al_ hj) al0 (a_f (f_ h3.lt) lr):∀k∈Sx,k∉[wb.z]),(((((a0.e h1).c h2<|ds<|mnr<|a_.lt a0).e s4).e s5).e s7).c ht (or1 (ar_ hj) al0 (a_f (f_ h3.lt) lr):∀k∈Sy,k∉[wb.z]),iA _ _,d_N,an_,na_ (nl_ hl) (nr_ hl)<|nj hl,aa_ (a_E (al_ hj) al0 I)<|a_E (ar_ hj) al0 I⟩
theorem c_d:∀n,e_m n
  | 0=>⟨⟨fun hm=>by intros;exact nomatch (show none=some _ from hm)⟩,⟨fun hm=>by intros;exact nomatch (show none=some _ from hm)⟩,⟨fun hm=>by intros;exact nomatch (show none=some _ from hm)⟩,⟨fun hm=>by intros;exact nomatch (show none=some _ from hm)⟩,⟨fun hm=>by intros;exact nomatch (show none=some _ from hm)⟩,⟨fun hm=>by intros;exact nomatch (show none=some _ from hm)⟩⟩
  | n+1=>⟨T_w02<|c_d n,T_w1p<|c_d n,T_w1q<|c_d n,T_w1r<|c_d n,T_w1s<|c_d n,T_w1t<|c_d n⟩
theorem W_w02:j_G (a_c n).impl_fileReader_value:=(c_d n).1
theorem W_w1p:j_H (a_c n).impl_fileReader_array:=(c_d n).2.1
theorem W_w1q:j_I (a_c n).impl_fileReader_items:=(c_d n).2.2.1
theorem W_w1r:j_J (a_c n).impl_fileReader_choice:=(c_d n).2.2.2.1
theorem W_w1s:j_K (a_c n).impl_fileReader_option:=(c_d n).2.2.2.2.1
theorem W_w1t:j_L (a_c n).impl_fileReader_checked:=(c_d n).2.2.2.2.2
theorem h_Y {x1:b_}{x2:Int}{x3:List UInt8}{x4:Int}{res:Val×Int×Int}(hm:f_P n x1 x2 x3 x4=some res)(O:B<=w0.z)(hG:Gl w0 B)(V:repS w0 B (sl A0 N0 C0) x1.rules)(W:inI x2)(Y:repS w0 B (sl A7 N7 C7) x3)(aB:inI x4):i_ prog 43 [(.agg #[sl A0 N0 C0]),vI x2,sl A7 N7 C7,vI x4] w0 (Q9 w0 B res):=by
 unfold f_P at hm
 refine goG func43 z z z fun fn hr=>Ws<|E z (fb z) ?_
 rintro _ wc ⟨rfl,a5⟩;have h1:=a5.below;have a6:Blk wc w0.z [sl A0 N0 C0]:=a5.blk;refine E z (fa J_) ?_;rintro _ wp ⟨rfl,a7⟩;have h4:=a7.below;have h5:Blk wp wc.z [vI 0,sl none 0 0,sl none 0 0]:=a7.blk;refine Ra z<|Rw z<|Wq<|Wq ?_
 obtain ⟨aE,aC,a0⟩:=bdS hm;refine Wt (fun a w=>∃(xq:Bool),xq=aE/\Sat 62 [(1,vI x2),(2,sl A7 N7 C7),(3,vI x4),(4,pt w0.z),(8,pt wc.z),(34,vB xq)] a/\Below wp.z wp w) ?_ ?_
 ·refine Wg<|R z (lN (vs:=[sl A0 N0 C0]) w_ u_ z z fid<|(a6.e h4).row 0 1 z)<|Rm z ?_
  have a8:=(h1.ag B).e h4;obtain ⟨aF,aG,a1⟩:=bdS aC;refine E z (fc call78 z<|g_2 aG (zt' O<|lt_ h1.s h4.s) (V.g a8) W) ?_;rintro _ _ ⟨sd,rfl⟩;refine R z (not_ z)<|Rm z ?_
  rcases bs (!aF) with J | J
  ·exact Nh z J<|Nh z J<|R z (pT z J z)<|Rm z<|Nh z z<|Nh z z<|Nh z z<|Nh z z<|R z (pT z z z)<|Rm z<|Nh z z<|Nh z z<|Nh z z<|R z (pT z z z)<|Wl (fun _ q=>⟨true,som<|ifT a1 J,q.k<|s6 z z z z z z,sd⟩)
  have a2:=ifF a1 J;refine Rh z J (mv z)<|Rh z J (lss z z)<|R z (pF z J z)<|Rm z ?_
  rcases bs (decide<|x4<0) with H | H
  ·iterate 4 refine Nh z H ?_
   exact R z (pT z H z)<|Rm z<|Nh z z<|Nh z z<|Nh z z<|R z (pT z z z)<|Wl (fun _ q=>⟨true,som<|ifT a2 H,q.k<|s6 z z z z z z,sd⟩)
  have a3:=ifF a2 H;refine Rh z H (mv z)<|Rh z H (mv z) ?_
  have a9:=Y.g<|a8.e sd
  refine Rh z H (lnR o_ z a9)<|Rh z H (a_i z z)<|R z (pF z H z)<|Rm z ?_
  rcases bs (decide<|(x3.length:Int)<x4) with L | L
  ·iterate 3 refine Nh z L ?_
   exact R z (pT z L z)<|Wl (fun _ q=>⟨true,som<|ifT a3 L,q.k<|s6 z z z z z z,sd⟩)
  exact Rh z L (mv z)<|Rh z L (lnR o_ z a9)<|Rh z L (a_i z z)<|R z (pF z L z)<|Wl (fun _ q=>⟨decide<|400<(x3.length:Int),som<|ifF a3 L,q.k<|s6 z z z z z z,sd⟩)
 rintro aH aI ⟨xq,rfl,_,G⟩;revert aH;refine Wo<|Wc z (fun hcr=>?_) (fun hcr=>?_)
 ·refine Ws<|R z (bP (parts:=[]) (cs:=[vI 0,sl none 0 0,sl none 0 0]) L_ z z)<|E0 (fs0 (cur':=[vI 0,sl none 0 0,sl none 0 0]) c_ z z (h5.e G) z z z z) ?_
  rintro _ _ ⟨aJ,aK⟩;refine Ra z<|Rw z ?_
  obtain rfl:=som<|ifT a0 hcr;exact Wr<|z_ hr (q_ r_ c_ z aJ z) z z ⟨bM (bup (bup h1 h4) G) aK.one<|m1 h1.s,none,0,0,[],none,0,0,[],z,ii z,onL,onL,ii z,ii z,nd0,al0⟩
 refine Wk<|Ws<|R z (lN (vs:=[sl A0 N0 C0]) w_ u_ z z fid<|((a6.e h4).e G).row 0 1 z)<|Rm z<|R z (bP (parts:=[(0,.tmp 36),(1,.tmp 37)]) (cs:=[sl A0 N0 C0,sl A7 N7 C7]) o_l z z)<|E z (fb z) ?_
 rintro _ aa ⟨rfl,ab⟩;have ha:=ab.below;have ad:Blk aa aI.z [sl A0 N0 C0,sl A7 N7 C7]:=ab.blk;refine Rw z<|Wm z<|RM z z ?_
 have ae:=(((h1.ag B).e h4).e G).e ha;have he:=lt_ (lt_ (lt_ h1.s h4.s) G.s) ha.s;have af:=zt' O he;obtain ⟨rs,_,aL,aM,a4⟩:=I_<|ifF a0 hcr;refine E z (fc call79 z<|W_w02.run (B:=aa.z) aM zr (repS.mono (V.g ae) af) (repS.mono (Y.g ae) af) (ad.row 0 2 z) ad.lt W aB) ?_;rintro _ ai ⟨sb,ah,ng,ci,aN,aj,nk,cl,aO,_,_,rfl,aP,ak,al,aQ,ht,aR,hu,hn⟩;refine Rm z ?_
 iterate 3 refine Re z z z ?_
 refine E z (fa J_) ?_;rintro _ aS ⟨rfl,am⟩;have h2:=am.below;refine E0 (fs0 (cur':=[vI rs.number,sl ah ng ci,sl aj nk cl]) c_ z z (am.blk:Blk aS ai.z [vI 0,sl none 0 0,sl none 0 0]) z z z z) ?_;rintro _ an ⟨aT,aU⟩;have h3:=aU.one;refine Ra z<|Rw z<|Ws<|E z (fa o_s) ?_
 rintro _ aV ⟨rfl,ao⟩;have I:=ao.below;have ap:Blk aV an.z [(.pointer none)]:=ao.blk;refine Wn<|Wq<|Wm z<|R z (m_b d_121 (fun _ h=>by cases h) z) ?_
 have aq:=((ht.e h2).c h3<|ds<|mnr<|a_A.lt ht).e I
 rcases bs (aL.isSome) with hcm | hcm
 ·obtain ⟨_,_,aW,aD⟩:=a_3<|ifT a4 hcm;have hv:=lt_ he sb.s;refine E z (fc call80 z<|o_k ((((((((hG.e h1).e h4).e G).e ha).e sb).e h2).c h3<|g_ (or0 (f_ lr) (t_<|zt' O hv):∀k∈[ai.z],¬B k)).e I) aq aW ap) ?_;rintro _ _ ⟨ar,rfl,aX,aY,aZ,au,b0,b1⟩;have hw:=aX.one;refine Wx z (fun _=>?_) (fun hc=>(f_8 z hc).elim)
  refine Wq<|Wd (X:=(· ∈ [wc.z])) 0 (pl_ 12 [9]) mo (by kernel_rfl) fun b6 so _=>dR z z (bP (parts:=[]) (cs:=[vI 0,sl none 0 0,sl none 0 0]) L_ z z) ?_;have av:=aY.e so;have aw:=lt_ G.s ha.s;have ax:=lt_ aw sb.s;have ay:=lt_ (lt_ ax h2.s) h3.s;have hx:=mm1 h5.lt ay;refine dR z z (l1 g_119 z (atp hx)<|av.at z)<|dR z z (B_ z)<|dR z z (fd o_q z) ?_
  have az:=(aZ.c hw<|atp (or1 (f_<|.inl au) (ds<|mno (a_A.lt ht)<|lt_ h2.s h3.s) (a_f (f_ ap.lt) lr):∀k∈[ar],k∉[an.z])).e so;have aA:∀k∈[ar],k∉[wc.z]:=or1 (f_<|.inl au) (n_ aR h5.lt aw)<|a_f (f_ h5.lt)<|lt_ ay I.s;refine dR z z (l1 g_3 z (atp aA)<|az.at z)<|dR z z (l1 g_119 z (atp hx)<|av.at z)<|dR z z (B_ z)<|dR z z (fd o_r z)<|dR z z (l1 g_3 z (atp aA)<|az.at z)<|dE0 z (fs0 (cur':=[vI 0,sl none 0 0,sl none 0 0]) c_ z z ((((((((h5.e G).e ha).e sb).e h2).c h3<|djs<|mm1 h5.lt ax).e I).c hw<|djs hx).e so) z z z z) (.inr fun _ _ h=>k_9 (List.mem_singleton.2 z) h.2) ?_
  rintro _ _ ⟨b2,b3⟩;refine dQ z z z<|dQ z z z<|pD<|Wo ?_
  obtain rfl:=som aD;exact Wr<|z_ hr (q_ r_ c_ z b2 z) z z ⟨bM (bup (bM (bup (bM (bup (bup (bup (bup (bup h1 h4) G) ha) sb) h2) h3<|m1 hv) I) hw<|m1<|lt_ (lt_ hv h2.s) h3.s) so) b3.one<|m1 h1.s,none,0,0,[],none,0,0,[],z,ii z,onL,onL,b0,b1,nd0,al0⟩
 refine E z (fc call80 z<|o_j aq hcm) ?_;rintro _ _ ⟨rfl,sf⟩;refine Wx z (fun hc=>(f_8 hc z).elim) (fun _=>?_)
 refine Wk<|Ws<|R z (lN (vs:=[vI rs.number,sl ah ng ci,sl aj nk cl]) r_ c_ z z fid<|((aT.e I).e sf).row 0 3 z)<|Rm z ?_
 have hy:=lt_ G.s ha.s;refine E0 (fs0 (cur':=[vI rs.number,sl ah ng ci,sl aj nk cl]) c_ z z (((((((h5.e G).e ha).e sb).e h2).c h3<|djs<|mm1 h5.lt<|lt_ hy sb.s).e I).e sf) z z z z) ?_;rintro _ _ ⟨b4,b5⟩;have hz:=b5.one;refine Ra z<|Rw z ?_
 obtain rfl:=som<|ifF a4 hcm;exact Wr<|z_ hr (q_ r_ c_ z b4 z) z z ⟨bM (bup (bup (bM (bup (bup (bup (bup (bup h1 h4) G) ha) sb) h2) h3<|m1<|lt_ he sb.s) I) sf) hz<|m1 h1.s,ah,ng,ci,aN,aj,nk,cl,aO,z,aP,((((ak.e h2).c h3<|ds<|mnr<|a_.lt ak).e I).e sf).c hz<|n_ (al_ hn) h5.lt hy,((((al.e h2).c h3<|ds<|mnr<|a_.lt al).e I).e sf).c hz<|n_ (ar_ hn) h5.lt hy,aQ,ii z,na_ (nl_ hu) (nr_ hu)<|nj hu,aa_ (p_ (al_ hn) he)<|p_ (ar_ hn) he⟩
theorem W_w1u {x1:b_}{x2:List UInt8}{res:Val×Int×Int}(hm:f_Q n x1 x2=some res)(W:B<=w0.z)(hG:Gl w0 B)(V:repS w0 B (sl A0 N0 C0) x1.rules)(Y:repS w0 B (sl A6 N6 C6) x2):i_ prog 20 [(.agg #[sl A0 N0 C0]),sl A6 N6 C6] w0 (Q9 w0 B res):=by
 unfold f_Q at hm
 refine goG func20 z z z fun fn hr=>Ws<|E z (fb z) ?_
 rintro _ wn ⟨rfl,ao⟩;have h2:=ao.below;have hv:Blk wn w0.z [sl A0 N0 C0]:=ao.blk;refine E z (fa J_) ?_;rintro _ I ⟨rfl,ap⟩;have h1:=ap.below;have ho:Blk I wn.z [vI 0,sl none 0 0,sl none 0 0]:=ap.blk;refine Ra z<|Rw z<|Wq ?_
 obtain ⟨bn,ak,bh⟩:=bdS hm;refine Wt (fun a w=>∃(xb:Int)(xw:List UInt8)(xx:List Val)(xc:Int)(xd:Int),(xb,xw,xx,xc,xd)=bn/\∃ae nf cg J ah ni cj L O,Sat 32 [(1,sl A6 N6 C6),(4,pt wn.z),(7,pt O),(8,vI xc),(9,vI xd)] a/\Below I.z I w/\inI xb/\a_ w J (sl ae nf cg) xw/\J.Nodup/\(∀k∈J,I.z<=k)/\a_ w L (sl ah ni cj) xx/\L.Nodup/\(∀k∈L,I.z<=k)/\(∀k∈L,k∉J)/\inI xc/\inI xd/\Blk w O [vI xb,sl ae nf cg,sl ah ni cj]/\I.z<=O/\(∀k∈J,k∉[O])/\(∀k∈L,k∉[O])) ?_ ?_
 ·refine Wd (X:=fun k=>k∈([]:List Nat)∨I.z<=k) 0 (.rd 0<|.rd 1<|.rd 3<|.br 2 (.br 4 (.rd 5<|.rd 6<|.rd 7<|.rd 8<|.ef 9<|.ef 10<|.rd 11<|.rd 12 .done) 9<|.ef 4<|.rd 5<|.rd 6<|.rd 7<|.rd 8<|.ef 10<|.rd 11<|.rd 12 .done) 9<|.ef 2<|.ef 4<|.rd 5<|.rd 6<|.rd 7<|.rd 8<|.ef 10<|.rd 11<|.rd 12 .done) mo (by kernel_rfl) fun aq G _=>?_
  have ar:=(hv.e h1).e G;refine dR z z (lN (vs:=[sl A0 N0 C0]) w_ u_ z z (b_q nm0<|Nat.lt_of_lt_of_le hv.lt h1.s)<|ar.row 0 1 z)<|dR z z (lN (vs:=[sl A0 N0 C0]) w_ u_ z z (b_q nm0<|Nat.lt_of_lt_of_le hv.lt h1.s)<|ar.row 0 1 z)<|dM z z z<|b_p ?_ ?_
  ·have hy:=((h2.ag B).e h1).e G;have hz:=lt_ (lt_ h2.s h1.s) G.s;obtain ⟨_,bo,al⟩:=bdS ak;refine dE z z (fc call42 z<|e_W bo (zt' W hz)<|V.g hy) (.inr fun _ _ h=>l_<|h.1) ?_;rintro _ au ⟨s3,rfl,av⟩;refine b_p ?_ ?_
   ·have aw:=hy.e s3;obtain ⟨rp,bp,bq,bt,bi⟩:=I_ al;refine dE z z (fc call43 z<|h_Y bt (zt' W<|lt_ hz s3.s) ((((hG.e h2).e h1).e G).e s3) (V.g aw) av (Y.g aw)<|ii z) (.inr fun _ _ h=>l_<|h.1) ?_;rintro _ ax ⟨ay,az,aA,aB,bu,aC,aD,aE,bv,rfl,bw,aF,aG,bx,bz,a1,aH⟩;refine dM z z z ?_
    iterate 3 refine dR z z (ext_ z z) ?_
    refine dE z z (fa J_) (.inr fun _ _ h=>l_<|h.2.below) ?_;rintro _ bA ⟨rfl,aI⟩;have a2:=aI.below;have a3:=lt_ G.s s3.s;have a4:=m1<|lt_ a3 ay.s
    refine dE0 z (fs0 (cur':=[vI rp.number,sl az aA aB,sl aC aD aE]) c_ z z (aI.blk:Blk bA ax.z [vI 0,sl none 0 0,sl none 0 0]) z z z z) (.inr fun _ _ h=>a_C (atp a4) h.2) ?_;rintro _ _ ⟨bB,bC⟩;have a5:=bC.one;refine dQ z z z<|dQ z z z<|pD ?_
    have aJ:=mnr<|a_.lt aF
    have aK:=mnr<|a_.lt aG
    exact fun _ q=>⟨rp.number,rp.bytes,rp.items,bp,bq,som bi,az,aA,aB,bu,aC,aD,aE,bv,ax.z,q.k<|s5 z z z z z,bM (bup (bup (bup G s3) ay) a2) a5 a4,bw,(aF.e a2).c a5<|ds aJ,nl_ a1,p_ (al_ aH) a3,(aG.e a2).c a5<|ds aK,nr_ a1,p_ (ar_ aH) a3,ds<|nj a1,bx,bz,bB,atp a4,ds aJ,ds aK⟩
   refine dE z z (fa J_) (.inr fun _ _ h=>l_<|h.2.below) ?_;rintro _ bD ⟨rfl,aL⟩;have hk:=aL.below;have a6:Blk bD au.z [vI 0,sl none 0 0,sl none 0 0]:=aL.blk;have aM:=(hy.e s3).e hk;obtain ⟨rq,bE,bF,bG,bj⟩:=I_ al;refine dE z z (fc call43 z<|h_Y bG (zt' W<|lt_ (lt_ hz s3.s) hk.s) (((((hG.e h2).e h1).e G).e s3).e hk) (V.g aM) av (Y.g aM)<|ii z) (.inr fun _ _ h=>l_<|h.1) ?_;rintro _ _ ⟨aN,aO,aP,aQ,bH,aR,aS,aT,bI,rfl,bJ,bK,bL,bN,bO,a7,ht⟩;refine dM z z z ?_
   iterate 3 refine dR z z (ext_ z z) ?_
   have aU:=lt_ G.s s3.s;have a8:=m1 aU;refine dE0 z (fs0 (cur':=[vI rq.number,sl aO aP aQ,sl aR aS aT]) c_ z z (a6.e aN) z z z z) (.inr fun _ _ h=>a_C (atp a8) h.2) ?_;rintro _ _ ⟨bQ,bR⟩;have a9:=bR.one;refine dQ z z z<|dQ z z z<|pD ?_
   have aV:=n_ (al_ ht) a6.lt lr;have aW:=lt_ aU hk.s;have aX:=n_ (ar_ ht) a6.lt lr;exact fun _ q=>⟨rq.number,rq.bytes,rq.items,bE,bF,som bj,aO,aP,aQ,bH,aR,aS,aT,bI,au.z,q.k<|s5 z z z z z,bM (bup (bup (bup G s3) hk) aN) a9 a8,bJ,bK.c a9 aV,nl_ a7,p_ (al_ ht) aW,bL.c a9 aX,nr_ a7,p_ (ar_ ht) aW,ds<|nj a7,bN,bO,bQ,atp a8,aV,aX⟩
  refine dE z z (fa J_) (.inr fun _ _ h=>l_<|h.2.below) ?_;rintro _ bS ⟨rfl,aY⟩;have hl:=aY.below;have aa:Blk bS aq.z [vI 0,sl none 0 0,sl none 0 0]:=aY.blk;have aZ:=(((h2.ag B).e h1).e G).e hl;have b0:=lt_ (lt_ (lt_ h2.s h1.s) G.s) hl.s;obtain ⟨_,bT,bk⟩:=bdS ak;refine dE z z (fc call42 z<|e_W bT (zt' W b0)<|V.g aZ) (.inr fun _ _ h=>l_<|h.1) ?_;rintro _ _ ⟨s6,rfl,bU⟩;have b1:=aZ.e s6;obtain ⟨rr,bV,bW,bX,bm⟩:=I_ bk;refine dE z z (fc call43 z<|h_Y bX (zt' W<|lt_ b0 s6.s) (((((hG.e h2).e h1).e G).e hl).e s6) (V.g b1) bU (Y.g b1)<|ii z) (.inr fun _ _ h=>l_<|h.1) ?_;rintro _ _ ⟨b2,b3,b4,b5,bY,b6,b7,b8,bZ,rfl,c0,c1,c2,c3,c4,ab,hu⟩;refine dM z z z ?_
  iterate 3 refine dR z z (ext_ z z) ?_
  have ad:=m1 G.s;refine dE0 z (fs0 (cur':=[vI rr.number,sl b3 b4 b5,sl b6 b7 b8]) c_ z z ((aa.e s6).e b2) z z z z) (.inr fun _ _ h=>a_C (atp ad) h.2) ?_;rintro _ _ ⟨c5,c6⟩;have af:=c6.one;refine dQ z z z<|dQ z z z<|pD ?_
  have b9:=n_ (al_ hu) aa.lt s6.s;have ba:=lt_ (lt_ G.s hl.s) s6.s;have bb:=n_ (ar_ hu) aa.lt s6.s;exact fun _ q=>⟨rr.number,rr.bytes,rr.items,bV,bW,som bm,b3,b4,b5,bY,b6,b7,b8,bZ,aq.z,q.k<|s5 z z z z z,bM (bup (bup (bup G hl) s6) b2) af ad,c0,c1.c af b9,nl_ ab,p_ (al_ hu) ba,c2.c af bb,nr_ ab,p_ (ar_ hu) ba,ds<|nj ab,c3,c4,c5,atp ad,b9,bb⟩
 rintro c7 ws ⟨xb,xw,xx,xc,xd,rfl,ae,nf,cg,J,ah,ni,cj,L,O,_,sm,c8,c9,ca,bc,cb,cc,be,cd,bf,ce,cf,_,_,_⟩;revert c7;refine Wo<|Wq<|Wq ?_
 obtain ⟨ch,am,an⟩:=bdS<|un5S bh;refine Wt (fun a w=>∃(ai:Bool),ai=ch/\Sat 32 [(4,pt wn.z),(7,pt O),(8,vI xc),(9,vI xd),(26,vB ai)] a/\Below ws.z ws w) ?_ ?_
 ·refine Wg<|Rm z<|Rq z z z<|Rm z ?_
  rcases bs (xd==0) with H | H
  ·exact Rh z H (mv z)<|Rh z H (mv z)<|Rh z H (lnR o_ z<|Y.g<|((h2.ag B).e h1).e sm)<|Rh z H (lss z z)<|R z (pT z H z)<|Wl (fun _ q=>⟨decide<|xc<(x2.length:Int),som<|ifT am H,q.k<|s5 z z z z z,br ws⟩)
  iterate 4 refine Nh z H ?_
  exact R z (pF z H z)<|Wl (fun _ q=>⟨false,som<|ifF am H,q.k<|s5 z z z z z,br ws⟩)
 rintro ci _ ⟨ai,rfl,_,sa⟩;revert ci;refine Wo<|Wc z (fun a0=>?_) (fun a0=>?_)
 ·refine Ws<|R z (bP (parts:=[]) (cs:=[vI 0,sl none 0 0,sl none 0 0]) L_ z z)<|Rm z<|E0 (fs0 (cur':=[vI 0,sl none 0 0,sl none 0 0]) c_ z z ((ho.e sm).e sa) z z z z) ?_
  rintro _ _ ⟨ck,cl⟩;refine Ra z<|Rw z ?_
  obtain rfl:=som<|ifT an a0;exact Wr<|z_ hr (q_ r_ c_ z ck z) z z ⟨bM (bup (bup (bup h2 h1) sm) sa) cl.one<|m1 h2.s,none,0,0,[],none,0,0,[],z,ii z,onL,onL,bf,ii z,nd0,al0⟩
 refine Wk<|Ws<|R z (lN (vs:=[vI xb,sl ae nf cg,sl ah ni cj]) r_ c_ z z fid<|(cf.e sa).row 0 3 z)<|RM z z<|E0 (fs0 (cur':=[vI xb,sl ae nf cg,sl ah ni cj]) c_ z z ((ho.e sm).e sa) z z z z) ?_
 rintro _ _ ⟨cm,cn⟩;have aj:=cn.one;refine Ra z<|Rw z ?_
 obtain rfl:=som<|ifF an a0;have bg:=lt_ h2.s h1.s;exact Wr<|z_ hr (q_ r_ c_ z cm z) z z ⟨bM (bup (bup (bup h2 h1) sm) sa) aj<|m1 h2.s,ae,nf,cg,J,ah,ni,cj,L,z,c8,(c9.e sa).c aj<|n_ bc ho.lt lr,(cb.e sa).c aj<|n_ be ho.lt lr,bf,ce,na_ ca cc<|ds cd,aa_ (p_ bc bg)<|p_ be bg⟩
def Q27 (w0:World)(B:Zone)(r:X_)(v:Value)(w':World):Prop:=Bw w0 w'/\(fun G=>(.agg #[vI G.at_,vI G.code])=v/\inI G.at_/\inI G.code) r
theorem g_6 {x1:a_1}{b1 o1:Nat}{x2:Int}{x3:Int}{res:X_}(hm:d_B x1 x2 x3=some res)(a0:B<=w0.z)(V:repS w0 B (sl A0 N0 C0) x1.d.rules)(I:repS w0 B (sl A1 N1 C1) x1.b)(W:inI x1.applied)(hC1:P_ w0 b1 o1 [sl A0 N0 C0,sl A1 N1 C1,vI x1.applied])(hC1b:B b1)(J:inI x2)(Y:inI x3):i_ prog 136 [(.pointer<|some ⟨b1,o1,none⟩),vI x2,vI x3] w0 (Q27 w0 B res):=by
 unfold d_B at hm
 refine goG func136 z z z fun fn hr=>Ws<|E z (fa b_k) ?_
 rintro _ L ⟨rfl,h2⟩;have G:=h2.below;have h3:Blk L w0.z [vI 0,vI 0]:=h2.blk;refine Wn<|Wq<|Wm z<|Rm z<|R z (B_ z)<|Rf z d_c z<|R z (l0 R_ z<|(hC1.e G).at (j:=1) z)<|R z (lnR o_ z<|I.e G)<|Rm z<|R z (sb_ z z)<|R z (a_i z z)<|Wx z (fun H=>?_) (fun H=>?_)
 ·refine Wm z<|R z (bP (parts:=[(0,.tmp 16),(1,.const<|.int .i64 1)]) (cs:=[vI x2,vI 1]) c_c z z)<|E0 (fs0 (cur':=[vI x2,vI 1]) E_ z z h3 z z z z) ?_
  rintro _ _ ⟨h5,s6⟩;refine Wn ?_;obtain rfl:=som<|ifT hm H;exact Wr<|d_ hr (q_ a_g E_ z h5 z) ⟨bM G s6.one<|f_ lr,z,J,ii z⟩
 refine Wk<|Wm z<|Rm z<|R z (add_ z z)<|R z (bP (parts:=[(0,.tmp 20),(1,.const<|.int .i64 0)]) (cs:=[vI (j_ x2 x3),vI 0]) c_c z z)<|E0 (fs0 (cur':=[vI (j_ x2 x3),vI 0]) E_ z z h3 z z z z) ?_
 rintro _ _ ⟨O,s8⟩;refine Wn ?_;obtain rfl:=som<|ifF hm H;exact Wr<|d_ hr (q_ a_g E_ z O z) ⟨bM G s8.one<|f_ lr,z,iA _ _,ii z⟩
def Q28 (w0:World)(g1:Nat)(B:Zone)(A0:Option Addr)(N0 C0:Nat)(A1:Option Addr)(N1 C1:Nat)(x1:a_1)(r:Int×X_×Int)(v:Value)(w':World):Prop:=Chg (· ∈ [g1]) w0 w'/\un3 (fun H G I=>v = .tuple #[vI H,(.agg #[vI G.at_,vI G.code])]/\inI H/\inI G.at_/\inI G.code/\inI I/\Blk w' g1 [sl A0 N0 C0,sl A1 N1 C1,vI I]) r
theorem h_Z {x1:a_1}{g1:Nat}{x2:Int}{x3:Int}{res:Int×X_×Int}(hm:e_d x1 x2 x3=some res)(hB1:Blk w0 g1 [sl A0 N0 C0,sl A1 N1 C1,vI x1.applied])(L:B<=w0.z)(hBg:¬B g1)(O:repS w0 B (sl A0 N0 C0) x1.d.rules)(V:repS w0 B (sl A1 N1 C1) x1.b)(aP:inI x1.applied)(aQ:inI x2)(al:inI x3):i_ prog 134 [pt g1,vI x2,vI x3] w0 (Q28 w0 g1 B A0 N0 C0 A1 N1 C1 x1 res):=by
 unfold e_d at hm
 refine goG func134 z z z fun fn hr=>Ws<|Ra z<|E z (fa b_k) ?_
 rintro _ wf ⟨rfl,ho⟩;have hb:=ho.below;have I:Blk wf w0.z [vI 0,vI 0]:=ho.blk;refine Wn<|Wm z<|R z (B_ z)<|Rf z h_R z ?_
 have hp:=hB1.e hb;refine R z (l0 g_3 z<|hp.at z)<|R z (add_ z z)<|R z (B_ z)<|Rf z h_R z<|E0 (fs0 (cur':=[sl A0 N0 C0,sl A1 N1 C1,vI<|j_ x1.applied 1]) z_3 z z hp z z z z) ?_
 rintro _ J ⟨hq,ap⟩;have h1:=ap.one;refine Wn<|Wm z<|R z (B_ z)<|Rf z l_g z<|Rf z a_9 z<|R z (l0 a_d z<|hq.at z)<|Rm z ?_
 obtain ⟨xr,aq,am⟩:=bdS hm;have ht:=(hb.ag B).c h1<|g_<|f_ hBg
 refine RX z (at_ (α:=e_) a_0 m_ z z z (O.g ht) aq) ?_;rintro _ ⟨_,_,_,rfl,ar,av,_⟩;obtain ⟨au,ns,cv,aw,nx,cy,az,Y,a0,a1,a2,a3,rfl,_,_,ax,_,_,_,_⟩:=a_w av;refine R z (lN (vs:=vR xr au ns cv aw nx cy az Y a0 a1 a2 a3) G_ m_ z z fid ar)<|E z (fa b_l) ?_
 rintro _ wg ⟨rfl,a4⟩;have h4:=a4.below;have a5:Blk wg J.z [(Str.v (⟨[]⟩:Str)),vI 0,vI 0,vB false,sl none 0 0,sl none 0 0,sl none 0 0,sl none 0 0]:=a4.blk;refine E0 (fs0 (cur':=vR xr au ns cv aw nx cy az Y a0 a1 a2 a3) m_ z z a5 z z z z) ?_;rintro _ a6 ⟨a7,ay⟩;have h2:=ay.one;refine Wn<|Wm z<|Rm z<|Rf z a_F z<|R z (l0 g_3 z<|a7.at z) ?_
 have hc:=lt_ hb.s h1.s;have hh:=(hq.e h4).c h2<|djs<|mm1 (Blk.lt hB1) hc
 have hi:=(ht.e h4).c h2<|g_ (or0 (f_ lr) (t_<|zt' L hc):∀k∈[J.z],¬B k)
 have hj:=lt_ (lt_ hc h4.s) h2.s;obtain ⟨H,aA,W⟩:=bdS am;refine E z (fc call136 z<|g_6 (B:=w0.z) aA (a_p hj) (repS.mono (O.g hi) L) (repS.mono (V.g hi) L) (iA _ _) (hh.row 0 3 z) (Blk.lt hB1) al ax) ?_;rintro _ wa ⟨G,rfl,a8,a9⟩;refine E z (fa b_k) ?_;rintro _ wk ⟨rfl,aa⟩;have h5:=aa.below;refine E0 (fs0 (cur':=[vI H.at_,vI H.code]) E_ z z (aa.blk:Blk wk wa.z [vI 0,vI 0]) z z z z) ?_;rintro _ ab ⟨hl,aB⟩;have h6:=aB.one;refine Wn<|Wq<|Ws<|Rf z c_N z<|R z (l0 g_3 z<|hl.at z)<|R z (nq z z)<|Wx z (fun hcm=>?_) (fun hcm=>?_)
 ·refine Wq (Wd (X:=noX) 4 (pl_ 3 [2]) mo (by kernel_rfl) fun aC sd _=>dR z z (lN (vs:=[vI H.at_,vI H.code]) a_g E_ z z fid<|(hl.e sd).row 0 2 z)<|dQ z z z ?_);have ad:=mmr<|Blk.lt hB1
  refine dE0 z (fs0 (cur':=[vI H.at_,vI H.code]) E_ z z (((((((I.c h1<|atp ad).e h4).c h2<|djs<|mm1 I.lt h1.s).e G).e h5).c h6<|djs<|mm1 I.lt<|lt_ (lt_ (lt_ h1.s h4.s) h2.s) G.s).e sd) z z z z) (.inl z) ?_;rintro _ aD ⟨aE,aF⟩;have ae:=aF.one;refine pD<|Wo ?_
  obtain rfl:=som<|ifT W hcm;have af:=lt_ hj G.s;exact Wr<|a_4 hr z (q_ a_g E_ z aE z) ⟨(cM (h_ (cM (h_ (h_ (cM (h_ (cM (h_ (cr [g1] w0) hb:Chg (· ∈ [g1]) w0 wf) h1 (io sr):Chg (· ∈ [g1]) w0 J) h4:Chg (· ∈ [g1]) w0 wg) h2 (mor hc:∀k∈[J.z],k∈[g1]∨w0.z<=k):Chg (· ∈ [g1]) w0 a6) G:Chg (· ∈ [g1]) w0 wa) h5:Chg (· ∈ [g1]) w0 wk) h6 (mor af:∀k∈[wa.z],k∈[g1]∨w0.z<=k):Chg (· ∈ [g1]) w0 ab) sd:Chg (· ∈ [g1]) w0 aC) ae (mor lr:∀k∈[w0.z],k∈[g1]∨w0.z<=k):Chg (· ∈ [g1]) w0 aD),z,ii z,a8,a9,iA _ _,((((hh.e G).e h5).c h6<|djs<|mm1 (Blk.lt hB1) af).e sd).c ae<|djs ad⟩
 refine Wk<|Wq (Wd (X:=noX) 8192 (.rd 0<|.rd 1<|.rd 2<|.rd 3<|.rd 4<|.rd 5<|.rd 6<|.rd 7<|.rd 8<|.rd 9<|.rd 11<|.ef 10<|.rd 12<|.ef 13 .done) mo (by kernel_rfl) fun aG s7 _=>dM z z z<|dR z z (B_ z)<|dR z z (fd d_c z) ?_)
 have he:=lt_ hj G.s;have ah:=(((hh.e G).e h5).c h6<|djs<|mm1 (Blk.lt hB1) he).e s7;refine dR z z (l0 R_ z<|ah.at z)<|dM z z z<|dR z z (fd c_r z) ?_
 have ai:=hl.e s7;refine dR z z (l0 g_3 z<|ai.at z) ?_;obtain ⟨_,aH,an⟩:=bdS<|ifF W hcm;refine dRX z z (rX o_ z_5 z z (V.g<|(((hi.e G).e h5).c h6<|g_ (or0 (f_ lr) (t_<|zt' L he):∀k∈[wa.z],¬B k)).e s7) z z aH) ?_;rintro _ ⟨_,_,_,rfl,aI⟩;refine dR z z (fd c_s z)<|dR z z (l0 g_4 z<|((((a7.e G).e h5).c h6<|djs<|mm1 a5.lt<|lt_ h2.s G.s).e s7).at z)<|dR z z (lN (vs:=[vI H.at_,vI H.code]) a_g E_ z z fid<|ai.row 0 2 z) ?_
 obtain ⟨_,aJ,ao⟩:=bdS an;refine dE z z (fc call143 z<|j_F aJ (zt' L<|lt_ (lt_ (lt_ he h5.s) h6.s) s7.s) aI) (.inr fun _ _ h=>l_<|h.1) ?_;rintro _ aK ⟨sn,rfl,aL⟩;refine dQ z z z ?_;have aj:=mmr<|Blk.lt hB1
 refine dE0 z (fs0 (cur':=[vI H.at_,vI H.code]) E_ z z ((((((((I.c h1<|atp aj).e h4).c h2<|djs<|mm1 I.lt h1.s).e G).e h5).c h6<|djs<|mm1 I.lt<|lt_ (lt_ (lt_ h1.s h4.s) h2.s) G.s).e s7).e sn) z z z z) (.inl z) ?_;rintro _ aM ⟨aN,aO⟩;have ak:=aO.one;refine pD<|Wo ?_
 obtain rfl:=som ao;exact Wr<|a_4 hr z (q_ a_g E_ z aN z) ⟨(cM (h_ (h_ (cM (h_ (h_ (cM (h_ (cM (h_ (cr [g1] w0) hb:Chg (· ∈ [g1]) w0 wf) h1 (io sr):Chg (· ∈ [g1]) w0 J) h4:Chg (· ∈ [g1]) w0 wg) h2 (mor hc:∀k∈[J.z],k∈[g1]∨w0.z<=k):Chg (· ∈ [g1]) w0 a6) G:Chg (· ∈ [g1]) w0 wa) h5:Chg (· ∈ [g1]) w0 wk) h6 (mor he:∀k∈[wa.z],k∈[g1]∨w0.z<=k):Chg (· ∈ [g1]) w0 ab) s7:Chg (· ∈ [g1]) w0 aG) sn:Chg (· ∈ [g1]) w0 aK) ak (mor lr:∀k∈[w0.z],k∈[g1]∨w0.z<=k):Chg (· ∈ [g1]) w0 aM),z,aL,a8,a9,iA _ _,(ah.e sn).c ak<|djs aj⟩
theorem W_w35 {x1:a_1}{b1 o1:Nat}{x2:e_}{x3:Int}{res:X_}(hm:h_j x1 x2 x3=some res)(ah:B<=w0.z)(a7:repS w0 B (sl A0 N0 C0) x1.d.rules)(W:repS w0 B (sl A1 N1 C1) x1.b)(a8:inI x1.applied)(hC1:P_ w0 b1 o1 [sl A0 N0 C0,sl A1 N1 C1,vI x1.applied])(hC1b:B b1)(a9:x2.name.b.length<=LEN)(aa:inI x2.kind)(ab:inI x2.size)(I:repS w0 B (sl A3 N3 C3) x2.bytes)(ad:repS w0 B (sl A4 N4 C4) x2.names)(ae:repS w0 B (sl A2 N2 C2) x2.tags)(af:repS w0 B (sl A5 N5 C5) x2.kids)(Y:inI x3):i_ prog 135 [(.pointer<|some ⟨b1,o1,none⟩),.agg #[Str.v x2.name,vI x2.kind,vI x2.size,vB x2.little,sl A3 N3 C3,sl A4 N4 C4,sl A2 N2 C2,sl A5 N5 C5],vI x3] w0 (Q27 w0 B res):=by
 unfold h_j at hm
 refine goG func135 z z z fun fn hr=>Ws<|E z (fb z) ?_
 rintro _ J ⟨rfl,hb⟩;have G:=hb.below;refine E z (fa b_k) ?_;rintro _ H ⟨rfl,hd⟩;have h3:=hd.below;have O:Blk H J.z [vI 0,vI 0]:=hd.blk;refine Wn<|Wq<|Ws<|Rf z b_1 z ?_
 have he:=(hb.blk:Blk J w0.z (vR x2 A3 N3 C3 A4 N4 C4 A2 N2 C2 A5 N5 C5)).e h3;refine R z (l0 R_ z<|he.at z) ?_;have V:=(G.ag B).e h3;refine R z (lnR o_ z<|I.g V)<|Rm z<|Wn ?_
 obtain ⟨_,hum,hmc⟩:=bdS hm;refine Wf (σ:=Unit) (ρ:=X_) (fun (k5:Nat)(_:Unit) a w=>Sat 50 [(0,.pointer<|some ⟨b1,o1,none⟩),(2,vI x3),(4,pt w0.z),(6,pt J.z),(10,sl A3 N3 C3),(11,vI (x2.bytes.length:Int)),(12,vI ((k5:Nat):Int))] a/\Below H.z H w) (fun (_:Unit) a w=>Sat 50 [(2,vI x3),(4,pt w0.z),(6,pt J.z)] a/\Below H.z H w) (rQ prog fn<|Q27 w0 B) hum ?_ ?_ ?_ ?_ ?_
 ·exact fun _ q=>⟨q.k<|s7 z z z z z z z,br H⟩
 ·rintro k5 _ _ _ _ hkf ⟨hSn,s1⟩ hmo;refine Wu ?_ hSn;refine Ws<|Rl z z z<|Wn<|Wq<|Wc z (fun _=>?_) (fun hc=>(V_ hkf hc).elim)
  refine Wk<|Wq<|Wb<|Wm z ?_
  obtain ⟨_,ep,hmg⟩:=bdS hmo;have hh:=V.e s1;refine RX z (at_ (α:=UInt8) o_ z_5 z z z (I.g hh) ep) ?_;rintro _ ⟨_,_,_,rfl,hq,ht,_⟩;obtain rfl:=u8 ht;refine R z (l0 g_5 z<|hq.at0 z)<|Ra z<|Rw z<|Wq<|Wm z<|Rm z<|R z (add_ z z)<|Rm z<|R z (B_ z)<|Rf z d_c z ?_
  have hi:=((hC1.e G).e h3).e s1;refine R z (l0 R_ z<|hi.at (j:=1) z) ?_;have hj:=W.g hh;refine R z (lnR o_ z hj)<|Rq z z z<|Wx z (fun L=>?_) (fun L=>?_)
  ·refine Wm z<|R z (bP (parts:=[(0,.tmp 26),(1,.const<|.int .i64 1)]) (cs:=[vI x3,vI 1]) c_c z z)<|E0 (fs0 (cur':=[vI x3,vI 1]) E_ z z (O.e s1) z z z z) ?_
   rintro _ _ ⟨hu,sr⟩;exact Wn<|Wr<|rtO<|qL (som<|ifT hmg L).symm<|d_ hr (q_ a_g E_ z hu z) ⟨bM (bup (bup G h3) s1) sr.one<|m1 G.s,z,Y,ii z⟩
  refine Wk<|Wm z<|R z (B_ z)<|Rf z d_c z<|R z (l0 R_ z<|hi.at (j:=1) z)<|RM z z<|R z (add_ z z) ?_
  obtain ⟨_,es,hmk⟩:=bdS<|ifF hmg L;refine RX z (at_ (α:=UInt8) o_ z_5 z z z hj es) ?_;rintro _ ⟨_,_,_,rfl,hv,hw,_⟩;obtain rfl:=u8 hw;refine R z (l0 g_5 z<|hv.at0 z)<|Rm z<|R z (nq z z)<|Wx z (fun hca=>?_) (fun hca=>?_)
  ·refine Wm z<|Rm z<|R z (add_ z z)<|R z (bP (parts:=[(0,.tmp 41),(1,.const<|.int .i64 2)]) (cs:=[(vI<|j_ x3 ((k5:Nat):Int)),vI 2]) c_c z z)<|E0 (fs0 (cur':=[(vI<|j_ x3 ((k5:Nat):Int)),vI 2]) E_ z z (O.e s1) z z z z) ?_
   rintro _ _ ⟨hx,sy⟩;exact Wn<|Wr<|rtO<|qL (som<|ifT hmk hca).symm<|d_ hr (q_ a_g E_ z hx z) ⟨bM (bup (bup G h3) s1) sy.one<|m1 G.s,z,iA _ _,ii z⟩
  exact Wk<|Wg<|R z (inc_ hkf (lt_ (repS.len I) D_) z z)<|Rm z<|Wl (fun _ q=>⟨(),(som<|ifF hmk hca).symm,⟨q.k<|s7 z z z z z z z,s1⟩⟩)
 ·rintro _ _ _ ⟨hSz,a3⟩;refine Wu ?_ hSz;refine Ws<|Rl z z z<|Wn<|Wq<|Wc z (fun hc=>(W_ hc).elim) (fun _=>?_)
  exact We<|fun _ q=>⟨rfl,⟨q.k<|s3 z z z,a3⟩⟩
 ·rintro _ a4 _ rfl ⟨_,s6⟩;have a0:=elL hmc;revert a4;refine Wo<|Wm z<|Rf z b_1 z<|R z (l0 R_ z<|(he.e s6).at z)<|R z (lnR o_ z<|I.g<|V.e s6)<|R z (add_ z z)<|R z (bP (parts:=[(0,.tmp 48),(1,.const<|.int .i64 0)]) (cs:=[(vI<|j_ x3 (x2.bytes.length:Int)),vI 0]) c_c z z)<|E0 (fs0 (cur':=[(vI<|j_ x3 (x2.bytes.length:Int)),vI 0]) E_ z z (O.e s6) z z z z) ?_
  rintro _ _ ⟨a5,a6⟩;refine Wn ?_;obtain rfl:=som a0;exact Wr<|d_ hr (q_ a_g E_ z a5 z) ⟨bM (bup (bup G h3) s6) a6.one<|m1 G.s,z,iA _ _,ii z⟩
 rintro _ _ _ _ rfl ⟨rfl,a1⟩;have a2:=elR hmc;obtain rfl:=som a2;exact ⟨a1,z⟩
def Q29 (w0:World)(g1:Nat)(B:Zone)(A0:Option Addr)(N0 C0:Nat)(A1:Option Addr)(N1 C1:Nat)(x1:a_1)(r:X_×Int)(v:Value)(w':World):Prop:=Chg (· ∈ [g1]) w0 w'/\un2 (fun G H=>(.agg #[vI G.at_,vI G.code])=v/\inI G.at_/\inI G.code/\inI H/\Blk w' g1 [sl A0 N0 C0,sl A1 N1 C1,vI H]) r
structure j_M (f:a_1->Int->Int->Option (X_×Int)):Prop where
  run:∀{A0 A1:Option Addr}{N0 C0 N1 C1 g1:Nat}{B:Zone}{x1:a_1}{x2:Int}{x3:Int}{res:X_×Int}{w0:World}(hm:f x1 x2 x3=some res)(hB1:Blk w0 g1 [sl A0 N0 C0,sl A1 N1 C1,vI x1.applied])(hBw:B<=w0.z)(hBg:¬B g1)(p1_0:repS w0 B (sl A0 N0 C0) x1.d.rules)(p1_1:repS w0 B (sl A1 N1 C1) x1.b)(p1_2:inI x1.applied)(p2_0:inI x2)(p3_0:inI x3),i_ prog 100 [pt g1,vI x2,vI x3] w0<|Q29 w0 g1 B A0 N0 C0 A1 N1 C1 x1 res
structure j_N (f:a_1->e_->Int->Option (X_×Int)):Prop where
  run:∀{A0 A1 A3 A4 A2 A5:Option Addr}{N0 C0 N1 C1 g1 N3 C3 N4 C4 N2 C2 N5 C5:Nat}{B:Zone}{x1:a_1}{x2:e_}{x3:Int}{res:X_×Int}{w0:World}(hm:f x1 x2 x3=some res)(hB1:Blk w0 g1 [sl A0 N0 C0,sl A1 N1 C1,vI x1.applied])(hBw:B<=w0.z)(hBg:¬B g1)(p1_0:repS w0 B (sl A0 N0 C0) x1.d.rules)(p1_1:repS w0 B (sl A1 N1 C1) x1.b)(p1_2:inI x1.applied)(p2_0:x2.name.b.length<=LEN)(p2_1:inI x2.kind)(p2_2:inI x2.size)(p2_4:repS w0 B (sl A3 N3 C3) x2.bytes)(p2_5:repS w0 B (sl A4 N4 C4) x2.names)(p2_6:repS w0 B (sl A2 N2 C2) x2.tags)(p2_7:repS w0 B (sl A5 N5 C5) x2.kids)(p3_0:inI x3),i_ prog 137 [pt g1,.agg #[Str.v x2.name,vI x2.kind,vI x2.size,vB x2.little,sl A3 N3 C3,sl A4 N4 C4,sl A2 N2 C2,sl A5 N5 C5],vI x3] w0<|Q29 w0 g1 B A0 N0 C0 A1 N1 C1 x1 res
structure j_O (f:a_1->e_->Int->Option (X_×Int)):Prop where
  run:∀{A0 A1 A3 A4 A2 A5:Option Addr}{N0 C0 N1 C1 g1 N3 C3 N4 C4 N2 C2 N5 C5:Nat}{B:Zone}{x1:a_1}{x2:e_}{x3:Int}{res:X_×Int}{w0:World}(hm:f x1 x2 x3=some res)(hB1:Blk w0 g1 [sl A0 N0 C0,sl A1 N1 C1,vI x1.applied])(hBw:B<=w0.z)(hBg:¬B g1)(p1_0:repS w0 B (sl A0 N0 C0) x1.d.rules)(p1_1:repS w0 B (sl A1 N1 C1) x1.b)(p1_2:inI x1.applied)(p2_0:x2.name.b.length<=LEN)(p2_1:inI x2.kind)(p2_2:inI x2.size)(p2_4:repS w0 B (sl A3 N3 C3) x2.bytes)(p2_5:repS w0 B (sl A4 N4 C4) x2.names)(p2_6:repS w0 B (sl A2 N2 C2) x2.tags)(p2_7:repS w0 B (sl A5 N5 C5) x2.kids)(p3_0:inI x3),i_ prog 138 [pt g1,.agg #[Str.v x2.name,vI x2.kind,vI x2.size,vB x2.little,sl A3 N3 C3,sl A4 N4 C4,sl A2 N2 C2,sl A5 N5 C5],vI x3] w0<|Q29 w0 g1 B A0 N0 C0 A1 N1 C1 x1 res
structure j_P (f:a_1->e_->Int->Option (X_×Int)):Prop where
  run:∀{A0 A1 A3 A4 A2 A5:Option Addr}{N0 C0 N1 C1 g1 N3 C3 N4 C4 N2 C2 N5 C5:Nat}{B:Zone}{x1:a_1}{x2:e_}{x3:Int}{res:X_×Int}{w0:World}(hm:f x1 x2 x3=some res)(hB1:Blk w0 g1 [sl A0 N0 C0,sl A1 N1 C1,vI x1.applied])(hBw:B<=w0.z)(hBg:¬B g1)(p1_0:repS w0 B (sl A0 N0 C0) x1.d.rules)(p1_1:repS w0 B (sl A1 N1 C1) x1.b)(p1_2:inI x1.applied)(p2_0:x2.name.b.length<=LEN)(p2_1:inI x2.kind)(p2_2:inI x2.size)(p2_4:repS w0 B (sl A3 N3 C3) x2.bytes)(p2_5:repS w0 B (sl A4 N4 C4) x2.names)(p2_6:repS w0 B (sl A2 N2 C2) x2.tags)(p2_7:repS w0 B (sl A5 N5 C5) x2.kids)(p3_0:inI x3),i_ prog 139 [pt g1,.agg #[Str.v x2.name,vI x2.kind,vI x2.size,vB x2.little,sl A3 N3 C3,sl A4 N4 C4,sl A2 N2 C2,sl A5 N5 C5],vI x3] w0<|Q29 w0 g1 B A0 N0 C0 A1 N1 C1 x1 res
structure j_Q (f:a_1->e_->Int->Option (X_×Int)):Prop where
  run:∀{A0 A1 A3 A4 A2 A5:Option Addr}{N0 C0 N1 C1 g1 N3 C3 N4 C4 N2 C2 N5 C5:Nat}{B:Zone}{x1:a_1}{x2:e_}{x3:Int}{res:X_×Int}{w0:World}(hm:f x1 x2 x3=some res)(hB1:Blk w0 g1 [sl A0 N0 C0,sl A1 N1 C1,vI x1.applied])(hBw:B<=w0.z)(hBg:¬B g1)(p1_0:repS w0 B (sl A0 N0 C0) x1.d.rules)(p1_1:repS w0 B (sl A1 N1 C1) x1.b)(p1_2:inI x1.applied)(p2_0:x2.name.b.length<=LEN)(p2_1:inI x2.kind)(p2_2:inI x2.size)(p2_4:repS w0 B (sl A3 N3 C3) x2.bytes)(p2_5:repS w0 B (sl A4 N4 C4) x2.names)(p2_6:repS w0 B (sl A2 N2 C2) x2.tags)(p2_7:repS w0 B (sl A5 N5 C5) x2.kids)(p3_0:inI x3),i_ prog 140 [pt g1,.agg #[Str.v x2.name,vI x2.kind,vI x2.size,vB x2.little,sl A3 N3 C3,sl A4 N4 C4,sl A2 N2 C2,sl A5 N5 C5],vI x3] w0<|Q29 w0 g1 B A0 N0 C0 A1 N1 C1 x1 res
abbrev e_X (n:Nat):Prop:=j_M (a_y n).impl_checker_value/\j_N (a_y n).impl_checker_array/\j_O (a_y n).impl_checker_choice/\j_P (a_y n).impl_checker_option/\j_Q (a_y n).impl_checker_checked
theorem T_w03 (ih:e_X n):j_M (h_k n<|a_y n):=by
 obtain ⟨dN,dO,dP,dS,dT⟩:=ih
 constructor
 intro A0 A1 N0 C0 N1 C1 g1 B x1 x2 x3 res w0 hm hB1 J hBg W Y cT cU a0;unfold h_k at hm
 refine goG func100 z z z fun fn hr=>Ws<|E z (fa b_k) ?_
 rintro _ H ⟨rfl,bo⟩;have h1:=bo.below;have h6:Blk H w0.z [vI 0,vI 0]:=bo.blk;refine Wn<|Wm z<|R z (B_ z)<|Rf z l_g z<|Rf z a_9 z ?_
 have aL:=hB1.e h1;refine R z (l0 a_d z<|aL.at z)<|Rm z ?_
 obtain ⟨xh,dU,b8⟩:=bdS hm;refine RX z (at_ (α:=e_) a_0 m_ z z z (W.e h1) dU) ?_;rintro _ ⟨_,_,_,rfl,dV,dW,_⟩;obtain ⟨ao,np,cq,ar,ns,ct,au,nv,cw,ai,nj,ck,rfl,a7,a8,hz,a1,a9,aa,he⟩:=a_w dW;refine R z (lN (vs:=vR xh ao np cq ar ns ct au nv cw ai nj ck) G_ m_ z z fid dV)<|E z (fa b_l) ?_
 rintro _ O ⟨rfl,bp⟩;have h2:=bp.below;have bq:Blk O H.z [(Str.v (⟨[]⟩:Str)),vI 0,vI 0,vB false,sl none 0 0,sl none 0 0,sl none 0 0,sl none 0 0]:=bp.blk;refine E0 (fs0 (cur':=vR xh ao np cq ar ns ct au nv cw ai nj ck) m_ z z bq z z z z) ?_;rintro _ V ⟨br,dX⟩;have G:=dX.one;refine Wn<|Wq<|Ws<|Rf z a_e z<|R z (l0 g_3 z<|br.at z)<|Rq z z z<|Wx z (fun az=>?_) (fun az=>?_)
 ·refine Wm z<|RM z z ?_
  have bs:=((h1.ag B).e h2).c G<|g_ (or0 (f_ lr) (t_<|zt' J h1.s):∀k∈[H.z],¬B k)
  have bt:=lt_ (lt_ h1.s h2.s) G.s;obtain ⟨_,a2,_,dY,cV⟩:=I_<|ifT b8 az;refine E z (fc call134 z<|h_Z (B:=B) dY ((aL.e h2).c G<|djs<|mm1 (Blk.lt hB1) h1.s) (zt' J bt) hBg (W.g bs) (Y.g bs) cT cU a0) ?_;rintro _ aM ⟨aj,rfl,_,dZ,e0,e1,e2⟩;refine Rm z<|Re z z z<|Re z z z<|E z (fa b_k) ?_
  rintro _ bu ⟨rfl,bv⟩;have aN:=bv.below;refine Ra z<|E0 (fs0 (cur':=[vI a2.at_,vI a2.code]) E_ z z (bv.blk:Blk bu aM.z [vI 0,vI 0]) z z z z) ?_
  rintro _ e3 ⟨e4,e5⟩;have aO:=e5.one;refine Wn<|Ws<|R z (lN (vs:=[vI a2.at_,vI a2.code]) a_g E_ z z fid<|e4.row 0 2 z) ?_
  have bw:=mmr<|Blk.lt hB1
  refine E0 (fs0 (cur':=[vI a2.at_,vI a2.code]) E_ z z (((((h6.e h2).c G<|djs<|mmr h6.lt).c aj<|atp bw).e aN).c aO<|djs<|mm1 h6.lt<|lt_ (lt_ h2.s G.s) aj.s) z z z z) ?_;rintro _ e6 ⟨e7,e8⟩;have bx:=e8.one;refine Wn ?_;obtain rfl:=som cV;have bz:=lt_ bt aj.s;exact Wr<|d_ hr (q_ a_g E_ z e7 z) ⟨(cM (cM (h_ (cM (cM (h_ (h_ (cr [g1] w0) h1:Chg (· ∈ [g1]) w0 H) h2:Chg (· ∈ [g1]) w0 O) G (mor h1.s:∀k∈[H.z],k∈[g1]∨w0.z<=k):Chg (· ∈ [g1]) w0 V) aj (io sr):Chg (· ∈ [g1]) w0 aM) aN:Chg (· ∈ [g1]) w0 bu) aO (mor bz:∀k∈[aM.z],k∈[g1]∨w0.z<=k):Chg (· ∈ [g1]) w0 e3) bx (mor lr:∀k∈[w0.z],k∈[g1]∨w0.z<=k):Chg (· ∈ [g1]) w0 e6),z,dZ,e0,e1,((e2.e aN).c aO<|djs<|mm1 (Blk.lt hB1) bz).c bx<|djs bw⟩
 have b9:=ifF b8 az;refine Wk<|Wm z<|R z (B_ z)<|Rf z h_R z ?_
 have bA:=mm1 (Blk.lt hB1) h1.s;have bB:=(aL.e h2).c G<|djs bA
 refine R z (l0 g_3 z<|bB.at z)<|R z (add_ z z)<|R z (B_ z)<|Rf z h_R z<|E0 (fs0 (cur':=[sl A0 N0 C0,sl A1 N1 C1,vI<|j_ x1.applied 1]) z_3 z z bB z z z z) ?_
 rintro _ I ⟨ha,e9⟩;have h3:=e9.one;refine Wn<|Wq<|Ws<|Rf z a_e z ?_
 have hb:=br.c h3<|atp bA
 refine R z (l0 g_3 z<|hb.at z)<|Wn<|Wb<|Ws<|Rq z z z<|Rw z<|Wc z (fun aA=>?_) (fun aA=>?_)
 ·refine Wm z<|R z (lN (vs:=vR xh ao np cq ar ns ct au nv cw ai nj ck) G_ m_ z z fid<|hb.row 0 8 z)<|Rm z ?_
  have bC:∀k∈[H.z],¬B k:=or0 (f_ lr)<|t_<|zt' J h1.s;have bD:=(((h1.ag B).e h2).c G<|g_ bC).c h3<|g_<|f_ hBg
  have ak:=((h2.ag B).c G<|g_ bC).c h3<|g_<|f_ hBg
  obtain ⟨bE,ea,cW⟩:=bdS<|ifT b9 aA;refine E z (fc call135 z<|W_w35 (B:=w0.z) ea (a_p<|lt_ (lt_ (lt_ h1.s h2.s) G.s) h3.s) (repS.mono (W.g bD) J) (repS.mono (Y.g bD) J) (iA _ _) (ha.row 0 3 z) (Blk.lt hB1) a7 a8 hz (repS.mono (a1.g ak) J) (repS.mono (a9.g ak) J) (repS.mono (aa.g ak) J) (repS.mono (he.g ak) J) a0) ?_;rintro _ eb ⟨aP,rfl,ec,ed⟩;have bF:=mmr<|Blk.lt hB1
  refine E0 (fs0 (cur':=[vI bE.at_,vI bE.code]) E_ z z ((((h6.e h2).c G<|djs<|mmr h6.lt).c h3<|atp bF).e aP) z z z z) ?_;rintro _ ee ⟨ef,eg⟩;have bG:=eg.one;refine Wn ?_;obtain rfl:=som cW;exact Wr<|rtO<|d_ hr (q_ a_g E_ z ef z) ⟨(cM (h_ (cM (cM (h_ (h_ (cr [g1] w0) h1:Chg (· ∈ [g1]) w0 H) h2:Chg (· ∈ [g1]) w0 O) G (mor h1.s:∀k∈[H.z],k∈[g1]∨w0.z<=k):Chg (· ∈ [g1]) w0 V) h3 (io sr):Chg (· ∈ [g1]) w0 I) aP:Chg (· ∈ [g1]) w0 eb) bG (mor lr:∀k∈[w0.z],k∈[g1]∨w0.z<=k):Chg (· ∈ [g1]) w0 ee),z,ec,ed,iA _ _,(ha.e aP).c bG<|djs bF⟩
 have ba:=ifF b9 aA;refine Ws<|Rq z z z<|Rw z<|Wc z (fun aB=>?_) (fun aB=>?_)
 ·refine Wm z<|Rm z<|Rf z a_F z<|R z (l0 g_3 z<|hb.at z) ?_
  have bH:=(((h1.ag B).e h2).c G<|g_ (or0 (f_ lr) (t_<|zt' J h1.s):∀k∈[H.z],¬B k)).c h3<|g_<|f_ hBg
  obtain ⟨bI,eh,cX⟩:=bdS<|ifT ba aB;refine E z (fc call136 z<|g_6 (B:=w0.z) eh (a_p<|lt_ (lt_ (lt_ h1.s h2.s) G.s) h3.s) (repS.mono (W.g bH) J) (repS.mono (Y.g bH) J) (iA _ _) (ha.row 0 3 z) (Blk.lt hB1) a0 hz) ?_;rintro _ ei ⟨aQ,rfl,ej,ek⟩;have bJ:=mmr<|Blk.lt hB1
  refine E0 (fs0 (cur':=[vI bI.at_,vI bI.code]) E_ z z ((((h6.e h2).c G<|djs<|mmr h6.lt).c h3<|atp bJ).e aQ) z z z z) ?_;rintro _ em ⟨en,eo⟩;have bK:=eo.one;refine Wn ?_;obtain rfl:=som cX;exact Wr<|rtO<|d_ hr (q_ a_g E_ z en z) ⟨(cM (h_ (cM (cM (h_ (h_ (cr [g1] w0) h1:Chg (· ∈ [g1]) w0 H) h2:Chg (· ∈ [g1]) w0 O) G (mor h1.s:∀k∈[H.z],k∈[g1]∨w0.z<=k):Chg (· ∈ [g1]) w0 V) h3 (io sr):Chg (· ∈ [g1]) w0 I) aQ:Chg (· ∈ [g1]) w0 ei) bK (mor lr:∀k∈[w0.z],k∈[g1]∨w0.z<=k):Chg (· ∈ [g1]) w0 em),z,ej,ek,iA _ _,(ha.e aQ).c bK<|djs bJ⟩
 have bb:=ifF ba aB;refine Ws<|Rq z z z<|Rw z<|Wc z (fun aC=>?_) (fun aC=>?_)
 ·refine Wm z<|Rf z N_ z<|R z (l0 A_ z<|hb.at z) ?_
  obtain ⟨_,ep,cY⟩:=bdS<|ifT bb aC;have bL:∀k∈[H.z],¬B k:=or0 (f_ lr)<|t_<|zt' J h1.s;refine RX z (at_ (α:=Int) x_ z_3 z z z (he.g<|((h2.ag B).c G<|g_ bL).c h3<|g_<|f_ hBg) ep) ?_;rintro _ ⟨_,_,_,rfl,er,es,_⟩;obtain ⟨rfl,eu⟩:=O_ es;refine R z (l0 g_3 z<|er.at0 z)<|Rm z ?_
  have aR:=(((h1.ag B).e h2).c G<|g_ bL).c h3<|g_<|f_ hBg
  have aS:=lt_ (lt_ (lt_ h1.s h2.s) G.s) h3.s;obtain ⟨_,a3,_,ew,bc⟩:=I_ cY;refine E z (fc call134 z<|h_Z (B:=B) ew ha (zt' J aS) hBg (W.g aR) (Y.g aR) (iA _ _) eu a0) ?_;rintro _ a4 ⟨sf,rfl,ex,bM,ey,aT,bN⟩;refine Rm z<|Re z z z<|Re z z z<|E z (fa b_k) ?_
  rintro _ aU ⟨rfl,bO⟩;have hl:=bO.below;refine Ra z<|E0 (fs0 (cur':=[vI a3.at_,vI a3.code]) E_ z z (bO.blk:Blk aU a4.z [vI 0,vI 0]) z z z z) ?_
  rintro _ bQ ⟨aV,ez⟩;have hn:=ez.one;refine Wn<|Wq<|Ws<|Rf z c_N z<|R z (l0 g_3 z<|aV.at z)<|R z (nq z z)<|Wx z (fun aD=>?_) (fun aD=>?_)
  ·refine Ws<|R z (lN (vs:=[vI a3.at_,vI a3.code]) a_g E_ z z fid<|aV.row 0 2 z) ?_
   have aW:=mmr<|Blk.lt hB1
   refine E0 (fs0 (cur':=[vI a3.at_,vI a3.code]) E_ z z ((((((h6.e h2).c G<|djs<|mmr h6.lt).c h3<|atp aW).c sf<|atp aW).e hl).c hn<|djs<|mm1 h6.lt<|lt_ (lt_ (lt_ h2.s G.s) h3.s) sf.s) z z z z) ?_;rintro _ eA ⟨eB,eC⟩;have bR:=eC.one;refine Wn ?_;obtain rfl:=som<|ifT bc aD;have bS:=lt_ aS sf.s;exact Wr<|rtO<|d_ hr (q_ a_g E_ z eB z) ⟨(cM (cM (h_ (cM (cM (cM (h_ (h_ (cr [g1] w0) h1:Chg (· ∈ [g1]) w0 H) h2:Chg (· ∈ [g1]) w0 O) G (mor h1.s:∀k∈[H.z],k∈[g1]∨w0.z<=k):Chg (· ∈ [g1]) w0 V) h3 (io sr):Chg (· ∈ [g1]) w0 I) sf (io sr):Chg (· ∈ [g1]) w0 a4) hl:Chg (· ∈ [g1]) w0 aU) hn (mor bS:∀k∈[a4.z],k∈[g1]∨w0.z<=k):Chg (· ∈ [g1]) w0 bQ) bR (mor lr:∀k∈[w0.z],k∈[g1]∨w0.z<=k):Chg (· ∈ [g1]) w0 eA),z,bM,ey,aT,((bN.e hl).c hn<|djs<|mm1 (Blk.lt hB1) bS).c bR<|djs aW⟩
  refine Wk<|Wm z<|Rf z c_r z<|R z (l0 g_3 z<|aV.at z)<|Rm z ?_
  have al:=lt_ aS sf.s;have bT:=(bN.e hl).c hn<|djs<|mm1 (Blk.lt hB1) al
  have bU:=((aR.c sf<|g_<|f_ hBg).e hl).c hn<|g_ (or0 (f_ lr) (t_<|zt' J al):∀k∈[a4.z],¬B k)
  obtain ⟨bV,eD,cZ⟩:=bdS<|ifF bc aD;refine E z (fc call136 z<|g_6 (B:=w0.z) eD (a_p<|lt_ (lt_ al hl.s) hn.s) (repS.mono (W.g bU) J) (repS.mono (Y.g bU) J) aT (bT.row 0 3 z) (Blk.lt hB1) bM ex) ?_;rintro _ eE ⟨aX,rfl,eF,eG⟩;have aY:=mmr<|Blk.lt hB1
  refine E0 (fs0 (cur':=[vI bV.at_,vI bV.code]) E_ z z (((((((h6.e h2).c G<|djs<|mmr h6.lt).c h3<|atp aY).c sf<|atp aY).e hl).c hn<|djs<|mm1 h6.lt<|lt_ (lt_ (lt_ h2.s G.s) h3.s) sf.s).e aX) z z z z) ?_;rintro _ eH ⟨eI,eJ⟩;have bW:=eJ.one;refine Wn ?_;obtain rfl:=som cZ;exact Wr<|rtO<|d_ hr (q_ a_g E_ z eI z) ⟨(cM (h_ (cM (h_ (cM (cM (cM (h_ (h_ (cr [g1] w0) h1:Chg (· ∈ [g1]) w0 H) h2:Chg (· ∈ [g1]) w0 O) G (mor h1.s:∀k∈[H.z],k∈[g1]∨w0.z<=k):Chg (· ∈ [g1]) w0 V) h3 (io sr):Chg (· ∈ [g1]) w0 I) sf (io sr):Chg (· ∈ [g1]) w0 a4) hl:Chg (· ∈ [g1]) w0 aU) hn (mor al:∀k∈[a4.z],k∈[g1]∨w0.z<=k):Chg (· ∈ [g1]) w0 bQ) aX:Chg (· ∈ [g1]) w0 eE) bW (mor lr:∀k∈[w0.z],k∈[g1]∨w0.z<=k):Chg (· ∈ [g1]) w0 eH),z,eF,eG,aT,(bT.e aX).c bW<|djs aY⟩
 have be:=ifF bb aC;refine Ws<|Rq z z z<|Rw z<|Wc z (fun aE=>?_) (fun aE=>?_)
 ·refine Wm z<|R z (lN (vs:=vR xh ao np cq ar ns ct au nv cw ai nj ck) G_ m_ z z fid<|hb.row 0 8 z)<|Rm z ?_
  have bX:∀k∈[H.z],¬B k:=or0 (f_ lr)<|t_<|zt' J h1.s;have bY:=(((h1.ag B).e h2).c G<|g_ bX).c h3<|g_<|f_ hBg
  have am:=((h2.ag B).c G<|g_ bX).c h3<|g_<|f_ hBg
  obtain ⟨bZ,_,eK,d0⟩:=a_3<|ifT be aE;refine E z (fc call137 z<|dO.run (B:=B) eK ha (zt' J<|lt_ (lt_ (lt_ h1.s h2.s) G.s) h3.s) hBg (W.g bY) (Y.g bY) (iA _ _) a7 a8 hz (a1.g am) (a9.g am) (aa.g am) (he.g am) a0) ?_;rintro _ eL ⟨c0,rfl,eM,eN,eO,eP⟩;have aZ:=mmr<|Blk.lt hB1
  refine E0 (fs0 (cur':=[vI bZ.at_,vI bZ.code]) E_ z z ((((h6.e h2).c G<|djs<|mmr h6.lt).c h3<|atp aZ).c c0<|atp aZ) z z z z) ?_;rintro _ eQ ⟨eR,eS⟩;have c1:=eS.one;refine Wn ?_;obtain rfl:=som d0;exact Wr<|rtO<|d_ hr (q_ a_g E_ z eR z) ⟨(cM (cM (cM (cM (h_ (h_ (cr [g1] w0) h1:Chg (· ∈ [g1]) w0 H) h2:Chg (· ∈ [g1]) w0 O) G (mor h1.s:∀k∈[H.z],k∈[g1]∨w0.z<=k):Chg (· ∈ [g1]) w0 V) h3 (io sr):Chg (· ∈ [g1]) w0 I) c0 (io sr):Chg (· ∈ [g1]) w0 eL) c1 (mor lr:∀k∈[w0.z],k∈[g1]∨w0.z<=k):Chg (· ∈ [g1]) w0 eQ),z,eM,eN,eO,eP.c c1<|djs aZ⟩
 have bf:=ifF be aE;refine Ws<|Rq z z z<|Rw z<|Wc z (fun aF=>?_) (fun aF=>?_)
 ·refine Wm z<|R z (bP (parts:=[(0,.tmp 88),(1,.const<|.int .i64 0)]) (cs:=[vI x3,vI 0]) c_c z z)<|E z (fa b_k) ?_
  rintro _ c2 ⟨rfl,c3⟩;have hx:=c3.below;refine E0 (fs0 (cur':=[vI x3,vI 0]) E_ z z (c3.blk:Blk c2 I.z [vI 0,vI 0]) z z z z) ?_;rintro _ L ⟨eT,eU⟩;have hy:=eU.one;refine Wn<|Wq<|Ws<|Rf z N_ z<|R z (l0 A_ z<|((hb.e hx).c hy<|djs<|mm1 bq.lt<|lt_ G.s h3.s).at z) ?_
  have c4:∀k∈[H.z],¬B k:=or0 (f_ lr)<|t_<|zt' J h1.s;have ab:=lt_ (lt_ (lt_ h1.s h2.s) G.s) h3.s;have an:∀k∈[I.z],¬B k:=or0 (f_ lr)<|t_<|zt' J ab;have c5:=((((h2.ag B).c G<|g_ c4).c h3<|g_<|f_ hBg).e hx).c hy<|g_ an
  refine R z (lnR x_ z<|he.g c5)<|Rm z<|Wn ?_
  obtain ⟨_,d1,bg⟩:=bdS<|ifT bf aF;refine Wf (σ:=Int×Int×Int) (ρ:=X_×Int) (fun (c6:Nat) s a w=>un3 (fun xm xc xd=>Sat 145 [(0,pt g1),(6,pt w0.z),(12,pt I.z),(91,sl ai nj ck),(92,vI (xh.kids.length:Int)),(93,vI ((c6:Nat):Int))] a/\Chg (· ∈ ([g1]++[I.z])) L w/\inI xm/\inI xc/\inI xd/\Blk w g1 [sl A0 N0 C0,sl A1 N1 C1,vI xm]/\Blk w I.z [vI xc,vI xd]) s) (fun s a w=>un3 (fun xm xc xd=>Sat 145 [(6,pt w0.z),(12,pt I.z)] a/\Chg (· ∈ ([g1]++[I.z])) L w/\inI xm/\inI xc/\inI xd/\Blk w g1 [sl A0 N0 C0,sl A1 N1 C1,vI xm]/\Blk w I.z [vI xc,vI xd]) s) (rQ prog fn<|Q29 w0 g1 B A0 N0 C0 A1 N1 C1 x1) d1 ?_ ?_ ?_ ?_ ?_
  ·exact fun _ q=>⟨q.k<|s6 z z z z z z,cr ([g1]++[I.z]) L,iA _ _,a0,ii z,(ha.e hx).c hy<|djs<|mm1 (Blk.lt hB1) ab,eT⟩
  ·rintro c6 ⟨xm,xc,xd⟩ _ c7 _ bh ⟨d2,ad,ae,af,ap,ah,a5⟩ d3;refine Wu ?_ d2;refine Ws<|Rl z z z<|Wn<|Wq<|Wc z (fun _=>?_) (fun hc=>(V_ bh hc).elim)
   refine Wk<|Wq<|Wb<|Ws ?_
   obtain ⟨_,eV,d4⟩:=bdS<|c_Z d3;refine RX z (at_ (α:=Int) x_ z_3 z z z (he.g<|c5.c ad<|nmA (g_<|f_ hBg)<|g_ an) eV) ?_;rintro _ ⟨_,_,_,rfl,eW,eX,_⟩;obtain ⟨rfl,eY⟩:=O_ eX;refine R z (l0 g_3 z<|eW.at0 z)<|Rw z<|Wm z<|Rm z<|Rf z c_r z<|R z (l0 g_3 z<|a5.at z) ?_
   have c8:=((((((h1.ag B).e h2).c G<|g_ c4).c h3<|g_<|f_ hBg).e hx).c hy<|g_ an).c ad<|nmA (g_<|f_ hBg)<|g_ an
   obtain ⟨aq,eZ,f0,bi⟩:=a_3 d4;refine E z (fc call100 z<|dN.run (B:=B) f0 ah (zt' J<|lt_ (lt_ (lt_ ab hx.s) hy.s) ad.s) hBg (W.g c8) (Y.g c8) ae eY af) ?_;rintro _ c9 ⟨b0,rfl,ca,cb,cc,cd⟩;have b1:=mm1 (Blk.lt hB1) ab;refine E0 (fs0 (cur':=[vI aq.at_,vI aq.code]) E_ z z (a5.c b0<|atp b1) z z z z) ?_;rintro _ ce ⟨b2,f1⟩;have av:=f1.one;refine Wn<|Ws<|Rf z c_N z<|R z (l0 g_3 z<|b2.at z)<|R z (nq z z)<|Wx z (fun aG=>?_) (fun aG=>?_)
   ·have f2:Chg (· ∈ ([g1]++[I.z])) L c7:=cM (cr ([g1]++[I.z]) L) ad<|aa_ (io<|a_U sr)<|io<|a_L sr;exact We<|exO z (fun _ q=>c_v (som<|ifT bi aG).symm ⟨q.k<|s2 z z,(cM (cM f2 b0 (io<|a_U sr):Chg (· ∈ ([g1]++[I.z])) L c9) av (io<|a_L sr):Chg (· ∈ ([g1]++[I.z])) L ce),cc,ca,cb,cd.c av<|djs b1,b2⟩)
   refine Wk<|Wg<|R z (inc_ bh (lt_ (repS.len he) D_) z z)<|Rm z<|Wl ?_
   exact fun _ q=>⟨(eZ,aq.at_,aq.code),(som<|ifF bi aG).symm,⟨q.k<|s6 z z z z z z,(cM (cM (cM (cr ([g1]++[I.z]) L) ad (aa_ (io<|a_U sr)<|io<|a_L sr):Chg (· ∈ ([g1]++[I.z])) L c7) b0 (io<|a_U sr):Chg (· ∈ ([g1]++[I.z])) L c9) av (io<|a_L sr):Chg (· ∈ ([g1]++[I.z])) L ce),cc,ca,cb,cd.c av<|djs b1,b2⟩⟩
  ·rintro ⟨xm,xc,xd⟩ _ f3 ⟨d5,f4,ae,af,ap,ah,a5⟩;refine Wu ?_ d5;refine Ws<|Rl z z z<|Wn<|Wq<|Wc z (fun hc=>(W_ hc).elim) (fun _=>?_)
   exact We<|fun _ q=>⟨rfl,⟨q.k<|s2 z z,(cM (cr ([g1]++[I.z]) L) f4 (aa_ (io<|a_U sr)<|io<|a_L sr):Chg (· ∈ ([g1]++[I.z])) L f3),ae,af,ap,ah,a5⟩⟩
  ·rintro ⟨xm,xc,xd⟩ f5 f6 rfl ⟨_,cf,ae,af,ap,ah,a5⟩;have d6:=elL bg;revert f5;refine Wo<|Ws<|R z (lN (vs:=[vI xc,vI xd]) a_g E_ z z fid<|a5.row 0 2 z) ?_
   have b3:=mmr<|Blk.lt hB1
   have cg:=mm1 h6.lt<|lt_ (lt_ h2.s G.s) h3.s
   refine E0 (fs0 (cur':=[vI xc,vI xd]) E_ z z ((((((h6.e h2).c G<|djs<|mmr h6.lt).c h3<|atp b3).e hx).c hy<|djs cg).c cf<|atp<|nmA b3<|ds cg) z z z z) ?_;rintro _ f7 ⟨f8,f9⟩;have ch:=f9.one;refine Wn ?_;obtain rfl:=som<|c_Z d6;have ci:∀k∈[I.z],k∈[g1]∨w0.z<=k:=mor ab;exact Wr<|rtO<|d_ hr (q_ a_g E_ z f8 z) ⟨(cM (cM (cM (h_ (cM (cM (h_ (h_ (cr [g1] w0) h1:Chg (· ∈ [g1]) w0 H) h2:Chg (· ∈ [g1]) w0 O) G (mor h1.s:∀k∈[H.z],k∈[g1]∨w0.z<=k):Chg (· ∈ [g1]) w0 V) h3 (io sr):Chg (· ∈ [g1]) w0 I) hx:Chg (· ∈ [g1]) w0 c2) hy ci:Chg (· ∈ [g1]) w0 L) cf (aa_ (io sr) ci):Chg (· ∈ [g1]) w0 f6) ch (mor lr:∀k∈[w0.z],k∈[g1]∨w0.z<=k):Chg (· ∈ [g1]) w0 f7),z,af,ap,ae,ah.c ch<|djs b3⟩
  rintro _ _ _ _ rfl ⟨rfl,cN⟩;have cO:=elR bg;obtain rfl:=som cO;exact ⟨cN,z⟩
 have bj:=ifF bf aF;refine Ws<|Rq z z z<|Rw z<|Wc z (fun aH=>?_) (fun aH=>?_)
 ·refine Wm z<|R z (lN (vs:=vR xh ao np cq ar ns ct au nv cw ai nj ck) G_ m_ z z fid<|hb.row 0 8 z)<|Rm z ?_
  have cj:∀k∈[H.z],¬B k:=or0 (f_ lr)<|t_<|zt' J h1.s;have cl:=(((h1.ag B).e h2).c G<|g_ cj).c h3<|g_<|f_ hBg
  have aw:=((h2.ag B).c G<|g_ cj).c h3<|g_<|f_ hBg
  obtain ⟨cm,_,d7,cP⟩:=a_3<|ifT bj aH;refine E z (fc call138 z<|dP.run (B:=B) d7 ha (zt' J<|lt_ (lt_ (lt_ h1.s h2.s) G.s) h3.s) hBg (W.g cl) (Y.g cl) (iA _ _) a7 a8 hz (a1.g aw) (a9.g aw) (aa.g aw) (he.g aw) a0) ?_;rintro _ d8 ⟨cn,rfl,d9,da,db,dc⟩;have b4:=mmr<|Blk.lt hB1
  refine E0 (fs0 (cur':=[vI cm.at_,vI cm.code]) E_ z z ((((h6.e h2).c G<|djs<|mmr h6.lt).c h3<|atp b4).c cn<|atp b4) z z z z) ?_;rintro _ dd ⟨de,df⟩;have co:=df.one;refine Wn ?_;obtain rfl:=som cP;exact Wr<|rtO<|d_ hr (q_ a_g E_ z de z) ⟨(cM (cM (cM (cM (h_ (h_ (cr [g1] w0) h1:Chg (· ∈ [g1]) w0 H) h2:Chg (· ∈ [g1]) w0 O) G (mor h1.s:∀k∈[H.z],k∈[g1]∨w0.z<=k):Chg (· ∈ [g1]) w0 V) h3 (io sr):Chg (· ∈ [g1]) w0 I) cn (io sr):Chg (· ∈ [g1]) w0 d8) co (mor lr:∀k∈[w0.z],k∈[g1]∨w0.z<=k):Chg (· ∈ [g1]) w0 dd),z,d9,da,db,dc.c co<|djs b4⟩
 have bk:=ifF bj aH;refine Ws<|Rq z z z<|Rw z<|Wc z (fun aI=>?_) (fun aI=>?_)
 ·refine Wm z<|R z (lN (vs:=vR xh ao np cq ar ns ct au nv cw ai nj ck) G_ m_ z z fid<|hb.row 0 8 z)<|Rm z ?_
  have cp:∀k∈[H.z],¬B k:=or0 (f_ lr)<|t_<|zt' J h1.s;have cu:=(((h1.ag B).e h2).c G<|g_ cp).c h3<|g_<|f_ hBg
  have ax:=((h2.ag B).c G<|g_ cp).c h3<|g_<|f_ hBg
  obtain ⟨cv,_,dg,cQ⟩:=a_3<|ifT bk aI;refine E z (fc call139 z<|dS.run (B:=B) dg ha (zt' J<|lt_ (lt_ (lt_ h1.s h2.s) G.s) h3.s) hBg (W.g cu) (Y.g cu) (iA _ _) a7 a8 hz (a1.g ax) (a9.g ax) (aa.g ax) (he.g ax) a0) ?_;rintro _ dh ⟨cx,rfl,di,dj,dk,dl⟩;have b5:=mmr<|Blk.lt hB1
  refine E0 (fs0 (cur':=[vI cv.at_,vI cv.code]) E_ z z ((((h6.e h2).c G<|djs<|mmr h6.lt).c h3<|atp b5).c cx<|atp b5) z z z z) ?_;rintro _ dm ⟨dn,dp⟩;have cy:=dp.one;refine Wn ?_;obtain rfl:=som cQ;exact Wr<|rtO<|d_ hr (q_ a_g E_ z dn z) ⟨(cM (cM (cM (cM (h_ (h_ (cr [g1] w0) h1:Chg (· ∈ [g1]) w0 H) h2:Chg (· ∈ [g1]) w0 O) G (mor h1.s:∀k∈[H.z],k∈[g1]∨w0.z<=k):Chg (· ∈ [g1]) w0 V) h3 (io sr):Chg (· ∈ [g1]) w0 I) cx (io sr):Chg (· ∈ [g1]) w0 dh) cy (mor lr:∀k∈[w0.z],k∈[g1]∨w0.z<=k):Chg (· ∈ [g1]) w0 dm),z,di,dj,dk,dl.c cy<|djs b5⟩
 have bm:=ifF bk aI;refine Ws<|Rq z z z<|Rw z<|Wc z (fun aJ=>?_) (fun aJ=>?_)
 ·refine Wm z<|R z (lN (vs:=vR xh ao np cq ar ns ct au nv cw ai nj ck) G_ m_ z z fid<|hb.row 0 8 z)<|Rm z ?_
  have cz:∀k∈[H.z],¬B k:=or0 (f_ lr)<|t_<|zt' J h1.s;have cA:=(((h1.ag B).e h2).c G<|g_ cz).c h3<|g_<|f_ hBg
  have ay:=((h2.ag B).c G<|g_ cz).c h3<|g_<|f_ hBg
  obtain ⟨cB,_,dq,cR⟩:=a_3<|ifT bm aJ;refine E z (fc call140 z<|dT.run (B:=B) dq ha (zt' J<|lt_ (lt_ (lt_ h1.s h2.s) G.s) h3.s) hBg (W.g cA) (Y.g cA) (iA _ _) a7 a8 hz (a1.g ay) (a9.g ay) (aa.g ay) (he.g ay) a0) ?_;rintro _ dr ⟨cC,rfl,dt,du,dv,dw⟩;have b6:=mmr<|Blk.lt hB1
  refine E0 (fs0 (cur':=[vI cB.at_,vI cB.code]) E_ z z ((((h6.e h2).c G<|djs<|mmr h6.lt).c h3<|atp b6).c cC<|atp b6) z z z z) ?_;rintro _ dx ⟨dy,dz⟩;have cD:=dz.one;refine Wn ?_;obtain rfl:=som cR;exact Wr<|rtO<|d_ hr (q_ a_g E_ z dy z) ⟨(cM (cM (cM (cM (h_ (h_ (cr [g1] w0) h1:Chg (· ∈ [g1]) w0 H) h2:Chg (· ∈ [g1]) w0 O) G (mor h1.s:∀k∈[H.z],k∈[g1]∨w0.z<=k):Chg (· ∈ [g1]) w0 V) h3 (io sr):Chg (· ∈ [g1]) w0 I) cC (io sr):Chg (· ∈ [g1]) w0 dr) cD (mor lr:∀k∈[w0.z],k∈[g1]∨w0.z<=k):Chg (· ∈ [g1]) w0 dx),z,dt,du,dv,dw.c cD<|djs b6⟩
 refine Wk<|Wq (Wd (X:=noX) 0 (pl_ 17 [9]) mo (by kernel_rfl) fun cE sg _=>dM z z z<|dR z z (B_ z)<|dR z z (fd d_c z) ?_)
 have b7:=ha.e sg;refine dR z z (l0 R_ z<|b7.at z)<|dM z z z<|dR z z (fd b_1 z)<|dR z z (l0 R_ z<|(hb.e sg).at z) ?_
 obtain ⟨_,dA,cS⟩:=bdS<|ifF bm aJ;have cF:∀k∈[H.z],¬B k:=or0 (f_ lr)<|t_<|zt' J h1.s;refine dRX z z (at_ (α:=UInt8) o_ z_5 z z z (a1.g<|(((h2.ag B).c G<|g_ cF).c h3<|g_<|f_ hBg).e sg) dA) ?_;rintro _ ⟨_,_,_,rfl,dB,dC,_⟩;obtain rfl:=u8 dC;refine dR z z (l0 g_5 z<|dB.at0 z) ?_;obtain ⟨_,cG,_,dD,bn⟩:=I_ cS;refine dE z z (fc call111 z<|W_w1o dD (zt' J<|lt_ (lt_ (lt_ (lt_ h1.s h2.s) G.s) h3.s) sg.s) (Y.g<|((((h1.ag B).e h2).c G<|g_ cF).c h3<|g_<|f_ hBg).e sg) a0) (.inr fun _ _ h=>l_<|h.1) ?_;rintro _ cH ⟨a6,_,_,_,_,rfl,_,dF,_,_⟩;refine dM z z z ?_
 iterate 3 refine dR z z (ext_ z z) ?_
 iterate 3 refine dQ z z z ?_
 refine pD<|Wo<|Wq<|Wm z<|R z (not_ z)<|Wx z (fun aK=>?_) (fun aK=>?_)
 ·refine Wm z<|R z (bP (parts:=[(0,.tmp 141),(1,.const<|.int .i64 1)]) (cs:=[vI x3,vI 1]) c_c z z) ?_
  have cI:=mmr<|Blk.lt hB1
  refine E0 (fs0 (cur':=[vI x3,vI 1]) E_ z z (((((h6.e h2).c G<|djs<|mmr h6.lt).c h3<|atp cI).e sg).e a6) z z z z) ?_;rintro _ dG ⟨dH,dI⟩;have cJ:=dI.one;refine Wn ?_;obtain rfl:=som<|ifT bn aK;exact Wr<|d_ hr (q_ a_g E_ z dH z) ⟨(cM (h_ (h_ (cM (cM (h_ (h_ (cr [g1] w0) h1:Chg (· ∈ [g1]) w0 H) h2:Chg (· ∈ [g1]) w0 O) G (mor h1.s:∀k∈[H.z],k∈[g1]∨w0.z<=k):Chg (· ∈ [g1]) w0 V) h3 (io sr):Chg (· ∈ [g1]) w0 I) sg:Chg (· ∈ [g1]) w0 cE) a6:Chg (· ∈ [g1]) w0 cH) cJ (mor lr:∀k∈[w0.z],k∈[g1]∨w0.z<=k):Chg (· ∈ [g1]) w0 dG),z,a0,ii z,iA _ _,(b7.e a6).c cJ<|djs cI⟩
 refine Wk<|Wm z<|R z (bP (parts:=[(0,.tmp 143),(1,.const<|.int .i64 0)]) (cs:=[vI cG,vI 0]) c_c z z) ?_
 have cK:=mmr<|Blk.lt hB1
 refine E0 (fs0 (cur':=[vI cG,vI 0]) E_ z z (((((h6.e h2).c G<|djs<|mmr h6.lt).c h3<|atp cK).e sg).e a6) z z z z) ?_;rintro _ dJ ⟨dK,dL⟩;have cL:=dL.one;refine Wn ?_;obtain rfl:=som<|ifF bn aK;exact Wr<|d_ hr (q_ a_g E_ z dK z) ⟨(cM (h_ (h_ (cM (cM (h_ (h_ (cr [g1] w0) h1:Chg (· ∈ [g1]) w0 H) h2:Chg (· ∈ [g1]) w0 O) G (mor h1.s:∀k∈[H.z],k∈[g1]∨w0.z<=k):Chg (· ∈ [g1]) w0 V) h3 (io sr):Chg (· ∈ [g1]) w0 I) sg:Chg (· ∈ [g1]) w0 cE) a6:Chg (· ∈ [g1]) w0 cH) cL (mor lr:∀k∈[w0.z],k∈[g1]∨w0.z<=k):Chg (· ∈ [g1]) w0 dJ),z,dF,ii z,iA _ _,(b7.e a6).c cL<|djs cK⟩
end Go.Vw
