
import Derived.Test.YtgpgenigfncgeaaGreatDoorVv
set_option linter.unusedVariables false
namespace Go.Vw
open Go.RowKit Dat Go.Proofs
open Go.Proofs.Tryz
open Go.Vw renaming a_i->Wq,a_J->Wg,WC.of_KC->Wo,a_k->Wl,c_e->Wc,c_N->Wr,g_l->Wu,k_h->pT,k_i->pF,h_H->fd,b_J->l1,k_t->lN,b_g->mv,c_Z->asg,g_e->lnR,f_t->lss,h_M->eql,h_I->ext_,k_j->bP,h_J->add_,g_c->inc_,d_W->not_,g_f->at_,e_F->fc,a_V->fs,e_E->fb,d_J->fa,k_b->sr,k_f->cr,k_g->cM,c_s->bM,k_4->iS,k_3->iA,k_6->br,b_6->oA,k_7->bs,ltge->lg,inor->io,g_o->nq,k_v->lnT,k_w->sb_,k_9->ar_,k_8->al_,k_a->ds,l_a->m1,k_d->nr_,k_c->nl_,h_v->aa_,all_nil->an_,d_h->Wb,h_u->u8,j_E->pD,f_X->We,k_5->Wt,f_Y->fS,f_j->or_,k_r->Wf,k_o->qL,j_D->Wd,h_x->fN,h_w->na_,k_e->nj,e_M->f0,g_g->rX,k_k->tl_,k_l->ic
variable {A0:Option Addr}{N0 C0:Nat}{B:Zone}{w0:World}{A9:Option Addr}{A8:Option Addr}{AA:Option Addr}{AB:Option Addr}{N9 C9:Nat}{N8 C8:Nat}{NA CA:Nat}{NB CB:Nat}{A1:Option Addr}{N1 C1:Nat}{n:Nat}{AD:Option Addr}{ND CD:Nat}{A4:Option Addr}{N4 C4:Nat}{AH:Option Addr}{NH CH:Nat}{A3:Option Addr}{A5:Option Addr}{A2:Option Addr}{A6:Option Addr}{N3 C3:Nat}{N5 C5:Nat}{N2 C2:Nat}{N6 C6:Nat}{A7:Option Addr}{N7 C7:Nat}{AE:Option Addr}{NE CE:Nat}{AK:Option Addr}{AL:Option Addr}{NK CK:Nat}{NL CL:Nat}{AC:Option Addr}{NC CC:Nat}
theorem l_V {x1:f_}{x2:Int}{x3:Bt}{x4:Int}{res:Val×Int×Int}(hm:i_r n x1 x2 x3 x4=some res)(J:B<=w0.z)(V:repS w0 B (sl A0 N0 C0) x1.rules)(W:inI x2)(I:repS w0 B (sl A7 N7 C7) x3)(Y:inI x4):h_ prog 82 [(.agg #[sl A0 N0 C0]),vI x2,sl A7 N7 C7,vI x4] w0 (Q17 w0 B res):=by
 unfold i_r at hm
 refine goG func82 z z z λfn hr=>Ws<|E z (fb z) ?_
 rintro _ L ⟨rfl,hg⟩;have h3:=hg.below;have hh:Blk L w0.z [sl A0 N0 C0]:=hg.blk;refine E z (fa a_q) ?_;rintro _ O ⟨rfl,hi⟩;have h4:=hi.below;have h6:Blk O L.z [vI 0,sN,sN]:=hi.blk;refine Ra z<|Rw z<|Wq<|Wq ?_
 obtain ⟨uy,huz,hmj⟩:=bdS hm;refine Wt (λa w=>∃(xa:Bool),xa=uy/\Sat 36 [(1,vI x2),(2,sl A7 N7 C7),(3,vI x4),(4,pt w0.z),(8,pt L.z),(26,vB xa)] a/\Below O.z O w) ?_ ?_
 .refine Wg<|R z (lN (vs:=[sl A0 N0 C0]) L_ D_ z z fid<|(hh.e h4).row 0 1 z)<|Rm z ?_
  have hk:=(h3.ag B).e h4;have hl:=lt_ h3.s h4.s;obtain ⟨a1,a2,hmm⟩:=bdS huz;refine E z (fc call115 z<|W_w35 a2 (zt' J hl) (V.g hk) W) ?_;rintro _ _ ⟨s5,rfl⟩;refine R z (not_ z)<|Rm z ?_
  rcases bs (!a1) with h | h
  .iterate 5 refine Nh z h ?_
   exact R z (pT z h z)<|Rm z<|Nh z z<|Nh z z<|Nh z z<|R z (pT z z z)<|Wl (λ_ q=>⟨true,som<|ifT hmm h,q.k<|s6 z z z z z z,s5⟩)
  refine Rh z h (mv z)<|Rh z h (mv z) ?_
  have hn:=hk.e s5;have ho:=I.g hn;refine Rh z h (lnR k_ z ho) ?_;obtain ⟨a3,a4,hmp⟩:=bdS<|ifF hmm h;refine Eg z z h z (fc call51 z<|b_a a4 (zt' J<|lt_ hl s5.s) Y (ii z)<|b_Y<|repS.len ho) ?_;rintro _ _ ⟨sb,rfl⟩;refine Rh z h (not_ z)<|R z (pF z h z)<|Rm z ?_
  rcases bs (!a3) with G | G
  .iterate 3 refine Nh z G ?_
   exact R z (pT z G z)<|Wl (λ_ q=>⟨true,som<|ifT hmp G,q.k<|s6 z z z z z z,bup s5 sb⟩)
  exact Rh z G (mv z)<|Rh z G (lnR k_ z<|I.g<|hn.e sb)<|Rh z G (X_ z z)<|R z (pF z G z)<|Wl (λ_ q=>⟨decide<|400<(x3.length:Int),som<|ifF hmp G,q.k<|s6 z z z z z z,bup s5 sb⟩)
 rintro a5 _ ⟨xa,rfl,_,s2⟩;revert a5;refine Wo<|Wc z (λhcc=>?_) (λhcc=>?_)
 .refine Ws<|R z (bP (parts:=[]) (cs:=[vI 0,sN,sN]) a_6 z z)<|E0 (fs0 (cur':=[vI 0,sN,sN]) m_ z z (h6.e s2) z z z z) ?_
  rintro _ _ ⟨a6,a7⟩;refine Ra z<|Rw z ?_
  obtain rfl:=som<|ifT hmj hcc;exact Wr<|x_ hr (q_ C_ m_ z a6 z) z z ⟨bM (bup (bup h3 h4) s2) a7.one<|m1 h3.s,none,0,0,[],none,0,0,[],z,ii z,onL,onL,ii z,ii z,nd0,al0⟩
 refine Wk<|Ws<|R z (lN (vs:=[sl A0 N0 C0]) L_ D_ z z fid<|((hh.e h4).e s2).row 0 1 z)<|RM z z<|Rm z ?_
 have hq:=((h3.ag B).e h4).e s2;have hd:=lt_ (lt_ h3.s h4.s) s2.s;obtain ⟨a8,_,_,a9,a0⟩:=U_<|ifF hmj hcc;refine E z (fc call83 z<|W_w02.run a9 (zt' J hd) (V.g hq) W (I.g hq) Y) ?_;rintro _ _ ⟨sr,au,ns,ct,aa,av,nw,cx,ab,rfl,ad,ae,af,ah,ai,he,H⟩
 iterate 3 refine Re z z z ?_
 refine E0 (fs0 (cur':=[vI a8.number,sl au ns ct,sl av nw cx]) m_ z z ((h6.e s2).e sr) z z z z) ?_;rintro _ _ ⟨aj,ak⟩;have hf:=ak.one;refine Ra z<|Rw z ?_
 obtain rfl:=som a0;exact Wr<|x_ hr (q_ C_ m_ z aj z) z z ⟨bM (bup (bup (bup h3 h4) s2) sr) hf<|m1 h3.s,au,ns,ct,aa,av,nw,cx,ab,z,ad,ae.c hf<|s_ (al_ H) h6.lt s2.s,af.c hf<|s_ (ar_ H) h6.lt s2.s,ah,ai,na_ (nl_ he) (nr_ he)<|nj he,aa_ (o_ (al_ H) hd)<|o_ (ar_ H) hd⟩
theorem W_w38 {x1:f_}{x2:Bt}{res:Val×Int×Int}(hm:i_s n x1 x2=some res)(W:B<=w0.z)(V:repS w0 B (sl A0 N0 C0) x1.rules)(Y:repS w0 B (sl A4 N4 C4) x2):h_ prog 55 [(.agg #[sl A0 N0 C0]),sl A4 N4 C4] w0 (Q17 w0 B res):=by
 unfold i_s at hm
 refine goG func55 z z z λfn hr=>Ws<|E z (fb z) ?_
 rintro _ wl ⟨rfl,ao⟩;have h2:=ao.below;have hv:Blk wl w0.z [sl A0 N0 C0]:=ao.blk;refine E z (fa a_q) ?_;rintro _ I ⟨rfl,ap⟩;have h1:=ap.below;have hn:Blk I wl.z [vI 0,sN,sN]:=ap.blk;refine Ra z<|Rw z<|Wq ?_
 obtain ⟨bn,ak,bh⟩:=bdS hm;refine Wt (λa w=>∃(xb:Int)(xw:Bt)(xx:List Val)(xc:Int)(xd:Int),(xb,xw,xx,xc,xd)=bn/\∃ae nf cg J ah ni cj L O,Sat 32 [(1,sl A4 N4 C4),(4,pt wl.z),(7,pt O),(8,vI xc),(9,vI xd)] a/\Below I.z I w/\inI xb/\a_ w J (sl ae nf cg) xw/\J.Nodup/\(∀k∈J,I.z<=k)/\a_ w L (sl ah ni cj) xx/\L.Nodup/\(∀k∈L,I.z<=k)/\(∀k∈L,k∉J)/\inI xc/\inI xd/\Blk w O [vI xb,sl ae nf cg,sl ah ni cj]/\I.z<=O/\(∀k∈J,k∉[O])/\(∀k∈L,k∉[O])) ?_ ?_
 .refine Wd (X:=λk=>k∈([]:List Nat)∨I.z<=k) 0 (.rd 0<|.rd 1<|.rd 3<|.br 2 (.br 4 (.rd 5<|.rd 6<|.rd 7<|.rd 8<|.ef 9<|.ef 10<|.rd 11<|.rd 12 .done) 9<|.ef 4<|.rd 5<|.rd 6<|.rd 7<|.rd 8<|.ef 10<|.rd 11<|.rd 12 .done) 9<|.ef 2<|.ef 4<|.rd 5<|.rd 6<|.rd 7<|.rd 8<|.ef 10<|.rd 11<|.rd 12 .done) mo (by kernel_rfl) λaq G _=>?_
  have ar:=(hv.e h1).e G;refine dR z z (lN (vs:=[sl A0 N0 C0]) L_ D_ z z (e_o nm0<|Nat.lt_of_lt_of_le hv.lt h1.s)<|ar.row 0 1 z)<|dR z z (lN (vs:=[sl A0 N0 C0]) L_ D_ z z (e_o nm0<|Nat.lt_of_lt_of_le hv.lt h1.s)<|ar.row 0 1 z)<|dM z z z<|e_C ?_ ?_
  .have hy:=((h2.ag B).e h1).e G;have hz:=lt_ (lt_ h2.s h1.s) G.s;obtain ⟨_,bo,al⟩:=bdS ak;refine dE z z (fc call57 z<|l_P bo (zt' W hz)<|V.g hy) (.inr λ_ _ h=>E_<|h.1) ?_;rintro _ au ⟨s4,rfl,av⟩;refine e_C ?_ ?_
   .have aw:=hy.e s4;obtain ⟨rm,bp,bq,bt,bi⟩:=U_ al;refine dE z z (fc call82 z<|l_V bt (zt' W<|lt_ hz s4.s) (V.g aw) av (Y.g aw)<|ii z) (.inr λ_ _ h=>E_<|h.1) ?_;rintro _ ax ⟨ay,az,aA,aB,bu,aC,aD,aE,bv,rfl,bw,aF,aG,bx,bz,a1,aH⟩;refine dM z z z ?_
    iterate 3 refine dR z z (ext_ z z) ?_
    refine dE z z (fa a_q) (.inr λ_ _ h=>E_<|h.2.below) ?_;rintro _ bA ⟨rfl,aI⟩;have a2:=aI.below;have a3:=lt_ G.s s4.s;have a4:=m1<|lt_ a3 ay.s
    refine dE0 z (fs0 (cur':=[vI rm.number,sl az aA aB,sl aC aD aE]) m_ z z (aI.blk:Blk bA ax.z [vI 0,sN,sN]) z z z z) (.inr λ_ _ h=>c_W (atp a4) h.2) ?_;rintro _ _ ⟨bB,bC⟩;have a5:=bC.one;refine dQ z z z<|dQ z z z<|pD ?_
    have aJ:=mnr<|a_.lt aF
    have aK:=mnr<|a_.lt aG
    exact λ_ q=>⟨rm.number,rm.bytes,rm.items,bp,bq,som bi,az,aA,aB,bu,aC,aD,aE,bv,ax.z,q.k<|s5 z z z z z,bM (bup (bup (bup G s4) ay) a2) a5 a4,bw,(aF.e a2).c a5<|ds aJ,nl_ a1,o_ (al_ aH) a3,(aG.e a2).c a5<|ds aK,nr_ a1,o_ (ar_ aH) a3,ds<|nj a1,bx,bz,bB,atp a4,ds aJ,ds aK⟩
   refine dE z z (fa a_q) (.inr λ_ _ h=>E_<|h.2.below) ?_;rintro _ bD ⟨rfl,aL⟩;have ho:=aL.below;have a6:Blk bD au.z [vI 0,sN,sN]:=aL.blk;have aM:=(hy.e s4).e ho;obtain ⟨rp,bE,bF,bG,bj⟩:=U_ al;refine dE z z (fc call82 z<|l_V bG (zt' W<|lt_ (lt_ hz s4.s) ho.s) (V.g aM) av (Y.g aM)<|ii z) (.inr λ_ _ h=>E_<|h.1) ?_;rintro _ _ ⟨aN,aO,aP,aQ,bH,aR,aS,aT,bI,rfl,bJ,bK,bL,bN,bO,a7,hq⟩;refine dM z z z ?_
   iterate 3 refine dR z z (ext_ z z) ?_
   have aU:=lt_ G.s s4.s;have a8:=m1 aU;refine dE0 z (fs0 (cur':=[vI rp.number,sl aO aP aQ,sl aR aS aT]) m_ z z (a6.e aN) z z z z) (.inr λ_ _ h=>c_W (atp a8) h.2) ?_;rintro _ _ ⟨bQ,bR⟩;have a9:=bR.one;refine dQ z z z<|dQ z z z<|pD ?_
   have aV:=s_ (al_ hq) a6.lt lr;have aW:=lt_ aU ho.s;have aX:=s_ (ar_ hq) a6.lt lr;exact λ_ q=>⟨rp.number,rp.bytes,rp.items,bE,bF,som bj,aO,aP,aQ,bH,aR,aS,aT,bI,au.z,q.k<|s5 z z z z z,bM (bup (bup (bup G s4) ho) aN) a9 a8,bJ,bK.c a9 aV,nl_ a7,o_ (al_ hq) aW,bL.c a9 aX,nr_ a7,o_ (ar_ hq) aW,ds<|nj a7,bN,bO,bQ,atp a8,aV,aX⟩
  refine dE z z (fa a_q) (.inr λ_ _ h=>E_<|h.2.below) ?_;rintro _ bS ⟨rfl,aY⟩;have ht:=aY.below;have aa:Blk bS aq.z [vI 0,sN,sN]:=aY.blk;have aZ:=(((h2.ag B).e h1).e G).e ht;have b0:=lt_ (lt_ (lt_ h2.s h1.s) G.s) ht.s;obtain ⟨_,bT,bk⟩:=bdS ak;refine dE z z (fc call57 z<|l_P bT (zt' W b0)<|V.g aZ) (.inr λ_ _ h=>E_<|h.1) ?_;rintro _ _ ⟨s9,rfl,bU⟩;have b1:=aZ.e s9;obtain ⟨rr,bV,bW,bX,bm⟩:=U_ bk;refine dE z z (fc call82 z<|l_V bX (zt' W<|lt_ b0 s9.s) (V.g b1) bU (Y.g b1)<|ii z) (.inr λ_ _ h=>E_<|h.1) ?_;rintro _ _ ⟨b2,b3,b4,b5,bY,b6,b7,b8,bZ,rfl,c0,c1,c2,c3,c4,ab,hu⟩;refine dM z z z ?_
  iterate 3 refine dR z z (ext_ z z) ?_
  have ad:=m1 G.s;refine dE0 z (fs0 (cur':=[vI rr.number,sl b3 b4 b5,sl b6 b7 b8]) m_ z z ((aa.e s9).e b2) z z z z) (.inr λ_ _ h=>c_W (atp ad) h.2) ?_;rintro _ _ ⟨c5,c6⟩;have af:=c6.one;refine dQ z z z<|dQ z z z<|pD ?_
  have b9:=s_ (al_ hu) aa.lt s9.s;have ba:=lt_ (lt_ G.s ht.s) s9.s;have bb:=s_ (ar_ hu) aa.lt s9.s;exact λ_ q=>⟨rr.number,rr.bytes,rr.items,bV,bW,som bm,b3,b4,b5,bY,b6,b7,b8,bZ,aq.z,q.k<|s5 z z z z z,bM (bup (bup (bup G ht) s9) b2) af ad,c0,c1.c af b9,nl_ ab,o_ (al_ hu) ba,c2.c af bb,nr_ ab,o_ (ar_ hu) ba,ds<|nj ab,c3,c4,c5,atp ad,b9,bb⟩
 rintro c7 ws ⟨xb,xw,xx,xc,xd,rfl,ae,nf,cg,J,ah,ni,cj,L,O,_,sk,c8,c9,ca,bc,cb,cc,be,cd,bf,ce,cf,_,_,_⟩;revert c7;refine Wo<|Wq<|Wq ?_
 obtain ⟨ch,am,an⟩:=bdS<|un5S bh;refine Wt (λa w=>∃(ai:Bool),ai=ch/\Sat 32 [(4,pt wl.z),(7,pt O),(8,vI xc),(9,vI xd),(26,vB ai)] a/\Below ws.z ws w) ?_ ?_
 .refine Wg<|Rm z<|Rq z z z<|Rm z ?_
  rcases bs (xd==0) with H | H
  .exact Rh z H (mv z)<|Rh z H (mv z)<|Rh z H (lnR k_ z<|Y.g<|((h2.ag B).e h1).e sk)<|Rh z H (lss z z)<|R z (pT z H z)<|Wl (λ_ q=>⟨decide<|xc<(x2.length:Int),som<|ifT am H,q.k<|s5 z z z z z,br ws⟩)
  iterate 4 refine Nh z H ?_
  exact R z (pF z H z)<|Wl (λ_ q=>⟨false,som<|ifF am H,q.k<|s5 z z z z z,br ws⟩)
 rintro ci _ ⟨ai,rfl,_,sa⟩;revert ci;refine Wo<|Wc z (λa0=>?_) (λa0=>?_)
 .refine Ws<|R z (bP (parts:=[]) (cs:=[vI 0,sN,sN]) a_6 z z)<|Rm z<|E0 (fs0 (cur':=[vI 0,sN,sN]) m_ z z ((hn.e sk).e sa) z z z z) ?_
  rintro _ _ ⟨ck,cl⟩;refine Ra z<|Rw z ?_
  obtain rfl:=som<|ifT an a0;exact Wr<|x_ hr (q_ C_ m_ z ck z) z z ⟨bM (bup (bup (bup h2 h1) sk) sa) cl.one<|m1 h2.s,none,0,0,[],none,0,0,[],z,ii z,onL,onL,bf,ii z,nd0,al0⟩
 refine Wk<|Ws<|R z (lN (vs:=[vI xb,sl ae nf cg,sl ah ni cj]) C_ m_ z z fid<|(cf.e sa).row 0 3 z)<|RM z z<|E0 (fs0 (cur':=[vI xb,sl ae nf cg,sl ah ni cj]) m_ z z ((hn.e sk).e sa) z z z z) ?_
 rintro _ _ ⟨cm,cn⟩;have aj:=cn.one;refine Ra z<|Rw z ?_
 obtain rfl:=som<|ifF an a0;have bg:=lt_ h2.s h1.s;exact Wr<|x_ hr (q_ C_ m_ z cm z) z z ⟨bM (bup (bup (bup h2 h1) sk) sa) aj<|m1 h2.s,ae,nf,cg,J,ah,ni,cj,L,z,c8,(c9.e sa).c aj<|s_ bc hn.lt lr,(cb.e sa).c aj<|s_ be hn.lt lr,bf,ce,na_ ca cc<|ds cd,aa_ (o_ bc bg)<|o_ be bg⟩
theorem W_w1c {x1:f_}{x2:Bt}{res:Bool}(hm:g_V n x1 x2=some res)(I:B<=w0.z)(G:repS w0 B (sl A0 N0 C0) x1.rules)(H:repS w0 B (sl A4 N4 C4) x2):h_ prog 35 [(.agg #[sl A0 N0 C0]),sl A4 N4 C4] w0 (Q11 w0 B res):=by
 unfold g_V at hm
 refine goG func35 z z z λfn hr=>Ws<|E z (fb z) ?_
 rintro _ L ⟨rfl,h1⟩;have h:=h1.below;refine Rw z<|Ws<|R z (lN (vs:=[sl A0 N0 C0]) L_ D_ z z fid<|(h1.blk:Blk L w0.z [sl A0 N0 C0]).row 0 1 z)<|Rm z ?_
 obtain ⟨O,_,_,V,J⟩:=U_ hm;refine E z (fc call55 z<|W_w38 V (zt' I h.s) (G.e h)<|H.e h) ?_;rintro _ W ⟨s2,aa,nb,cc,_,ad,ne,cf,_,rfl,_,_,_,_,_,_,_⟩;refine Rm z ?_
 iterate 3 refine Re z z z ?_
 refine E z (fa a_q) ?_;rintro _ wg ⟨rfl,h3⟩;refine E0 (fs0 (cur':=[vI O.number,sl aa nb cc,sl ad ne cf]) m_ z z (h3.blk:Blk wg W.z [vI 0,sN,sN]) z z z z) ?_;rintro _ _ ⟨_,si⟩;refine Ra z<|Rw z<|Wm z<|Rq z z z<|Rw z ?_
 obtain rfl:=som J;exact Wr<|c_ hr z ⟨bM (bup (bup h s2) h3.below) si.one<|m1<|lt_ h.s s2.s,z⟩
theorem W_w39 {x1:J_}{res:Bool}(hm:j_l n x1=some res)(O:B<=w0.z)(W:repS w0 B (sl A0 N0 C0) x1.registry.versions)(V:repS w0 B (sl A1 N1 C1) x1.log.bytes)(a8:inI x1.log.stored):h_ prog 17 [(.agg #[sl A0 N0 C0,sl A1 N1 C1,vI x1.log.stored])] w0 (Q11 w0 B res):=by
 unfold j_l at hm
 refine goG func17 z z z λfn hr=>Ws<|E z (fb z) ?_
 rintro _ we ⟨rfl,hl⟩;have h4:=hl.below;have hf:Blk we w0.z [sl A0 N0 C0,sl A1 N1 C1,vI x1.log.stored]:=hl.blk;refine Rw z<|Wq<|Wq ?_
 obtain ⟨aq,a9,hmm⟩:=bdS hm;refine Wt (λa w=>∃(xg:Bool),xg=aq/\Sat 74 [(1,pt w0.z),(23,vB xg)] a/\Below we.z we w) ?_ ?_
 .refine Wg<|Rf z c_P z<|R z (lN (vs:=[sl A0 N0 C0]) e_G d_Q z z fid<|hf.row 0 1 z) ?_
  obtain ⟨ar,au,hmn⟩:=bdS a9;refine E z (fc call33 z<|W_w34 (B:=B) (x1:=(⟨x1.registry.versions⟩:a_c)) au (zt' O h4.s)<|W.e h4) ?_;rintro _ _ ⟨s7,rfl⟩;refine R z (not_ z)<|Rm z ?_
  rcases bs (!ar) with J | J
  .iterate 4 refine Nh z J ?_
   exact R z (pT z J z)<|Rm z<|Nh z z<|Nh z z<|Nh z z<|Nh z z<|Nh z z<|Nh z z<|R z (pT z z z)<|Wl (λ_ q=>⟨true,som<|ifT hmn J,q.k<|s2 z z,s7⟩)
  refine Rh z J (fd c_B z) ?_;have ho:=hf.e s7;refine Rh z J (lN (vs:=[sl A1 N1 C1,vI x1.log.stored]) e_f d_l z z fid<|ho.row 1 2 z) ?_;have hp:=(h4.ag B).e s7;have hq:=lt_ h4.s s7.s;obtain ⟨av,ax,hmr⟩:=bdS<|ifF hmn J;refine Eg z z J z (fc call31 z<|W_w14 (B:=B) (x1:=(⟨x1.log.bytes,x1.log.stored⟩:Log)) ax (zt' O hq) (V.g hp) a8) ?_;rintro _ _ ⟨sb,rfl⟩;refine Rh z J (not_ z)<|R z (pF z J z)<|Rm z ?_
  rcases bs (!av) with I | I
  .iterate 6 refine Nh z I ?_
   exact R z (pT z I z)<|Wl (λ_ q=>⟨true,som<|ifT hmr I,q.k<|s2 z z,bup s7 sb⟩)
  refine Rh z I (fd c_B z)<|Rh z I (fd c_6 z)<|Rh z I (l0 K_ z<|(ho.e sb).at z) ?_
  obtain ⟨ay,az,aa⟩:=bdS<|ifF hmr I;refine Eg z z I z (fc call32 z<|W_w15 az (zt' O<|lt_ hq sb.s)<|V.g<|hp.e sb) ?_;rintro _ _ ⟨aA,_,_,_,rfl,aB⟩;exact Rh z I (lnR b_O z aB)<|Rh z I (X_ z z)<|R z (pF z I z)<|Wl (λ_ q=>⟨decide<|20<(ay.length:Int),som aa,q.k<|s2 z z,bup (bup s7 sb) aA⟩)
 rintro aC _ ⟨xg,rfl,_,s8⟩;revert aC;refine Wo<|Wc z (λhch=>?_) (λhch=>?_)
 .refine Ws<|Rw z ?_
  obtain rfl:=som<|ifT hmm hch;exact Wr<|c_ hr z ⟨bup h4 s8,z⟩
 refine Wk<|Ws<|Rf z c_B z<|Rf z c_6 z ?_
 have ht:=hf.e s8;refine R z (l0 K_ z<|ht.at z) ?_;have hu:=(h4.ag B).e s8;have hv:=lt_ h4.s s8.s;obtain ⟨_,_,aD,ab⟩:=Y_<|ifF hmm hch;refine E z (fc call34 z<|j_U aD (zt' O hv)<|V.g hu) ?_;rintro _ L ⟨sc,aw,ns,cx,_,rfl,h5,_,_,_⟩;refine Rm z<|Re z z z<|Re z z z<|Ra z<|Rw z<|Wq<|Ws<|Rw z ?_
 obtain ⟨_,ad,hmy⟩:=bdS ab;refine Wf (σ:=Unit) (ρ:=Bool) (λ(ki:Nat)(_:Unit) a w=>Sat 74 [(1,pt w0.z),(3,sl aw ns cx),(5,vI ((ki:Nat):Int))] a/\Below L.z L w) (λ(_:Unit) a w=>Sat 74 [] a/\Below L.z L w) (rQ prog fn<|Q11 w0 B) ad ?_ ?_ ?_ ?_ ?_
 .exact λ_ q=>⟨q.k<|s3 z z z,br L⟩
 .rintro ki _ _ wz _ Y ⟨ae,sa⟩ af;refine Wu ?_ ae;refine Wq<|Wm z<|Rm z ?_
  have a3:=h5.e sa;refine R z (lnR c_D z<|or_ a3<|a_.lt h5)<|Rl z z z<|Wx z (λ_=>?_) (λhc=>(O_ Y hc).elim)
  refine Wk<|Wq<|Wb<|Wq ?_
  obtain ⟨aE,ah,a0⟩:=bdS af;refine Wt (λa w=>∃(xj:Bool),xj=aE/\Sat 74 [(1,pt w0.z),(3,sl aw ns cx),(5,vI ((ki:Nat):Int)),(73,vB xj)] a/\Below wz.z wz w) ?_ ?_
  .refine Wd (X:=noX) 0 (pl_ 37 [33]) mo (by kernel_rfl) λb7 s6 _=>dM z z z<|dM z z z ?_
   obtain ⟨aF,aG,a1⟩:=bdS ah;have hd:=a3.e s6;refine dRX z z (at_ (α:=p_) c_D a_a z z z (or_ hd<|a_.lt h5) aG) ?_;rintro _ ⟨_,_,_,rfl,aH,aI,_⟩;obtain ⟨_,_,_,rfl,_,_,_,_⟩:=f_m aI;refine dR z z (fd c_Q z)<|dR z z (l0 g_3 z<|aH.at (j:=0) z)<|dR z z (eql z z)<|dM z z z ?_
   rcases bs (aF.kind==1) with H | H
   .refine dRg z z z H z (mv z)<|dRg z z z H z (mv z) ?_
    obtain ⟨aJ,aK,a2⟩:=bdS<|ifT a1 H;refine a_L z z z H z (at_ (α:=p_) c_D a_a z z z (or_ hd<|a_.lt h5) aK) ?_;rintro _ ⟨_,_,_,rfl,aL,aM,_⟩;obtain ⟨_,_,_,rfl,_,_,_,_⟩:=f_m aM;refine dRg z z z H z (fd c_R z)<|dRg z z z H z (l0 g_3 z<|aL.at (j:=2) z)<|dRg z z z H z (fd c_P z)<|dRg z z z H z (fd c_5 z) ?_
    have a4:=((ht.e sc).e sa).e s6;refine dRg z z z H z (l0 c_f z<|a4.at z) ?_;have a5:=W.g<|((hu.e sc).e sa).e s6
    refine dRg z z z H z (lnR b_r z a5)<|dRg z z z H z (b_t z z)<|dRg z z z H z (mv z) ?_
    rcases bs (decide<|(x1.registry.versions.length:Int)<=aJ.version) with G | G
    .iterate 15 refine dRn z z z G z ?_
     exact dEn z z z G z<|dRn z z z G z<|dRg z z z H z (pT z G z)<|dR z z (pT z H z)<|pD (λ_ q=>⟨true,som<|ifT a2 G,q.k<|s4 z z z z,s6⟩)
    refine dRg z z z G z (fd c_P z)<|dRg z z z G z (fd c_5 z)<|dRg z z z G z (l0 c_f z<|a4.at z)<|dRg z z z G z (mv z)<|dRg z z z G z (mv z) ?_
    obtain ⟨_,aN,ai⟩:=bdS<|ifF a2 G;refine a_L z z z G z (at_ (α:=p_) c_D a_a z z z (or_ hd<|a_.lt h5) aN) ?_;rintro _ ⟨_,_,_,rfl,aO,aP,_⟩;obtain ⟨_,_,_,rfl,_,_,_,_⟩:=f_m aP;refine dRg z z z G z (fd c_R z)<|dRg z z z G z (l0 g_3 z<|aO.at (j:=2) z) ?_
    obtain ⟨_,aQ,aj⟩:=bdS ai;refine a_L z z z G z (at_ (α:=f_) b_r D_ z z z a5 aQ) ?_;rintro _ ⟨_,_,_,rfl,aR,aS,_⟩;obtain ⟨aT,aU,aV,rfl,aW⟩:=d_H aS;refine dRg z z z G z (lN (vs:=[sl aT aU aV]) L_ D_ z z fid aR)<|dRg z z z G z (mv z)<|dRg z z z G z (mv z) ?_
    obtain ⟨_,aX,ak⟩:=bdS aj;refine a_L z z z G z (at_ (α:=p_) c_D a_a z z z (or_ hd<|a_.lt h5) aX) ?_;rintro _ ⟨_,_,_,rfl,aY,aZ,_⟩;obtain ⟨_,_,_,rfl,_,_,_,b0⟩:=f_m aZ;refine dRg z z z G z (fd d_P z)<|dRg z z z G z (l0 K_ z<|aY.at (j:=3) z) ?_
    obtain ⟨b1,b2,al⟩:=bdS ak;refine dEg z z z G z (fc call35 z<|W_w1c (B:=L.z) b2 (a_K<|lt_ sa.s s6.s) (repS.mono aW<|zt' O<|lt_ hv sc.s) b0) (.inr λ_ _ h=>E_<|h.1) ?_;rintro _ _ ⟨b3,rfl⟩;exact dRg z z z G z (not_ z)<|dRg z z z H z (pF z G z)<|dR z z (pT z H z)<|pD (λ_ q=>⟨!b1,som al,q.k<|s4 z z z z,bup s6 b3⟩)
   iterate 11 refine dRn z z z H z ?_
   iterate 15 refine dRu z z z z ?_
   exact dEu z z z z<|dRu z z z z<|dRn z z z H z<|dR z z (pF z H z)<|pD (λ_ q=>⟨false,som<|ifF a1 H,q.k<|s4 z z z z,s6⟩)
  rintro b4 _ ⟨xj,rfl,_,a6⟩;revert b4;refine Wo<|Wc z (λhck=>?_) (λhck=>?_)
  .exact Ws<|Rw z<|Wr<|rtO<|qL (som<|ifT a0 hck).symm<|c_ hr z ⟨bup (bup (bup (bup h4 s8) sc) sa) a6,z⟩
  exact Wk<|Wg<|Rm z<|R z (inc_ Y (lt_ (a_.len h5) z_) z z)<|Ra z<|Wl (λ_ q=>⟨(),(som<|ifF a0 hck).symm,⟨q.k<|s3 z z z,bup sa a6⟩⟩)
 .rintro _ _ _ ⟨am,a7⟩;refine Wu ?_ am;refine Wq<|Wm z<|Rm z<|R z (lnR c_D z<|or_ (h5.e a7)<|a_.lt h5)<|Rl z z z<|Wx z (λhc=>(P_ hc).elim) (λ_=>?_)
  exact We<|λ_ q=>⟨rfl,⟨q.k sn,a7⟩⟩
 .rintro _ b5 _ rfl ⟨_,b6⟩;have an:=elL hmy;revert b5;refine Wo<|Ws<|Rw z ?_
  obtain rfl:=som an;exact Wr<|c_ hr z ⟨bup (bup (bup h4 s8) sc) b6,z⟩
 rintro _ _ _ _ rfl ⟨rfl,ao⟩;have ap:=elR hmy;obtain rfl:=som ap;exact ⟨ao,z⟩
def Q19 (w0:World)(B:Zone)(r:Str)(v:Value)(w':World):Prop:=Bw w0 w'/\(λh=>(Str.v h)=v/\h.b.length<=LEN) r
theorem l_W {x1:Int}{res:Str}(hm:d_C n x1=some res)(O:B<=w0.z)(L:inI x1):h_ prog 123 [vI x1] w0 (Q19 w0 B res):=by
 unfold d_C at hm
 refine goG func123 z z z λfn hr=>Ws<|Rw z<|Wq<|Wm z<|Rq z z z<|Wx z (λG=>?_) (λG=>?_)
 .refine Ws<|Rw z ?_
  obtain rfl:=som<|ifT hm G;exact Wr<|c_ hr z ⟨br w0,z,lb z⟩
 refine Wk<|Ws<|Rw z<|Wq<|Wm z<|Rw z ?_
 obtain ⟨_,huj,hmb⟩:=bdS<|ifF hm G;refine a_X (σ:=Str×Int) (ρ:=Str) (λs a w=>un2 (λx2 x0=>Sat 31 [(0,vI x1),(3,Str.v x2),(4,vI x0)] a/\Below w0.z w0 w/\x2.b.length<=LEN/\inI x0) s) (λs a w=>un2 (λx2 x0=>Sat 31 [(0,vI x1),(3,Str.v x2)] a/\Below w0.z w0 w/\x2.b.length<=LEN/\inI x0) s) (rQ prog fn<|Q19 w0 B) huj ?_ ?_ ?_ ?_
 .exact λ_ q=>⟨q.k<|s3 z z z,br w0,lb z,L⟩
 .rintro ⟨x2,x0⟩ _ h _ ⟨hSk,sc,h5,h6⟩ hml;have hmd:=a_7 hml;refine Wu ?_ hSk;refine Wq<|Wm z<|R z (nq z z)<|Wx z (λH=>?_) (λH=>?_)
  .refine Wk<|Wq<|Wb<|Wm z<|R z (h_K z z (by decide))<|Rw z<|Wq<|Wm z<|Rl z z z<|Wn ?_
   obtain ⟨um,hue,hmn⟩:=bdS<|ifT hmd H;refine Wt (λa w=>∃(x3:Int),x3=um/\Sat 31 [(0,vI x1),(3,Str.v x2),(4,vI x0),(5,vI x3)] a/\Below h.z h w/\inI x3) ?_ ?_
   .refine Wc z (λI=>?_)<|λI=>?_
    .exact Wg<|Rm z<|R z (rd_neg z)<|Ra z<|Wl (λ_ q=>⟨g_m<|b_f x0 10,som<|ifT hue I,q.k<|s4 z z z z,br h,s_r _⟩)
    exact a_j<|λ_ q=>⟨b_f x0 10,som<|ifF hue I,q.k<|s4 z z z z,br h,m_i h6⟩
   rintro ao wp ⟨x3,rfl,_,sq,_⟩;revert ao;refine Wo<|Wg<|Rm z<|R z (add_ z z)<|R z (b_Q d_3 d_5 z)<|E z (fS [(.tmp 21)] M_ z z z (a_v z) (lb z)<|lb z) ?_
   rintro _ wr ⟨rfl,J⟩;have V:Blk wr wp.z [(vU<|byteI<|mkB<|b_ 48 x3)]:=J.blk;refine R z (g_j k_ d_9 d_5 z_5 z<|a_.rep<|b_D J b_b)<|Rm z ?_
   obtain ⟨xs,ef,hmt⟩:=bdS hmn;exact R z (e_N z z ef)<|Rw z<|Wg<|Rm z<|R z (o_h z z (by decide))<|Ra z<|Wl (λ_ q=>⟨(xs,d_p x0 10),(som hmt).symm,⟨q.k<|s3 z z z,bup (bup sc sq) J.below,g_d ef,o_4 _ _⟩⟩)
  exact We<|λ_ q=>a_Q (som<|ifF hmd H).symm ⟨q.k<|s2 z z,sc,h5,h6⟩
 .rintro ⟨x2,x0⟩ au _ rfl ⟨_,sg,h5,h6⟩;have hmv:=elL hmb;have hmh:=a_7 hmv;revert au;refine Wo<|Wq<|Wm z<|Rl z z z<|Wx z (λhca=>?_) (λhca=>?_)
  .refine Wm z ?_
   obtain ⟨_,ei,hmw⟩:=bdS<|ifT hmh hca;refine R z (e_N z z ei)<|Rw z ?_
   obtain rfl:=som hmw;exact Wr<|c_ hr z ⟨sg,z,g_d ei⟩
  refine Wk<|Wm z<|Rw z ?_
  obtain rfl:=som<|ifF hmh hca;exact Wr<|c_ hr z ⟨sg,z,h5⟩
 rintro _ _ _ _ rfl ⟨rfl,hqx⟩;have hmy:=elR hmb;obtain rfl:=som hmy;exact ⟨hqx,z⟩
theorem W_w3a {x1:d_}{x2:Int}{res:Str}(hm:g_R n x1 x2=some res)(Y:B<=w0.z)(ad:x1.name.b.length<=LEN)(ae:inI x1.kind)(af:inI x1.size)(ah:repS w0 B (sl A9 N9 C9) x1.bytes)(O:repS w0 B (sl A8 N8 C8) x1.names)(ai:repS w0 B (sl AA NA CA) x1.tags)(aj:repS w0 B (sl AB NB CB) x1.kids)(V:inI x2):h_ prog 86 [(.agg #[Str.v x1.name,vI x1.kind,vI x1.size,vB x1.little,sl A9 N9 C9,sl A8 N8 C8,sl AA NA CA,sl AB NB CB]),vI x2] w0 (Q19 w0 B res):=by
 unfold g_R at hm
 refine goG func86 z z z λfn hr=>Ws<|E z (fb z) ?_
 rintro _ J ⟨rfl,hn⟩;have h1:=hn.below;have h6:Blk J w0.z (vR x1 A9 N9 C9 A8 N8 C8 AA NA CA AB NB CB):=hn.blk;refine Rw z<|Wq<|Wb<|Ws<|Rf z a_O z<|R z (l0 g_3 z<|h6.at z)<|Rq z z z<|Rw z<|Wc z (λhcd=>?_) (λhcd=>?_)
 .refine Wm z ?_
  obtain ⟨_,ew,hmx⟩:=bdS<|ifT hm hcd;refine E z (fc call123 z<|l_W ew (zt' Y h1.s) V) ?_;rintro _ _ ⟨sy,rfl,hz⟩;refine Rw z ?_
  obtain rfl:=som hmx;exact Wr<|rtO<|c_ hr z ⟨bup h1 sy,z,hz⟩
 refine Wq ?_;obtain ⟨a0,hum,hmo⟩:=bdS<|ifF hm hcd;refine Wt (λa w=>∃(xe:Bool),xe=a0/\Sat 51 [(1,vI x2),(2,pt w0.z),(11,vB xe)] a/\Below J.z J w) ?_ ?_
 .refine Wg<|Rf z a_O z<|R z (l0 g_3 z<|h6.at z)<|Rq z z z<|Rm z ?_
  rcases bs (x1.kind==6) with h | h
  .exact Rh z h (mv z)<|Rh z h (fd c_i z)<|Rh z h (l0 a_G z<|h6.at z)<|Rh z h (lnR F_ z<|O.e h1)<|Rh z h (lss z z)<|R z (pT z h z)<|Ra z<|Wl (λ_ q=>⟨decide<|x2<(x1.names.length:Int),som<|ifT hum h,q.k<|s3 z z z,br J⟩)
  iterate 5 refine Nh z h ?_
  exact R z (pF z h z)<|Ra z<|Wl (λ_ q=>⟨false,som<|ifF hum h,q.k<|s3 z z z,br J⟩)
 rintro a1 L ⟨xe,rfl,_,s2⟩;revert a1;refine Wo<|Wc z (λhcf=>?_) (λhcf=>?_)
 .refine Ws<|Rf z c_i z<|R z (l0 a_G z<|(h6.e s2).at z)<|Rm z ?_
  obtain ⟨_,a2,W⟩:=bdS<|ifT hmo hcf;refine RX z (at_ (α:=Str) F_ z_9 z z z (O.g<|(h1.ag B).e s2) a2) ?_;rintro _ ⟨_,_,_,rfl,a3,a4,_⟩;obtain ⟨rfl,a5⟩:=a_n a4;refine R z (l0 g_9 z<|a3.at0 z)<|Rw z ?_
  obtain rfl:=som W;exact Wr<|rtO<|c_ hr z ⟨bup h1 s2,z,a5⟩
 refine Wq ?_;obtain ⟨a6,hup,hmq⟩:=bdS<|ifF hmo hcf;refine Wt (λa w=>∃(xg:Bool),xg=a6/\Sat 51 [(1,vI x2),(2,pt w0.z),(27,vB xg)] a/\Below L.z L w) ?_ ?_
 .refine Wg<|Rf z a_O z<|R z (l0 g_3 z<|(h6.e s2).at z)<|Rq z z z<|Rm z ?_
  rcases bs (x1.kind==7) with G | G
  .exact Rh z G (mv z)<|Rh z G (eql z z)<|R z (pT z G z)<|Ra z<|Wl (λ_ q=>⟨x2==0,som<|ifT hup G,q.k<|s3 z z z,br L⟩)
  exact Nh z G<|Nh z G<|R z (pF z G z)<|Ra z<|Wl (λ_ q=>⟨false,som<|ifF hup G,q.k<|s3 z z z,br L⟩)
 rintro a7 wa ⟨xg,rfl,_,s7⟩;revert a7;refine Wo<|Wc z (λhch=>?_) (λhch=>?_)
 .refine Ws<|Rw z ?_
  obtain rfl:=som<|ifT hmq hch;exact Wr<|rtO<|c_ hr z ⟨bup (bup h1 s2) s7,z,lb z⟩
 refine Wq ?_;obtain ⟨a8,hur,hms⟩:=bdS<|ifF hmq hch;refine Wt (λa w=>∃(xi:Bool),xi=a8/\Sat 51 [(1,vI x2),(2,pt w0.z),(35,vB xi)] a/\Below wa.z wa w) ?_ ?_
 .refine Wg<|Rf z a_O z<|R z (l0 g_3 z<|((h6.e s2).e s7).at z)<|Rq z z z<|Rm z ?_
  rcases bs (x1.kind==8) with H | H
  .exact Rh z H (mv z)<|Rh z H (eql z z)<|R z (pT z H z)<|Ra z<|Wl (λ_ q=>⟨x2==0,som<|ifT hur H,q.k<|s3 z z z,br wa⟩)
  exact Nh z H<|Nh z H<|R z (pF z H z)<|Ra z<|Wl (λ_ q=>⟨false,som<|ifF hur H,q.k<|s3 z z z,br wa⟩)
 rintro a9 wb ⟨xi,rfl,_,sc⟩;revert a9;refine Wo<|Wc z (λhcj=>?_) (λhcj=>?_)
 .refine Ws<|Rw z ?_
  obtain rfl:=som<|ifT hms hcj;exact Wr<|rtO<|c_ hr z ⟨bup (bup (bup h1 s2) s7) sc,z,lb z⟩
 refine Wq ?_;obtain ⟨aa,hut,hmu⟩:=bdS<|ifF hms hcj;refine Wt (λa w=>∃(xk:Bool),xk=aa/\Sat 51 [(43,vB xk)] a/\Below wb.z wb w) ?_ ?_
 .refine Wg<|Rf z a_O z<|R z (l0 g_3 z<|(((h6.e s2).e s7).e sc).at z)<|Rq z z z<|Rm z ?_
  rcases bs (x1.kind==9) with I | I
  .exact Rh z I (mv z)<|Rh z I (eql z z)<|R z (pT z I z)<|Ra z<|Wl (λ_ q=>⟨x2==0,som<|ifT hut I,q.k<|s1 z,br wb⟩)
  exact Nh z I<|Nh z I<|R z (pF z I z)<|Ra z<|Wl (λ_ q=>⟨false,som<|ifF hut I,q.k<|s1 z,br wb⟩)
 rintro ab _ ⟨xk,rfl,_,sv⟩;revert ab;refine Wo<|Wc z (λhcl=>?_) (λhcl=>?_)
 .refine Ws<|Rw z ?_
  obtain rfl:=som<|ifT hmu hcl;exact Wr<|rtO<|c_ hr z ⟨bup (bup (bup (bup h1 s2) s7) sc) sv,z,lb z⟩
 refine Wk<|Ws<|Rw z ?_
 obtain rfl:=som<|ifF hmu hcl;exact Wr<|c_ hr z ⟨bup (bup (bup (bup h1 s2) s7) sc) sv,z,lb z⟩
def Q20 (w0:World)(B:Zone)(r:(List l_)×Int)(v:Value)(w':World):Prop:=Bw w0 w'/\un2 (λJ h=>∃G H I S1,v = .tuple #[sl G H I,vI h]/\a_ w' S1 (sl G H I) J/\inI h/\S1.Nodup/\(∀k∈S1,w0.z<=k)) r
structure l_X (f:f_->Int->Bt->Int->Str->Option ((List l_)×Int)):Prop where
  run:∀{A0 A7:Option Addr}{N0 C0 N7 C7:Nat}{B:Zone}{x1:f_}{x2:Int}{x3:Bt}{x4:Int}{x5:Str}{res:(List l_)×Int}{w0:World}(hm:f x1 x2 x3 x4 x5=some res)(hBw:B<=w0.z)(p1_0:repS w0 B (sl A0 N0 C0) x1.rules)(p2_0:inI x2)(p3_0:repS w0 B (sl A7 N7 C7) x3)(p4_0:inI x4)(p5_0:x5.b.length<=LEN),h_ prog 56 [(.agg #[sl A0 N0 C0]),vI x2,sl A7 N7 C7,vI x4,Str.v x5] w0<|Q20 w0 B res
abbrev o_0 (n:Nat):Prop:=l_X (f_e n).spec_l19Build
theorem T_w08 (bB:o_0 n):l_X (i_T n<|f_e n):=by
 constructor
 intro A0 A7 N0 C0 N7 C7 B x1 x2 x3 x4 x5 res w0 hm V W aB ak Y bc;unfold i_T at hm
 refine goG func56 z z z λfn hr=>Ws<|E z (fb z) ?_
 rintro _ wi ⟨rfl,aG⟩;have hn:=aG.below;have ho:Blk wi w0.z [sl A0 N0 C0]:=aG.blk;refine Ra z<|Rw z<|Ws<|Rf z a_s z<|R z (l0 a_u z<|ho.at z)<|Rm z ?_
 obtain ⟨xj,bC,be⟩:=bdS hm;refine RX z (at_ (α:=d_) a_2 t_ z z z (W.e hn) bC) ?_;rintro _ ⟨_,_,_,rfl,bD,bE,_⟩;obtain ⟨az,a1,a2,a3,a4,a5,a6,a7,a8,aa,ab,ad,rfl,aH,aI,aJ,aK,aL,aM,ao⟩:=b_3 bE;refine R z (lN (vs:=vR xj az a1 a2 a3 a4 a5 a6 a7 a8 aa ab ad) Q_ t_ z z fid bD)<|E z (fa c_q) ?_
 rintro _ bF ⟨rfl,aN⟩;have hg:=aN.below;have ap:Blk bF wi.z [(Str.v (⟨[]⟩:Str)),vI 0,vI 0,vB false,sN,sN,sN,sN]:=aN.blk;refine E0 (fs0 (cur':=vR xj az a1 a2 a3 a4 a5 a6 a7 a8 aa ab ad) t_ z z ap z z z z) ?_;rintro _ _ ⟨bG,bH⟩;have hd:=bH.one;refine Wn<|Ws ?_
 have aq:=(ho.e hg).c hd<|djs<|mmr ho.lt
 refine R z (lN (vs:=[sl A0 N0 C0]) L_ D_ z z fid<|aq.row 0 1 z)<|RM z z<|Rm z ?_
 have ar:∀k∈[wi.z],¬B k:=or0 (e_ lr)<|n_<|zt' V hn.s;have ae:=((hn.ag B).e hg).c hd<|g_ ar
 have af:=lt_ (lt_ hn.s hg.s) hd.s;obtain ⟨bI,rh,_,bJ,bf⟩:=U_ be;refine E z (fc call83 z<|W_w02.run bJ (zt' V af) (W.g ae) aB (ak.g ae) Y) ?_;rintro _ wk ⟨s6,bK,bL,bN,_,bO,bQ,bR,_,rfl,bS,_,L,aO,_,_,_⟩;refine Rm z ?_
 iterate 3 refine Re z z z ?_
 refine E z (fa a_q) ?_;rintro _ bT ⟨rfl,aP⟩;have h2:=aP.below;have au:Blk bT wk.z [vI 0,sN,sN]:=aP.blk;refine E0 (fs0 (cur':=[vI bI.number,sl bK bL bN,sl bO bQ bR]) m_ z z au z z z z) ?_;rintro _ G ⟨aQ,bU⟩;have H:=bU.one;refine Ra z<|Rw z<|Wm z<|RM z z<|Rm z<|R z (bP (parts:=[(0,.tmp 38),(1,.tmp 39),(2,.tmp 40),(3,.tmp 41)]) (cs:=[Str.v x5,vI x2,vI x4,vI rh]) n_C z z)<|E z (fS [(.tmp 42)] c_g z z z (a_v z) (lb z)<|lb z) ?_
 rintro _ wr ⟨rfl,av⟩;have h5:=av.below;have cF:Blk wr G.z [Str.v x5,vI x2,vI x4,vI rh]:=av.blk;refine Rw z<|Wm z<|Rw z<|Wq<|Ws<|Rf z a_O z ?_
 have aR:=lt_ hd.s s6.s;have aw:=(((bG.e s6).e h2).c H<|djs<|mm1 ap.lt aR).e h5;refine R z (l0 g_3 z<|aw.at z)<|Wn<|Wb<|Wq<|Ws<|Rq z z z<|Rw z ?_
 obtain ⟨bV,aC,bg⟩:=bdS bf;refine Wt (λa w=>∃(ax:Bool),ax=bV/\Sat 98 [(2,sl A7 N7 C7),(3,vI x4),(4,Str.v x5),(5,pt w0.z),(12,pt wi.z),(13,pt wk.z),(14,vI rh),(16,sl (some ⟨G.z,0,none⟩) 1 1),(17,vI x4),(46,vI xj.kind),(47,vB ax)] a/\Below wr.z wr w) ?_ ?_
 .refine Wc z (λal=>?_)<|λal=>?_
  .exact a_j<|λ_ q=>⟨xj.kind==5,som<|ifT aC al,q.k<|sc z<|sc z<|sc z<|sc z<|sc z<|sc z<|sc z<|sc z<|sc z<|sc z<|sc z sn,br wr⟩
  exact Wg<|Rq z z z<|Ra z<|Wl (λ_ q=>⟨xj.kind==7,som<|ifF aC al,q.k<|sc z<|sc z<|sc z<|sc z<|sc z<|sc z<|sc z<|sc z<|sc z<|sc z<|sc z sn,br wr⟩)
 rintro bW wm ⟨ax,rfl,_,s3⟩;revert bW;refine Wo ?_;obtain ⟨bX,aD,bh⟩:=bdS bg;refine Wt (λa w=>∃(ah:Int),ah=bX/\Sat 98 [(2,sl A7 N7 C7),(4,Str.v x5),(5,pt w0.z),(12,pt wi.z),(13,pt wk.z),(14,vI rh),(16,sl (some ⟨G.z,0,none⟩) 1 1),(17,vI ah)] a/\Below wm.z wm w/\inI ah) ?_ ?_
 .refine Wc z (λam=>?_)<|λam=>?_
  .refine Wq (Wd (X:=noX) 0 (pl_ 15 [7]) mo (by kernel_rfl) λcG sp _=>dR z z (lN (vs:=[sl A0 N0 C0]) L_ D_ z z fid<|((((((aq.e s6).e h2).c H<|djs<|mm1 ho.lt<|lt_ (lt_ hg.s hd.s) s6.s).e h5).e s3).e sp).row 0 1 z)<|dR z z (fd a_1 z)<|dR z z (l0 H_ z<|((aw.e s3).e sp).at z) ?_);obtain ⟨_,bY,bi⟩:=bdS<|ifT aD am;have aS:=lt_ af s6.s;have aT:∀k∈[wk.z],¬B k:=or0 (e_ lr)<|n_<|zt' V aS;refine dRX z z (at_ (α:=Int) y_ z_3 z z z (ao.g<|(((((((hg.ag B).c hd<|g_ ar).e s6).e h2).c H<|g_ aT).e h5).e s3).e sp) bY) ?_;rintro _ ⟨_,_,_,rfl,bZ,c0,_⟩;obtain ⟨rfl,c1⟩:=V_ c0;refine dR z z (l0 g_3 z<|bZ.at0 z)<|dM z z z<|dM z z z ?_
   have aU:=(((((ae.e s6).e h2).c H<|g_ aT).e h5).e s3).e sp;obtain ⟨_,c2,_,c3,bj⟩:=U_ bi;refine dE z z (fc call84 z<|j_V c3 (zt' V<|lt_ (lt_ (lt_ (lt_ (lt_ aS h2.s) H.s) h5.s) s3.s) sp.s) (W.g aU) c1 (ak.g aU) Y) (.inr λ_ _ h=>E_<|h.1) ?_;rintro _ _ ⟨c4,rfl,_,c5⟩;refine dM z z z ?_
   iterate 3 refine dR z z (ext_ z z) ?_
   iterate 3 refine dQ z z z ?_
   exact pD<|Wo<|Wg<|Rm z<|Ra z<|Wl (λ_ q=>⟨c2,som bj,q.k<|s8 z z z z z z z z,bup sp c4,c5⟩)
  refine Ws<|Rq z z z<|Rw z ?_
  obtain ⟨c6,aE,bk⟩:=bdS<|ifF aD am;refine Wt (λa w=>∃(xt:Int),xt=c6/\Sat 98 [(2,sl A7 N7 C7),(4,Str.v x5),(5,pt w0.z),(12,pt wi.z),(13,pt wk.z),(14,vI rh),(16,sl (some ⟨G.z,0,none⟩) 1 1),(17,vI xt)] a/\Below wm.z wm w/\inI xt) ?_ ?_
  .refine Wc z (λan=>?_)<|λan=>?_
   .exact Wg<|Rm z<|R z (add_ z z)<|Ra z<|Wl (λ_ q=>⟨b_ x4 1,som<|ifT aE an,q.k<|s8 z z z z z z z z,br wm,iA _ _⟩)
   exact a_j<|λ_ q=>⟨x4,som<|ifF aE an,q.k<|s8 z z z z z z z z,br wm,Y⟩
  rintro c7 _ ⟨xt,rfl,_,c8,c9⟩;revert c7;exact λ_ q=>⟨xt,som bk,q.k<|s8 z z z z z z z z,c8,c9⟩
 rintro ca I ⟨ah,rfl,_,sa,cb⟩;revert ca;refine Wo<|Wq<|Ws<|Rw z ?_
 obtain ⟨_,bm,aF⟩:=bdS bh;refine Wf (σ:=(List l_)×Int) (ρ:=(List l_)×Int) (λ(aV:Nat) s a w=>un2 (λxq xl=>∃O nb cc J,Sat 98 [(2,sl A7 N7 C7),(4,Str.v x5),(5,pt w0.z),(12,pt wi.z),(13,pt wk.z),(14,vI rh),(16,sl O nb cc),(17,vI xl),(21,vI ((aV:Nat):Int))] a/\Cg [G.z] I w/\a_ w J (sl O nb cc) xq/\J.Nodup/\(∀k∈J,k∈[G.z]∨I.z<=k)/\inI xl) s) (λs a w=>un2 (λxq xl=>∃O nb cc J,Sat 98 [(14,vI rh),(16,sl O nb cc)] a/\Cg [G.z] I w/\a_ w J (sl O nb cc) xq/\J.Nodup/\(∀k∈J,k∈[G.z]∨I.z<=k)/\inI xl) s) (rQ prog fn<|Q20 w0 B) bm ?_ ?_ ?_ ?_ ?_
 .exact λ_ q=>⟨some ⟨G.z,0,none⟩,1,1,[G.z],q.k<|s9 z z z z z z z z z,cr [G.z] I,((b_D av<|d_i (x:=(⟨x5,x2,x4,rh⟩:l_)) bc aB Y aO).e s3).e sa,Z_,io sr,cb⟩
 .rintro aV ⟨xq,xl⟩ _ cd _ a0 ⟨O,nb,cc,J,bn,se,hu,hv,hw,ai⟩ bo;refine Wu ?_ bn;refine Wq<|Wm z<|Rf z e_I z ?_
  have aW:=(((aQ.e h5).e s3).e sa).c se<|djs<|mm1 au.lt H.s
  refine R z (l0 g_0 z<|aW.at z)<|R z (lnR d_97 z<|or_ ((((((L.e h2).c H<|ds<|mnr<|a_.lt L).e h5).e s3).e sa).c se<|ds<|mno (a_.lt L)<|lt_ h2.s H.s)<|a_.lt L)<|Rl z z z<|Wx z (λ_=>?_) (λhc=>(O_ a0 hc).elim)
  refine Wk<|Wq<|Wb<|Wq (Wd (X:=noX) 0 (.rd 0<|.rd 1<|.rd 2<|.rd 3<|.rd 4<|.rd 6<|.rd 7<|.rd 8<|.rd 9<|.rd 10<|.rd 11<|.ef 5<|.ef 12<|.rd 13<|.ef 14<|.rd 15<|.rd 16<|.rd 17<|.rd 18<|.rd 19 .done) mo (by kernel_rfl) λce sf _=>?_)
  have aX:=lt_ (lt_ hg.s hd.s) s6.s;refine dR z z (lN (vs:=[sl A0 N0 C0]) L_ D_ z z fid<|((((((((aq.e s6).e h2).c H<|djs<|mm1 ho.lt aX).e h5).e s3).e sa).c se<|djs<|mm1 ho.lt<|lt_ (lt_ aX h2.s) H.s).e sf).row 0 1 z) ?_;have aY:=(((aw.e s3).e sa).c se<|djs<|mm1 ap.lt<|lt_ (lt_ aR h2.s) H.s).e sf;refine dR z z (lN (vs:=vR xj az a1 a2 a3 a4 a5 a6 a7 a8 aa ab ad) Q_ t_ z z fid<|aY.row 0 8 z)<|dR z z (fd l_J z)<|dR z z (l0 g_3 z<|(aW.e sf).at z) ?_
  iterate 4 refine dM z z z ?_
  obtain ⟨_,cf,bp⟩:=bdS<|a_7 bo;refine dR z z (e_N z z cf)<|dR z z (lN (vs:=vR xj az a1 a2 a3 a4 a5 a6 a7 a8 aa ab ad) Q_ t_ z z fid<|aY.row 0 8 z)<|dM z z z ?_
  have aZ:=lt_ af s6.s;have b0:∀k∈[wk.z],¬B k:=or0 (e_ lr)<|n_<|zt' V aZ;have b1:=lt_ (lt_ aZ h2.s) H.s;have b2:∀k∈[G.z],¬B k:=or0 (e_ lr)<|n_<|zt' V b1;have hx:=(((((((((hg.ag B).c hd<|g_ ar).e s6).e h2).c H<|g_ b0).e h5).e s3).e sa).c se<|g_ b2).e sf;have b3:=lt_ (lt_ (lt_ (lt_ (lt_ b1 h5.s) s3.s) sa.s) se.s) sf.s;obtain ⟨_,cg,bq⟩:=bdS bp;refine dE z z (fc call85 z<|j_W cg (zt' V b3) aH aI aJ (aK.g hx) (aL.g hx) (aM.g hx) (ao.g hx) bS<|ic (Nat.le_of_lt a0)<|lt_ (a_.len L) z_) (.inr λ_ _ h=>E_<|h.1) ?_;rintro _ ch ⟨ss,rfl,ci⟩;have aj:=hx.e ss;have b4:=lt_ b3 ss.s;obtain ⟨_,cj,bs⟩:=bdS bq;refine dE z z (fc call86 z<|W_w3a cj (zt' V b4) aH aI aJ (aK.g aj) (aL.g aj) (aM.g aj) (ao.g aj)<|ic (Nat.le_of_lt a0)<|lt_ (a_.len L) z_) (.inr λ_ _ h=>E_<|h.1) ?_;rintro _ ck ⟨sy,rfl,_⟩;obtain ⟨_,b5,bt⟩:=bdS bs;refine dR z z (e_N z z b5) ?_;have b6:=(((((((((ae.e s6).e h2).c H<|g_ b0).e h5).e s3).e sa).c se<|g_ b2).e sf).e ss).e sy;obtain ⟨_,cl,cm,bu⟩:=Y_ bt;refine dE z z (fc call56 z<|bB.run cm (zt' V<|lt_ b4 sy.s) (W.g b6) ci (ak.g b6) ai<|g_d b5) (.inr λ_ _ h=>E_<|h.1) ?_;rintro _ cn ⟨ay,_,_,_,_,rfl,co,cp,_,_⟩;refine dM z z z<|dR z z (ext_ z z)<|dR z z (ext_ z z)<|dQ z z z<|dQ z z z<|pD<|Wo<|Wm z<|Rm z ?_
  obtain ⟨cq,ct,bv⟩:=bdS bu;refine E z (fN (α:=l_) c_g ct z z ((((hu.e sf).e ss).e sy).e ay) hv<|a_.rep co) ?_;rintro _ cu ⟨b7,cv,cw,cx,rfl,cy,cz,cA,cB⟩;refine Rw z<|Wg<|Rm z<|Rw z<|Wg<|Rm z<|R z (inc_ a0 (lt_ (a_.len L) z_) z z)<|Ra z<|Wl ?_
  have b8:∀k∈J,k∈[G.z]∨I.z<=k:=or1 hw (io sr)<|j_ lr;exact λ_ q=>⟨(cq,cl),(som bv).symm,⟨cv,cw,cx,b7,q.k<|s9 z z z z z z z z z,(cM (i_ (i_ (i_ (i_ (cM (cr [G.z] I) se (io sr):Cg [G.z] I cd) sf:Cg [G.z] I ce) ss:Cg [G.z] I ch) sy:Cg [G.z] I ck) ay:Cg [G.z] I cn) cy b8:Cg [G.z] I cu),cz,cA,(or1 cB b8 (j_<|lt_ (lt_ (lt_ (lt_ se.s sf.s) ss.s) sy.s) ay.s):∀k∈b7,k∈[G.z]∨I.z<=k),cp⟩⟩
 .rintro ⟨xq,xl⟩ _ cC ⟨O,nb,cc,J,bw,aA,hu,hv,hw,ai⟩;refine Wu ?_ bw;refine Wq<|Wm z<|Rf z e_I z<|R z (l0 g_0 z<|((((aQ.e h5).e s3).e sa).c aA<|djs<|mm1 au.lt H.s).at z)<|R z (lnR d_97 z<|or_ ((((((L.e h2).c H<|ds<|mnr<|a_.lt L).e h5).e s3).e sa).c aA<|ds<|mno (a_.lt L)<|lt_ h2.s H.s)<|a_.lt L)<|Rl z z z<|Wx z (λhc=>(P_ hc).elim) (λ_=>?_)
  exact We<|λ_ q=>⟨rfl,⟨O,nb,cc,J,q.k<|s2 z z,(cM (cr [G.z] I) aA (io sr):Cg [G.z] I cC),hu,hv,(or1 hw (io sr) (j_ lr):∀k∈J,k∈[G.z]∨I.z<=k),ai⟩⟩
 .rintro ⟨xq,xl⟩ cD _ rfl ⟨O,nb,cc,J,_,cE,hu,hv,hw,ai⟩;have bx:=elL aF;revert cD;refine Wo<|Wm z<|Rm z<|Ra z<|Rw z ?_
  obtain rfl:=som<|a_7 bx;have b9:=lt_ af s6.s;have ba:=lt_ (lt_ b9 h2.s) H.s;have bb:=m1 ba;exact Wr<|a_0 hr z z ⟨bM (bup (bup (bup (bM (bup (bup (bM (bup hn hg) hd<|m1 hn.s) s6) h2) H<|m1 b9) h5) s3) sa) cE bb,O,nb,cc,J,z,hu,aO,hv,b_2 hw bb<|lt_ (lt_ (lt_ ba h5.s) s3.s) sa.s⟩
 rintro _ _ _ _ rfl ⟨rfl,bz⟩;have bA:=elR aF;obtain rfl:=som bA;exact ⟨bz,z⟩
theorem A_w08:∀n,o_0 n
  | 0=>⟨λhm=>by intros;exact nomatch (show none=some _ from hm)⟩
  | n+1=>T_w08<|A_w08 n
theorem W_w08:l_X (f_e n).spec_l19Build:=A_w08 n
def Q21 (w0:World)(B:Zone)(r:(List l_)×Bool)(v:Value)(w':World):Prop:=Bw w0 w'/\un2 (λI J=>∃h G H S1,v = .tuple #[sl h G H,vB J]/\a_ w' S1 (sl h G H) I/\S1.Nodup/\(∀k∈S1,w0.z<=k)) r
theorem W_w3b {x1:f_}{x2:Bt}{res:(List l_)×Bool}(hm:i_U n x1 x2=some res)(I:B<=w0.z)(H:repS w0 B (sl A0 N0 C0) x1.rules)(L:repS w0 B (sl A4 N4 C4) x2):h_ prog 36 [(.agg #[sl A0 N0 C0]),sl A4 N4 C4] w0 (Q21 w0 B res):=by
 unfold i_U at hm
 refine goG func36 z z z λfn hr=>Ws<|E z (fb z) ?_
 rintro _ wd ⟨rfl,h5⟩;have G:=h5.below;have h6:Blk wd w0.z [sl A0 N0 C0]:=h5.blk;refine Ra z<|Rw z<|Wq<|Ws<|R z (lN (vs:=[sl A0 N0 C0]) L_ D_ z z fid<|h6.row 0 1 z)<|Rm z ?_
 obtain ⟨_,ee,O⟩:=bdS hm;refine E z (fc call35 z<|W_w1c ee (zt' I G.s) (H.e G)<|L.e G) ?_;rintro _ wf ⟨s1,rfl⟩;refine R z (not_ z)<|Wx z (λJ=>?_) (λJ=>?_)
 .refine Ws<|E z (f0 (α:=l_) c_g) ?_
  rintro _ _ ⟨ah,ng,ci,rfl,sj,hk⟩;refine Ra z<|Rw z ?_
  obtain rfl:=som<|ifT O J;exact Wr<|a_0 hr z z ⟨bup (bup G s1) sj,ah,ng,ci,[wf.z],z,hk,Z_,m1<|lt_ G.s s1.s⟩
 refine Wk<|Wq (Wd (X:=noX) 0 (.rd 0<|.rd 1<|.rd 3<|.ef 2<|.ef 4<|.rd 5<|.rd 6<|.rd 7<|.rd 8<|.rd 9 .done) mo (by kernel_rfl) λY s2 _=>?_)
 have V:=(h6.e s1).e s2;refine dR z z (lN (vs:=[sl A0 N0 C0]) L_ D_ z z fid<|V.row 0 1 z)<|dR z z (lN (vs:=[sl A0 N0 C0]) L_ D_ z z fid<|V.row 0 1 z)<|dM z z z ?_
 have W:=((G.ag B).e s1).e s2;have ha:=lt_ (lt_ G.s s1.s) s2.s;obtain ⟨_,el,hmm⟩:=bdS<|ifF O J;refine dE z z (fc call57 z<|l_P el (zt' I ha)<|H.g W) (.inr λ_ _ h=>E_<|h.1) ?_;rintro _ _ ⟨s4,rfl,hn⟩;have hb:=W.e s4;have hc:=lt_ ha s4.s;obtain ⟨_,_,eo,hmp⟩:=Y_ hmm;refine dE z z (fc call56 z<|W_w08.run eo (zt' I hc) (H.g hb) hn (L.g hb) (ii z)<|lb z) (.inr λ_ _ h=>E_<|h.1) ?_;rintro _ _ ⟨sq,ar,ns,ct,Su,rfl,hv,_,hw,hx⟩;refine dM z z z<|dR z z (ext_ z z)<|dR z z (ext_ z z)<|dQ z z z<|dQ z z z<|pD<|Wo<|Wm z<|Ra z<|Rw z ?_
 obtain rfl:=som hmp;exact Wr<|a_0 hr z z ⟨bup (bup (bup (bup G s1) s2) s4) sq,ar,ns,ct,Su,z,hv,hw,o_ hx hc⟩
theorem W_w1d {x1:Str}{x2:UInt8}{res:(List Str)}(hm:g_M n x1 x2=some res)(aL:B<=w0.z)(W:x1.b.length<=LEN):h_ prog 87 [Str.v x1,vU<|byteI x2] w0 (Q2 w0 B res):=by
 unfold g_M at hm
 refine goG func87 z z z λfn hr=>Ws<|Rw z<|Ws<|E z (f0 (α:=Str) b_q) ?_
 rintro _ G ⟨af,ah,aj,rfl,ss,ak⟩;refine Rw z<|Ws<|Rw z<|Wq<|Ws<|Rw z ?_
 obtain ⟨_,a3,hmr⟩:=bdS hm;refine a_X (σ:=(List Str)×Int×Int) (ρ:=List Str) (λs a w=>un3 (λV O x3=>∃a2 I J h,Sat 36 [(0,Str.v x1),(1,vU<|byteI x2),(5,sl a2 I J),(6,vI O),(7,vI x3)] a/\Cg [w0.z] G w/\a_ w h (sl a2 I J) V/\h.Nodup/\(∀k∈h,k∈[w0.z]∨G.z<=k)/\inI O/\inI x3) s) (λs a w=>un3 (λV O x3=>∃a2 I J h,Sat 36 [(5,sl a2 I J)] a/\Cg [w0.z] G w/\a_ w h (sl a2 I J) V/\h.Nodup/\(∀k∈h,k∈[w0.z]∨G.z<=k)/\inI O/\inI x3) s) (rQ prog fn<|Q2 w0 B) a3 ?_ ?_ ?_ ?_
 .exact λ_ q=>⟨af,ah,aj,[w0.z],q.k<|s5 z z z z z,cr [w0.z] G,ak,Z_,io sr,ii z,ii z⟩
 .rintro ⟨V,O,x3⟩ _ wa _ ⟨a2,I,J,h,a4,sm,hc,hd,hf,hl,hv⟩ a5;have hmw:=b_Z a5;refine Wu ?_ a4;refine Wq<|Wm z<|Rm z<|R z (lnT d_9 z)<|R z (d_0 z z)<|Wx z (λhcn=>?_) (λhcn=>?_)
  .refine Wk<|Wq<|Wb<|Wq ?_
   obtain ⟨al,hux,a6⟩:=bdS<|ifT hmw hcn;refine Wt (λa w=>∃(xo:Bool),xo=al/\Sat 36 [(0,Str.v x1),(1,vU<|byteI x2),(5,sl a2 I J),(6,vI O),(7,vI x3),(25,vB xo)] a/\Below wa.z wa w) ?_ ?_
   .refine Wg<|RM z z<|R z (lnT d_9 z)<|Rq z z z<|Rm z ?_
    rcases bs (x3==(x1.b.length:Int)) with H | H
    .iterate 5 refine Nh z H ?_
     exact R z (pT z H z)<|Wl (λ_ q=>⟨true,som<|ifT hux H,q.k<|s6 z z z z z z,br wa⟩)
    refine Rh z H (mv z)<|Rh z H (mv z) ?_
    obtain ⟨am,ey,a7⟩:=bdS<|ifF hux H;exact Rh z H (c_u d_9 z z (a_A ey).1 (a_A ey).2.1)<|Rh z H (mv z)<|Rh z H (eql z z)<|R z (pF z H z)<|Wl (λ_ q=>⟨(byteI am)==(byteI x2),som a7,q.k<|s6 z z z z z z,br wa⟩)
   rintro an L ⟨xo,rfl,_,sg⟩;revert an;refine Wo ?_;obtain ⟨ao,huz,a8⟩:=bdS a6;refine Wt (λa w=>∃(xh:List Str)(xe:Int),(xh,xe)=ao/\∃ai nj ck Sb,Sat 36 [(0,Str.v x1),(1,vU<|byteI x2),(5,sl ai nj ck),(6,vI xe),(7,vI x3)] a/\Cg h L w/\a_ w Sb (sl ai nj ck) xh/\Sb.Nodup/\(∀k∈Sb,k∈h∨L.z<=k)/\inI xe) ?_ ?_
   .refine Wc z (λhcp=>?_)<|λhcp=>?_
    .refine Wm z<|RM z z<|Rm z ?_
     obtain ⟨ap,eq,a9⟩:=bdS<|ifT huz hcp;refine R z (m_p d_9 z z z W eq)<|E z (fS [(.tmp 30)] b_q z z z (a_v z) (lb z)<|lb z) ?_
     rintro _ Y ⟨rfl,ht⟩;have hu:=ht.below;have aM:=b_D ht<|c_r<|g_i eq W
     obtain ⟨aq,ar,aa⟩:=bdS a9;refine E z (b_l (α:=Str) b_q ar z z ((hc.e sg).e hu) hd (ht.blk:Blk Y L.z [Str.v ap]) (c_r<|g_i eq W) an_ G_) ?_;rintro _ au ⟨a0,av,aw,ax,rfl,ay,az,aA,aB⟩;refine Rw z<|Wg<|Rm z<|R z (add_ z z)<|Ra z<|Wl ?_
     exact λ_ q=>⟨aq,b_ x3 1,som aa,av,aw,ax,a0,q.k<|s5 z z z z z,(cM (i_ (cr h L) hu:Cg h L Y) ay (io sr):Cg h L au),az,aA,(or2 aB (io sr) an_ (j_ hu.s):∀k∈a0,k∈h∨L.z<=k),iA _ _⟩
    exact a_j<|λ_ q=>⟨V,O,som<|ifF huz hcp,a2,I,J,h,q.k<|s5 z z z z z,cr h L,hc.e sg,hd,io sr,hl⟩
   rintro aC aD ⟨xh,xe,rfl,ai,nj,ck,Sb,_,aE,aF,aG,aH,aI⟩;revert aC;refine Wo<|Wg<|Rm z<|R z (add_ z z)<|Ra z<|Wl ?_
   have a1:∀k∈h,k∈[w0.z]∨G.z<=k:=or1 hf (io sr)<|j_ lr;exact λ_ q=>⟨(xh,xe,b_ x3 1),(som<|a_7 a8).symm,⟨ai,nj,ck,Sb,q.k<|s5 z z z z z,(cM (i_ (cM (cr [w0.z] G) sm (io sr):Cg [w0.z] G wa) sg:Cg [w0.z] G L) aE a1:Cg [w0.z] G aD),aF,aG,(or1 aH a1 (j_<|lt_ sm.s sg.s):∀k∈Sb,k∈[w0.z]∨G.z<=k),aI,iA _ _⟩⟩
  exact We<|λ_ q=>a_Q (som<|ifF hmw hcn).symm ⟨a2,I,J,h,q.k<|s1 z,(cM (cr [w0.z] G) sm (io sr):Cg [w0.z] G wa),hc,hd,(or1 hf (io sr) (j_ lr):∀k∈h,k∈[w0.z]∨G.z<=k),hl,hv⟩
 .rintro ⟨V,O,x3⟩ aJ _ rfl ⟨a2,I,J,h,_,aK,hc,hd,hf,hl,hv⟩;have ab:=elL hmr;revert aJ;refine Wo<|Wm z<|Rw z ?_
  obtain rfl:=som<|b_Z ab;exact Wr<|c_ hr z ⟨bM ss aK<|e_ lr,a2,I,J,h,z,hc,hd,(or1 hf (e_ lr) (a_W ss.s):∀k∈h,w0.z<=k)⟩
 rintro _ _ _ _ rfl ⟨rfl,ad⟩;have ae:=elR hmr;obtain rfl:=som ae;exact ⟨ad,z⟩
def Q22 (w0:World)(B:Zone)(r:Int×Bool)(v:Value)(w':World):Prop:=Bw w0 w'/\un2 (λh G=>v = .tuple #[vI h,vB G]/\inI h) r
theorem W_w1e {x1:Str}{res:Int×Bool}(hm:g_N n x1=some res)(H:B<=w0.z)(O:x1.b.length<=LEN):h_ prog 89 [Str.v x1] w0 (Q22 w0 B res):=by
 unfold g_N at hm
 refine goG func89 z z z λfn hr=>Ws<|Ra z<|Rw z<|Wq<|Wm z<|R z (lnT d_9 z) ?_
 obtain ⟨_,en,hmc⟩:=bdS hm;refine E z (fc call51 z<|b_a (B:=B) en H (b_Y O) (ii z)<|ii z) ?_;rintro _ G ⟨s4,rfl⟩;refine R z (not_ z)<|Wx z (λI=>?_) (λI=>?_)
 .refine Ws<|Ra z<|Rw z ?_
  obtain rfl:=som<|ifT hmc I;exact Wr<|a_0 hr z z ⟨s4,z,ii z⟩
 refine Wk<|Ws<|Rw z<|Wq<|Ws<|Rw z ?_
 obtain ⟨_,huo,hmd⟩:=bdS<|ifF hmc I;refine Wf (σ:=Int) (ρ:=Int×Bool) (λ(ke:Nat)(x0:Int) a w=>Sat 39 [(0,Str.v x1),(4,vI x0),(5,vI ((ke:Nat):Int))] a/\Below G.z G w/\inI x0) (λ(x0:Int) a w=>Sat 39 [(0,Str.v x1),(4,vI x0)] a/\Below G.z G w/\inI x0) (rQ prog fn<|Q22 w0 B) huo ?_ ?_ ?_ ?_ ?_
 .exact λ_ q=>⟨q.k<|s3 z z z,br G,ii z⟩
 .rintro ke x0 _ _ _ hkf ⟨hSp,s6,h3⟩ hmq;refine Wu ?_ hSp;refine Wq<|Wm z<|Rm z<|R z (lnT d_9 z)<|Rl z z z<|Wx z (λ_=>?_) (λhc=>(O_ hkf hc).elim)
  refine Wk<|Wq<|Wb<|Wq<|Wm z<|Rm z ?_
  obtain ⟨_,eg,hmr⟩:=bdS hmq;refine R z (c_u d_9 z z (a_A eg).1 (a_A eg).2.1)<|R z (b_s d_5 d_3 z) ?_
  obtain ⟨_,es,hmh⟩:=bdS hmr;refine E z (fc call51 z<|b_a es (zt' H<|lt_ s4.s s6.s) (c_U _) (ii z)<|ii z) ?_;rintro _ _ ⟨si,rfl⟩;refine R z (not_ z)<|Wx z (λJ=>?_) (λJ=>?_)
  .exact Ws<|Ra z<|Rw z<|Wr<|rtO<|qL (som<|ifT hmh J).symm<|a_0 hr z z ⟨bup (bup s4 s6) si,z,ii z⟩
  refine Wk<|Wg<|Rm z<|R z (g_n z z)<|RM z z ?_
  obtain ⟨xt,ej,hmu⟩:=bdS<|ifF hmh J;exact R z (c_u d_9 z z (a_A ej).1 (a_A ej).2.1)<|R z (o_5 z z)<|R z (b_s d_5 d_3 z)<|R z (add_ z z)<|Rw z<|Wg<|Rm z<|R z (inc_ hkf (lt_ O z_) z z)<|Ra z<|Wl (λ_ q=>⟨b_ (b_e 10 x0)<|byteI<|mkB (byteI xt - byteI (48:UInt8)),(som hmu).symm,⟨q.k<|s3 z z z,bup s6 si,iA _ _⟩⟩)
 .rintro x0 _ _ ⟨hSv,sw,h3⟩;refine Wu ?_ hSv;refine Wq<|Wm z<|Rm z<|R z (lnT d_9 z)<|Rl z z z<|Wx z (λhc=>(P_ hc).elim) (λ_=>?_)
  exact We<|λ_ q=>⟨rfl,⟨q.k<|s2 z z,sw,h3⟩⟩
 .rintro x0 ax L rfl ⟨_,s9,h3⟩;have hmy:=elL hmd;revert ax;refine Wo<|Wq<|Wq ?_
  obtain ⟨uz,huk,hml⟩:=bdS hmy;refine Wt (λa w=>∃(xa:Bool),xa=uz/\Sat 39 [(4,vI x0),(37,vB xa)] a/\Below L.z L w) ?_ ?_
  .refine Wg<|Rm z<|R z (X_ z z)<|Rm z ?_
   rcases bs (decide<|1000000000000<x0) with h | h
   .iterate 4 refine Nh z h ?_
    exact R z (pT z h z)<|Wl (λ_ q=>⟨true,som<|ifT huk h,q.k<|s2 z z,br L⟩)
   refine Rh z h (mv z) ?_;obtain ⟨a0,a1,V⟩:=bdS<|ifF huk h;refine Eg z z h z (fc call123 z<|l_W a1 (zt' H<|lt_ s4.s s9.s) h3) ?_;rintro _ _ ⟨a2,rfl,_⟩;exact Rh z h (mv z)<|Rh z h (d_q z z)<|R z (pF z h z)<|Wl (λ_ q=>⟨a0.b != x1.b,som V,q.k<|s2 z z,a2⟩)
  rintro a3 _ ⟨xa,rfl,_,sm⟩;revert a3;refine Wo<|Wc z (λhcb=>?_) (λhcb=>?_)
  .refine Ws<|Ra z<|Rw z ?_
   obtain rfl:=som<|ifT hml hcb;exact Wr<|a_0 hr z z ⟨bup (bup s4 s9) sm,z,ii z⟩
  refine Wk<|Wm z<|Ra z<|Rw z ?_
  obtain rfl:=som<|ifF hml hcb;exact Wr<|a_0 hr z z ⟨bup (bup s4 s9) sm,z,h3⟩
 rintro _ _ _ _ rfl ⟨rfl,W⟩;have Y:=elR hmd;obtain rfl:=som Y;exact ⟨W,z⟩
theorem W_w1f {x1:Str}{res:Bool}(hm:e_z n x1=some res)(J:B<=w0.z)(W:x1.b.length<=LEN):h_ prog 88 [Str.v x1] w0 (Q11 w0 B res):=by
 unfold e_z at hm
 refine goG func88 z z z λfn hr=>Ws<|Rw z<|Wq<|Wq ?_
 obtain ⟨ug,huh,hma⟩:=bdS hm;refine Wt (λa w=>∃(x6:Bool),x6=ug/\Sat 31 [(0,Str.v x1),(18,vB x6)] a/\Below w0.z w0 w) ?_ ?_
 .refine Wg<|Rm z ?_
  obtain ⟨ri,ej,hmb⟩:=bdS huh;refine E z (fc call109 z<|j_T (B:=B) ej J W) ?_;rintro _ _ ⟨s4,rfl⟩;refine Rm z ?_
  rcases bs ri with G | G
  .exact Nh z G<|Nh z G<|R z (pT z G z)<|Rm z<|Nh z z<|Nh z z<|R z (pT z z z)<|Rm z<|Nh z z<|Nh z z<|R z (pT z z z)<|Wl (λ_ q=>⟨true,som<|ifT hmb G,q.k<|s2 z z,s4⟩)
  have hmc:=ifF hmb G;refine Rh z G (mv z)<|Rh z G (a_M z z)<|R z (pF z G z)<|Rm z ?_
  rcases bs (x1.b==(⟨[42]⟩:Str).b) with H | H
  .exact Nh z H<|Nh z H<|R z (pT z H z)<|Rm z<|Nh z z<|Nh z z<|R z (pT z z z)<|Wl (λ_ q=>⟨true,som<|ifT hmc H,q.k<|s2 z z,s4⟩)
  have hmd:=ifF hmc H;refine Rh z H (mv z)<|Rh z H (a_M z z)<|R z (pF z H z)<|Rm z ?_
  rcases bs (x1.b==(⟨[63]⟩:Str).b) with I | I
  .exact Nh z I<|Nh z I<|R z (pT z I z)<|Wl (λ_ q=>⟨true,som<|ifT hmd I,q.k<|s2 z z,s4⟩)
  exact Rh z I (mv z)<|Rh z I (a_M z z)<|R z (pF z I z)<|Wl (λ_ q=>⟨x1.b==(⟨[43]⟩:Str).b,som<|ifF hmd I,q.k<|s2 z z,s4⟩)
 rintro ak _ ⟨x6,rfl,_,s5⟩;revert ak;refine Wo<|Wc z (λL=>?_) (λL=>?_)
 .refine Ws<|Rw z ?_
  obtain rfl:=som<|ifT hma L;exact Wr<|c_ hr z ⟨s5,z⟩
 refine Wk<|Wm z ?_
 obtain ⟨_,rl,em,hmn⟩:=Y_<|ifF hma L;refine E z (fc call89 z<|W_w1e em (zt' J s5.s) W) ?_;rintro _ O ⟨se,rfl,ho⟩;refine Rm z<|Re z z z<|Re z z z<|Ra z<|Rw z<|Wq ?_
 obtain ⟨up,huf,hmq⟩:=bdS hmn;refine Wt (λa w=>∃(V:Bool),V=up/\Sat 31 [(2,vB V)] a/\Below O.z O w) ?_ ?_
 .refine Wg<|RM z z ?_
  rcases bs rl with h | h
  .refine Rh z h (mv z) ?_;obtain ⟨rr,es,hmt⟩:=bdS<|ifT huf h;refine Eg z z h z (fc call123 z<|l_W es (zt' J<|lt_ s5.s se.s) ho) ?_;rintro _ _ ⟨su,rfl,_⟩;exact Rh z h (mv z)<|Rh z h (a_M z z)<|R z (pT z h z)<|Ra z<|Wl (λ_ q=>⟨rr.b==x1.b,som hmt,q.k<|s1 z,su⟩)
  iterate 4 refine Nh z h ?_
  exact R z (pF z h z)<|Ra z<|Wl (λ_ q=>⟨false,som<|ifF huf h,q.k<|s1 z,br O⟩)
 rintro av _ ⟨V,rfl,_,sw⟩;revert av;refine Wo ?_;obtain rfl:=som hmq;exact Wr<|c_ hr z ⟨bup (bup s5 se) sw,z⟩
def Q23 (w0:World)(B:Zone)(r:(List Str)×Bool)(v:Value)(w':World):Prop:=Bw w0 w'/\un2 (λI J=>∃h G H,v = .tuple #[sl h G H,vB J]/\repS w' w'.z (sl h G H) I) r
theorem W_w3c {x1:Str}{res:(List Str)×Bool}(hm:i_Y n x1=some res)(V:B<=w0.z)(a3:x1.b.length<=LEN):h_ prog 58 [Str.v x1] w0 (Q23 w0 B res):=by
 unfold i_Y at hm
 refine goG func58 z z z λfn hr=>Ws<|Ra z<|Rw z<|Wq<|Wm z<|R z (a_M z z)<|Wx z (λhcb=>?_) (λhcb=>?_)
 .refine Ws<|E z (f0 (α:=Str) b_q) ?_
  rintro _ _ ⟨ak,al,am,rfl,an,ao⟩;refine Ra z<|Rw z ?_
  obtain rfl:=som<|ifT hm hcb;exact Wr<|a_0 hr z z ⟨an,ak,al,am,z,a_.rep ao⟩
 refine Wk<|Wm z ?_
 obtain ⟨ap,aq,a4⟩:=bdS<|ifF hm hcb;refine E z (fc call87 z<|W_w1d (B:=B) aq V a3) ?_;rintro _ I ⟨sc,ad,ne,cf,_,rfl,h2,_,_⟩;refine Rw z<|Wq<|Ws<|Rw z ?_
 obtain ⟨_,a5,hmp⟩:=bdS a4;refine a_X (σ:=Int) (ρ:=(List Str)×Bool) (λ(x4:Int) a w=>Sat 49 [(4,sl ad ne cf),(5,vI x4)] a/\Below I.z I w/\inI x4) (λ(x4:Int) a w=>Sat 49 [(4,sl ad ne cf)] a/\Below I.z I w/\inI x4) (rQ prog fn<|Q23 w0 B) a5 ?_ ?_ ?_ ?_
 .exact λ_ q=>⟨q.k<|s2 z z,br I,ii z⟩
 .rintro x4 _ wq _ ⟨a6,s6,ht⟩ hmr;refine Wu ?_ a6;refine Wq<|Wm z<|Rm z ?_
  have hg:=h2.e s6;refine R z (lnR F_ z<|or_ hg<|a_.lt h2)<|Rl z z z<|Wx z (λhch=>?_) (λhch=>?_)
  .refine Wk<|Wq<|Wb<|Wq ?_
   obtain ⟨ar,a7,hms⟩:=bdS<|ifT hmr hch;refine Wt (λa w=>∃(xi:Bool),xi=ar/\Sat 49 [(4,sl ad ne cf),(5,vI x4),(36,vB xi)] a/\Below wq.z wq w) ?_ ?_
   .refine Wg<|RM z z ?_
    obtain ⟨_,au,a9⟩:=bdS a7;refine RX z (at_ (α:=Str) F_ z_9 z z z (or_ hg<|a_.lt h2) au) ?_;rintro _ ⟨_,_,_,rfl,av,aw,_⟩;obtain ⟨rfl,ax⟩:=a_n aw;refine R z (l0 g_9 z<|av.at0 z) ?_;obtain ⟨ay,az,hmu⟩:=bdS a9;refine E z (fc call88 z<|W_w1f az (zt' V<|lt_ sc.s s6.s) ax) ?_;rintro _ _ ⟨s7,rfl⟩;refine R z (not_ z)<|Rm z ?_
    rcases bs (!ay) with h | h
    .refine Rh z h (mv z)<|Rh z h (mv z) ?_
     obtain ⟨aA,aB,hmv⟩:=bdS<|ifT hmu h;have hw:=hg.e s7;refine RXg z z h z (at_ (α:=Str) F_ z_9 z z z (or_ hw<|a_.lt h2) aB) ?_;rintro _ ⟨_,_,_,rfl,aC,aD,_⟩;obtain ⟨rfl,_⟩:=a_n aD;refine Rh z h (l0 g_9 z<|aC.at0 z)<|Rh z h (d_q z z)<|R z (pT z h z)<|Rm z ?_
     rcases bs (aA.b != (⟨[35]⟩:Str).b) with G | G
     .refine Rh z G (mv z)<|Rh z G (mv z) ?_
      obtain ⟨aE,aF,aa⟩:=bdS<|ifT hmv G;refine RXg z z G z (at_ (α:=Str) F_ z_9 z z z (or_ hw<|a_.lt h2) aF) ?_;rintro _ ⟨_,_,_,rfl,aG,aH,_⟩;obtain ⟨rfl,_⟩:=a_n aH;exact Rh z G (l0 g_9 z<|aG.at0 z)<|Rh z G (d_q z z)<|R z (pT z G z)<|Wl (λ_ q=>⟨aE.b != (⟨[46,46]⟩:Str).b,som aa,q.k<|s3 z z z,s7⟩)
     iterate 5 refine Nh z G ?_
     exact R z (pF z G z)<|Wl (λ_ q=>⟨false,som<|ifF hmv G,q.k<|s3 z z z,s7⟩)
    iterate 5 refine Nh z h ?_
    exact R z (pF z h z)<|Rm z<|Nh z z<|Nh z z<|Nh z z<|Nh z z<|Nh z z<|R z (pF z z z)<|Wl (λ_ q=>⟨false,som<|ifF hmu h,q.k<|s3 z z z,s7⟩)
   rintro aI _ ⟨xi,rfl,_,sx⟩;revert aI;refine Wo<|Wc z (λhcj=>?_) (λhcj=>?_)
   .refine Ws<|E z (f0 (α:=Str) b_q) ?_
    rintro _ _ ⟨aJ,aK,aL,rfl,aM,aN⟩;exact Ra z<|Rw z<|Wr<|rtO<|qL (som<|ifT hms hcj).symm<|a_0 hr z z ⟨bup (bup (bup sc s6) sx) aM,aJ,aK,aL,z,a_.rep aN⟩
   exact Wk<|Wg<|Rm z<|R z (add_ z z)<|Ra z<|Wl (λ_ q=>⟨b_ x4 1,(som<|ifF hms hcj).symm,⟨q.k<|s2 z z,bup s6 sx,iA _ _⟩⟩)
  exact We<|λ_ q=>a_Q (som<|ifF hmr hch).symm ⟨q.k<|s1 z,s6,ht⟩
 .rintro x4 aO wy rfl ⟨_,sk,ht⟩;have ab:=elL hmp;revert aO;refine Wo<|Wq ?_
  obtain ⟨aP,ae,af⟩:=bdS ab;refine Wt (λa w=>∃(xl:List Str)(xm:Bool),(xl,xm)=aP/\∃J L ca,Sat 49 [(2,sl J L ca),(3,vB xm)] a/\Below wy.z wy w/\repS w I.z (sl J L ca) xl) ?_ ?_
  .refine Wd (X:=noX) 0 (pl_ 13 []) mo (by kernel_rfl) λaX sn _=>dM z z z ?_
   obtain ⟨xz,aQ,ah⟩:=bdS ae;have ho:=(h2.e sk).e sn;refine dRX z z (rX F_ z_9 z z (or_ ho<|a_.lt h2) z z aQ) ?_;rintro _ ⟨W,Y,a0,rfl,a1⟩;refine dM z z z ?_;obtain ⟨aR,aS,O⟩:=bdS ah;refine dRX z z (at_ (α:=Str) F_ z_9 z z z (or_ ho<|a_.lt h2) aS) ?_;rintro _ ⟨_,_,_,rfl,aT,aU,_⟩;obtain ⟨rfl,_⟩:=a_n aU;refine dR z z (l0 g_9 z<|aT.at0 z)<|dR z z (a_M z z)<|dM z z z ?_
   rcases bs (aR.b==(⟨[]⟩:Str).b) with H | H
   .exact dRg z z z H z (mv z)<|dRg z z z H z (lnR F_ z<|or_ ho<|a_.lt h2)<|dRg z z z H z (X_ z z)<|dR z z (pT z H z)<|dQ z z z<|dQ z z z<|pD (λ_ q=>⟨xz,decide<|1<(ap.length:Int),som<|ifT O H,W,Y,a0,q.k<|s2 z z,sn,a1⟩)
   iterate 3 refine dRn z z z H z ?_
   exact dR z z (pF z H z)<|dQ z z z<|dQ z z z<|pD (λ_ q=>⟨xz,false,som<|ifF O H,W,Y,a0,q.k<|s2 z z,sn,a1⟩)
  rintro aV _ ⟨xl,xm,rfl,J,L,ca,_,a2,aW⟩;revert aV;refine Wo ?_;obtain rfl:=som<|a_7 af;exact Wr<|a_0 hr z z ⟨bup (bup sc sk) a2,J,L,ca,z,repS.mono aW<|a_K<|lt_ sk.s a2.s⟩
 rintro _ _ _ _ rfl ⟨rfl,ai⟩;have aj:=elR hmp;obtain rfl:=som aj;exact ⟨ai,z⟩
def Q24 (w0:World)(B:Zone)(r:(List Str)×Bool)(v:Value)(w':World):Prop:=Bw w0 w'/\un2 (λI J=>∃h G H,v = .tuple #[sl h G H,vB J]/\repS w' (zn B w0.z w'.z) (sl h G H) I) r
theorem W_w3d {x1:Str}{res:(List Str)×Bool}(hm:i_c n x1=some res)(L:B<=w0.z)(O:x1.b.length<=LEN):h_ prog 59 [Str.v x1] w0 (Q24 w0 B res):=by
 unfold i_c at hm
 refine goG func59 z z z λfn hr=>Ws<|Ra z<|Rw z<|Wq<|Wm z<|R z (a_M z z)<|Wx z (λH=>?_) (λH=>?_)
 .refine Ws<|E z (f0 (α:=Str) b_q) ?_
  rintro _ _ ⟨aq,nr,cs,rfl,st,hc⟩;refine Ra z<|Rw z ?_
  obtain rfl:=som<|ifT hm H;exact Wr<|a_0 hr z z ⟨st,aq,nr,cs,z,or_ hc<|zin (B:=B) (e_ lr)<|a_.lt hc⟩
 refine Wk<|Wm z ?_
 obtain ⟨_,eu,hmv⟩:=bdS<|ifF hm H;refine E z (fc call87 z<|W_w1d (B:=B) eu L O) ?_;rintro _ G ⟨s3,ad,ne,cf,_,rfl,h,_,h4⟩;refine Rw z<|Wq<|Wm z ?_
 obtain ⟨_,ew,hmg⟩:=bdS hmv;refine RX z (at_ (α:=Str) F_ z_9 z z z (or_ h<|zin (B:=B) h4<|a_.lt h) ew) ?_;rintro _ ⟨_,_,_,rfl,hx,hy,_⟩;obtain ⟨rfl,_⟩:=a_n hy;refine R z (l0 g_9 z<|hx.at0 z)<|R z (d_q z z)<|Wx z (λI=>?_) (λI=>?_)
 .refine Ws<|E z (f0 (α:=Str) b_q) ?_
  rintro _ _ ⟨az,a4,a5,rfl,a6,hh⟩;refine Ra z<|Rw z ?_
  obtain rfl:=som<|ifT hmg I;exact Wr<|a_0 hr z z ⟨bup s3 a6,az,a4,a5,z,repS.mono (or_ hh<|zin (B:=B) (e_ lr)<|a_.lt hh)<|b_I s3.s lr⟩
 refine Wk<|Wq<|Ws<|Rw z ?_
 obtain ⟨_,V,hmi⟩:=bdS<|ifF hmg I;refine a_X (σ:=Int) (ρ:=(List Str)×Bool) (λ(x2:Int) a w=>Sat 34 [(4,sl ad ne cf),(5,vI x2)] a/\Below G.z G w/\inI x2) (λ(x2:Int) a w=>Sat 34 [(4,sl ad ne cf)] a/\Below G.z G w/\inI x2) (rQ prog fn<|Q24 w0 B) V ?_ ?_ ?_ ?_
 .exact λ_ q=>⟨q.k<|s2 z z,br G,ii z⟩
 .rintro x2 _ _ _ ⟨W,s5,hj⟩ hmk;refine Wu ?_ W;refine Wq<|Wm z<|Rm z ?_
  have hl:=h.e s5;refine R z (lnR F_ z<|or_ hl<|zin (B:=B) h4<|a_.lt h)<|Rl z z z<|Wx z (λJ=>?_) (λJ=>?_)
  .refine Wk<|Wq<|Wb<|Wm z<|Rm z ?_
   obtain ⟨_,a7,Y⟩:=bdS<|ifT hmk J;refine RX z (at_ (α:=Str) F_ z_9 z z z (or_ hl<|zin (B:=B) h4<|a_.lt h) a7) ?_;rintro _ ⟨_,_,_,rfl,a8,a9,_⟩;obtain ⟨rfl,aa⟩:=a_n a9;refine R z (l0 g_9 z<|a8.at0 z) ?_;have hn:=lt_ s3.s s5.s;obtain ⟨_,ab,hmm⟩:=bdS Y;refine E z (fc call88 z<|W_w1f ab (zt' L hn) aa) ?_;rintro _ _ ⟨s9,rfl⟩;refine R z (not_ z)<|Wx z (λhca=>?_) (λhca=>?_)
   .refine Ws<|E z (f0 (α:=Str) b_q) ?_
    rintro _ _ ⟨ae,af,ah,rfl,ai,ho⟩;exact Ra z<|Rw z<|Wr<|rtO<|qL (som<|ifT hmm hca).symm<|a_0 hr z z ⟨bup (bup (bup s3 s5) s9) ai,ae,af,ah,z,repS.mono (or_ ho<|zin (B:=B) (e_ lr)<|a_.lt ho)<|b_I (lt_ hn s9.s) lr⟩
   exact Wk<|Wg<|Rm z<|R z (add_ z z)<|Ra z<|Wl (λ_ q=>⟨b_ x2 1,(som<|ifF hmm hca).symm,⟨q.k<|s2 z z,bup s5 s9,iA _ _⟩⟩)
  exact We<|λ_ q=>a_Q (som<|ifF hmk J).symm ⟨q.k<|s1 z,s5,hj⟩
 .rintro x2 aj _ rfl ⟨_,sb,hj⟩;have a0:=elL hmi;revert aj;refine Wo<|Wm z ?_
  obtain ⟨_,ak,a1⟩:=bdS a0;have hp:=h.e sb;refine RX z (rX F_ z_9 z z (or_ hp<|zin (B:=B) h4<|a_.lt h) z z ak) ?_;rintro _ ⟨al,am,an,rfl,ao⟩;refine Rm z<|R z (lnR F_ z<|or_ hp<|zin (B:=B) h4<|a_.lt h)<|R z (X_ z z)<|Ra z<|Rw z ?_
  obtain rfl:=som a1;exact Wr<|a_0 hr z z ⟨bup s3 sb,al,am,an,z,repS.mono ao<|b_I lr sb.s⟩
 rintro _ _ _ _ rfl ⟨rfl,a2⟩;have a3:=elR hmi;obtain rfl:=som a3;exact ⟨a2,z⟩
theorem W_w3e {x1:List Str}{x2:List Str}{res:Bool}(hm:i_Z n x1 x2=some res)(a1:B<=w0.z)(a0:repS w0 B (sl A0 N0 C0) x1)(W:repS w0 B (sl A4 N4 C4) x2):h_ prog 60 [sl A0 N0 C0,sl A4 N4 C4] w0 (Q11 w0 B res):=by
 unfold i_Z at hm
 refine goG func60 z z z λfn hr=>Ws<|Rw z<|Wm z<|R z (lnR F_ z W)<|R z (add_ z z) ?_
 obtain ⟨_,bP,b6⟩:=bdS hm;refine E z (d_n (α:=Bool) j_H (λ_=>b_C) bP z z) ?_;rintro _ _ ⟨bQ,bR,bS,rfl,a2,aC⟩;refine Rw z<|Wm z ?_
 obtain ⟨_,aD,b7⟩:=bdS b6;refine RX z (b_c (α:=Bool) b_9 z_4 z z aC aD) ?_;rintro _ ⟨_,bT,rfl⟩;refine E0 (b_7 (α:=Bool) z_4 z bT z z z aD aC Z_ b_C an_ G_) ?_;rintro _ wn ⟨Su,a3,bU,bV,_⟩;refine Wn<|Wq<|Ws<|Rw z ?_
 obtain ⟨_,b8,an⟩:=bdS b7;refine Wf (σ:=List Bool) (ρ:=Bool) (λ(kp:Nat)(xv:List Bool) a w=>∃L O V Sd,Sat 111 [(0,sl A0 N0 C0),(1,sl A4 N4 C4),(5,sl L O V),(6,vI ((kp:Nat):Int))] a/\Below wn.z wn w/\a_ w Sd (sl L O V) xv/\Sd.Nodup/\(∀k∈Sd,k∈Su∨wn.z<=k)) (λ(xv:List Bool) a w=>∃L O V Sd,Sat 111 [(1,sl A4 N4 C4),(5,sl L O V)] a/\Below wn.z wn w/\a_ w Sd (sl L O V) xv/\Sd.Nodup/\(∀k∈Sd,k∈Su∨wn.z<=k)) (rQ prog fn<|Q11 w0 B) b8 ?_ ?_ ?_ ?_ ?_
 .exact λ_ q=>⟨bQ,bR,bS,Su,q.k<|s4 z z z z,br wn,bU,bV,io sr⟩
 .rintro kp xv _ J _ ao ⟨L,O,V,Sd,b9,sw,ho,ah,ai⟩ ba;refine Wu ?_ b9;refine Wq<|Wm z<|Rm z ?_
  have aj:=((a2.ag B).c a3<|g_ (or0 (e_ lr) (n_ a1):∀k∈[w0.z],¬B k)).e sw;refine R z (lnR F_ z<|a0.g aj)<|Rl z z z<|Wx z (λ_=>?_) (λhc=>(O_ ao hc).elim)
  refine Wk<|Wq<|Wb<|Wm z<|R z (lnR F_ z<|W.g aj)<|R z (add_ z z) ?_
  obtain ⟨_,bW,bb⟩:=bdS ba;refine E z (d_n (α:=Bool) j_H (λ_=>b_C) bW z z) ?_;rintro _ wa ⟨ae,nf,cg,rfl,sx,bX⟩;refine Rw z<|Wq<|Ws<|Rw z ?_
  obtain ⟨_,bc,ap⟩:=bdS bb;refine a_X (σ:=(List Bool)×Int) (ρ:=Bool) (λs a w=>un2 (λxr xb=>∃(h:List Nat),Sat 111 [(0,sl A0 N0 C0),(1,sl A4 N4 C4),(5,sl L O V),(6,vI ((kp:Nat):Int)),(7,sl ae nf cg),(8,vI xb)] a/\Cg [J.z] wa w/\a_ w h (sl ae nf cg) xr/\h.Nodup/\(∀k∈h,k∈[J.z]∨wa.z<=k)/\inI xb) s) (λs a w=>un2 (λxr xb=>∃(h:List Nat),Sat 111 [(0,sl A0 N0 C0),(1,sl A4 N4 C4),(6,vI ((kp:Nat):Int)),(7,sl ae nf cg)] a/\Cg [J.z] wa w/\a_ w h (sl ae nf cg) xr/\h.Nodup/\(∀k∈h,k∈[J.z]∨wa.z<=k)/\inI xb) s) (rQ prog fn<|Q11 w0 B) bc ?_ ?_ ?_ ?_
  .exact λ_ q=>⟨[J.z],q.k<|s6 z z z z z z,cr [J.z] wa,bX,Z_,io sr,ii z⟩
  .rintro ⟨xr,xb⟩ _ G _ ⟨h,be,ss,h5,hh,a7,aE⟩ bf;have aq:=a_7 bf;refine Wu ?_ be;refine Wq<|Wm z<|Rm z ?_
   have aF:=lt_ (lt_ a2.s a3.s) sw.s;have ak:=(aj.e sx).c ss<|g_ (or0 (e_ lr) (n_<|zt' a1 aF):∀k∈[J.z],¬B k)
   refine R z (lnR F_ z<|W.g ak)<|R z (d_0 z z)<|Wx z (λab=>?_) (λab=>?_)
   .refine Wk<|Wq ?_
    obtain ⟨bY,bg,bh⟩:=bdS<|ifT aq ab;refine Wt (λa w=>∃(a8:List Bool),a8=bY/\∃(Sy:List Nat),Sat 111 [(0,sl A0 N0 C0),(1,sl A4 N4 C4),(5,sl L O V),(6,vI ((kp:Nat):Int)),(7,sl ae nf cg),(8,vI xb)] a/\Cg h G w/\a_ w Sy (sl ae nf cg) a8/\Sy.Nodup/\(∀k∈Sy,k∈h∨G.z<=k)) ?_ ?_
    .refine Wb<|Wq<|Wm z<|Rm z ?_
     obtain ⟨_,bZ,ar⟩:=bdS bg;refine RX z (at_ (α:=Str) F_ z_9 z z z (a0.g ak) bZ) ?_;rintro _ ⟨_,_,_,rfl,c0,c1,_⟩;obtain ⟨rfl,_⟩:=a_n c1;refine R z (l0 g_9 z<|c0.at0 z)<|R z (a_M z z)<|Wx z (λad=>?_) (λad=>?_)
     .refine Wq ?_;obtain ⟨c2,bi,bj⟩:=bdS<|ifT ar ad;refine Wt (λa w=>∃(a9:List Bool),a9=c2/\∃(Sz:List Nat),Sat 111 [(0,sl A0 N0 C0),(1,sl A4 N4 C4),(5,sl L O V),(6,vI ((kp:Nat):Int)),(7,sl ae nf cg),(8,vI xb)] a/\Cg h G w/\a_ w Sz (sl ae nf cg) a9/\Sz.Nodup/\(∀k∈Sz,k∈h∨G.z<=k)) ?_ ?_
      .refine Wg<|RM z z<|RM z z ?_
       obtain ⟨c3,c4,au⟩:=bdS bi;refine RX z (at_ (α:=Bool) b_9 z_4 z z z (or_ ((ho.e sx).c ss<|ds<|mnr<|a_.lt ho)<|a_.lt ho) c4) ?_;rintro _ ⟨_,_,_,rfl,c5,c6,_⟩;obtain rfl:=e_m c6;refine R z (l0 g_4 z<|c5.at0 z)<|Rm z ?_
       rcases bs c3 with hcc | hcc
       .iterate 3 refine Nh z hcc ?_
        refine Nv z<|Nv z<|Nv z<|Nv z<|Nv z<|Nh z hcc<|R z (pT z hcc z) ?_
        obtain ⟨c7,aG,bk⟩:=bdS<|ifT au hcc;refine RX z (b_c (α:=Bool) b_9 z_4 z z h5 aG) ?_;rintro _ ⟨_,c8,rfl⟩;refine E0 (b_7 (α:=Bool) z_4 z c8 z z z aG h5 hh b_C an_ G_) ?_;rintro _ ca ⟨aH,cb,cc,cd,ce⟩;refine Wl ?_;exact λ_ q=>⟨c7,som bk,aH,q.k<|s6 z z z z z z,(cM (cr h G) cb (io sr):Cg h G ca),cc,cd,(or2 ce (io sr) an_ (j_ lr):∀k∈aH,k∈h∨G.z<=k)⟩
       have av:=ifF au hcc;refine Rh z hcc (mv z)<|Rh z hcc (X_ z z)<|Rh z hcc (mv z) ?_
       rcases bs (decide<|0<xb) with hcj | hcj
       .refine Rh z hcj (mv z)<|Rh z hcj (mv z)<|Rh z hcj (sb_ z z) ?_
        obtain ⟨_,cf,bm⟩:=bdS<|ifT av hcj;refine RXg z z hcj z (at_ (α:=Bool) b_9 z_4 z z z (a_.rep h5) cf) ?_;rintro _ ⟨_,_,_,rfl,ch,ci,_⟩;obtain rfl:=e_m ci;refine Rh z hcj (l0 g_4 z<|ch.at0 z)<|Rh z hcc (pT z hcj z)<|R z (pF z hcc z) ?_
        obtain ⟨cj,aI,bn⟩:=bdS bm;refine RX z (b_c (α:=Bool) b_9 z_4 z z h5 aI) ?_;rintro _ ⟨_,ck,rfl⟩;refine E0 (b_7 (α:=Bool) z_4 z ck z z z aI h5 hh b_C an_ G_) ?_;rintro _ cl ⟨aJ,cm,cn,co,cp⟩;refine Wl ?_;exact λ_ q=>⟨cj,som bn,aJ,q.k<|s6 z z z z z z,(cM (cr h G) cm (io sr):Cg h G cl),cn,co,(or2 cp (io sr) an_ (j_ lr):∀k∈aJ,k∈h∨G.z<=k)⟩
       iterate 5 refine Nh z hcj ?_
       refine Rh z hcc (pF z hcj z)<|R z (pF z hcc z) ?_
       obtain ⟨cq,aK,bo⟩:=bdS<|ifF av hcj;refine RX z (b_c (α:=Bool) b_9 z_4 z z h5 aK) ?_;rintro _ ⟨_,ct,rfl⟩;refine E0 (b_7 (α:=Bool) z_4 z ct z z z aK h5 hh b_C an_ G_) ?_;rintro _ cu ⟨aL,cv,cw,cx,cy⟩;refine Wl ?_;exact λ_ q=>⟨cq,som bo,aL,q.k<|s6 z z z z z z,(cM (cr h G) cv (io sr):Cg h G cu),cw,cx,(or2 cy (io sr) an_ (j_ lr):∀k∈aL,k∈h∨G.z<=k)⟩
      rintro cz cA ⟨a9,rfl,Sz,_,cB,cC,cD,cE⟩;revert cz;refine Wo<|We<|exH ?_
      exact λ_ q=>⟨a9,som bj,Sz,q.k<|s6 z z z z z z,(cM (cr h G) cB (io sr):Cg h G cA),cC,cD,(or1 cE (io sr) (j_ lr):∀k∈Sz,k∈h∨G.z<=k)⟩
     refine Wk<|Wq<|Wq ?_
     obtain ⟨cF,aw,ax⟩:=bdS<|ifF ar ad;refine Wt (λa w=>∃(al:Bool),al=cF/\Sat 111 [(0,sl A0 N0 C0),(1,sl A4 N4 C4),(5,sl L O V),(6,vI ((kp:Nat):Int)),(7,sl ae nf cg),(8,vI xb),(65,vB al)] a/\Below G.z G w) ?_ ?_
     .refine Wg<|Rm z<|Rq z z z<|Rm z ?_
      rcases bs (xb==0) with hci | hci
      .iterate 6 refine Nh z hci ?_
       exact R z (pT z hci z)<|Wl (λ_ q=>⟨true,som<|ifT aw hci,q.k<|s7 z z z z z z z,br G⟩)
      refine Rh z hci (mv z)<|Rh z hci (mv z)<|Rh z hci (sb_ z z) ?_
      obtain ⟨cG,cH,bp⟩:=bdS<|ifF aw hci;refine RXg z z hci z (at_ (α:=Bool) b_9 z_4 z z z (or_ ((ho.e sx).c ss<|ds<|mnr<|a_.lt ho)<|a_.lt ho) cH) ?_;rintro _ ⟨_,_,_,rfl,cI,cJ,_⟩;obtain rfl:=e_m cJ;exact Rh z hci (l0 g_4 z<|cI.at0 z)<|Rh z hci (not_ z)<|R z (pF z hci z)<|Wl (λ_ q=>⟨!cG,som bp,q.k<|s7 z z z z z z z,br G⟩)
     rintro cK aM ⟨al,rfl,_,sk⟩;revert cK;refine Wo<|Wc z (λaf=>?_) (λaf=>?_)
     .refine We<|exH ?_
      exact λ_ q=>⟨xr,som<|ifT ax af,h,q.k<|s6 z z z z z z,(i_ (cr h G) sk:Cg h G aM),h5.e sk,hh,io sr⟩
     refine Wk<|Wm z<|Rm z<|R z (sb_ z z) ?_
     obtain ⟨_,cL,bq⟩:=bdS<|ifF ax af;have aN:=ak.e sk;refine RX z (at_ (α:=Str) F_ z_9 z z z (W.g aN) cL) ?_;rintro _ ⟨_,_,_,rfl,cN,cO,_⟩;obtain ⟨rfl,cP⟩:=a_n cO;refine R z (l0 g_9 z<|cN.at0 z) ?_;obtain ⟨_,cQ,cR,bt⟩:=Y_ bq;refine E z (fc call89 z<|W_w1e cR (zt' a1<|lt_ (lt_ (lt_ aF sx.s) ss.s) sk.s) cP) ?_;rintro _ H ⟨sq,rfl,_⟩;refine Rm z<|Re z z z<|Re z z z<|Ra z<|Rw z ?_
     obtain ⟨cS,bu,bv⟩:=bdS bt;refine Wt (λa w=>∃(aa:List Bool),aa=cS/\∃(Y:List Nat),Sat 111 [(0,sl A0 N0 C0),(1,sl A4 N4 C4),(5,sl L O V),(6,vI ((kp:Nat):Int)),(7,sl ae nf cg),(8,vI xb)] a/\Cg h H w/\a_ w Y (sl ae nf cg) aa/\Y.Nodup/\(∀k∈Y,k∈h∨H.z<=k)) ?_ ?_
     .refine Wd (X:=noX) 1073741824 (pl_ 31 [30]) mo (by kernel_rfl) λa4 s8 _=>?_
      iterate 4 refine dM z z z ?_
      obtain ⟨cT,cU,ay⟩:=bdS bu;have am:=(aN.e sq).e s8;have a5:=a0.g am;refine dRX z z (at_ (α:=Str) F_ z_9 z z z a5 cU) ?_;rintro _ ⟨_,_,_,rfl,cV,cW,_⟩;obtain ⟨rfl,_⟩:=a_n cW;refine dR z z (l0 g_9 z<|cV.at0 z)<|dR z z (a_M z z)<|dM z z z ?_
      rcases bs (cT.b==(⟨[35]⟩:Str).b) with hct | hct
      .have az:=ifT ay hct;refine dRg z z z hct z (mv z)<|dR z z (pT z hct z)<|dM z z z ?_
       rcases bs cQ with I | I
       .iterate 11 refine dRn z z z I z ?_
        iterate 5 refine dRu z z z z ?_
        refine dRn z z z I z<|dR z z (pT z I z) ?_
        obtain ⟨cX,aO,bw⟩:=bdS<|ifT az I;have aP:=((h5.e sk).e sq).e s8;refine dRX z z (b_c (α:=Bool) b_9 z_4 z z aP aO) ?_;rintro _ ⟨_,cY,rfl⟩;refine dE0 z (b_7 (α:=Bool) z_4 z cY z z z aO aP hh b_C an_ G_) (.inl z) ?_;rintro _ cZ ⟨aQ,d0,d1,d2,d3⟩;refine pD ?_;exact λ_ q=>⟨cX,som bw,aQ,q.k<|s6 z z z z z z,(cM (i_ (cr h H) s8:Cg h H a4) d0 (io sr):Cg h H cZ),d1,d2,(or2 d3 (io sr) an_ (j_ s8.s):∀k∈aQ,k∈h∨H.z<=k)⟩
       refine dRg z z z I z (mv z)<|dRg z z z I z (mv z) ?_
       obtain ⟨d4,d5,bx⟩:=bdS<|ifF az I;refine a_L z z z I z (at_ (α:=Str) F_ z_9 z z z a5 d5) ?_;rintro _ ⟨_,_,_,rfl,d6,d7,_⟩;obtain ⟨rfl,_⟩:=a_n d7;refine dRg z z z I z (l0 g_9 z<|d6.at0 z)<|dRg z z z I z (mv z)<|dRg z z z I z (mv z)<|dRg z z z I z (sb_ z z) ?_
       obtain ⟨d8,d9,aA⟩:=bdS bx;refine a_L z z z I z (at_ (α:=Str) F_ z_9 z z z (W.g am) d9) ?_;rintro _ ⟨_,_,_,rfl,da,db,_⟩;obtain ⟨rfl,_⟩:=a_n db;refine dRg z z z I z (l0 g_9 z<|da.at0 z)<|dRg z z z I z (a_M z z)<|dRg z z z I z (mv z) ?_
       rcases bs (d4.b==d8.b) with hcl | hcl
       .refine dRg z z z hcl z (mv z)<|dRg z z z hcl z (mv z) ?_
        obtain ⟨_,dc,bz⟩:=bdS<|ifT aA hcl;refine a_L z z z hcl z (at_ (α:=Str) F_ z_9 z z z a5 dc) ?_;rintro _ ⟨_,_,_,rfl,dd,de,_⟩;obtain ⟨rfl,_⟩:=a_n de;refine dRg z z z hcl z (l0 g_9 z<|dd.at0 z)<|dRg z z z hcl z (d_q z z)<|dRg z z z I z (pT z hcl z)<|dR z z (pF z I z) ?_
        obtain ⟨df,aR,bA⟩:=bdS bz;have aS:=((h5.e sk).e sq).e s8;refine dRX z z (b_c (α:=Bool) b_9 z_4 z z aS aR) ?_;rintro _ ⟨_,dg,rfl⟩;refine dE0 z (b_7 (α:=Bool) z_4 z dg z z z aR aS hh b_C an_ G_) (.inl z) ?_;rintro _ dh ⟨aT,di,dj,dk,dl⟩;refine pD ?_;exact λ_ q=>⟨df,som bA,aT,q.k<|s6 z z z z z z,(cM (i_ (cr h H) s8:Cg h H a4) di (io sr):Cg h H dh),dj,dk,(or2 dl (io sr) an_ (j_ s8.s):∀k∈aT,k∈h∨H.z<=k)⟩
       iterate 5 refine dRn z z z hcl z ?_
       refine dRg z z z I z (pF z hcl z)<|dR z z (pF z I z) ?_
       obtain ⟨dm,aU,bB⟩:=bdS<|ifF aA hcl;have aV:=((h5.e sk).e sq).e s8;refine dRX z z (b_c (α:=Bool) b_9 z_4 z z aV aU) ?_;rintro _ ⟨_,dn,rfl⟩;refine dE0 z (b_7 (α:=Bool) z_4 z dn z z z aU aV hh b_C an_ G_) (.inl z) ?_;rintro _ dp ⟨aW,dq,dr,dt,du⟩;refine pD ?_;exact λ_ q=>⟨dm,som bB,aW,q.k<|s6 z z z z z z,(cM (i_ (cr h H) s8:Cg h H a4) dq (io sr):Cg h H dp),dr,dt,(or2 du (io sr) an_ (j_ s8.s):∀k∈aW,k∈h∨H.z<=k)⟩
      refine dRn z z z hct z<|dR z z (pF z hct z)<|dM z z z<|dRg z z z z z (mv z)<|dRg z z z z z (mv z) ?_
      obtain ⟨dv,dw,bC⟩:=bdS<|ifF ay hct;refine a_L z z z z z (at_ (α:=Str) F_ z_9 z z z a5 dw) ?_;rintro _ ⟨_,_,_,rfl,dx,dy,_⟩;obtain ⟨rfl,_⟩:=a_n dy;refine dRg z z z z z (l0 g_9 z<|dx.at0 z)<|dRg z z z z z (mv z)<|dRg z z z z z (mv z)<|dRg z z z z z (sb_ z z) ?_
      obtain ⟨dz,dA,aB⟩:=bdS bC;refine a_L z z z z z (at_ (α:=Str) F_ z_9 z z z (W.g am) dA) ?_;rintro _ ⟨_,_,_,rfl,dB,dC,_⟩;obtain ⟨rfl,_⟩:=a_n dC;refine dRg z z z z z (l0 g_9 z<|dB.at0 z)<|dRg z z z z z (a_M z z)<|dRg z z z z z (mv z) ?_
      rcases bs (dv.b==dz.b) with hcm | hcm
      .refine dRg z z z hcm z (mv z)<|dRg z z z hcm z (mv z) ?_
       obtain ⟨_,dD,bD⟩:=bdS<|ifT aB hcm;refine a_L z z z hcm z (at_ (α:=Str) F_ z_9 z z z a5 dD) ?_;rintro _ ⟨_,_,_,rfl,dF,dG,_⟩;obtain ⟨rfl,_⟩:=a_n dG;refine dRg z z z hcm z (l0 g_9 z<|dF.at0 z)<|dRg z z z hcm z (d_q z z)<|dRg z z z z z (pT z hcm z)<|dR z z (pF z z z) ?_
       obtain ⟨dH,aX,bE⟩:=bdS bD;have aY:=((h5.e sk).e sq).e s8;refine dRX z z (b_c (α:=Bool) b_9 z_4 z z aY aX) ?_;rintro _ ⟨_,dI,rfl⟩;refine dE0 z (b_7 (α:=Bool) z_4 z dI z z z aX aY hh b_C an_ G_) (.inl z) ?_;rintro _ dJ ⟨aZ,dK,dL,dN,dO⟩;refine pD ?_;exact λ_ q=>⟨dH,som bE,aZ,q.k<|s6 z z z z z z,(cM (i_ (cr h H) s8:Cg h H a4) dK (io sr):Cg h H dJ),dL,dN,(or2 dO (io sr) an_ (j_ s8.s):∀k∈aZ,k∈h∨H.z<=k)⟩
      iterate 5 refine dRn z z z hcm z ?_
      refine dRg z z z z z (pF z hcm z)<|dR z z (pF z z z) ?_
      obtain ⟨dP,b0,bF⟩:=bdS<|ifF aB hcm;have b1:=((h5.e sk).e sq).e s8;refine dRX z z (b_c (α:=Bool) b_9 z_4 z z b1 b0) ?_;rintro _ ⟨_,dS,rfl⟩;refine dE0 z (b_7 (α:=Bool) z_4 z dS z z z b0 b1 hh b_C an_ G_) (.inl z) ?_;rintro _ dT ⟨b2,dU,dV,dW,dX⟩;refine pD ?_;exact λ_ q=>⟨dP,som bF,b2,q.k<|s6 z z z z z z,(cM (i_ (cr h H) s8:Cg h H a4) dU (io sr):Cg h H dT),dV,dW,(or2 dX (io sr) an_ (j_ s8.s):∀k∈b2,k∈h∨H.z<=k)⟩
     rintro dY dZ ⟨aa,rfl,Y,_,e0,e1,e2,e3⟩;revert dY;exact λ_ q=>⟨aa,som bv,Y,q.k<|s6 z z z z z z,(cM (i_ (i_ (cr h G) sk:Cg h G aM) sq:Cg h G H) e0 (io sr):Cg h G dZ),e1,e2,(or1 e3 (io sr) (j_<|lt_ sk.s sq.s):∀k∈Y,k∈h∨G.z<=k)⟩
    rintro e4 e5 ⟨a8,rfl,Sy,_,e6,e7,e8,e9⟩;revert e4;refine Wo<|Wg<|Rm z<|R z (add_ z z)<|Ra z<|Wl ?_
    have b3:∀k∈h,k∈[J.z]∨wa.z<=k:=or1 a7 (io sr)<|j_ lr;exact λ_ q=>⟨(a8,b_ xb 1),(som bh).symm,⟨Sy,q.k<|s6 z z z z z z,(cM (cM (cr [J.z] wa) ss (io sr):Cg [J.z] wa G) e6 b3:Cg [J.z] wa e5),e7,e8,(or1 e9 b3 (j_ ss.s):∀k∈Sy,k∈[J.z]∨wa.z<=k),iA _ _⟩⟩
   exact We<|λ_ q=>a_Q (som<|ifF aq ab).symm ⟨h,q.k<|s4 z z z z,(cM (cr [J.z] wa) ss (io sr):Cg [J.z] wa G),h5,hh,(or1 a7 (io sr) (j_ lr):∀k∈h,k∈[J.z]∨wa.z<=k),aE⟩
  .rintro ⟨xr,xb⟩ ea _ rfl ⟨h,_,eb,h5,hh,a7,aE⟩;have bG:=elL ap;revert ea;refine Wo<|Wg<|Rm z<|Rw z<|Wg<|Rm z<|R z (inc_ ao (lt_ (repS.len a0) z_) z z)<|Ra z<|Wl ?_
   exact λ_ q=>⟨xr,(som<|a_7 bG).symm,⟨ae,nf,cg,h,q.k<|s4 z z z z,bM (bup sw sx) eb<|m1 sw.s,h5,hh,(or1 a7 (mor sw.s:∀k∈[J.z],k∈Su∨wn.z<=k) (j_<|lt_ sw.s sx.s):∀k∈h,k∈Su∨wn.z<=k)⟩⟩
  rintro _ _ _ _ rfl ⟨rfl,bH⟩;have bI:=elR ap;exact ⟨f_6<|f_r (som bI).symm ⟨rfl,bH⟩,z⟩
 .rintro xv _ _ ⟨L,O,V,Sd,bJ,b4,ho,ah,ai⟩;refine Wu ?_ bJ;refine Wq<|Wm z<|Rm z ?_
  refine R z (lnR F_ z<|a0.g<|((a2.ag B).c a3<|g_ (or0 (e_ lr) (n_ a1):∀k∈[w0.z],¬B k)).e b4)<|Rl z z z<|Wx z (λhc=>(P_ hc).elim) (λ_=>?_)
  exact We<|λ_ q=>⟨rfl,⟨L,O,V,Sd,q.k<|s2 z z,b4,ho,ah,(or1 ai (io sr) (j_ lr):∀k∈Sd,k∈Su∨wn.z<=k)⟩⟩
 .rintro xv ec _ rfl ⟨L,O,V,Sd,_,b5,ho,ah,ai⟩;have bK:=elL an;revert ec;refine Wo<|Wm z<|Rm z ?_
  refine R z (lnR F_ z<|W.g<|((a2.ag B).c a3<|g_ (or0 (e_ lr) (n_ a1):∀k∈[w0.z],¬B k)).e b5) ?_;obtain ⟨_,ed,bL⟩:=bdS bK;refine RX z (at_ (α:=Bool) b_9 z_4 z z z (a_.rep ho) ed) ?_;rintro _ ⟨_,_,_,rfl,ee,ef,_⟩;obtain rfl:=e_m ef;refine R z (l0 g_4 z<|ee.at0 z)<|Rw z ?_
  obtain rfl:=som bL;exact Wr<|c_ hr z ⟨bup (bM a2 a3<|e_ lr) b5,z⟩
 rintro _ _ _ _ rfl ⟨rfl,bN⟩;have bO:=elR an;obtain rfl:=som bO;exact ⟨bN,z⟩
theorem W_w3f {x1:Str}{x2:Str}{res:Bool}(hm:j_0 n x1 x2=some res)(I:B<=w0.z)(O:x1.b.length<=LEN)(V:x2.b.length<=LEN):h_ prog 37 [Str.v x1,Str.v x2] w0 (Q11 w0 B res):=by
 unfold j_0 at hm
 refine goG func37 z z z λfn hr=>Ws<|Rw z<|Wm z ?_
 obtain ⟨_,W,Y,hma⟩:=Y_ hm;refine E z (fc call58 z<|W_w3c (B:=B) Y I O) ?_;rintro _ _ ⟨s4,_,_,_,rfl,hb⟩;refine Rm z<|Re z z z<|Re z z z<|Ra z<|Rw z<|Wm z ?_
 obtain ⟨_,rc,ed,hme⟩:=Y_ hma;refine E z (fc call59 z<|W_w3d ed (zt' I s4.s) V) ?_;rintro _ H ⟨s3,_,_,_,rfl,hf⟩;refine Rm z<|Re z z z<|Re z z z<|Ra z<|Rw z<|Wq ?_
 obtain ⟨ug,J,hmh⟩:=bdS hme;refine Wt (λa w=>∃(x5:Bool),x5=ug/\Sat 28 [(4,vB x5)] a/\Below H.z H w) ?_ ?_
 .refine Wg<|RM z z ?_
  rcases bs W with G | G
  .have L:=ifT J G;refine Rh z G (mv z)<|R z (pT z G z)<|Rm z ?_
   rcases bs rc with h | h
   .refine Rh z h (mv z)<|Rh z h (mv z) ?_
    obtain ⟨ri,ej,hmk⟩:=bdS<|ifT L h;refine Eg z z h z (fc call60 z<|W_w3e (B:=H.z) ej zr (repS.mono (hb.e s3)<|a_K s3.s)<|repS.mono hf<|e_P (zt' I<|lt_ s4.s s3.s) lr) ?_;rintro _ _ ⟨sl,rfl⟩;exact R z (pT z h z)<|Ra z<|Wl (λ_ q=>⟨ri,som hmk,q.k<|s1 z,sl⟩)
   iterate 3 refine Nh z h ?_
   exact R z (pF z h z)<|Ra z<|Wl (λ_ q=>⟨false,som<|ifF L h,q.k<|s1 z,br H⟩)
  exact Nh z G<|R z (pF z G z)<|Rm z<|Nh z z<|Nh z z<|Nh z z<|R z (pF z z z)<|Ra z<|Wl (λ_ q=>⟨false,som<|ifF J G,q.k<|s1 z,br H⟩)
 rintro am _ ⟨x5,rfl,_,sn⟩;revert am;refine Wo ?_;obtain rfl:=som hmh;exact Wr<|c_ hr z ⟨bup (bup s4 s3) sn,z⟩
def Q25 (w0:World)(B:Zone)(r:(List l_))(v:Value)(w':World):Prop:=Bw w0 w'/\(λI=>∃h G H S1,(sl h G H)=v/\a_ w' S1 (sl h G H) I/\S1.Nodup/\(∀k∈S1,w0.z<=k)) r
theorem W_w3g {x1:f_}{x2:Bt}{x3:Str}{res:(List l_)}(hm:j_1 n x1 x2 x3=some res)(a2:B<=w0.z)(ae:repS w0 B (sl A0 N0 C0) x1.rules)(af:repS w0 B (sl A4 N4 C4) x2)(ah:x3.b.length<=LEN):h_ prog 18 [(.agg #[sl A0 N0 C0]),sl A4 N4 C4,Str.v x3] w0 (Q25 w0 B res):=by
 unfold j_1 at hm
 refine goG func18 z z z λfn hr=>Ws<|E z (fb z) ?_
 rintro _ G ⟨rfl,hv⟩;have hf:=hv.below;refine Rw z<|Ws<|E z (f0 (α:=l_) c_g) ?_
 rintro _ _ ⟨az,aA,aB,rfl,sg,hn⟩;refine Rw z<|Ws<|R z (lN (vs:=[sl A0 N0 C0]) L_ D_ z z fid<|((hv.blk:Blk G w0.z [sl A0 N0 C0]).e sg).row 0 1 z)<|Rm z ?_
 have hw:=(hf.ag B).e sg;have ho:=lt_ hf.s sg.s;obtain ⟨_,_,aC,ai⟩:=Y_ hm;refine E z (fc call36 z<|W_w3b aC (zt' a2 ho) (ae.g hw)<|af.g hw) ?_;rintro _ H ⟨sh,ax,ns,cy,_,rfl,V,_,hz⟩;refine Rm z<|Re z z z<|Re z z z<|Ra z<|Rw z<|Wq<|Ws<|Rw z ?_
 obtain ⟨_,aj,Y⟩:=bdS ai;refine Wf (σ:=List l_) (ρ:=List l_) (λ(kp:Nat)(W:List l_) a w=>∃I J L h,Sat 39 [(2,Str.v x3),(7,sl I J L),(8,sl ax ns cy),(10,vI ((kp:Nat):Int))] a/\Cg [G.z] H w/\a_ w h (sl I J L) W/\h.Nodup/\(∀k∈h,k∈[G.z]∨H.z<=k)) (λ(W:List l_) a w=>∃I J L h,Sat 39 [(7,sl I J L)] a/\Cg [G.z] H w/\a_ w h (sl I J L) W/\h.Nodup/\(∀k∈h,k∈[G.z]∨H.z<=k)) (rQ prog fn<|Q25 w0 B) aj ?_ ?_ ?_ ?_ ?_
 .exact λ_ q=>⟨az,aA,aB,[G.z],q.k<|s4 z z z z,cr [G.z] H,hn.e sh,Z_,io sr⟩
 .rintro kp W _ aD _ a0 ⟨I,J,L,h,al,si,ha,hb,hd⟩ am;refine Wu ?_ al;refine Wq<|Wm z<|Rm z ?_
  have hq:=V.c si<|a_T hz (a_.lt hn) lr
  refine R z (lnR b_5 z<|or_ hq<|a_.lt V)<|Rl z z z<|Wx z (λ_=>?_) (λhc=>(O_ a0 hc).elim)
  refine Wk<|Wq<|Wb<|Wm z<|RM z z ?_
  obtain ⟨_,aE,an⟩:=bdS am;refine RX z (at_ (α:=l_) b_5 b_x z z z (or_ hq<|a_.lt V) aE) ?_;rintro _ ⟨_,_,_,rfl,aF,aG,_⟩;obtain ⟨rfl,aH,_,_,_⟩:=e_d aG;refine Rf z g_6 z<|R z (l0 g_9 z<|aF.at (j:=0) z) ?_
  obtain ⟨_,aI,ao⟩:=bdS an;refine E z (fc call37 z<|W_w3f aI (zt' a2<|lt_ (lt_ ho sh.s) si.s) ah aH) ?_;rintro _ O ⟨se,rfl⟩;refine Wn ?_;obtain ⟨aJ,a1,ap⟩:=bdS ao;refine Wt (λa w=>∃(xj:List l_),xj=aJ/\∃ak nl cm Sc,Sat 39 [(2,Str.v x3),(7,sl ak nl cm),(8,sl ax ns cy),(10,vI ((kp:Nat):Int))] a/\Cg h O w/\a_ w Sc (sl ak nl cm) xj/\Sc.Nodup/\(∀k∈Sc,k∈h∨O.z<=k)) ?_ ?_
  .refine Wc z (λhcr=>?_)<|λhcr=>?_
   .refine Wg<|RM z z<|Rm z ?_
    obtain ⟨x6,aK,aq⟩:=bdS<|ifT a1 hcr;refine RX z (at_ (α:=l_) b_5 b_x z z z (or_ (hq.e se)<|a_.lt V) aK) ?_;rintro _ ⟨_,_,_,rfl,aL,aM,_⟩;obtain ⟨rfl,a4,a5,a6,a7⟩:=e_d aM;refine R z (lN (vs:=[Str.v x6.path,vI x6.rule,vI x6.start,vI x6.end_]) f_Z b_x z z fid aL)<|E z (fS [(.tmp 35)] c_g z z z (a_v z) (lb z)<|lb z) ?_
    rintro _ a8 ⟨rfl,ht⟩;have hu:=ht.below;have b6:=b_D ht<|d_i (x:=x6) a4 a5 a6 a7
    obtain ⟨aN,aO,ar⟩:=bdS aq;refine E z (b_l (α:=l_) c_g aO z z ((ha.e se).e hu) hb (ht.blk:Blk a8 O.z [Str.v x6.path,vI x6.rule,vI x6.start,vI x6.end_]) (d_i (x:=x6) a4 a5 a6 a7) an_ G_) ?_;rintro _ aP ⟨a9,aQ,aR,aS,rfl,aT,aU,aV,aW⟩;refine Ra z<|Wl ?_
    exact λ_ q=>⟨aN,som ar,aQ,aR,aS,a9,q.k<|s4 z z z z,(cM (i_ (cr h O) hu:Cg h O a8) aT (io sr):Cg h O aP),aU,aV,(or2 aW (io sr) an_ (j_ hu.s):∀k∈a9,k∈h∨O.z<=k)⟩
   exact a_j<|λ_ q=>⟨W,som<|ifF a1 hcr,I,J,L,h,q.k<|s4 z z z z,cr h O,ha.e se,hb,io sr⟩
  rintro aX aY ⟨xj,rfl,ak,nl,cm,Sc,_,aZ,b0,b1,b2⟩;revert aX;refine Wo<|Wg<|Rm z<|R z (inc_ a0 (lt_ (a_.len V) z_) z z)<|Ra z<|Wl ?_
  have aa:∀k∈h,k∈[G.z]∨H.z<=k:=or1 hd (io sr)<|j_ lr;exact λ_ q=>⟨xj,(som ap).symm,⟨ak,nl,cm,Sc,q.k<|s4 z z z z,(cM (i_ (cM (cr [G.z] H) si (io sr):Cg [G.z] H aD) se:Cg [G.z] H O) aZ aa:Cg [G.z] H aY),b0,b1,(or1 b2 aa (j_<|lt_ si.s se.s):∀k∈Sc,k∈[G.z]∨H.z<=k)⟩⟩
 .rintro W _ b3 ⟨I,J,L,h,au,ab,ha,hb,hd⟩;refine Wu ?_ au;refine Wq<|Wm z<|Rm z<|R z (lnR b_5 z<|or_ (V.c ab<|a_T hz (a_.lt hn) lr)<|a_.lt V)<|Rl z z z<|Wx z (λhc=>(P_ hc).elim) (λ_=>?_)
  exact We<|λ_ q=>⟨rfl,⟨I,J,L,h,q.k<|s1 z,(cM (cr [G.z] H) ab (io sr):Cg [G.z] H b3),ha,hb,(or1 hd (io sr) (j_ lr):∀k∈h,k∈[G.z]∨H.z<=k)⟩⟩
 .rintro W b4 _ rfl ⟨I,J,L,h,_,b5,ha,hb,hd⟩;have av:=elL Y;revert b4;refine Wo<|Wm z<|Rw z ?_
  obtain rfl:=som av;have ad:=m1 hf.s;exact Wr<|c_ hr z ⟨bM (bup (bup hf sg) sh) b5 ad,I,J,L,h,z,ha,hb,b_2 hd ad<|lt_ ho sh.s⟩
 rintro _ _ _ _ rfl ⟨rfl,aw⟩;have ay:=elR Y;obtain rfl:=som ay;exact ⟨aw,z⟩
theorem W_w3h {x1:J_}{x2:Str}{x3:Str}{res:(List l_)}(hm:i_3 n x1 x2 x3=some res)(I:B<=w0.z)(O:repS w0 B (sl A0 N0 C0) x1.registry.versions)(Y:repS w0 B (sl A1 N1 C1) x1.log.bytes)(a0:inI x1.log.stored)(a1:x2.b.length<=LEN)(a2:x3.b.length<=LEN):h_ prog 5 [(.agg #[sl A0 N0 C0,sl A1 N1 C1,vI x1.log.stored]),Str.v x2,Str.v x3] w0 (Q25 w0 B res):=by
 unfold i_3 at hm
 refine goG func5 z z z λfn hr=>Ws<|E z (fb z) ?_
 rintro _ J ⟨rfl,hc⟩;have h2:=hc.below;have V:Blk J w0.z [sl A0 N0 C0,sl A1 N1 C1,vI x1.log.stored]:=hc.blk;refine Rw z<|Ws<|R z (lN (vs:=[sl A0 N0 C0,sl A1 N1 C1,vI x1.log.stored]) d_K c_S z z fid<|V.row 0 3 z) ?_
 obtain ⟨_,em,hmn⟩:=bdS hm;refine E z (fc call15 z<|W_w2x em (zt' I h2.s) (O.e h2) (Y.e h2) a0) ?_;rintro _ W ⟨s4,ao,np,cq,rfl,hd⟩;refine Rw z<|Wm z<|Rm z ?_
 have L:=lt_ h2.s s4.s;obtain ⟨re,er,hms⟩:=bdS hmn;refine E z (fc call16 z<|W_w2y (B:=zn B J.z W.z) er (e_P (zt' I L) lr) hd a1) ?_;rintro _ wf ⟨G,rfl,_⟩;refine Rw z<|Wq<|Wq ?_
 obtain ⟨ut,huu,hmg⟩:=bdS hms;refine Wt (λa w=>∃(xa:Bool),xa=ut/\Sat 39 [(2,Str.v x3),(3,pt w0.z),(7,sl ao np cq),(8,vI re),(20,vB xa)] a/\Below wf.z wf w) ?_ ?_
 .refine Wg<|R z (lN (vs:=[sl A0 N0 C0,sl A1 N1 C1,vI x1.log.stored]) d_K c_S z z fid<|((V.e s4).e G).row 0 3 z) ?_
  have hh:=((h2.ag B).e s4).e G;obtain ⟨rv,ew,hmi⟩:=bdS huu;refine E z (fc call17 z<|W_w39 ew (zt' I<|lt_ L G.s) (O.g hh) (Y.g hh) a0) ?_;rintro _ _ ⟨sj,rfl⟩;refine R z (not_ z)<|Rm z ?_
  rcases bs (!rv) with H | H
  .exact Nh z H<|Nh z H<|R z (pT z H z)<|Wl (λ_ q=>⟨true,som<|ifT hmi H,q.k<|s5 z z z z z,sj⟩)
  exact Rh z H (mv z)<|Rh z H (lss z z)<|R z (pF z H z)<|Wl (λ_ q=>⟨decide<|re<0,som<|ifF hmi H,q.k<|s5 z z z z z,sj⟩)
 rintro ax wy ⟨xa,rfl,_,s3⟩;revert ax;refine Wo<|Wc z (λhcb=>?_) (λhcb=>?_)
 .refine Ws<|E z (f0 (α:=l_) c_g) ?_
  rintro _ _ ⟨az,a7,a8,rfl,a9,aa⟩;refine Rw z ?_
  obtain rfl:=som<|ifT hmg hcb;exact Wr<|c_ hr z ⟨bup (bup (bup (bup h2 s4) G) s3) a9,az,a7,a8,[wy.z],z,aa,Z_,m1<|lt_ (lt_ L G.s) s3.s⟩
 refine Wk<|Wq (Wd (X:=noX) 0 (pl_ 18 [16]) mo (by kernel_rfl) λaF s6 _=>dR z z (fd c_P z)<|dR z z (fd c_5 z)<|dR z z (l0 c_f z<|((((V.e s4).e G).e s3).e s6).at z)<|dM z z z<|dM z z z ?_)
 obtain ⟨_,ab,a3⟩:=bdS<|ifF hmg hcb;have hk:=hd.g<|((G.ag<|zn B J.z W.z).e s3).e s6
 refine dRX z z (at_ (α:=r_) b_O b_4 z z z hk ab) ?_;rintro _ ⟨_,_,_,rfl,ad,ae,_⟩;obtain ⟨_,_,_,rfl,_,_,_⟩:=f_l ae;refine dR z z (fd n_O z)<|dR z z (l0 g_3 z<|ad.at (j:=1) z) ?_
 obtain ⟨_,af,a4⟩:=bdS a3;refine dRX z z (at_ (α:=f_) b_r D_ z z z (O.g<|((((h2.ag B).e s4).e G).e s3).e s6) af) ?_;rintro _ ⟨_,_,_,rfl,ah,ai,_⟩;obtain ⟨aj,ak,al,rfl,am⟩:=d_H ai;refine dR z z (lN (vs:=[sl aj ak al]) L_ D_ z z fid ah)<|dM z z z<|dM z z z ?_
 obtain ⟨_,an,a5⟩:=bdS a4;refine dRX z z (at_ (α:=r_) b_O b_4 z z z hk an) ?_;rintro _ ⟨_,_,_,rfl,ap,aq,_⟩;obtain ⟨_,_,_,rfl,_,_,ar⟩:=f_l aq;refine dR z z (fd n_P z)<|dR z z (l0 K_ z<|ap.at (j:=2) z)<|dM z z z ?_
 have hl:=lt_ (lt_ (lt_ L G.s) s3.s) s6.s;obtain ⟨_,au,a6⟩:=bdS a5;refine dE z z (fc call18 z<|W_w3g (B:=zn B J.z W.z) au (e_P (zt' I hl)<|lt_ (lt_ G.s s3.s) s6.s) (repS.mono am d_o) ar a2) (.inr λ_ _ h=>E_<|h.1) ?_;rintro _ _ ⟨av,aw,ay,aA,aB,rfl,aC,aD,aE⟩;refine dQ z z z<|pD<|Wo ?_
 obtain rfl:=som a6;exact Wr<|c_ hr z ⟨bup (bup (bup (bup (bup h2 s4) G) s3) s6) av,aw,ay,aA,aB,z,aC,aD,o_ aE hl⟩
theorem d_S {x1:Int}{x2:Int}{x3:Int}{res:Bool}(hm:c_o x1 x2 x3=some res)(W:B<=w0.z)(L:inI x1)(O:inI x2)(V:inI x3):h_ prog 125 [vI x1,vI x2,vI x3] w0 (Q11 w0 B res):=by
 unfold c_o at hm
 refine goG func125 z z z λfn hr=>Ws<|Rw z<|Wq ?_
 obtain ⟨I,G,H⟩:=bdS hm;refine Wt (λa w=>∃(x4:Bool),x4=I/\Sat 15 [(6,vB x4)] a/\Below w0.z w0 w) ?_ ?_
 .refine Wg<|RM z z<|R z (d_0 z z)<|Rm z ?_
  rcases bs (decide<|x2<=x1) with h | h
  .exact Rh z h (mv z)<|Rh z h (mv z)<|Rh z h (d_0 z z)<|R z (pT z h z)<|Ra z<|Wl (λ_ q=>⟨decide<|x1<=x3,som<|ifT G h,q.k<|s1 z,br w0⟩)
  iterate 3 refine Nh z h ?_
  exact R z (pF z h z)<|Ra z<|Wl (λ_ q=>⟨false,som<|ifF G h,q.k<|s1 z,br w0⟩)
 rintro J _ ⟨x4,rfl,_,s6⟩;revert J;refine Wo ?_;obtain rfl:=som H;exact Wr<|c_ hr z ⟨s6,z⟩
theorem l_Y {x1:f_}{x2:Int}{res:Bool}(hm:f_a x1 x2=some res)(W:B<=w0.z)(I:repS w0 B (sl A0 N0 C0) x1.rules)(V:inI x2):h_ prog 152 [(.agg #[sl A0 N0 C0]),vI x2] w0 (Q11 w0 B res):=by
 unfold f_a at hm
 refine goG func152 z z z λfn hr=>Ws<|E z (fb z) ?_
 rintro _ G ⟨rfl,h2⟩;have h4:=h2.below;refine Rw z<|Wq ?_
 obtain ⟨L,H,J⟩:=bdS hm;refine Wt (λa w=>∃(x3:Bool),x3=L/\Sat 14 [(4,vB x3)] a/\Below G.z G w) ?_ ?_
 .refine Wg<|Rm z<|R z (b_t z z)<|Rm z ?_
  rcases bs (decide<|0<=x2) with h | h
  .exact Rh z h (mv z)<|Rh z h (fd a_s z)<|Rh z h (l0 a_u z<|(h2.blk:Blk G w0.z [sl A0 N0 C0]).at z)<|Rh z h (lnR a_2 z<|I.e h4)<|Rh z h (lss z z)<|R z (pT z h z)<|Ra z<|Wl (λ_ q=>⟨decide<|x2<(x1.rules.length:Int),som<|ifT H h,q.k<|s1 z,br G⟩)
  iterate 5 refine Nh z h ?_
  exact R z (pF z h z)<|Ra z<|Wl (λ_ q=>⟨false,som<|ifF H h,q.k<|s1 z,br G⟩)
 rintro O _ ⟨x3,rfl,_,sa⟩;revert O;refine Wo ?_;obtain rfl:=som J;exact Wr<|c_ hr z ⟨bup h4 sa,z⟩
theorem j_X {x1:Str}{res:Bool}(hm:e_A n x1=some res)(ao:B<=w0.z)(an:x1.b.length<=LEN):h_ prog 137 [Str.v x1] w0 (Q11 w0 B res):=by
 unfold e_A at hm
 refine goG func137 z z z λfn hr=>Ws<|Rw z<|Wq<|Wq ?_
 obtain ⟨a7,huo,hmp⟩:=bdS hm;refine Wt (λa w=>∃(xg:Bool),xg=a7/\Sat 43 [(0,Str.v x1),(14,vB xg)] a/\Below w0.z w0 w) ?_ ?_
 .refine Wg<|Rm z<|R z (lnT d_9 z)<|Rl z z z<|Rm z ?_
  rcases bs (decide<|(x1.b.length:Int)<1) with I | I
  .iterate 3 refine Nh z I ?_
   exact R z (pT z I z)<|Wl (λ_ q=>⟨true,som<|ifT huo I,q.k<|s2 z z,br w0⟩)
  exact Rh z I (mv z)<|Rh z I (lnT d_9 z)<|Rh z I (X_ z z)<|R z (pF z I z)<|Wl (λ_ q=>⟨decide<|12<(x1.b.length:Int),som<|ifF huo I,q.k<|s2 z z,br w0⟩)
 rintro a8 h ⟨xg,rfl,_,s9⟩;revert a8;refine Wo<|Wc z (λhch=>?_) (λhch=>?_)
 .refine Ws<|Rw z ?_
  obtain rfl:=som<|ifT hmp hch;exact Wr<|c_ hr z ⟨s9,z⟩
 refine Wk<|Wq<|Wm z<|E z (s_K d_9 z) ?_
 rintro _ H ⟨rfl,sq,a9⟩;refine Wn ?_;obtain ⟨_,a0,hmr⟩:=bdS<|ifF hmp hch;refine a_X (σ:=Nat) (ρ:=Bool) (λ(x0:Nat) a w=>Sat 43 [(16,pt h.z)] a/\Cg [h.z] H w/\b_H w h.z x1 x0) (λ(x0:Nat) a w=>Sat 43 [] a/\Cg [h.z] H w/\b_H w h.z x1 x0) (rQ prog fn<|Q11 w0 B) a0 ?_ ?_ ?_ ?_
 .exact λ_ q=>⟨q.k<|s1 z,cr [h.z] H,a9⟩
 .rintro x0 _ ws _ ⟨a1,si,he⟩ hmt;refine Wu ?_ a1;refine Ws ?_
  rcases bs (decide<|x0<x1.b.length) with hca | hca
  .refine E z (s_L z he<|of_decide_eq_true hca) ?_;rintro _ wb ⟨rfl,aa,su⟩;refine Re z z z<|Wn<|Wq<|Wc z (λ_=>?_) (λhc=>(bcon z hc).elim)
   refine Wk<|Wb<|Ws<|Re z z z<|Re z z z<|Ra z<|Rw z<|Wq ?_
   obtain ⟨ab,huv,a2⟩:=bdS<|ifT hmt hca;refine Wt (λa w=>∃(xc:Bool),xc=ab/\Sat 43 [(3,vI (x0:Int)),(4,.int .i32<|(dec x1 x0).1),(5,vB xc),(16,pt h.z)] a/\Below wb.z wb w) ?_ ?_
   .refine Wg<|Rm z<|R z (b_t z z)<|Rm z ?_
    rcases bs (decide<|97<=((dec x1 x0).1)) with J | J
    .exact Rh z J (mv z)<|Rh z J (d_0 z z)<|R z (pT z J z)<|Ra z<|Wl (λ_ q=>⟨decide<|((dec x1 x0).1)<=122,som<|ifT huv J,q.k<|s4 z z z z,br wb⟩)
    exact Nh z J<|Nh z J<|R z (pF z J z)<|Ra z<|Wl (λ_ q=>⟨false,som<|ifF huv J,q.k<|s4 z z z z,br wb⟩)
   rintro ad wd ⟨xc,rfl,_,sj⟩;revert ad;refine Wo<|Wq ?_
   obtain ⟨ae,huw,a3⟩:=bdS a2;refine Wt (λa w=>∃(xf:Bool),xf=ae/\Sat 43 [(3,vI (x0:Int)),(5,vB xc),(6,vB xf),(16,pt h.z)] a/\Below wd.z wd w) ?_ ?_
   .refine Wg<|Rm z<|R z (b_t z z)<|Rm z ?_
    rcases bs (decide<|48<=((dec x1 x0).1)) with L | L
    .exact Rh z L (mv z)<|Rh z L (d_0 z z)<|R z (pT z L z)<|Ra z<|Wl (λ_ q=>⟨decide<|((dec x1 x0).1)<=57,som<|ifT huw L,q.k<|s4 z z z z,br wd⟩)
    exact Nh z L<|Nh z L<|R z (pF z L z)<|Ra z<|Wl (λ_ q=>⟨false,som<|ifF huw L,q.k<|s4 z z z z,br wd⟩)
   rintro af V ⟨xf,rfl,_,sk⟩;revert af;refine Wo<|Wq ?_
   obtain ⟨ah,hux,hmy⟩:=bdS a3;refine Wt (λa w=>∃(xl:Bool),xl=ah/\Sat 43 [(16,pt h.z),(42,vB xl)] a/\Below V.z V w) ?_ ?_
   .refine Wg<|Rm z<|R z (not_ z)<|Rm z ?_
    rcases bs (!xc) with G | G
    .have hmz:=ifT hux G;refine Rh z G (mv z)<|Rh z G (not_ z)<|Rh z G (mv z) ?_
     rcases bs (!xf) with O | O
     .exact Nh z O<|Nh z O<|Rh z G (pT z O z)<|R z (pT z G z)<|Wl (λ_ q=>⟨true,som<|ifT hmz O,q.k<|s2 z z,br V⟩)
     exact Rh z O (mv z)<|Rh z O (eql z z)<|Rh z G (pF z O z)<|R z (pT z G z)<|Wl (λ_ q=>⟨(x0:Int)==0,som<|ifF hmz O,q.k<|s2 z z,br V⟩)
    iterate 3 refine Nh z G ?_
    exact Nv z<|Nv z<|Nh z G<|R z (pF z G z)<|Wl (λ_ q=>⟨false,som<|ifF hux G,q.k<|s2 z z,br V⟩)
   rintro ai aj ⟨xl,rfl,_,sm⟩;revert ai;refine Wo<|Wc z (λhcn=>?_) (λhcn=>?_)
   .refine Ws<|Rw z ?_
    have W:=m1 s9.s;exact Wr<|rtO<|qL (som<|ifT hmy hcn).symm<|c_ hr z ⟨bup (bup (bup (bM (bM (bup s9 sq) si W) su W) sj) sk) sm,z⟩
   refine a_j ?_;exact λ_ q=>⟨x0+(dec x1 x0).2,(som<|ifF hmy hcn).symm,⟨q.k<|s1 z,(i_ (i_ (i_ (cM (cM (cr [h.z] H) si (io sr):Cg [h.z] H ws) su (io sr):Cg [h.z] H wb) sj:Cg [h.z] H wd) sk:Cg [h.z] H V) sm:Cg [h.z] H aj),((aa.e sj).e sk).e sm⟩⟩
  refine E z (s_M z he<|of_decide_eq_false hca) ?_;rintro _ ak ⟨rfl,Y⟩;refine Re z z z<|Wn<|Wq<|Wc z (λhc=>(bcon hc z).elim) (λ_=>?_)
  exact We<|λ_ q=>a_Q (som<|ifF hmt hca).symm ⟨q.k sn,(i_ (cM (cr [h.z] H) si (io sr):Cg [h.z] H ws) Y:Cg [h.z] H ak),he.e Y⟩
 .rintro x0 al _ rfl ⟨_,am,he⟩;have a4:=elL hmr;revert al;refine Wo<|Ws<|Rw z ?_
  obtain rfl:=som a4;exact Wr<|c_ hr z ⟨bM (bup s9 sq) am<|m1 s9.s,z⟩
 rintro _ _ _ _ rfl ⟨rfl,a5⟩;have a6:=elR hmr;obtain rfl:=som a6;exact ⟨a5,z⟩
theorem e_l {x1:d_}{x2:Bool}{x3:Bool}{x4:Bool}{x5:Bool}{x6:Int}{res:Bool}(hm:c_M x1 x2 x3 x4 x5 x6=some res)(a8:B<=w0.z)(a4:x1.name.b.length<=LEN)(a5:inI x1.kind)(a6:inI x1.size)(a0:repS w0 B (sl A9 N9 C9) x1.bytes)(a1:repS w0 B (sl A8 N8 C8) x1.names)(a2:repS w0 B (sl AA NA CA) x1.tags)(a3:repS w0 B (sl AB NB CB) x1.kids)(a7:inI x6):h_ prog 184 [(.agg #[Str.v x1.name,vI x1.kind,vI x1.size,vB x1.little,sl A9 N9 C9,sl A8 N8 C8,sl AA NA CA,sl AB NB CB]),vB x2,vB x3,vB x4,vB x5,vI x6] w0 (Q11 w0 B res):=by
 unfold c_M at hm
 refine goG func184 z z z λfn hr=>Ws<|E z (fb z) ?_
 rintro _ Y ⟨rfl,hd⟩;have ha:=hd.below;have hb:Blk Y w0.z (vR x1 A9 N9 C9 A8 N8 C8 AA NA CA AB NB CB):=hd.blk;refine Rw z<|Wq ?_
 obtain ⟨ur,hus,hmt⟩:=bdS hm;refine Wt (λa w=>∃(xc:Bool),xc=ur/\Sat 57 [(12,vB xc)] a/\Below Y.z Y w) ?_ ?_
 .refine Wg<|RM z z ?_
  obtain ⟨ue,huf,hmu⟩:=bdS hus;refine e_c 18 ue 4 ?_ ?_
  .rcases bs x2 with W | W
   .iterate 3 refine Nh z W ?_
    exact R z (pT z W z)<|WLq 4 (ifT huf W) z z z
   exact Rh z W (fd b_1 z)<|Rh z W (l0 g_3 z<|hb.at z)<|Rh z W (eql z z)<|R z (pF z W z)<|WLq 4 (ifF huf W) z z z
  refine Rm z ?_;obtain ⟨ug,huh,hmv⟩:=bdS hmu;refine e_c 27 ug 8 ?_ ?_
  .rcases bs ue with h | h
   .have hmi:=ifT huh h;refine Rh z h (mv z)<|Rh z h (mv z) ?_
    rcases bs x3 with L | L
    .iterate 4 refine Nh z L ?_
     exact Rh z h (pT z L z)<|R z (pT z h z)<|WLq 8 (ifT hmi L) z z z
    exact Rh z L (fd b_j z)<|Rh z L (l0 K_ z<|hb.at z)<|Rh z L (lnR k_ z<|a0.e ha)<|Rh z L (eql z z)<|Rh z h (pF z L z)<|R z (pT z h z)<|WLq 8 (ifF hmi L) z z z
   exact Nh z h<|Nh z h<|Nv z<|Nv z<|Nv z<|Nv z<|Nh z h<|R z (pF z h z)<|WLq 8 (ifF huh h) z z z
  refine Rm z ?_;obtain ⟨uj,huk,hmw⟩:=bdS hmv;refine e_c 36 uj 8 ?_ ?_
  .rcases bs ug with G | G
   .have hml:=ifT huk G;refine Rh z G (mv z)<|Rh z G (mv z) ?_
    rcases bs x4 with O | O
    .iterate 4 refine Nh z O ?_
     exact Rh z G (pT z O z)<|R z (pT z G z)<|WLq 8 (ifT hml O) z z z
    exact Rh z O (fd c_i z)<|Rh z O (l0 a_G z<|hb.at z)<|Rh z O (lnR F_ z<|a1.e ha)<|Rh z O (eql z z)<|Rh z G (pF z O z)<|R z (pT z G z)<|WLq 8 (ifF hml O) z z z
   exact Nh z G<|Nh z G<|Nv z<|Nv z<|Nv z<|Nv z<|Nh z G<|R z (pF z G z)<|WLq 8 (ifF huk G) z z z
  refine Rm z ?_;obtain ⟨um,hun,hmo⟩:=bdS hmw;refine e_c 45 um 8 ?_ ?_
  .rcases bs uj with H | H
   .have hmp:=ifT hun H;refine Rh z H (mv z)<|Rh z H (mv z) ?_
    rcases bs x5 with V | V
    .iterate 4 refine Nh z V ?_
     exact Rh z H (pT z V z)<|R z (pT z H z)<|WLq 8 (ifT hmp V) z z z
    exact Rh z V (fd b_k z)<|Rh z V (l0 H_ z<|hb.at z)<|Rh z V (lnR y_ z<|a2.e ha)<|Rh z V (eql z z)<|Rh z H (pF z V z)<|R z (pT z H z)<|WLq 8 (ifF hmp V) z z z
   exact Nh z H<|Nh z H<|Nv z<|Nv z<|Nv z<|Nv z<|Nh z H<|R z (pF z H z)<|WLq 8 (ifF hun H) z z z
  refine Rm z ?_
  rcases bs um with I | I
  .have hmq:=ifT hmo I;refine Rh z I (mv z)<|Rh z I (lss z z)<|Rh z I (mv z) ?_
   rcases bs (decide<|x6<0) with J | J
   .iterate 5 refine Nh z J ?_
    exact Rh z I (pT z J z)<|R z (pT z I z)<|Ra z<|Wl (λ_ q=>⟨true,som<|ifT hmq J,q.k<|s1 z,br Y⟩)
   exact Rh z J (fd a_1 z)<|Rh z J (l0 H_ z<|hb.at z)<|Rh z J (lnR y_ z<|a3.e ha)<|Rh z J (mv z)<|Rh z J (eql z z)<|Rh z I (pF z J z)<|R z (pT z I z)<|Ra z<|Wl (λ_ q=>⟨(x1.kids.length:Int)==x6,som<|ifF hmq J,q.k<|s1 z,br Y⟩)
  iterate 3 refine Nh z I ?_
  exact Nv z<|Nv z<|Nv z<|Nv z<|Nv z<|Nh z I<|R z (pF z I z)<|Ra z<|Wl (λ_ q=>⟨false,som<|ifF hmo I,q.k<|s1 z,br Y⟩)
 rintro ax _ ⟨xc,rfl,_,sy⟩;revert ax;refine Wo ?_;obtain rfl:=som hmt;exact Wr<|c_ hr z ⟨bup ha sy,z⟩
theorem l_Z {x1:f_}{x2:Int}{res:Int}(hm:f_M x1 x2=some res)(O:B<=w0.z)(H:repS w0 B (sl A0 N0 C0) x1.rules)(W:inI x2):h_ prog 185 [(.agg #[sl A0 N0 C0]),vI x2] w0 (Q0 w0 B res):=by
 unfold f_M at hm
 refine goG func185 z z z λfn hr=>Ws<|E z (fb z) ?_
 rintro _ J ⟨rfl,V⟩;have h2:=V.below;have h6:Blk J w0.z [sl A0 N0 C0]:=V.blk;refine Rw z<|Wq<|Wq ?_
 obtain ⟨uf,hug,hma⟩:=bdS hm;refine Wt (λa w=>∃(L:Bool),L=uf/\Sat 37 [(1,vI x2),(2,pt w0.z),(27,vB L)] a/\Below J.z J w) ?_ ?_
 .refine Wg<|R z (lN (vs:=[sl A0 N0 C0]) L_ D_ z z fid<|h6.row 0 1 z)<|Rm z ?_
  obtain ⟨rh,ei,hmb⟩:=bdS hug;refine E z (fc call152 z<|l_Y ei (zt' O h2.s) (H.e h2) W) ?_;rintro _ _ ⟨s4,rfl⟩;refine R z (not_ z)<|Rm z ?_
  rcases bs (!rh) with G | G
  .iterate 7 refine Nh z G ?_
   exact R z (pT z G z)<|Rm z<|Nh z z<|Nh z z<|Nh z z<|Nh z z<|Nh z z<|Nh z z<|Nh z z<|Nh z z<|R z (pT z z z)<|Wl (λ_ q=>⟨true,som<|ifT hmb G,q.k<|s3 z z z,s4⟩)
  refine Rh z G (fd a_s z) ?_;have hc:=h6.e s4;refine Rh z G (l0 a_u z<|hc.at z)<|Rh z G (mv z) ?_
  obtain ⟨xj,ek,hmd⟩:=bdS<|ifF hmb G;have he:=H.g<|(h2.ag B).e s4
  refine RXg z z G z (at_ (α:=d_) a_2 t_ z z z he ek) ?_;rintro _ ⟨_,_,_,rfl,hl,hn,_⟩;obtain ⟨_,_,_,_,_,_,_,_,_,_,_,_,rfl,_,_,_,_,_,_,_⟩:=b_3 hn;refine Rh z G (fd a_O z)<|Rh z G (l0 g_3 z<|hl.at (j:=1) z)<|Rh z G (nq z z)<|R z (pF z G z)<|Rm z ?_
  rcases bs (xj.kind != 1) with h | h
  .iterate 8 refine Nh z h ?_
   exact R z (pT z h z)<|Wl (λ_ q=>⟨true,som<|ifT hmd h,q.k<|s3 z z z,s4⟩)
  refine Rh z h (fd a_s z)<|Rh z h (l0 a_u z<|hc.at z)<|Rh z h (mv z) ?_
  obtain ⟨_,em,hmo⟩:=bdS<|ifF hmd h;refine RXg z z h z (at_ (α:=d_) a_2 t_ z z z he em) ?_;rintro _ ⟨_,_,_,rfl,hp,hq,_⟩;obtain ⟨_,_,_,_,_,_,_,_,_,_,_,_,rfl,_,_,ht,_,_,_,_⟩:=b_3 hq;refine Rh z h (fd b_1 z)<|Rh z h (l0 g_3 z<|hp.at (j:=2) z) ?_
  obtain ⟨rr,es,hmu⟩:=bdS hmo;refine Eg z z h z (fc call125 z<|d_S es (zt' O<|lt_ h2.s s4.s) ht (ii z)<|ii z) ?_;rintro _ _ ⟨sv,rfl⟩;exact Rh z h (not_ z)<|R z (pF z h z)<|Wl (λ_ q=>⟨!rr,som hmu,q.k<|s3 z z z,bup s4 sv⟩)
 rintro aw _ ⟨L,rfl,_,s5⟩;revert aw;refine Wo<|Wc z (λI=>?_) (λI=>?_)
 .refine Ws<|Rw z ?_
  obtain rfl:=som<|ifT hma I;exact Wr<|c_ hr z ⟨bup h2 s5,z,ii z⟩
 refine Wk<|Ws<|Rf z a_s z<|R z (l0 a_u z<|(h6.e s5).at z)<|Rm z ?_
 obtain ⟨_,ex,hmy⟩:=bdS<|ifF hma I;refine RX z (at_ (α:=d_) a_2 t_ z z z (H.g<|(h2.ag B).e s5) ex) ?_;rintro _ ⟨_,_,_,rfl,hz,a0,_⟩;obtain ⟨_,_,_,_,_,_,_,_,_,_,_,_,rfl,_,_,_,_,_,_,_⟩:=b_3 a0;refine Rf z b_1 z<|R z (l0 g_3 z<|hz.at (j:=2) z)<|R z (g_n z z) ?_
 obtain ⟨_,a1,Y⟩:=bdS hmy;refine R z (h_L z z<|nnS a1)<|R z (sb_ z z)<|Rw z ?_
 obtain rfl:=som Y;exact Wr<|c_ hr z ⟨bup h2 s5,z,iS _ _⟩
theorem W_w3i {x1:List Str}{x2:Str}{res:Bool}(hm:g_X x1 x2=some res)(a1:B<=w0.z)(h:repS w0 B (sl A0 N0 C0) x1)(a0:x2.b.length<=LEN):h_ prog 197 [sl A0 N0 C0,Str.v x2] w0 (Q11 w0 B res):=by
 unfold g_X at hm
 refine goG func197 z z z λfn hr=>Ws<|Rw z<|Wq<|Wm z<|R z (lnR F_ z h)<|Rm z<|Wn ?_
 obtain ⟨_,O,I⟩:=bdS hm;refine Wf (σ:=Unit) (ρ:=Bool) (λ(k3:Nat)(_:Unit) a w=>Sat 17 [(1,Str.v x2),(7,sl A0 N0 C0),(8,vI (x1.length:Int)),(9,vI ((k3:Nat):Int))] a/\Below w0.z w0 w) (λ(_:Unit) a w=>Sat 17 [] a/\Below w0.z w0 w) (rQ prog fn<|Q11 w0 B) O ?_ ?_ ?_ ?_ ?_
 .exact λ_ q=>⟨q.k<|s4 z z z z,br w0⟩
 .rintro k3 _ _ _ _ J ⟨V,H⟩ W;refine Wu ?_ V;refine Ws<|Rl z z z<|Wn<|Wq<|Wc z (λ_=>?_) (λhc=>(O_ J hc).elim)
  refine Wk<|Wq<|Wb<|Ws ?_
  obtain ⟨_,Y,L⟩:=bdS W;refine RX z (at_ (α:=Str) F_ z_9 z z z (h.e H) Y) ?_;rintro _ ⟨_,_,_,rfl,ha,hb,_⟩;obtain ⟨rfl,_⟩:=a_n hb;refine R z (l0 g_9 z<|ha.at0 z)<|Rw z<|Wm z<|Rm z<|R z (a_M z z)<|Wx z (λG=>?_) (λG=>?_)
  .exact Ws<|Rw z<|Wr<|rtO<|qL (som<|ifT L G).symm<|c_ hr z ⟨H,z⟩
  exact Wk<|Wg<|R z (inc_ J (lt_ (repS.len h) z_) z z)<|Rm z<|Wl (λ_ q=>⟨(),(som<|ifF L G).symm,⟨q.k<|s4 z z z z,H⟩⟩)
 .rintro _ _ _ ⟨hSc,sd⟩;refine Wu ?_ hSc;refine Ws<|Rl z z z<|Wn<|Wq<|Wc z (λhc=>(P_ hc).elim) (λ_=>?_)
  exact We<|λ_ q=>⟨rfl,⟨q.k sn,sd⟩⟩
 .rintro _ ae _ rfl ⟨_,sf⟩;have hmg:=elL I;revert ae;refine Wo<|Ws<|Rw z ?_
  obtain rfl:=som hmg;exact Wr<|c_ hr z ⟨sf,z⟩
 rintro _ _ _ _ rfl ⟨rfl,hqh⟩;have hmi:=elR I;obtain rfl:=som hmi;exact ⟨hqh,z⟩
theorem W_w3j {x1:d_}{res:Bool}(hm:i_u n x1=some res)(L:B<=w0.z)(W:x1.name.b.length<=LEN)(Y:inI x1.kind)(a0:inI x1.size)(a1:repS w0 B (sl A9 N9 C9) x1.bytes)(I:repS w0 B (sl A8 N8 C8) x1.names)(a2:repS w0 B (sl AA NA CA) x1.tags)(V:repS w0 B (sl AB NB CB) x1.kids):h_ prog 186 [(.agg #[Str.v x1.name,vI x1.kind,vI x1.size,vB x1.little,sl A9 N9 C9,sl A8 N8 C8,sl AA NA CA,sl AB NB CB])] w0 (Q11 w0 B res):=by
 unfold i_u at hm
 refine goG func186 z z z λfn hr=>Ws<|E z (fb z) ?_
 rintro _ O ⟨rfl,hi⟩;have h1:=hi.below;have ha:Blk O w0.z (vR x1 A9 N9 C9 A8 N8 C8 AA NA CA AB NB CB):=hi.blk;refine Rw z<|Wq<|Wq ?_
 obtain ⟨uy,huz,hmj⟩:=bdS hm;refine Wt (λa w=>∃(xb:Bool),xb=uy/\Sat 44 [(1,pt w0.z),(23,vB xb)] a/\Below O.z O w) ?_ ?_
 .refine Wg<|R z (lN (vs:=vR x1 A9 N9 C9 A8 N8 C8 AA NA CA AB NB CB) Q_ t_ z z fid<|ha.row 0 8 z) ?_
  obtain ⟨ah,ai,hmk⟩:=bdS huz;refine E z (fc call184 z<|e_l ai (zt' L h1.s) W Y a0 (a1.e h1) (I.e h1) (a2.e h1) (V.e h1)<|ii z) ?_;rintro _ _ ⟨s6,rfl⟩;refine R z (not_ z)<|Rm z ?_
  rcases bs (!ah) with h | h
  .iterate 7 refine Nh z h ?_
   exact R z (pT z h z)<|Rm z<|Nh z z<|Nh z z<|Nh z z<|Nh z z<|Nh z z<|R z (pT z z z)<|Wl (λ_ q=>⟨true,som<|ifT hmk h,q.k<|s2 z z,s6⟩)
  have hml:=ifF hmk h;refine Rh z h (fd a_1 z) ?_;have hd:=ha.e s6;refine Rh z h (l0 H_ z<|hd.at z) ?_;have hn:=(h1.ag B).e s6;have he:=V.g hn;refine Rh z h (lnR y_ z he)<|Rh z h (fd c_i z)<|Rh z h (l0 a_G z<|hd.at z)<|Rh z h (lnR F_ z<|I.g hn)<|Rh z h (nq z z)<|R z (pF z h z)<|Rm z ?_
  rcases bs ((x1.kids.length:Int) != (x1.names.length:Int)) with H | H
  .iterate 5 refine Nh z H ?_
   exact R z (pT z H z)<|Wl (λ_ q=>⟨true,som<|ifT hml H,q.k<|s2 z z,s6⟩)
  refine Rh z H (fd a_1 z)<|Rh z H (l0 H_ z<|hd.at z)<|Rh z H (lnR y_ z he) ?_
  obtain ⟨aj,ak,a3⟩:=bdS<|ifF hml H;refine Eg z z H z (fc call125 z<|d_S ak (zt' L<|lt_ h1.s s6.s) (b_Y<|repS.len he) (ii z)<|ii z) ?_;rintro _ _ ⟨al,rfl⟩;exact Rh z H (not_ z)<|R z (pF z H z)<|Wl (λ_ q=>⟨!aj,som a3,q.k<|s2 z z,bup s6 al⟩)
 rintro am J ⟨xb,rfl,_,s7⟩;revert am;refine Wo<|Wc z (λhcc=>?_) (λhcc=>?_)
 .refine Ws<|Rw z ?_
  obtain rfl:=som<|ifT hmj hcc;exact Wr<|c_ hr z ⟨bup h1 s7,z⟩
 refine Wk<|Wq<|Ws<|Rf z c_i z ?_
 have ho:=ha.e s7;refine R z (l0 a_G z<|ho.at z) ?_;have hp:=(h1.ag B).e s7;refine R z (lnR F_ z<|I.g hp)<|Rm z<|Wn ?_
 obtain ⟨_,a4,hmm⟩:=bdS<|ifF hmj hcc;refine Wf (σ:=Unit) (ρ:=Bool) (λ(kf:Nat)(_:Unit) a w=>Sat 44 [(1,pt w0.z),(25,sl A8 N8 C8),(26,vI (x1.names.length:Int)),(27,vI ((kf:Nat):Int))] a/\Below J.z J w) (λ(_:Unit) a w=>Sat 44 [] a/\Below J.z J w) (rQ prog fn<|Q11 w0 B) a4 ?_ ?_ ?_ ?_ ?_
 .exact λ_ q=>⟨q.k<|s4 z z z z,br J⟩
 .rintro kf _ _ wq _ hkr ⟨a5,s8⟩ a6;refine Wu ?_ a5;refine Ws<|Rl z z z<|Wn<|Wq<|Wc z (λ_=>?_) (λhc=>(O_ hkr hc).elim)
  refine Wk<|Wq<|Wb<|Wm z ?_
  obtain ⟨_,an,a7⟩:=bdS a6;have ht:=hp.e s8;refine RX z (at_ (α:=Str) F_ z_9 z z z (I.g ht) an) ?_;rintro _ ⟨_,_,_,rfl,ao,ap,_⟩;obtain ⟨rfl,hu⟩:=a_n ap;refine R z (l0 g_9 z<|ao.at0 z)<|Ra z<|Rw z<|Wq ?_
  obtain ⟨aq,a8,hms⟩:=bdS a7;refine Wt (λa w=>∃(xg:Bool),xg=aq/\Sat 44 [(1,pt w0.z),(25,sl A8 N8 C8),(26,vI (x1.names.length:Int)),(27,vI ((kf:Nat):Int)),(42,vB xg)] a/\Below wq.z wq w) ?_ ?_
  .refine Wg<|Rm z ?_
   have hv:=lt_ (lt_ h1.s s7.s) s8.s;obtain ⟨ar,au,hmw⟩:=bdS a8;refine E z (fc call137 z<|j_X au (zt' L hv) hu) ?_;rintro _ _ ⟨s9,rfl⟩;refine R z (not_ z)<|Rm z ?_
   rcases bs (!ar) with G | G
   .iterate 6 refine Nh z G ?_
    exact R z (pT z G z)<|Wl (λ_ q=>⟨true,som<|ifT hmw G,q.k<|s5 z z z z z,s9⟩)
   refine Rh z G (fd c_i z)<|Rh z G (l0 a_G z<|((ho.e s8).e s9).at z)<|Rh z G (mv z) ?_
   obtain ⟨_,av,a9⟩:=bdS<|ifF hmw G;refine RXg z z G z (rX F_ z_9 z z (I.g<|ht.e s9) z z av) ?_;rintro _ ⟨_,_,_,rfl,aw⟩;refine Rh z G (mv z) ?_;obtain ⟨ax,ay,aa⟩:=bdS a9;refine Eg z z G z (fc call197 z<|W_w3i ay (zt' L<|lt_ hv s9.s) aw hu) ?_;rintro _ _ ⟨az,rfl⟩;exact R z (pF z G z)<|Wl (λ_ q=>⟨ax,som aa,q.k<|s5 z z z z z,bup s9 az⟩)
  rintro aA _ ⟨xg,rfl,_,sx⟩;revert aA;refine Wo<|Wc z (λhch=>?_) (λhch=>?_)
  .exact Ws<|Rw z<|Wr<|rtO<|qL (som<|ifT hms hch).symm<|c_ hr z ⟨bup (bup (bup h1 s7) s8) sx,z⟩
  exact Wk<|Wg<|R z (inc_ hkr (lt_ (repS.len I) z_) z z)<|Rm z<|Wl (λ_ q=>⟨(),(som<|ifF hms hch).symm,⟨q.k<|s4 z z z z,bup s8 sx⟩⟩)
 .rintro _ _ _ ⟨ab,aB⟩;refine Wu ?_ ab;refine Ws<|Rl z z z<|Wn<|Wq<|Wc z (λhc=>(P_ hc).elim) (λ_=>?_)
  exact We<|λ_ q=>⟨rfl,⟨q.k sn,aB⟩⟩
 .rintro _ aC _ rfl ⟨_,aD⟩;have ad:=elL hmm;revert aC;refine Wo<|Ws<|Rw z ?_
  obtain rfl:=som ad;exact Wr<|c_ hr z ⟨bup (bup h1 s7) aD,z⟩
 rintro _ _ _ _ rfl ⟨rfl,ae⟩;have af:=elR hmm;obtain rfl:=som af;exact ⟨ae,z⟩
theorem W_w3k {x1:f_}{x2:d_}{res:Bool}(hm:i_v x1 x2=some res)(O:B<=w0.z)(a4:repS w0 B (sl A0 N0 C0) x1.rules)(a5:x2.name.b.length<=LEN)(a6:inI x2.kind)(a7:inI x2.size)(a8:repS w0 B (sl A3 N3 C3) x2.bytes)(a9:repS w0 B (sl A5 N5 C5) x2.names)(J:repS w0 B (sl A2 N2 C2) x2.tags)(V:repS w0 B (sl A6 N6 C6) x2.kids):h_ prog 187 [(.agg #[sl A0 N0 C0]),(.agg #[Str.v x2.name,vI x2.kind,vI x2.size,vB x2.little,sl A3 N3 C3,sl A5 N5 C5,sl A2 N2 C2,sl A6 N6 C6])] w0 (Q11 w0 B res):=by
 unfold i_v at hm
 refine goG func187 z z z λfn hr=>Ws<|E z (fb z) ?_
 rintro _ L ⟨rfl,hn⟩;have h4:=hn.below;refine E z (fb z) ?_;rintro _ wg ⟨rfl,ho⟩;have h3:=ho.below;have he:Blk wg L.z (vR x2 A3 N3 C3 A5 N5 C5 A2 N2 C2 A6 N6 C6):=ho.blk;refine Rw z<|Wq<|Wq ?_
 obtain ⟨aq,aa,hmp⟩:=bdS hm;refine Wt (λa w=>∃(xh:Bool),xh=aq/\Sat 57 [(2,pt w0.z),(3,pt L.z),(21,vB xh)] a/\Below wg.z wg w) ?_ ?_
 .refine Wg<|R z (lN (vs:=vR x2 A3 N3 C3 A5 N5 C5 A2 N2 C2 A6 N6 C6) Q_ t_ z z fid<|he.row 0 8 z)<|Rf z b_k z<|R z (l0 H_ z<|he.at z) ?_
  have h6:=(h4.ag B).e h3;have hq:=J.g h6;refine R z (lnR y_ z hq)<|R z (add_ z z) ?_
  have ht:=lt_ h4.s h3.s;obtain ⟨ar,au,hmr⟩:=bdS aa;refine E z (fc call184 z<|e_l au (zt' O ht) a5 a6 a7 (a8.g h6) (a9.g h6) hq (V.g h6)<|iA _ _) ?_;rintro _ _ ⟨s9,rfl⟩;refine R z (not_ z)<|Rm z ?_
  rcases bs (!ar) with I | I
  .iterate 5 refine Nh z I ?_
   exact R z (pT z I z)<|Wl (λ_ q=>⟨true,som<|ifT hmr I,q.k<|s3 z z z,s9⟩)
  refine Rh z I (fd b_k z)<|Rh z I (l0 H_ z<|(he.e s9).at z) ?_
  have hu:=J.g<|h6.e s9
  refine Rh z I (lnR y_ z hu) ?_;obtain ⟨av,aw,ab⟩:=bdS<|ifF hmr I;refine Eg z z I z (fc call125 z<|d_S aw (zt' O<|lt_ ht s9.s) (b_Y<|repS.len hu) (ii z)<|ii z) ?_;rintro _ _ ⟨ax,rfl⟩;exact Rh z I (not_ z)<|R z (pF z I z)<|Wl (λ_ q=>⟨!av,som ab,q.k<|s3 z z z,bup s9 ax⟩)
 rintro ay _ ⟨xh,rfl,_,s7⟩;revert ay;refine Wo<|Wc z (λhci=>?_) (λhci=>?_)
 .refine Ws<|Rw z ?_
  obtain rfl:=som<|ifT hmp hci;exact Wr<|c_ hr z ⟨bup (bup h4 h3) s7,z⟩
 refine Wk<|Wq (Wd (X:=noX) 0 (pl_ 7 [5]) mo (by kernel_rfl) λaV s8 _=>dR z z (lN (vs:=[sl A0 N0 C0]) L_ D_ z z fid<|((((hn.blk:Blk L w0.z [sl A0 N0 C0]).e h3).e s7).e s8).row 0 1 z)<|dR z z (fd a_1 z) ?_)
 have hv:=(he.e s7).e s8;refine dR z z (l0 H_ z<|hv.at z) ?_;obtain ⟨_,az,ad⟩:=bdS<|ifF hmp hci;have hj:=(((h4.ag B).e h3).e s7).e s8;refine dRX z z (at_ (α:=Int) y_ z_3 z z z (V.g hj) az) ?_;rintro _ ⟨_,_,_,rfl,aA,aB,_⟩;obtain ⟨rfl,aC⟩:=V_ aB;refine dR z z (l0 g_3 z<|aA.at0 z) ?_;have hw:=lt_ (lt_ (lt_ h4.s h3.s) s7.s) s8.s;obtain ⟨rk,aD,ae⟩:=bdS ad;refine dE z z (fc call185 z<|l_Z aD (zt' O hw) (a4.g hj) aC) (.inr λ_ _ h=>E_<|h.1) ?_;rintro _ wa ⟨sb,rfl,aE⟩;refine dQ z z z<|pD<|Wo<|Wq<|Ws<|Rf z b_k z ?_
 have hx:=hv.e sb;refine R z (l0 H_ z<|hx.at z) ?_;have hy:=hj.e sb;refine R z (lnR y_ z<|J.g hy)<|Rm z<|Wn ?_
 obtain ⟨_,af,hms⟩:=bdS ae;refine Wf (σ:=Unit) (ρ:=Bool) (λ(kf:Nat)(_:Unit) a w=>Sat 57 [(3,pt L.z),(5,vI rk),(29,sl A2 N2 C2),(30,vI (x2.tags.length:Int)),(31,vI ((kf:Nat):Int))] a/\Below wa.z wa w) (λ(_:Unit) a w=>Sat 57 [(5,vI rk)] a/\Below wa.z wa w) (rQ prog fn<|Q11 w0 B) af ?_ ?_ ?_ ?_ ?_
 .exact λ_ q=>⟨q.k<|s5 z z z z z,br wa⟩
 .rintro kf _ _ wz _ W ⟨ah,sc⟩ ai;refine Wu ?_ ah;refine Ws<|Rl z z z<|Wn<|Wq<|Wc z (λ_=>?_) (λhc=>(O_ W hc).elim)
  refine Wk<|Wq<|Wb<|Wm z ?_
  obtain ⟨aF,aG,aj⟩:=bdS ai;have a2:=hy.e sc;refine RX z (at_ (α:=Int) y_ z_3 z z z (J.g a2) aG) ?_;rintro _ ⟨_,_,_,rfl,aH,aI,_⟩;obtain ⟨rfl,aJ⟩:=V_ aI;refine R z (l0 g_3 z<|aH.at0 z)<|Ra z<|Rw z<|Wq ?_
  obtain ⟨aK,ak,Y⟩:=bdS aj;refine Wt (λa w=>∃(xl:Bool),xl=aK/\Sat 57 [(3,pt L.z),(5,vI rk),(29,sl A2 N2 C2),(30,vI (x2.tags.length:Int)),(31,vI ((kf:Nat):Int)),(53,vB xl)] a/\Below wz.z wz w) ?_ ?_
  .refine Wg<|RM z z ?_
   obtain ⟨aL,aM,a0⟩:=bdS ak;refine E z (fc call125 z<|d_S aM (zt' O<|lt_ (lt_ hw sb.s) sc.s) aJ (ii z) aE) ?_;rintro _ _ ⟨sd,rfl⟩;refine R z (not_ z)<|Rm z ?_
   rcases bs (!aL) with H | H
   .iterate 3 refine Nh z H ?_
    exact Nv z<|Nv z<|Nv z<|Nv z<|Nv z<|Nv z<|Nv z<|Nv z<|Nh z H<|R z (pT z H z)<|Wl (λ_ q=>⟨true,som<|ifT a0 H,q.k<|s6 z z z z z z,sd⟩)
   have a1:=ifF a0 H;refine Rh z H (mv z)<|Rh z H (X_ z z)<|Rh z H (mv z) ?_
   rcases bs (decide<|0<((kf:Nat):Int)) with G | G
   .refine Rh z G (fd b_k z)<|Rh z G (l0 H_ z<|((hx.e sc).e sd).at z)<|Rh z G (mv z)<|Rh z G (sb_ z z) ?_
    obtain ⟨aN,aO,al⟩:=bdS<|ifT a1 G;refine RXg z z G z (at_ (α:=Int) y_ z_3 z z z (J.g<|a2.e sd) aO) ?_;rintro _ ⟨_,_,_,rfl,aP,aQ,_⟩;obtain ⟨rfl,_⟩:=V_ aQ;exact Rh z G (l0 g_3 z<|aP.at0 z)<|Rh z G (mv z)<|Rh z G (b_t z z)<|Rh z H (pT z G z)<|R z (pF z H z)<|Wl (λ_ q=>⟨decide<|aF<=aN,som al,q.k<|s6 z z z z z z,sd⟩)
   iterate 8 refine Nh z G ?_
   exact Rh z H (pF z G z)<|R z (pF z H z)<|Wl (λ_ q=>⟨false,som<|ifF a1 G,q.k<|s6 z z z z z z,sd⟩)
  rintro aR _ ⟨xl,rfl,_,a3⟩;revert aR;refine Wo<|Wc z (λhcm=>?_) (λhcm=>?_)
  .exact Ws<|Rw z<|Wr<|rtO<|qL (som<|ifT Y hcm).symm<|c_ hr z ⟨bup (bup (bup (bup (bup (bup h4 h3) s7) s8) sb) sc) a3,z⟩
  exact Wk<|Wg<|R z (inc_ W (lt_ (repS.len J) z_) z z)<|Rm z<|Wl (λ_ q=>⟨(),(som<|ifF Y hcm).symm,⟨q.k<|s5 z z z z z,bup sc a3⟩⟩)
 .rintro _ _ _ ⟨am,aS⟩;refine Wu ?_ am;refine Ws<|Rl z z z<|Wn<|Wq<|Wc z (λhc=>(P_ hc).elim) (λ_=>?_)
  exact We<|λ_ q=>⟨rfl,⟨q.k<|s1 z,aS⟩⟩
 .rintro _ aT _ rfl ⟨_,aU⟩;have an:=elL hms;revert aT;refine Wo<|Wm z<|R z (X_ z z)<|Rw z ?_
  obtain rfl:=som an;exact Wr<|c_ hr z ⟨bup (bup (bup (bup (bup h4 h3) s7) s8) sb) aU,z⟩
 rintro _ _ _ _ rfl ⟨rfl,ao⟩;have ap:=elR hms;obtain rfl:=som ap;exact ⟨ao,z⟩
theorem W_w3l {x1:f_}{x2:d_}{res:Bool}(hm:i_w n x1 x2=some res)(L:B<=w0.z)(a7:repS w0 B (sl A0 N0 C0) x1.rules)(a3:x2.name.b.length<=LEN)(a4:inI x2.kind)(V:inI x2.size)(W:repS w0 B (sl A3 N3 C3) x2.bytes)(a5:repS w0 B (sl A5 N5 C5) x2.names)(a6:repS w0 B (sl A2 N2 C2) x2.tags)(Y:repS w0 B (sl A6 N6 C6) x2.kids):h_ prog 153 [(.agg #[sl A0 N0 C0]),(.agg #[Str.v x2.name,vI x2.kind,vI x2.size,vB x2.little,sl A3 N3 C3,sl A5 N5 C5,sl A2 N2 C2,sl A6 N6 C6])] w0 (Q11 w0 B res):=by
 unfold i_w at hm
 refine goG func153 z z z λfn hr=>Ws<|E z (fb z) ?_
 rintro _ ww ⟨rfl,aJ⟩;have h1:=aJ.below;have hx:Blk ww w0.z [sl A0 N0 C0]:=aJ.blk;refine E z (fb z) ?_;rintro _ J ⟨rfl,aK⟩;have G:=aK.below;have h6:Blk J ww.z (vR x2 A3 N3 C3 A5 N5 C5 A2 N2 C2 A6 N6 C6):=aK.blk;refine Rw z<|Wq<|Ws<|Rf z a_O z<|R z (l0 g_3 z<|h6.at z)<|Wn<|Wb<|Ws<|Rq z z z<|Rw z<|Wc z (λhcy=>?_) (λhcy=>?_)
 .refine Wq ?_;obtain ⟨bp,b1,b2⟩:=bdS<|ifT hm hcy;refine Wt (λa w=>∃(xz:Bool),xz=bp/\Sat 102 [(4,vB xz)] a/\Below J.z J w) ?_ ?_
  .refine Wg<|R z (lN (vs:=vR x2 A3 N3 C3 A5 N5 C5 A2 N2 C2 A6 N6 C6) Q_ t_ z z fid<|h6.row 0 8 z) ?_
   have hq:=(h1.ag B).e G;have aL:=lt_ h1.s G.s;obtain ⟨bq,bt,ap⟩:=bdS b1;refine E z (fc call184 z<|e_l bt (zt' L aL) a3 a4 V (W.g hq) (a5.g hq) (a6.g hq) (Y.g hq)<|ii z) ?_;rintro _ _ ⟨se,rfl⟩;refine Rm z ?_
   rcases bs bq with hca | hca
   .refine Rh z hca (fd b_1 z) ?_;have aM:=h6.e se;refine Rh z hca (l0 g_3 z<|aM.at z) ?_;obtain ⟨bu,bv,aq⟩:=bdS<|ifT ap hca;refine Eg z z hca z (fc call125 z<|d_S bv (zt' L<|lt_ aL se.s) V (ii z)<|ii z) ?_;rintro _ _ ⟨sr,rfl⟩;refine R z (pT z hca z)<|Rm z ?_
    rcases bs bu with O | O
    .have ar:=ifT aq O;refine Rh z O (fd d_j z) ?_;have aN:=aM.e sr;refine Rh z O (l0 g_4 z<|aN.at z)<|Rh z O (not_ z)<|Rh z O (mv z) ?_
     rcases bs (!x2.little) with hcb | hcb
     .iterate 3 refine Nh z hcb ?_
      exact Rh z O (pT z hcb z)<|R z (pT z O z)<|Ra z<|Wl (λ_ q=>⟨true,som<|ifT ar hcb,q.k<|s1 z,bup se sr⟩)
     exact Rh z hcb (fd b_1 z)<|Rh z hcb (l0 g_3 z<|aN.at z)<|Rh z hcb (X_ z z)<|Rh z O (pF z hcb z)<|R z (pT z O z)<|Ra z<|Wl (λ_ q=>⟨decide<|1<x2.size,som<|ifF ar hcb,q.k<|s1 z,bup se sr⟩)
    iterate 4 refine Nh z O ?_
    exact Nv z<|Nv z<|Nv z<|Nh z O<|R z (pF z O z)<|Ra z<|Wl (λ_ q=>⟨false,som<|ifF aq O,q.k<|s1 z,bup se sr⟩)
   iterate 3 refine Nh z hca ?_
   exact R z (pF z hca z)<|Rm z<|Nh z z<|Nh z z<|Nh z z<|Nh z z<|Nv z<|Nv z<|Nv z<|Nh z z<|R z (pF z z z)<|Ra z<|Wl (λ_ q=>⟨false,som<|ifF ap hca,q.k<|s1 z,se⟩)
  rintro bw _ ⟨xz,rfl,_,bx⟩;revert bw;refine Wo ?_;obtain rfl:=som b2;exact Wr<|rtO<|c_ hr z ⟨bup (bup h1 G) bx,z⟩
 have au:=ifF hm hcy;refine Ws<|Rq z z z<|Rw z<|Wc z (λa8=>?_) (λa8=>?_)
 .refine Wq ?_;obtain ⟨bz,b3,b4⟩:=bdS<|ifT au a8;refine Wt (λa w=>∃(aj:Bool),aj=bz/\Sat 102 [(4,vB aj)] a/\Below J.z J w) ?_ ?_
  .refine Wg<|R z (lN (vs:=vR x2 A3 N3 C3 A5 N5 C5 A2 N2 C2 A6 N6 C6) Q_ t_ z z fid<|h6.row 0 8 z) ?_
   have hj:=(h1.ag B).e G;have aO:=lt_ h1.s G.s;obtain ⟨bA,bB,av⟩:=bdS b3;refine E z (fc call184 z<|e_l bB (zt' L aO) a3 a4 V (W.g hj) (a5.g hj) (a6.g hj) (Y.g hj)<|ii z) ?_;rintro _ _ ⟨sk,rfl⟩;refine Rm z ?_
   rcases bs bA with a1 | a1
   .refine Rh z a1 (fd b_j z)<|Rh z a1 (l0 K_ z<|(h6.e sk).at z) ?_
    have aP:=W.g<|hj.e sk
    refine Rh z a1 (lnR k_ z aP) ?_;obtain ⟨bC,bD,b5⟩:=bdS<|ifT av a1;refine Eg z z a1 z (fc call125 z<|d_S bD (zt' L<|lt_ aO sk.s) (b_Y<|repS.len aP) (ii z)<|ii z) ?_;rintro _ _ ⟨bE,rfl⟩;exact R z (pT z a1 z)<|Ra z<|Wl (λ_ q=>⟨bC,som b5,q.k<|s1 z,bup sk bE⟩)
   iterate 4 refine Nh z a1 ?_
   exact R z (pF z a1 z)<|Ra z<|Wl (λ_ q=>⟨false,som<|ifF av a1,q.k<|s1 z,sk⟩)
  rintro bF _ ⟨aj,rfl,_,bG⟩;revert bF;refine Wo ?_;obtain rfl:=som b4;exact Wr<|rtO<|c_ hr z ⟨bup (bup h1 G) bG,z⟩
 have aw:=ifF au a8;refine Ws<|Rq z z z<|Rw z<|Wc z (λa9=>?_) (λa9=>?_)
 .refine Wq ?_;obtain ⟨bH,b6,b7⟩:=bdS<|ifT aw a9;refine Wt (λa w=>∃(ak:Bool),ak=bH/\Sat 102 [(4,vB ak)] a/\Below J.z J w) ?_ ?_
  .refine Wg<|R z (lN (vs:=vR x2 A3 N3 C3 A5 N5 C5 A2 N2 C2 A6 N6 C6) Q_ t_ z z fid<|h6.row 0 8 z) ?_
   have ht:=(h1.ag B).e G;have aQ:=lt_ h1.s G.s;obtain ⟨bI,bJ,ax⟩:=bdS b6;refine E z (fc call184 z<|e_l bJ (zt' L aQ) a3 a4 V (W.g ht) (a5.g ht) (a6.g ht) (Y.g ht)<|ii z) ?_;rintro _ _ ⟨ss,rfl⟩;refine Rm z ?_
   rcases bs bI with hcc | hcc
   .refine Rh z hcc (fd b_1 z)<|Rh z hcc (l0 g_3 z<|(h6.e ss).at z) ?_
    obtain ⟨bK,bL,b8⟩:=bdS<|ifT ax hcc;refine Eg z z hcc z (fc call125 z<|d_S bL (zt' L<|lt_ aQ ss.s) V (ii z)<|ii z) ?_;rintro _ _ ⟨bM,rfl⟩;exact R z (pT z hcc z)<|Ra z<|Wl (λ_ q=>⟨bK,som b8,q.k<|s1 z,bup ss bM⟩)
   iterate 3 refine Nh z hcc ?_
   exact R z (pF z hcc z)<|Ra z<|Wl (λ_ q=>⟨false,som<|ifF ax hcc,q.k<|s1 z,ss⟩)
  rintro bN _ ⟨ak,rfl,_,bO⟩;revert bN;refine Wo ?_;obtain rfl:=som b7;exact Wr<|rtO<|c_ hr z ⟨bup (bup h1 G) bO,z⟩
 have ay:=ifF aw a9;refine Ws<|Rq z z z<|Rw z<|Wc z (λaa=>?_) (λaa=>?_)
 .refine Wq ?_;obtain ⟨bP,b9,ba⟩:=bdS<|ifT ay aa;refine Wt (λa w=>∃(al:Bool),al=bP/\Sat 102 [(4,vB al)] a/\Below J.z J w) ?_ ?_
  .refine Wd (X:=noX) 0 (pl_ 12 [1,8]) mo (by kernel_rfl) λcv sf _=>?_
   have aR:=h6.e sf;refine dR z z (lN (vs:=vR x2 A3 N3 C3 A5 N5 C5 A2 N2 C2 A6 N6 C6) Q_ t_ z z fid<|aR.row 0 8 z) ?_;have hl:=((h1.ag B).e G).e sf;have aS:=lt_ (lt_ h1.s G.s) sf.s;obtain ⟨bQ,bR,az⟩:=bdS b9;refine dE z z (fc call184 z<|e_l bR (zt' L aS) a3 a4 V (W.g hl) (a5.g hl) (a6.g hl) (Y.g hl)<|ii z) (.inr λ_ _ h=>E_<|h.1) ?_;rintro _ _ ⟨sg,rfl⟩;refine dM z z z ?_
   rcases bs bQ with H | H
   .refine dRg z z z H z (lN (vs:=[sl A0 N0 C0]) L_ D_ z z fid<|(((hx.e G).e sf).e sg).row 0 1 z)<|dRg z z z H z (fd a_1 z)<|dRg z z z H z (l0 H_ z<|(aR.e sg).at z) ?_
    obtain ⟨_,bS,bb⟩:=bdS<|ifT az H;have aT:=hl.e sg;refine a_L z z z H z (at_ (α:=Int) y_ z_3 z z z (Y.g aT) bS) ?_;rintro _ ⟨_,_,_,rfl,bT,bU,_⟩;obtain ⟨rfl,bV⟩:=V_ bU;refine dRg z z z H z (l0 g_3 z<|bT.at0 z) ?_;obtain ⟨bW,bX,bc⟩:=bdS bb;refine dEg z z z H z (fc call185 z<|l_Z bX (zt' L<|lt_ aS sg.s) (a7.g aT) bV) (.inr λ_ _ h=>E_<|h.1) ?_;rintro _ _ ⟨bY,rfl,_⟩;exact dRg z z z H z (X_ z z)<|dR z z (pT z H z)<|dQ z z z<|pD (λ_ q=>⟨decide<|0<bW,som bc,q.k<|s1 z,bup (bup sf sg) bY⟩)
   iterate 5 refine dRn z z z H z ?_
   exact dEn z z z H z<|dRn z z z H z<|dR z z (pF z H z)<|dQ z z z<|pD (λ_ q=>⟨false,som<|ifF az H,q.k<|s1 z,bup sf sg⟩)
  rintro bZ _ ⟨al,rfl,_,c0⟩;revert bZ;refine Wo ?_;obtain rfl:=som ba;exact Wr<|rtO<|c_ hr z ⟨bup (bup h1 G) c0,z⟩
 have aA:=ifF ay aa;refine Ws<|Rq z z z<|Rw z<|Wc z (λab=>?_) (λab=>?_)
 .refine Wq ?_;obtain ⟨c1,be,bf⟩:=bdS<|ifT aA ab;refine Wt (λa w=>∃(am:Bool),am=c1/\Sat 102 [(4,vB am)] a/\Below J.z J w) ?_ ?_
  .refine Wd (X:=noX) 0 (pl_ 12 [1,8]) mo (by kernel_rfl) λcw sh _=>?_
   have aU:=h6.e sh;refine dR z z (lN (vs:=vR x2 A3 N3 C3 A5 N5 C5 A2 N2 C2 A6 N6 C6) Q_ t_ z z fid<|aU.row 0 8 z) ?_;have hn:=((h1.ag B).e G).e sh;have aV:=lt_ (lt_ h1.s G.s) sh.s;obtain ⟨c2,c3,aB⟩:=bdS be;refine dE z z (fc call184 z<|e_l c3 (zt' L aV) a3 a4 V (W.g hn) (a5.g hn) (a6.g hn) (Y.g hn)<|ii z) (.inr λ_ _ h=>E_<|h.1) ?_;rintro _ _ ⟨si,rfl⟩;refine dM z z z ?_
   rcases bs c2 with I | I
   .refine dRg z z z I z (lN (vs:=[sl A0 N0 C0]) L_ D_ z z fid<|(((hx.e G).e sh).e si).row 0 1 z)<|dRg z z z I z (fd a_1 z)<|dRg z z z I z (l0 H_ z<|(aU.e si).at z) ?_
    obtain ⟨_,c4,bg⟩:=bdS<|ifT aB I;have aW:=hn.e si;refine a_L z z z I z (at_ (α:=Int) y_ z_3 z z z (Y.g aW) c4) ?_;rintro _ ⟨_,_,_,rfl,c5,c6,_⟩;obtain ⟨rfl,c7⟩:=V_ c6;refine dRg z z z I z (l0 g_3 z<|c5.at0 z) ?_;obtain ⟨c8,c9,bh⟩:=bdS bg;refine dEg z z z I z (fc call185 z<|l_Z c9 (zt' L<|lt_ aV si.s) (a7.g aW) c7) (.inr λ_ _ h=>E_<|h.1) ?_;rintro _ _ ⟨ca,rfl,_⟩;exact dRg z z z I z (X_ z z)<|dR z z (pT z I z)<|dQ z z z<|pD (λ_ q=>⟨decide<|0<c8,som bh,q.k<|s1 z,bup (bup sh si) ca⟩)
   iterate 5 refine dRn z z z I z ?_
   exact dEn z z z I z<|dRn z z z I z<|dR z z (pF z I z)<|dQ z z z<|pD (λ_ q=>⟨false,som<|ifF aB I,q.k<|s1 z,bup sh si⟩)
  rintro cb _ ⟨am,rfl,_,cc⟩;revert cb;refine Wo ?_;obtain rfl:=som bf;exact Wr<|rtO<|c_ hr z ⟨bup (bup h1 G) cc,z⟩
 have aC:=ifF aA ab;refine Ws<|Rq z z z<|Rw z<|Wc z (λad=>?_) (λad=>?_)
 .refine Ws<|R z (lN (vs:=vR x2 A3 N3 C3 A5 N5 C5 A2 N2 C2 A6 N6 C6) Q_ t_ z z fid<|h6.row 0 8 z) ?_
  have hu:=(h1.ag B).e G;obtain ⟨_,cd,bi⟩:=bdS<|ifT aC ad;refine E z (fc call186 z<|W_w3j cd (zt' L<|lt_ h1.s G.s) a3 a4 V (W.g hu) (a5.g hu) (a6.g hu)<|Y.g hu) ?_;rintro _ _ ⟨ce,rfl⟩;refine Rw z ?_
  obtain rfl:=som bi;exact Wr<|rtO<|c_ hr z ⟨bup (bup h1 G) ce,z⟩
 have aD:=ifF aC ad;refine Ws<|Rq z z z<|Rw z<|Wc z (λae=>?_) (λae=>?_)
 .refine Ws<|R z (lN (vs:=[sl A0 N0 C0]) L_ D_ z z fid<|(hx.e G).row 0 1 z)<|R z (lN (vs:=vR x2 A3 N3 C3 A5 N5 C5 A2 N2 C2 A6 N6 C6) Q_ t_ z z fid<|h6.row 0 8 z) ?_
  have ho:=(h1.ag B).e G;obtain ⟨_,cf,bj⟩:=bdS<|ifT aD ae;refine E z (fc call187 z<|W_w3k cf (zt' L<|lt_ h1.s G.s) (a7.g ho) a3 a4 V (W.g ho) (a5.g ho) (a6.g ho)<|Y.g ho) ?_;rintro _ _ ⟨cg,rfl⟩;refine Rw z ?_
  obtain rfl:=som bj;exact Wr<|rtO<|c_ hr z ⟨bup (bup h1 G) cg,z⟩
 refine Wq<|Ws<|Rq z z z<|Rw z ?_
 obtain ⟨ch,aE,aF⟩:=bdS<|ifF aD ae;refine Wt (λa w=>∃(an:Bool),an=ch/\Sat 102 [(3,pt ww.z),(6,vI x2.kind),(80,vB an)] a/\Below J.z J w) ?_ ?_
 .refine Wc z (λaf=>?_)<|λaf=>?_
  .exact a_j<|λ_ q=>⟨x2.kind==8,som<|ifT aE af,q.k<|s3 z z z,br J⟩
  exact Wg<|Rq z z z<|Ra z<|Wl (λ_ q=>⟨x2.kind==9,som<|ifF aE af,q.k<|s3 z z z,br J⟩)
 rintro ci aX ⟨an,rfl,_,sd⟩;revert ci;refine Wo<|Wc z (λah=>?_) (λah=>?_)
 .refine Ws<|R z (lN (vs:=vR x2 A3 N3 C3 A5 N5 C5 A2 N2 C2 A6 N6 C6) Q_ t_ z z fid<|(h6.e sd).row 0 8 z) ?_
  have hv:=((h1.ag B).e G).e sd;obtain ⟨_,cj,bk⟩:=bdS<|ifT aF ah;refine E z (fc call184 z<|e_l cj (zt' L<|lt_ (lt_ h1.s G.s) sd.s) a3 a4 V (W.g hv) (a5.g hv) (a6.g hv) (Y.g hv)<|ii z) ?_;rintro _ _ ⟨ck,rfl⟩;refine Rw z ?_
  obtain rfl:=som bk;exact Wr<|rtO<|c_ hr z ⟨bup (bup (bup h1 G) sd) ck,z⟩
 have aG:=ifF aF ah;refine Ws<|Rq z z z<|Rw z<|Wc z (λai=>?_) (λai=>?_)
 .refine Wq ?_;obtain ⟨cl,bm,bn⟩:=bdS<|ifT aG ai;refine Wt (λa w=>∃(ao:Bool),ao=cl/\Sat 102 [(4,vB ao)] a/\Below aX.z aX w) ?_ ?_
  .refine Wg ?_;have aY:=h6.e sd;refine R z (lN (vs:=vR x2 A3 N3 C3 A5 N5 C5 A2 N2 C2 A6 N6 C6) Q_ t_ z z fid<|aY.row 0 8 z) ?_;have hp:=((h1.ag B).e G).e sd;obtain ⟨cm,cn,aH⟩:=bdS bm;refine E z (fc call184 z<|e_l cn (zt' L<|lt_ (lt_ h1.s G.s) sd.s) a3 a4 V (W.g hp) (a5.g hp) (a6.g hp) (Y.g hp)<|ii z) ?_;rintro _ _ ⟨sm,rfl⟩;refine Rm z ?_
   rcases bs cm with a2 | a2
   .have aI:=ifT aH a2;refine Rh z a2 (fd b_j z) ?_;have aZ:=aY.e sm;refine Rh z a2 (l0 K_ z<|aZ.at z) ?_;have b0:=W.g<|hp.e sm
    refine Rh z a2 (lnR k_ z b0)<|Rh z a2 (eql z z)<|R z (pT z a2 z)<|Rm z ?_
    rcases bs ((x2.bytes.length:Int)==1) with a0 | a0
    .refine Rh z a0 (fd b_j z)<|Rh z a0 (l0 K_ z<|aZ.at z) ?_
     obtain ⟨co,cp,bo⟩:=bdS<|ifT aI a0;refine RXg z z a0 z (at_ (α:=UInt8) k_ z_5 z z z b0 cp) ?_;rintro _ ⟨_,_,_,rfl,cq,cr,_⟩;obtain rfl:=u8 cr;exact Rh z a0 (l0 g_5 z<|cq.at0 z)<|Rh z a0 (nq z z)<|R z (pT z a0 z)<|Ra z<|Wl (λ_ q=>⟨(byteI co) != (byteI (92:UInt8)),som bo,q.k<|s1 z,sm⟩)
    iterate 5 refine Nh z a0 ?_
    exact R z (pF z a0 z)<|Ra z<|Wl (λ_ q=>⟨false,som<|ifF aI a0,q.k<|s1 z,sm⟩)
   iterate 4 refine Nh z a2 ?_
   exact R z (pF z a2 z)<|Rm z<|Nh z z<|Nh z z<|Nh z z<|Nh z z<|Nh z z<|R z (pF z z z)<|Ra z<|Wl (λ_ q=>⟨false,som<|ifF aH a2,q.k<|s1 z,sm⟩)
  rintro ct _ ⟨ao,rfl,_,cu⟩;revert ct;refine Wo ?_;obtain rfl:=som bn;exact Wr<|rtO<|c_ hr z ⟨bup (bup (bup h1 G) sd) cu,z⟩
 refine Wk<|Ws<|Rw z ?_
 obtain rfl:=som<|ifF aG ai;exact Wr<|c_ hr z ⟨bup (bup h1 G) sd,z⟩
theorem W_w3m {x1:f_}{x2:Int}{res:Bool}(hm:i_x n x1 x2=some res)(O:B<=w0.z)(L:repS w0 B (sl A0 N0 C0) x1.rules)(aT:inI x2):h_ prog 126 [(.agg #[sl A0 N0 C0]),vI x2] w0 (Q11 w0 B res):=by
 unfold i_x at hm
 refine goG func126 z z z λfn hr=>Ws<|E z (fb z) ?_
 rintro _ be ⟨rfl,al⟩;have h2:=al.below;have ho:Blk be w0.z [sl A0 N0 C0]:=al.blk;refine Rw z<|Wq<|Ws<|R z (lN (vs:=[sl A0 N0 C0]) L_ D_ z z fid<|ho.row 0 1 z)<|Rm z ?_
 obtain ⟨_,bf,a7⟩:=bdS hm;refine E z (fc call152 z<|l_Y bf (zt' O h2.s) (L.e h2) aT) ?_;rintro _ I ⟨s5,rfl⟩;refine R z (not_ z)<|Wx z (λhcp=>?_) (λhcp=>?_)
 .refine Ws<|Rw z ?_
  obtain rfl:=som<|ifT a7 hcp;exact Wr<|c_ hr z ⟨bup h2 s5,z⟩
 refine Wk<|Ws<|Rf z a_s z ?_
 have am:=ho.e s5;refine R z (l0 a_u z<|am.at z)<|Rm z ?_
 obtain ⟨J,bg,aU⟩:=bdS<|ifF a7 hcp;have an:=(h2.ag B).e s5;refine RX z (at_ (α:=d_) a_2 t_ z z z (L.g an) bg) ?_;rintro _ ⟨_,_,_,rfl,bh,bi,_⟩;obtain ⟨aq,nr,cs,au,nt,cv,aw,nx,cy,ae,nf,cg,rfl,ao,bj,bk,bm,bn,bo,hj⟩:=b_3 bi;refine R z (lN (vs:=vR J aq nr cs au nt cv aw nx cy ae nf cg) Q_ t_ z z fid bh)<|E z (fa c_q) ?_
 rintro _ bp ⟨rfl,ap⟩;have h4:=ap.below;have ar:Blk bp I.z [(Str.v (⟨[]⟩:Str)),vI 0,vI 0,vB false,sN,sN,sN,sN]:=ap.blk;refine E0 (fs0 (cur':=vR J aq nr cs au nt cv aw nx cy ae nf cg) t_ z z ar z z z z) ?_;rintro _ av ⟨hk,bq⟩;have h3:=bq.one;refine Wn<|Wq<|Wq ?_
 obtain ⟨bt,aV,a8⟩:=bdS aU;refine Wt (λa w=>∃(xz:Bool),xz=bt/\Sat 65 [(1,vI x2),(2,pt w0.z),(5,pt I.z),(31,vB xz)] a/\Below av.z av w) ?_ ?_
 .refine Wg<|Rf z d_M z<|R z (l0 g_9 z<|hk.at z) ?_
  obtain ⟨bu,bv,a9⟩:=bdS aV;refine E z (fc call137 z<|j_X bv (zt' O<|lt_ (lt_ (lt_ h2.s s5.s) h4.s) h3.s) ao) ?_;rintro _ _ ⟨sm,rfl⟩;refine R z (not_ z)<|Rm z ?_
  rcases bs (!bu) with h | h
  .iterate 3 refine Nh z h ?_
   exact Nv z<|Nv z<|Nv z<|Nh z h<|R z (pT z h z)<|Wl (λ_ q=>⟨true,som<|ifT a9 h,q.k<|s4 z z z z,sm⟩)
  have aa:=ifF a9 h;refine Rh z h (fd d_j z) ?_;have ax:=hk.e sm;refine Rh z h (l0 g_4 z<|ax.at z)<|Rh z h (mv z) ?_
  rcases bs J.little with G | G
  .exact Rh z G (fd a_O z)<|Rh z G (l0 g_3 z<|ax.at z)<|Rh z G (nq z z)<|Rh z h (pT z G z)<|R z (pF z h z)<|Wl (λ_ q=>⟨J.kind != 1,som<|ifT aa G,q.k<|s4 z z z z,sm⟩)
  iterate 3 refine Nh z G ?_
  exact Rh z h (pF z G z)<|R z (pF z h z)<|Wl (λ_ q=>⟨false,som<|ifF aa G,q.k<|s4 z z z z,sm⟩)
 rintro bw wh ⟨xz,rfl,_,s1⟩;revert bw;refine Wo<|Wc z (λV=>?_) (λV=>?_)
 .refine Ws<|Rw z ?_
  obtain rfl:=som<|ifT a8 V;exact Wr<|c_ hr z ⟨bup (bM (bup (bup h2 s5) h4) h3<|m1<|lt_ h2.s s5.s) s1,z⟩
 refine Wk<|Wq<|Ws<|Rf z a_s z ?_
 have ay:=((am.e h4).c h3<|djs<|mm1 ho.lt s5.s).e s1;refine R z (l0 a_u z<|ay.at z)<|Rm z ?_
 obtain ⟨bx,bz,aW⟩:=bdS<|ifF a8 V;have hd:=lt_ h2.s s5.s;have az:∀k∈[I.z],¬B k:=or0 (e_ lr)<|n_<|zt' O hd;have aA:=((an.e h4).c h3<|g_ az).e s1;refine RX z (rX a_2 t_ z z (L.g aA) z z bz) ?_;rintro _ ⟨bA,bB,bC,rfl,a0⟩;refine R z (lnR a_2 z a0)<|Rm z<|Wn ?_
 obtain ⟨_,aX,ab⟩:=bdS aW;refine Wf (σ:=Unit) (ρ:=Bool) (λ(aB:Nat)(_:Unit) a w=>Sat 65 [(1,vI x2),(2,pt w0.z),(5,pt I.z),(35,sl bA bB bC),(36,vI (bx.length:Int)),(37,vI ((aB:Nat):Int))] a/\Below wh.z wh w) (λ(_:Unit) a w=>Sat 65 [(1,vI x2),(2,pt w0.z),(5,pt I.z)] a/\Below wh.z wh w) (rQ prog fn<|Q11 w0 B) aX ?_ ?_ ?_ ?_ ?_
 .exact λ_ q=>⟨q.k<|s6 z z z z z z,br wh⟩
 .rintro aB _ _ bD _ ad ⟨aY,sa⟩ aZ;refine Wu ?_ aY;refine Ws<|Rl z z z<|Wn<|Wq<|Wc z (λ_=>?_) (λhc=>(O_ ad hc).elim)
  refine Wk<|Wq<|Wb<|Ws ?_
  obtain ⟨aC,bE,af⟩:=bdS aZ;refine RX z (at_ (α:=d_) a_2 t_ z z z (a0.e sa) bE) ?_;rintro _ ⟨_,_,_,rfl,bF,bG,_⟩;obtain ⟨aD,aE,aF,aG,aH,aI,aJ,aK,aL,aM,aN,aO,rfl,_,_,_,_,_,_,_⟩:=b_3 bG;refine R z (lN (vs:=vR aC aD aE aF aG aH aI aJ aK aL aM aN aO) Q_ t_ z z fid bF)<|E z (fa c_q) ?_
  rintro _ bH ⟨rfl,aP⟩;have a1:=aP.below;refine E0 (fs0 (cur':=vR aC aD aE aF aG aH aI aJ aK aL aM aN aO) t_ z z (aP.blk:Blk bH bD.z [(Str.v (⟨[]⟩:Str)),vI 0,vI 0,vB false,sN,sN,sN,sN]) z z z z) ?_;rintro _ _ ⟨bI,bJ⟩;have a2:=bJ.one;refine Wn<|Ws<|Rf z d_M z<|R z (l0 g_9 z<|bI.at z)<|Rf z d_M z<|R z (l0 g_9 z<|((((hk.e s1).e sa).e a1).c a2<|djs<|mm1 ar.lt<|lt_ (lt_ h3.s s1.s) sa.s).at z)<|R z (a_M z z)<|Wx z (λW=>?_) (λW=>?_)
  .exact Ws<|Rw z<|Wr<|rtO<|qL (som<|ifT af W).symm<|c_ hr z ⟨bM (bup (bup (bup (bM (bup (bup h2 s5) h4) h3<|m1 hd) s1) sa) a1) a2<|m1<|lt_ (lt_ (lt_ (lt_ hd h4.s) h3.s) s1.s) sa.s,z⟩
  exact Wk<|Wg<|R z (inc_ ad (lt_ (repS.len a0) z_) z z)<|Rm z<|Wl (λ_ q=>⟨(),(som<|ifF af W).symm,⟨q.k<|s6 z z z z z z,bM (bup sa a1) a2<|m1 sa.s⟩⟩)
 .rintro _ _ _ ⟨b0,bK⟩;refine Wu ?_ b0;refine Ws<|Rl z z z<|Wn<|Wq<|Wc z (λhc=>(P_ hc).elim) (λ_=>?_)
  exact We<|λ_ q=>⟨rfl,⟨q.k<|s3 z z z,bK⟩⟩
 .rintro _ bL wi rfl ⟨_,sb⟩;have b1:=elL ab;revert bL;refine Wo<|Wq<|Ws<|Rf z a_1 z ?_
  have aQ:=(hk.e s1).e sb;refine R z (l0 H_ z<|aQ.at z) ?_;have a3:=(((h4.ag B).c h3<|g_ az).e s1).e sb;refine R z (lnR y_ z<|hj.g a3)<|Rm z<|Wn ?_
  obtain ⟨_,b2,ah⟩:=bdS b1;refine Wf (σ:=Unit) (ρ:=Bool) (λ(a4:Nat)(_:Unit) a w=>Sat 65 [(1,vI x2),(2,pt w0.z),(5,pt I.z),(48,sl ae nf cg),(49,vI (J.kids.length:Int)),(50,vI ((a4:Nat):Int))] a/\Below wi.z wi w) (λ(_:Unit) a w=>Sat 65 [(2,pt w0.z),(5,pt I.z)] a/\Below wi.z wi w) (rQ prog fn<|Q11 w0 B) b2 ?_ ?_ ?_ ?_ ?_
  .exact λ_ q=>⟨q.k<|s6 z z z z z z,br wi⟩
  .rintro a4 _ _ wl _ ai ⟨b3,a5⟩ b4;refine Wu ?_ b3;refine Ws<|Rl z z z<|Wn<|Wq<|Wc z (λ_=>?_) (λhc=>(O_ ai hc).elim)
   refine Wk<|Wq<|Wb<|Ws ?_
   obtain ⟨aR,bN,b5⟩:=bdS b4;refine RX z (at_ (α:=Int) y_ z_3 z z z (hj.g<|a3.e a5) bN) ?_;rintro _ ⟨_,_,_,rfl,bO,bP,_⟩;obtain ⟨rfl,_⟩:=V_ bP;refine R z (l0 g_3 z<|bO.at0 z)<|Rw z<|Wq ?_
   obtain ⟨bQ,aj,ak⟩:=bdS b5;refine Wt (λa w=>∃(a6:Bool),a6=bQ/\Sat 65 [(1,vI x2),(2,pt w0.z),(5,pt I.z),(48,sl ae nf cg),(49,vI (J.kids.length:Int)),(50,vI ((a4:Nat):Int)),(60,vB a6)] a/\Below wl.z wl w) ?_ ?_
   .refine Wg<|Rm z<|Rl z z z<|Rm z ?_
    rcases bs (decide<|aR<0) with H | H
    .iterate 3 refine Nh z H ?_
     exact R z (pT z H z)<|Wl (λ_ q=>⟨true,som<|ifT aj H,q.k<|s7 z z z z z z z,br wl⟩)
    exact Rh z H (mv z)<|Rh z H (mv z)<|Rh z H (b_t z z)<|R z (pF z H z)<|Wl (λ_ q=>⟨decide<|x2<=aR,som<|ifF aj H,q.k<|s7 z z z z z z z,br wl⟩)
   rintro bR _ ⟨a6,rfl,_,aS⟩;revert bR;refine Wo<|Wc z (λY=>?_) (λY=>?_)
   .exact Ws<|Rw z<|Wr<|rtO<|qL (som<|ifT ak Y).symm<|c_ hr z ⟨bup (bup (bup (bup (bM (bup (bup h2 s5) h4) h3<|m1 hd) s1) sb) a5) aS,z⟩
   exact Wk<|Wg<|R z (inc_ ai (lt_ (repS.len hj) z_) z z)<|Rm z<|Wl (λ_ q=>⟨(),(som<|ifF ak Y).symm,⟨q.k<|s6 z z z z z z,bup a5 aS⟩⟩)
  .rintro _ _ _ ⟨b6,bS⟩;refine Wu ?_ b6;refine Ws<|Rl z z z<|Wn<|Wq<|Wc z (λhc=>(P_ hc).elim) (λ_=>?_)
   exact We<|λ_ q=>⟨rfl,⟨q.k<|s2 z z,bS⟩⟩
  .rintro _ bT _ rfl ⟨_,sc⟩;have b7:=elL ah;revert bT;refine Wo<|Ws<|R z (lN (vs:=[sl A0 N0 C0]) L_ D_ z z fid<|((ay.e sb).e sc).row 0 1 z)<|R z (lN (vs:=vR J aq nr cs au nt cv aw nx cy ae nf cg) Q_ t_ z z fid<|(aQ.e sc).row 0 8 z) ?_
   have hn:=a3.e sc;obtain ⟨_,bU,b8⟩:=bdS b7;refine E z (fc call153 z<|W_w3l bU (zt' O<|lt_ (lt_ (lt_ (lt_ (lt_ hd h4.s) h3.s) s1.s) sb.s) sc.s) (L.g<|(aA.e sb).e sc) ao bj bk (bm.g hn) (bn.g hn) (bo.g hn)<|hj.g hn) ?_;rintro _ _ ⟨bV,rfl⟩;refine Rw z ?_
   obtain rfl:=som b8;exact Wr<|c_ hr z ⟨bup (bup (bup (bup (bM (bup (bup h2 s5) h4) h3<|m1 hd) s1) sb) sc) bV,z⟩
  rintro _ _ _ _ rfl ⟨rfl,b9⟩;have ba:=elR ah;obtain rfl:=som ba;exact ⟨b9,z⟩
 rintro _ _ _ _ rfl ⟨rfl,bb⟩;have bc:=elR ab;obtain rfl:=som bc;exact ⟨bb,z⟩
theorem W_w1g {x1:f_}{res:Bool}(hm:g_Y n x1=some res)(O:B<=w0.z)(G:repS w0 B (sl A0 N0 C0) x1.rules):h_ prog 91 [(.agg #[sl A0 N0 C0])] w0 (Q11 w0 B res):=by
 unfold g_Y at hm
 refine goG func91 z z z λfn hr=>Ws<|E z (fb z) ?_
 rintro _ wh ⟨rfl,V⟩;have h:=V.below;have W:Blk wh w0.z [sl A0 N0 C0]:=V.blk;refine Rw z<|Wq<|Ws<|Rf z a_s z<|R z (l0 a_u z<|W.at z) ?_
 have Y:=G.e h;refine R z (lnR a_2 z Y) ?_;obtain ⟨_,ei,hma⟩:=bdS hm;refine E z (fc call125 z<|d_S ei (zt' O h.s) (b_Y<|repS.len Y) (ii z)<|ii z) ?_;rintro _ H ⟨s1,rfl⟩;refine R z (not_ z)<|Wx z (λI=>?_) (λI=>?_)
 .refine Ws<|Rw z ?_
  obtain rfl:=som<|ifT hma I;exact Wr<|c_ hr z ⟨bup h s1,z⟩
 refine Wk<|Wq<|Ws<|Rf z a_s z ?_
 have hb:=W.e s1;refine R z (l0 a_u z<|hb.at z) ?_;have hd:=(h.ag B).e s1;refine R z (lnR a_2 z<|G.g hd)<|Rm z<|Wn ?_
 obtain ⟨_,huj,hmc⟩:=bdS<|ifF hma I;refine Wf (σ:=Unit) (ρ:=Bool) (λ(ke:Nat)(_:Unit) a w=>Sat 20 [(1,pt w0.z),(11,vI (x1.rules.length:Int)),(12,vI ((ke:Nat):Int))] a/\Below H.z H w) (λ(_:Unit) a w=>Sat 20 [] a/\Below H.z H w) (rQ prog fn<|Q11 w0 B) huj ?_ ?_ ?_ ?_ ?_
 .exact λ_ q=>⟨q.k<|s3 z z z,br H⟩
 .rintro ke _ _ _ _ J ⟨hSk,s4⟩ hml;refine Wu ?_ hSk;refine Ws<|Rl z z z<|Wn<|Wq<|Wc z (λ_=>?_) (λhc=>(O_ J hc).elim)
  refine Wk<|Wq<|Wb<|Wm z<|Rw z<|Ws<|R z (lN (vs:=[sl A0 N0 C0]) L_ D_ z z fid<|(hb.e s4).row 0 1 z)<|Rm z ?_
  obtain ⟨_,em,hmf⟩:=bdS hml;refine E z (fc call126 z<|W_w3m em (zt' O<|lt_ (lt_ h.s s1.s) s4.s) (G.g<|hd.e s4)<|ic (Nat.le_of_lt J)<|lt_ (repS.len G) z_) ?_;rintro _ _ ⟨sg,rfl⟩;refine R z (not_ z)<|Wx z (λL=>?_) (λL=>?_)
  .exact Ws<|Rw z<|Wr<|rtO<|qL (som<|ifT hmf L).symm<|c_ hr z ⟨bup (bup (bup h s1) s4) sg,z⟩
  exact Wk<|Wg<|R z (inc_ J (lt_ (repS.len G) z_) z z)<|Rm z<|Wl (λ_ q=>⟨(),(som<|ifF hmf L).symm,⟨q.k<|s3 z z z,bup s4 sg⟩⟩)
 .rintro _ _ _ ⟨hSn,so⟩;refine Wu ?_ hSn;refine Ws<|Rl z z z<|Wn<|Wq<|Wc z (λhc=>(P_ hc).elim) (λ_=>?_)
  exact We<|λ_ q=>⟨rfl,⟨q.k sn,so⟩⟩
 .rintro _ ap _ rfl ⟨_,sq⟩;have hmr:=elL hmc;revert ap;refine Wo<|Ws<|Rw z ?_
  obtain rfl:=som hmr;exact Wr<|c_ hr z ⟨bup (bup h s1) sq,z⟩
 rintro _ _ _ _ rfl ⟨rfl,hqs⟩;have hmt:=elR hmc;obtain rfl:=som hmt;exact ⟨hqs,z⟩
theorem W_w3n {x1:a_c}{res:Bool}(hm:j_m n x1=some res)(W:B<=w0.z)(H:repS w0 B (sl A0 N0 C0) x1.versions):h_ prog 62 [(.agg #[sl A0 N0 C0])] w0 (Q11 w0 B res):=by
 unfold j_m at hm
 refine goG func62 z z z λfn hr=>Ws<|E z (fb z) ?_
 rintro _ h ⟨rfl,hb⟩;have G:=hb.below;have hd:Blk h w0.z [sl A0 N0 C0]:=hb.blk;refine Rw z<|Wq<|Ws<|Rf z c_5 z<|R z (l0 c_f z<|hd.at z) ?_
 have he:=H.e G;refine R z (lnR b_r z he)<|R z (X_ z z)<|Wx z (λI=>?_) (λI=>?_)
 .refine Ws<|Rw z ?_
  obtain rfl:=som<|ifT hm I;exact Wr<|c_ hr z ⟨G,z⟩
 refine Wk<|Wq<|Ws<|Rf z c_5 z<|R z (l0 c_f z<|hd.at z)<|R z (lnR b_r z he)<|Rm z<|Wn ?_
 obtain ⟨_,hul,hmc⟩:=bdS<|ifF hm I;refine Wf (σ:=Unit) (ρ:=Bool) (λ(kf:Nat)(_:Unit) a w=>Sat 20 [(10,sl A0 N0 C0),(11,vI (x1.versions.length:Int)),(12,vI ((kf:Nat):Int))] a/\Below h.z h w) (λ(_:Unit) a w=>Sat 20 [] a/\Below h.z h w) (rQ prog fn<|Q11 w0 B) hul ?_ ?_ ?_ ?_ ?_
 .exact λ_ q=>⟨q.k<|s3 z z z,br h⟩
 .rintro kf _ _ wg _ hkh ⟨hSm,s2⟩ hmn;refine Wu ?_ hSm;refine Ws<|Rl z z z<|Wn<|Wq<|Wc z (λ_=>?_) (λhc=>(O_ hkh hc).elim)
  refine Wk<|Wq<|Wb<|Ws ?_
  obtain ⟨_,eo,hmp⟩:=bdS hmn;refine RX z (at_ (α:=f_) b_r D_ z z z (H.g<|(G.ag B).e s2) eo) ?_;rintro _ ⟨_,_,_,rfl,hq,ht,_⟩;obtain ⟨J,L,O,rfl,hu⟩:=d_H ht;refine R z (lN (vs:=[sl J L O]) L_ D_ z z fid hq)<|E z (fa l_M) ?_
  rintro _ wr ⟨rfl,hi⟩;have h3:=hi.below;refine E0 (fs0 (cur':=[sl J L O]) D_ z z (hi.blk:Blk wr wg.z [sN]) z z z z) ?_;rintro _ _ ⟨hw,ss⟩;have h4:=ss.one;refine Wn<|Ws<|R z (lN (vs:=[sl J L O]) L_ D_ z z fid<|hw.row 0 1 z) ?_
  have V:=lt_ G.s s2.s;obtain ⟨_,ey,hmj⟩:=bdS hmp;refine E z (fc call91 z<|W_w1g ey (zt' W<|lt_ (lt_ V h3.s) h4.s)<|hu.g<|(h3.ag B).c h4<|g_ (or0 (e_ lr) (n_<|zt' W V):∀k∈[wg.z],¬B k)) ?_;rintro _ _ ⟨sk,rfl⟩;refine R z (not_ z)<|Wx z (λhca=>?_) (λhca=>?_)
  .exact Ws<|Rw z<|Wr<|rtO<|qL (som<|ifT hmj hca).symm<|c_ hr z ⟨bup (bM (bup (bup G s2) h3) h4<|m1 V) sk,z⟩
  exact Wk<|Wg<|R z (inc_ hkh (lt_ (repS.len H) z_) z z)<|Rm z<|Wl (λ_ q=>⟨(),(som<|ifF hmj hca).symm,⟨q.k<|s3 z z z,bup (bM (bup s2 h3) h4<|m1 s2.s) sk⟩⟩)
 .rintro _ _ _ ⟨hSz,a2⟩;refine Wu ?_ hSz;refine Ws<|Rl z z z<|Wn<|Wq<|Wc z (λhc=>(P_ hc).elim) (λ_=>?_)
  exact We<|λ_ q=>⟨rfl,⟨q.k sn,a2⟩⟩
 .rintro _ a3 _ rfl ⟨_,a4⟩;have Y:=elL hmc;revert a3;refine Wo<|Ws<|Rw z ?_
  obtain rfl:=som Y;exact Wr<|c_ hr z ⟨bup G a4,z⟩
 rintro _ _ _ _ rfl ⟨rfl,a0⟩;have a1:=elR hmc;obtain rfl:=som a1;exact ⟨a0,z⟩
theorem W_w3o {x1:Bt}{res:Bt×Bool}(hm:j_n n x1=some res)(aj:B<=w0.z)(O:repS w0 B (sl A0 N0 C0) x1):h_ prog 127 [sl A0 N0 C0] w0 (Q12 w0 B res):=by
 unfold j_n at hm
 refine goG func127 z z z λfn hr=>Ws<|Ra z<|Rw z<|Ws<|E z (f0 (α:=UInt8) M_) ?_
 rintro _ H ⟨aU,aV,aW,rfl,s7,aX⟩;refine Rw z<|Wq<|Ws<|Rw z ?_
 obtain ⟨_,az,a7⟩:=bdS hm;refine a_X (σ:=Bt×Int) (ρ:=Bt×Bool) (λs a w=>un2 (λxk x4=>∃I J L h,Sat 73 [(0,sl A0 N0 C0),(4,sl I J L),(5,vI x4)] a/\Cg [w0.z] H w/\a_ w h (sl I J L) xk/\h.Nodup/\(∀k∈h,k∈[w0.z]∨H.z<=k)/\inI x4) s) (λs a w=>un2 (λxk x4=>∃I J L h,Sat 73 [(4,sl I J L)] a/\Cg [w0.z] H w/\a_ w h (sl I J L) xk/\h.Nodup/\(∀k∈h,k∈[w0.z]∨H.z<=k)/\inI x4) s) (rQ prog fn<|Q12 w0 B) az ?_ ?_ ?_ ?_
 .exact λ_ q=>⟨aU,aV,aW,[w0.z],q.k<|s3 z z z,cr [w0.z] H,aX,Z_,io sr,ii z⟩
 .rintro ⟨xk,x4⟩ _ wg _ ⟨I,J,L,h,aA,sa,hl,hn,hi,ak⟩ aB;have a8:=a_7 aB;refine Wu ?_ aA;refine Wq<|Wm z<|Rm z ?_
  have al:∀k∈[w0.z],¬B k:=or0 (e_ lr)<|n_ aj;have hw:=(s7.ag B).c sa<|g_ al
  have hx:=O.g hw;refine R z (lnR k_ z hx)<|Rl z z z<|Wx z (λhcy=>?_) (λhcy=>?_)
  .refine Wk<|Wb<|Wm z<|Rm z ?_
   obtain ⟨xm,aY,aC⟩:=bdS<|ifT a8 hcy;refine RX z (at_ (α:=UInt8) k_ z_5 z z z hx aY) ?_;rintro _ ⟨_,_,_,rfl,aZ,b0,_⟩;obtain rfl:=u8 b0;refine R z (l0 g_5 z<|aZ.at0 z)<|R z (b_s d_5 d_3 z)<|Rw z<|Wm z<|R z (add_ z z)<|Rw z<|Wq<|Wb<|Wq ?_
   obtain ⟨b1,a9,aa⟩:=bdS aC;refine Wt (λa w=>∃(xz:Bool),xz=b1/\Sat 73 [(0,sl A0 N0 C0),(4,sl I J L),(5,vI<|b_ x4 1),(6,vI<|byteI xm),(33,vB xz)] a/\Below wg.z wg w) ?_ ?_
   .refine Wg<|Rm z<|Rq z z z<|Rm z ?_
    rcases bs ((byteI xm)==0) with hcf | hcf
    .exact Nh z hcf<|Nh z hcf<|R z (pT z hcf z)<|Rm z<|Nh z z<|Nh z z<|Nh z z<|Nh z z<|R z (pT z z z)<|Ra z<|Wl (λ_ q=>⟨true,som<|ifT a9 hcf,q.k<|s5 z z z z z,br wg⟩)
    have ab:=ifF a9 hcf;refine Rh z hcf (mv z)<|Rh z hcf (eql z z)<|R z (pF z hcf z)<|Rm z ?_
    rcases bs ((byteI xm)==128) with hcb | hcb
    .iterate 4 refine Nh z hcb ?_
     exact R z (pT z hcb z)<|Ra z<|Wl (λ_ q=>⟨true,som<|ifT ab hcb,q.k<|s5 z z z z z,br wg⟩)
    exact Rh z hcb (mv z)<|Rh z hcb (mv z)<|Rh z hcb (lnR k_ z hx)<|Rh z hcb (eql z z)<|R z (pF z hcb z)<|Ra z<|Wl (λ_ q=>⟨(b_ x4 1)==(x1.length:Int),som<|ifF ab hcb,q.k<|s5 z z z z z,br wg⟩)
   rintro b2 G ⟨xz,rfl,_,s6⟩;revert b2;refine Wo<|Wc z (λV=>?_) (λV=>?_)
   .refine Ws<|E z (f0 (α:=UInt8) M_) ?_
    rintro _ _ ⟨b3,b4,b5,rfl,b6,b7⟩;exact Ra z<|Rw z<|Wr<|rtO<|rtO<|qL (som<|ifT aa V).symm<|a_0 hr z z ⟨bup (bup (bM s7 sa<|e_ lr) s6) b6,b3,b4,b5,[G.z],z,b7,Z_,m1<|lt_ (lt_ s7.s sa.s) s6.s⟩
   refine Wm z<|Rl z z z<|Rw z ?_
   obtain ⟨b8,ad,W⟩:=bdS<|ifF aa V;refine Wt (λa w=>∃(xr:Bt)(xo:Int),Sum.inl (xr,xo)=b8/\∃au ns cv Sj,Sat 73 [(0,sl A0 N0 C0),(4,sl au ns cv),(5,vI xo)] a/\Cg h G w/\a_ w Sj (sl au ns cv) xr/\Sj.Nodup/\(∀k∈Sj,k∈h∨G.z<=k)/\inI xo) ?_ ?_
   .refine Wc z (λY=>?_)<|λY=>?_
    .have ae:=ifT ad Y;refine Wq<|Wm z<|Rm z ?_
     have am:=O.g<|hw.e s6
     refine R z (lnR k_ z am)<|Rm z<|R z (sb_ z z)<|R z (X_ z z)<|Wx z (λa0=>?_) (λa0=>?_)
     .refine Ws<|E z (f0 (α:=UInt8) M_) ?_
      rintro _ _ ⟨b9,ba,bb,rfl,bc,be⟩;refine Ra z<|Rw z ?_
      obtain rfl:=som<|ifT ae a0;have aD:=elR W;exact Wr<|rtO<|rtO<|qL (som aD).symm<|a_0 hr z z ⟨bup (bup (bM s7 sa<|e_ lr) s6) bc,b9,ba,bb,[G.z],z,be,Z_,m1<|lt_ (lt_ s7.s sa.s) s6.s⟩
     refine Wk<|Wm z<|RM z z<|RM z z<|R z (add_ z z) ?_
     obtain ⟨_,bf,aE⟩:=bdS<|ifF ae a0;refine RX z (rX k_ z_5 z z am z z bf) ?_;rintro _ ⟨_,_,_,rfl,bg⟩;obtain ⟨bh,bi,aF⟩:=bdS aE;refine E z (fN (α:=UInt8) M_ bi z z (hl.e s6) hn bg) ?_;rintro _ bj ⟨an,bk,bm,bn,rfl,bo,bp,bq,bt⟩;refine Rw z<|Wg<|RM z z<|R z (add_ z z)<|Ra z<|Wl ?_
     exact λ_ q=>⟨bh,b_ (b_ x4 1)<|byteI xm,som aF,bk,bm,bn,an,q.k<|s3 z z z,(cM (cr h G) bo (io sr):Cg h G bj),bp,bq,(or1 bt (io sr) (j_ lr):∀k∈an,k∈h∨G.z<=k),iA _ _⟩
    refine Wq<|Wm z<|R z (sb_ z z)<|Rm z<|Wn ?_
    obtain ⟨_,aG,af⟩:=bdS<|ifF ad Y;refine Wf (σ:=Bt) (ρ:=Bt×Bool) (λ(ao:Nat)(xh:Bt) a w=>∃ac nd ce S2,Sat 73 [(0,sl A0 N0 C0),(4,sl ac nd ce),(5,vI<|b_ x4 1),(20,vI<|w_ (byteI xm) 128),(21,vI ((ao:Nat):Int))] a/\Cg h G w/\a_ w S2 (sl ac nd ce) xh/\S2.Nodup/\(∀k∈S2,k∈h∨G.z<=k)) (λ(xh:Bt) a w=>∃ac nd ce S2,Sat 73 [(0,sl A0 N0 C0),(4,sl ac nd ce),(5,vI<|b_ x4 1)] a/\Cg h G w/\a_ w S2 (sl ac nd ce) xh/\S2.Nodup/\(∀k∈S2,k∈h∨G.z<=k)) (rQ prog fn<|Q12 w0 B) aG ?_ ?_ ?_ ?_ ?_
    .exact λ_ q=>⟨I,J,L,h,q.k<|s5 z z z z z,cr h G,hl.e s6,hn,io sr⟩
    .rintro ao xh _ ap _ ah ⟨ac,nd,ce,S2,aH,a2,hp,hq,ht⟩ aI;refine Wu ?_ aH;refine Ws<|Rl z z z<|Wn<|Wq<|Wc z (λ_=>?_) (λhc=>(k_m ah hc).elim)
     refine Wk<|Wq<|Wb<|Wg<|RM z z<|Rm z ?_
     obtain ⟨bu,bv,aJ⟩:=bdS aI;refine RX z (at_ (α:=UInt8) k_ z_5 z z z (O.g<|(hw.e s6).c a2<|g_ (or1 hi al (n_<|zt' aj s7.s):∀k∈h,¬B k)) bv) ?_;rintro _ ⟨_,_,_,rfl,bw,bx,_⟩;obtain rfl:=u8 bx;refine R z (l0 g_5 z<|bw.at0 z)<|E z (fS [(.tmp 27)] M_ z z z (a_v z) (lb z)<|lb z) ?_
     rintro _ aq ⟨rfl,a3⟩;have a4:=a3.below;have c0:=b_D a3 b_b;obtain ⟨bz,bA,aK⟩:=bdS aJ;refine E z (b_l (α:=UInt8) M_ bA z z (hp.e a4) hq (a3.blk:Blk aq ap.z [vU (byteI bu)]) b_b an_ G_) ?_;rintro _ bB ⟨ar,bC,bD,bE,rfl,bF,bG,bH,bI⟩;refine Rw z<|Wg<|R z (inc_ ah (tl_<|iS _ _) z z)<|Rm z<|Wl ?_
     have av:∀k∈S2,k∈h∨G.z<=k:=or1 ht (io sr)<|j_ lr;exact λ_ q=>⟨bz,(som aK).symm,⟨bC,bD,bE,ar,q.k<|s5 z z z z z,(cM (i_ (cM (cr h G) a2 (io sr):Cg h G ap) a4:Cg h G aq) bF av:Cg h G bB),bG,bH,(or2 bI av an_ (j_<|lt_ a2.s a4.s):∀k∈ar,k∈h∨G.z<=k)⟩⟩
    .rintro xh _ bJ ⟨ac,nd,ce,S2,aL,bK,hp,hq,ht⟩;refine Wu ?_ aL;refine Ws<|Rl z z z<|Wn<|Wq<|Wc z (λhc=>(k_n hc).elim) (λ_=>?_)
     exact We<|λ_ q=>⟨rfl,⟨ac,nd,ce,S2,q.k<|s3 z z z,(cM (cr h G) bK (io sr):Cg h G bJ),hp,hq,(or1 ht (io sr) (j_ lr):∀k∈S2,k∈h∨G.z<=k)⟩⟩
    .rintro xh bL bN rfl ⟨ac,nd,ce,S2,_,bO,hp,hq,ht⟩;have aM:=elL af;revert bL;refine Wo<|Wg<|Rm z<|R z (add_ z z)<|Ra z<|Wl ?_
     exact λ_ q=>⟨xh,b_ (b_ x4 1) 1,som aM,ac,nd,ce,S2,q.k<|s3 z z z,(cM (cr h G) bO (io sr):Cg h G bN),hp,hq,(or1 ht (io sr) (j_ lr):∀k∈S2,k∈h∨G.z<=k),iA _ _⟩
    rintro _ _ _ _ rfl ⟨rfl,aN⟩;have aO:=elR af;obtain rfl:=som aO;have aP:=elR W;exact ⟨f_6<|f_6<|f_r (som aP).symm ⟨rfl,aN⟩,z⟩
   rintro bP aw ⟨xr,xo,rfl,au,ns,cv,Sj,_,a6,ax,bQ,bR,bS⟩;have aQ:=elL W;have ai:=a_7 aQ;revert bP;refine Wo<|Wm z<|R z (lnR k_ z<|a_.rep ax)<|R z (X_ z z)<|Wx z (λa1=>?_) (λa1=>?_)
   .refine Ws<|E z (f0 (α:=UInt8) M_) ?_
    rintro _ _ ⟨bT,bU,bV,rfl,bW,bX⟩;refine Ra z<|Rw z ?_
    exact Wr<|rtO<|qL (som<|ifT ai a1).symm<|a_0 hr z z ⟨bup (bM (bup (bM s7 sa<|e_ lr) s6) a6 (or1 hi (e_ lr) (a_W s7.s):∀k∈h,w0.z<=k)) bW,bT,bU,bV,[aw.z],z,bX,Z_,m1<|lt_ (lt_ (lt_ s7.s sa.s) s6.s) a6.s⟩
   refine a_j ?_;have ay:∀k∈h,k∈[w0.z]∨H.z<=k:=or1 hi (io sr)<|j_ lr;exact λ_ q=>⟨(xr,xo),(som<|ifF ai a1).symm,⟨au,ns,cv,Sj,q.k<|s3 z z z,(cM (i_ (cM (cr [w0.z] H) sa (io sr):Cg [w0.z] H wg) s6:Cg [w0.z] H G) a6 ay:Cg [w0.z] H aw),ax,bQ,(or1 bR ay (j_<|lt_ sa.s s6.s):∀k∈Sj,k∈[w0.z]∨H.z<=k),bS⟩⟩
  exact We<|λ_ q=>a_Q (som<|ifF a8 hcy).symm ⟨I,J,L,h,q.k<|s1 z,(cM (cr [w0.z] H) sa (io sr):Cg [w0.z] H wg),hl,hn,(or1 hi (io sr) (j_ lr):∀k∈h,k∈[w0.z]∨H.z<=k),ak⟩
 .rintro ⟨xk,x4⟩ bY _ rfl ⟨I,J,L,h,_,bZ,hl,hn,hi,ak⟩;have aR:=elL a7;revert bY;refine Wo<|Wm z<|Ra z<|Rw z ?_
  obtain rfl:=som<|a_7 aR;exact Wr<|a_0 hr z z ⟨bM s7 bZ<|e_ lr,I,J,L,h,z,hl,hn,(or1 hi (e_ lr) (a_W s7.s):∀k∈h,w0.z<=k)⟩
 rintro _ _ _ _ rfl ⟨rfl,aS⟩;have aT:=elR a7;obtain rfl:=som aT;exact ⟨aS,z⟩
theorem W_w1h {x1:p_}{res:Bool}(hm:h_e n x1=some res)(V:B<=w0.z)(a0:inI x1.kind)(W:x1.name.b.length<=LEN)(Y:inI x1.version)(O:repS w0 B (sl AD ND CD) x1.data):h_ prog 128 [(.agg #[vI x1.kind,Str.v x1.name,vI x1.version,sl AD ND CD])] w0 (Q11 w0 B res):=by
 unfold h_e at hm
 refine goG func128 z z z λfn hr=>Ws<|E z (fb z) ?_
 rintro _ wb ⟨rfl,hg⟩;have h5:=hg.below;have hc:Blk wb w0.z [vI x1.kind,Str.v x1.name,vI x1.version,sl AD ND CD]:=hg.blk;refine Rw z<|Wq<|Wq ?_
 obtain ⟨uo,hup,hmh⟩:=bdS hm;refine Wt (λa w=>∃(xd:Bool),xd=uo/\Sat 38 [(1,pt w0.z),(18,vB xd)] a/\Below wb.z wb w) ?_ ?_
 .refine Wg<|Rf z d_O z<|R z (l0 g_9 z<|hc.at z) ?_
  obtain ⟨rq,er,hmi⟩:=bdS hup;refine E z (fc call137 z<|j_X er (zt' V h5.s) W) ?_;rintro _ _ ⟨s6,rfl⟩;refine R z (not_ z)<|Rm z ?_
  rcases bs (!rq) with G | G
  .iterate 4 refine Nh z G ?_
   exact R z (pT z G z)<|Rm z<|Nh z z<|Nh z z<|Nh z z<|Nh z z<|R z (pT z z z)<|Wl (λ_ q=>⟨true,som<|ifT hmi G,q.k<|s2 z z,s6⟩)
  refine Rh z G (fd c_R z) ?_;have hj:=hc.e s6;refine Rh z G (l0 g_3 z<|hj.at z) ?_;obtain ⟨rs,et,hmk⟩:=bdS<|ifF hmi G;refine Eg z z G z (fc call125 z<|d_S et (zt' V<|lt_ h5.s s6.s) Y (ii z)<|ii z) ?_;rintro _ _ ⟨s8,rfl⟩;refine Rh z G (not_ z)<|R z (pF z G z)<|Rm z ?_
  rcases bs (!rs) with H | H
  .iterate 4 refine Nh z H ?_
   exact R z (pT z H z)<|Wl (λ_ q=>⟨true,som<|ifT hmk H,q.k<|s2 z z,bup s6 s8⟩)
  exact Rh z H (fd d_P z)<|Rh z H (l0 K_ z<|(hj.e s8).at z)<|Rh z H (lnR k_ z<|O.g<|((h5.ag B).e s6).e s8)<|Rh z H (X_ z z)<|R z (pF z H z)<|Wl (λ_ q=>⟨decide<|400<(x1.data.length:Int),som<|ifF hmk H,q.k<|s2 z z,bup s6 s8⟩)
 rintro au L ⟨xd,rfl,_,s9⟩;revert au;refine Wo<|Wc z (λhce=>?_) (λhce=>?_)
 .refine Ws<|Rw z ?_
  obtain rfl:=som<|ifT hmh hce;exact Wr<|c_ hr z ⟨bup h5 s9,z⟩
 refine Wk<|Wq ?_
 obtain ⟨uv,hul,hmw⟩:=bdS<|ifF hmh hce;refine Wt (λa w=>∃(xf:Bool),xf=uv/\Sat 38 [(2,vB xf)] a/\Below L.z L w) ?_ ?_
 .refine Wg<|Rf z c_Q z ?_
  have ha:=hc.e s9;refine R z (l0 g_3 z<|ha.at z)<|Rq z z z<|Rm z ?_
  rcases bs (x1.kind==1) with h | h
  .iterate 4 refine Nh z h ?_
   exact Nv z<|Nv z<|Nv z<|Nh z h<|Nh z h<|Nv z<|Nv z<|Nv z<|Nv z<|Nh z h<|R z (pT z h z)<|Ra z<|Wl (λ_ q=>⟨true,som<|ifT hul h,q.k<|s1 z,br L⟩)
  have hmm:=ifF hul h;refine Rh z h (fd c_Q z)<|Rh z h (l0 g_3 z<|ha.at z)<|Rh z h (eql z z)<|Rh z h (mv z) ?_
  rcases bs (x1.kind==2) with J | J
  .have hmn:=ifT hmm J;refine Rh z J (fd c_R z)<|Rh z J (l0 g_3 z<|ha.at z)<|Rh z J (eql z z)<|Rh z h (pT z J z)<|Rh z h (mv z) ?_
   rcases bs (x1.version==0) with I | I
   .exact Rh z I (fd d_P z)<|Rh z I (l0 K_ z<|ha.at z)<|Rh z I (lnR k_ z<|O.g<|(h5.ag B).e s9)<|Rh z I (eql z z)<|Rh z h (pT z I z)<|R z (pF z h z)<|Ra z<|Wl (λ_ q=>⟨(x1.data.length:Int)==0,som<|ifT hmn I,q.k<|s1 z,br L⟩)
   iterate 4 refine Nh z I ?_
   exact Rh z h (pF z I z)<|R z (pF z h z)<|Ra z<|Wl (λ_ q=>⟨false,som<|ifF hmn I,q.k<|s1 z,br L⟩)
  iterate 3 refine Nh z J ?_
  exact Rh z h (pF z J z)<|Rh z h (mv z)<|Nh z z<|Nh z z<|Nh z z<|Nh z z<|Rh z h (pF z z z)<|R z (pF z h z)<|Ra z<|Wl (λ_ q=>⟨false,som<|ifF hmm J,q.k<|s1 z,br L⟩)
 rintro ax _ ⟨xf,rfl,_,sy⟩;revert ax;refine Wo ?_;obtain rfl:=som hmw;exact Wr<|c_ hr z ⟨bup (bup h5 s9) sy,z⟩
theorem W_w1i {x1:Bt}{x2:Int}{res:Bool}(hm:f_W x1 x2=some res)(Y:B<=w0.z)(J:repS w0 B (sl A0 N0 C0) x1)(W:inI x2):h_ prog 188 [sl A0 N0 C0,vI x2] w0 (Q11 w0 B res):=by
 unfold f_W at hm
 refine goG func188 z z z λfn hr=>Ws<|Rw z<|Wq ?_
 obtain ⟨O,H,L⟩:=bdS hm;refine Wt (λa w=>∃(x4:Bool),x4=O/\Sat 34 [(4,vB x4)] a/\Below w0.z w0 w) ?_ ?_
 .refine Wd (X:=noX) 0 (pl_ 30 []) mo (by kernel_rfl) λwu s3 _=>dM z z z<|dR z z (add_ z z)<|dM z z z ?_
  have h2:=J.e s3;refine dR z z (lnR k_ z h2)<|dR z z (lss z z)<|dM z z z ?_
  rcases bs (decide<|(b_ x2 2)<(x1.length:Int)) with h | h
  .refine dRg z z z h z (mv z)<|dRg z z z h z (mv z) ?_
   obtain ⟨V,ea,hmb⟩:=bdS<|ifT H h;refine a_L z z z h z (at_ (α:=UInt8) k_ z_5 z z z h2 ea) ?_;rintro _ ⟨_,_,_,rfl,hc,hd,_⟩;obtain rfl:=u8 hd;refine dRg z z z h z (l0 g_5 z<|hc.at0 z)<|dRg z z z h z (mv z)<|dRg z z z h z (mv z)<|dRg z z z h z (add_ z z) ?_
   obtain ⟨xe,ef,I⟩:=bdS hmb;refine a_L z z z h z (at_ (α:=UInt8) k_ z_5 z z z h2 ef) ?_;rintro _ ⟨_,_,_,rfl,hg,hh,_⟩;obtain rfl:=u8 hh;refine dRg z z z h z (l0 g_5 z<|hg.at0 z)<|dRg z z z h z (eql z z)<|dR z z (pT z h z)<|dM z z z ?_
   rcases bs ((byteI V)==(byteI xe)) with G | G
   .refine dRg z z z G z (mv z)<|dRg z z z G z (mv z) ?_
    obtain ⟨xi,ej,hmk⟩:=bdS<|ifT I G;refine a_L z z z G z (at_ (α:=UInt8) k_ z_5 z z z h2 ej) ?_;rintro _ ⟨_,_,_,rfl,hl,hn,_⟩;obtain rfl:=u8 hn;refine dRg z z z G z (l0 g_5 z<|hl.at0 z)<|dRg z z z G z (mv z)<|dRg z z z G z (mv z)<|dRg z z z G z (add_ z z) ?_
    obtain ⟨xm,eo,hmp⟩:=bdS hmk;refine a_L z z z G z (at_ (α:=UInt8) k_ z_5 z z z h2 eo) ?_;rintro _ ⟨_,_,_,rfl,hq,ht,_⟩;obtain rfl:=u8 ht;exact dRg z z z G z (l0 g_5 z<|hq.at0 z)<|dRg z z z G z (eql z z)<|dR z z (pT z G z)<|dQ z z z<|pD (λ_ q=>⟨(byteI xi)==(byteI xm),som hmp,q.k<|s1 z,s3⟩)
   iterate 10 refine dRn z z z G z ?_
   exact dR z z (pF z G z)<|dQ z z z<|pD (λ_ q=>⟨false,som<|ifF I G,q.k<|s1 z,s3⟩)
  iterate 10 refine dRn z z z h z ?_
  refine dR z z (pF z h z)<|dM z z z ?_
  iterate 10 refine dRn z z z z z ?_
  exact dR z z (pF z z z)<|dQ z z z<|pD (λ_ q=>⟨false,som<|ifF H h,q.k<|s1 z,s3⟩)
 rintro ar _ ⟨x4,rfl,_,ss⟩;revert ar;refine Wo ?_;obtain rfl:=som L;exact Wr<|c_ hr z ⟨ss,z⟩
theorem W_w3p {x1:Bt}{x2:Int}{res:Int}(hm:j_o n x1 x2=some res)(a4:B<=w0.z)(O:repS w0 B (sl A0 N0 C0) x1)(a3:inI x2):h_ prog 190 [sl A0 N0 C0,vI x2] w0 (Q0 w0 B res):=by
 unfold j_o at hm
 refine goG func190 z z z λfn hr=>Ws<|Rw z<|Wq<|Wq ?_
 obtain ⟨uk,hud,hme⟩:=bdS hm;refine Wt (λa w=>∃(x4:Bool),x4=uk/\Sat 36 [(0,sl A0 N0 C0),(1,vI x2),(13,vB x4)] a/\Below w0.z w0 w) ?_ ?_
 .refine Wg<|Rm z<|Rl z z z<|Rm z ?_
  rcases bs (decide<|x2<0) with G | G
  .iterate 4 refine Nh z G ?_
   exact R z (pT z G z)<|Wl (λ_ q=>⟨true,som<|ifT hud G,q.k<|s3 z z z,br w0⟩)
  exact Rh z G (mv z)<|Rh z G (mv z)<|Rh z G (lnR k_ z O)<|Rh z G (b_t z z)<|R z (pF z G z)<|Wl (λ_ q=>⟨decide<|(x1.length:Int)<=x2,som<|ifF hud G,q.k<|s3 z z z,br w0⟩)
 rintro al H ⟨x4,rfl,_,s5⟩;revert al;refine Wo<|Wc z (λI=>?_) (λI=>?_)
 .refine Ws<|Rw z ?_
  obtain rfl:=som<|ifT hme I;exact Wr<|c_ hr z ⟨s5,z,ii z⟩
 refine Wk<|Ws<|Rw z<|Wq ?_
 obtain ⟨_,hum,hmf⟩:=bdS<|ifF hme I;refine a_X (σ:=Int) (ρ:=Int) (λ(x3:Int) a w=>Sat 36 [(0,sl A0 N0 C0),(1,vI x2),(5,vI x3)] a/\Below H.z H w/\inI x3) (λ(x3:Int) a w=>Sat 36 [(5,vI x3)] a/\Below H.z H w/\inI x3) (rQ prog fn<|Q0 w0 B) hum ?_ ?_ ?_ ?_
 .exact λ_ q=>⟨q.k<|s3 z z z,br H,ii z⟩
 .rintro x3 _ wg _ ⟨hSn,s7,J⟩ hmo;refine Wu ?_ hSn;refine Wq<|Wq ?_
  obtain ⟨up,huh,hmi⟩:=bdS hmo;refine Wt (λa w=>∃(L:Bool),L=up/\Sat 36 [(0,sl A0 N0 C0),(1,vI x2),(5,vI x3),(32,vB L)] a/\Below wg.z wg w) ?_ ?_
  .refine Wd (X:=noX) 0 (pl_ 19 []) mo (by kernel_rfl) λa5 sa _=>dM z z z<|dM z z z<|dR z z (add_ z z)<|dM z z z ?_
   have hb:=O.g<|((s5.ag B).e s7).e sa
   refine dR z z (lnR k_ z hb)<|dR z z (lss z z)<|dM z z z ?_
   rcases bs (decide<|(b_ x2 x3)<(x1.length:Int)) with h | h
   .iterate 3 refine dRg z z z h z (mv z) ?_
    refine dRg z z z h z (add_ z z) ?_;obtain ⟨xq,er,hms⟩:=bdS<|ifT huh h;refine a_L z z z h z (at_ (α:=UInt8) k_ z_5 z z z hb er) ?_;rintro _ ⟨_,_,_,rfl,ht,hu,_⟩;obtain rfl:=u8 hu;refine dRg z z z h z (l0 g_5 z<|ht.at0 z)<|dRg z z z h z (mv z)<|dRg z z z h z (mv z) ?_
    obtain ⟨xv,ew,hmx⟩:=bdS hms;refine a_L z z z h z (at_ (α:=UInt8) k_ z_5 z z z hb ew) ?_;rintro _ ⟨_,_,_,rfl,hy,hz,_⟩;obtain rfl:=u8 hz;exact dRg z z z h z (l0 g_5 z<|hy.at0 z)<|dRg z z z h z (eql z z)<|dR z z (pT z h z)<|pD (λ_ q=>⟨(byteI xq)==(byteI xv),som hmx,q.k<|s4 z z z z,sa⟩)
   iterate 11 refine dRn z z z h z ?_
   exact dR z z (pF z h z)<|pD (λ_ q=>⟨false,som<|ifF huh h,q.k<|s4 z z z z,sa⟩)
  rintro a0 _ ⟨L,rfl,_,sj⟩;revert a0;refine Wo<|Wc z (λhcc=>?_) (λhcc=>?_)
  .exact Wk<|Wb<|Wg<|Rm z<|R z (add_ z z)<|Ra z<|Wl (λ_ q=>⟨b_ x3 1,(som<|ifT hmi hcc).symm,⟨q.k<|s3 z z z,bup s7 sj,iA _ _⟩⟩)
  exact We<|λ_ q=>a_Q (som<|ifF hmi hcc).symm ⟨q.k<|s1 z,bup s7 sj,J⟩
 .rintro x3 a1 _ rfl ⟨_,a2,J⟩;have V:=elL hmf;revert a1;refine Wo<|Wm z<|Rw z ?_
  obtain rfl:=som V;exact Wr<|c_ hr z ⟨bup s5 a2,z,J⟩
 rintro _ _ _ _ rfl ⟨rfl,W⟩;have Y:=elR hmf;obtain rfl:=som Y;exact ⟨W,z⟩
theorem W_w3q {x1:Int}{x2:Int}{res:Bool}(hm:j_p x1 x2=some res)(H:B<=w0.z)(h:inI x1)(G:inI x2):h_ prog 199 [vI x1,vI x2] w0 (Q11 w0 B res):=by
 unfold j_p at hm
 refine goG func199 z z z λfn hr=>Ws<|Rw z<|Wm z<|Rm z<|Rl z z z<|Rw z ?_
 obtain rfl:=som hm;exact Wr<|c_ hr z ⟨br w0,z⟩
theorem W_w3r {x2:Int}{x3:List Int}{res:Int}(hm:l_s x2 x3=some res)(V:B<=w0.z)(O:inI x2)(G:repS w0 B (sl A7 N7 C7) x3):h_ prog 198 [(.func (.func 199) #[] #[]),vI x2,sl A7 N7 C7] w0 (Q0 w0 B res):=by
 unfold l_s at hm
 refine goG func198 z z z λfn hr=>Ws<|Rw z<|Wq<|Wm z<|R z (lnR y_ z G)<|Rm z<|Wn ?_
 obtain ⟨_,hub,I⟩:=bdS hm;refine Wf (σ:=Int) (ρ:=Int) (λ(k3:Nat)(x0:Int) a w=>Sat 22 [(0,.func (.func 199) #[] #[]),(1,vI x0),(9,sl A7 N7 C7),(10,vI (x3.length:Int)),(11,vI ((k3:Nat):Int))] a/\Below w0.z w0 w/\inI x0) (λ(x0:Int) a w=>Sat 22 [(1,vI x0)] a/\Below w0.z w0 w/\inI x0) (rQ prog fn<|Q0 w0 B) hub ?_ ?_ ?_ ?_ ?_
 .exact λ_ q=>⟨q.k<|s5 z z z z z,br w0,O⟩
 .rintro k3 x0 _ _ _ J ⟨hSc,s6,h1⟩ hmd;refine Wu ?_ hSc;refine Ws<|Rl z z z<|Wn<|Wq<|Wc z (λ_=>?_) (λhc=>(O_ J hc).elim)
  refine Wk<|Wq<|Wb<|Ws ?_
  obtain ⟨xe,ef,hmg⟩:=bdS hmd;refine RX z (at_ (α:=Int) y_ z_3 z z z (G.e s6) ef) ?_;rintro _ ⟨_,_,_,rfl,hh,hi,_⟩;obtain ⟨rfl,L⟩:=V_ hi;refine R z (l0 g_3 z<|hh.at0 z)<|Rw z<|Wm z<|RM z z ?_
  obtain ⟨_,ej,hmk⟩:=bdS hmg;refine E z (h_s call199 z z<|W_w3q ej (zt' V s6.s) L h1) ?_;rintro _ h ⟨sm,rfl⟩;refine Wn ?_;obtain ⟨ul,hua,hmn⟩:=bdS hmk;refine Wt (λa w=>∃(x4:Int),x4=ul/\Sat 22 [(0,.func (.func 199) #[] #[]),(1,vI x4),(9,sl A7 N7 C7),(10,vI (x3.length:Int)),(11,vI ((k3:Nat):Int))] a/\Below h.z h w/\inI x4) ?_ ?_
  .refine Wc z (λH=>?_)<|λH=>?_
   .exact Wg<|Rm z<|Ra z<|Wl (λ_ q=>⟨xe,som<|ifT hua H,q.k<|s5 z z z z z,br h,L⟩)
   exact a_j<|λ_ q=>⟨x0,som<|ifF hua H,q.k<|s5 z z z z z,br h,h1⟩
  rintro ao _ ⟨x4,rfl,_,sp,hq⟩;revert ao;exact Wo<|Wg<|R z (inc_ J (lt_ (repS.len G) z_) z z)<|Rm z<|Wl (λ_ q=>⟨x4,(som hmn).symm,⟨q.k<|s5 z z z z z,bup (bup s6 sm) sp,hq⟩⟩)
 .rintro x0 _ _ ⟨hSr,ss,h1⟩;refine Wu ?_ hSr;refine Ws<|Rl z z z<|Wn<|Wq<|Wc z (λhc=>(P_ hc).elim) (λ_=>?_)
  exact We<|λ_ q=>⟨rfl,⟨q.k<|s1 z,ss,h1⟩⟩
 .rintro x0 au _ rfl ⟨_,st,h1⟩;have hmv:=elL I;revert au;refine Wo<|Wm z<|Rw z ?_
  obtain rfl:=som hmv;exact Wr<|c_ hr z ⟨st,z,h1⟩
 rintro _ _ _ _ rfl ⟨rfl,hqw⟩;have hmx:=elR I;obtain rfl:=som hmx;exact ⟨hqw,z⟩
theorem W_w3s {x1:Int}{x2:Int}{res:Int}(hm:j_q x1 x2=some res)(O:B<=w0.z)(H:inI x1)(I:inI x2):h_ prog 189 [vI x1,vI x2] w0 (Q0 w0 B res):=by
 unfold j_q at hm
 refine goG func189 z z z λfn hr=>Ws<|Rw z<|Wm z<|Rm z<|E z (fS [(.tmp 6)] l_I z z z (a_v z) (lb z)<|lb z) ?_
 rintro _ G ⟨rfl,h⟩;have h6:Blk G w0.z [vI x2]:=h.blk;obtain ⟨_,L,J⟩:=bdS hm;refine E z (fc call198 z<|W_w3r (B:=G.z) L zr H<|a_.rep<|b_D h<|c_E I) ?_;rintro _ _ ⟨s4,rfl,h5⟩;refine Rw z ?_
 obtain rfl:=som J;exact Wr<|c_ hr z ⟨bup h.below s4,z,h5⟩
theorem W_w3t {x1:Bt}{res:Bt}(hm:j_r n x1=some res)(V:B<=w0.z)(W:repS w0 B (sl A0 N0 C0) x1):h_ prog 155 [sl A0 N0 C0] w0 (Q1 w0 B res):=by
 unfold j_r at hm
 refine goG func155 z z z λfn hr=>Ws<|Rw z<|Ws<|E z (f0 (α:=UInt8) M_) ?_
 rintro _ H ⟨aX,aY,aZ,rfl,sd,b0⟩;refine Rw z<|Wq<|Ws<|Rw z ?_
 obtain ⟨_,aA,a9⟩:=bdS hm;refine a_X (σ:=Bt×Int) (ρ:=Bt) (λs a w=>un2 (λxe x4=>∃I J L h,Sat 67 [(0,sl A0 N0 C0),(3,sl I J L),(4,vI x4)] a/\Cg [w0.z] H w/\a_ w h (sl I J L) xe/\h.Nodup/\(∀k∈h,k∈[w0.z]∨H.z<=k)/\inI x4) s) (λs a w=>un2 (λxe x4=>∃I J L h,Sat 67 [(3,sl I J L)] a/\Cg [w0.z] H w/\a_ w h (sl I J L) xe/\h.Nodup/\(∀k∈h,k∈[w0.z]∨H.z<=k)/\inI x4) s) (rQ prog fn<|Q1 w0 B) aA ?_ ?_ ?_ ?_
 .exact λ_ q=>⟨aX,aY,aZ,[w0.z],q.k<|s3 z z z,cr [w0.z] H,b0,Z_,io sr,ii z⟩
 .rintro ⟨xe,x4⟩ _ G _ ⟨I,J,L,h,aB,sf,hg,hh,hi,hl⟩ aC;have aa:=a_7 aC;refine Wu ?_ aB;refine Wq<|Wm z<|Rm z ?_
  have aj:∀k∈[w0.z],¬B k:=or0 (e_ lr)<|n_ V;have hn:=(sd.ag B).c sf<|g_ aj
  have ak:=W.g hn;refine R z (lnR k_ z ak)<|Rl z z z<|Wx z (λhcz=>?_) (λhcz=>?_)
  .refine Wk ?_;obtain ⟨b1,aD,ab⟩:=bdS<|ifT aa hcz;refine Wt (λa w=>∃(xm:Bt)(xj:Int),Sum.inl (xm,xj)=b1/\∃ao np cq Sc,Sat 67 [(0,sl A0 N0 C0),(3,sl ao np cq),(4,vI xj)] a/\Cg h G w/\a_ w Sc (sl ao np cq) xm/\Sc.Nodup/\(∀k∈Sc,k∈h∨G.z<=k)/\inI xj) ?_ ?_
   .refine Wb<|Wq<|Wm z<|Rm z ?_
    have a1:=lt_ sd.s sf.s;obtain ⟨_,b2,ad⟩:=bdS aD;refine E z (fc call188 z<|W_w1i b2 (zt' V a1) ak hl) ?_;rintro _ wb ⟨s8,rfl⟩;refine Wx z (λY=>?_) (λY=>?_)
    .refine Wm z<|Rm z ?_
     have al:=hn.e s8;have am:=lt_ a1 s8.s;obtain ⟨_,b3,aE⟩:=bdS<|ifT ad Y;refine E z (fc call190 z<|W_w3p b3 (zt' V am) (W.g al) hl) ?_;rintro _ b4 ⟨sk,rfl,b5⟩;obtain ⟨rr,b6,aF⟩:=bdS aE;refine E z (fc call189 z<|W_w3s b6 (zt' V<|lt_ am sk.s) b5<|ii z) ?_;rintro _ ws ⟨st,rfl,_⟩;refine Rw z<|Wm z<|Rm z<|R z (add_ z z)<|R z (b_Q d_3 d_5 z)<|RM z z ?_
     obtain ⟨a2,b7,aG⟩:=bdS aF;refine RX z (at_ (α:=UInt8) k_ z_5 z z z (W.g<|(al.e sk).e st) b7) ?_;rintro _ ⟨_,_,_,rfl,b8,b9,_⟩;obtain rfl:=u8 b9;refine R z (l0 g_5 z<|b8.at0 z)<|E z (fS [(.tmp 22),(.tmp 26)] M_ z z z (a_v z) (lb z)<|lb z) ?_
     rintro _ a3 ⟨rfl,an⟩;have a4:=an.below;obtain ⟨ba,bb,aH⟩:=bdS aG;refine E z (fN (α:=UInt8) M_ bb z z ((((hg.e s8).e sk).e st).e a4) hh<|a_.rep (h_k (l:=[mkB (b_ 128 rr),a2]) (an.blk:Blk a3 ws.z [(vU<|byteI<|mkB<|b_ 128 rr),vU<|byteI a2]) z:a_ a3 [ws.z] (sl (some ⟨ws.z,0,none⟩) 2 2) [mkB (b_ 128 rr),a2])) ?_;rintro _ bc ⟨ap,be,bf,bg,rfl,bh,bi,bj,bk⟩;refine Rw z<|Wm z<|Rm z<|R z (add_ z z)<|Rw z<|We<|exH ?_
     exact λ_ q=>⟨ba,b_ x4 rr,som aH,be,bf,bg,ap,q.k<|s3 z z z,(cM (i_ (i_ (i_ (i_ (cr h G) s8:Cg h G wb) sk:Cg h G b4) st:Cg h G ws) a4:Cg h G a3) bh (io sr):Cg h G bc),bi,bj,(or1 bk (io sr) (j_<|lt_ (lt_ (lt_ s8.s sk.s) st.s) a4.s):∀k∈ap,k∈h∨G.z<=k),iA _ _⟩
    refine Wk<|Wm z<|R z (add_ z z)<|Rw z<|Wq ?_
    obtain ⟨_,aI,ae⟩:=bdS<|ifF ad Y;refine a_X (σ:=Int) (ρ:=Bt) (λ(x3:Int) a w=>Sat 67 [(0,sl A0 N0 C0),(3,sl I J L),(4,vI x4),(6,vI x3)] a/\Below wb.z wb w/\inI x3) (λ(x3:Int) a w=>Sat 67 [(0,sl A0 N0 C0),(3,sl I J L),(4,vI x4),(6,vI x3)] a/\Below wb.z wb w/\inI x3) (rQ prog fn<|Q1 w0 B) aI ?_ ?_ ?_ ?_
    .exact λ_ q=>⟨q.k<|s4 z z z z,br wb,iA _ _⟩
    .rintro x3 _ wu _ ⟨aJ,sv,hw⟩ aK;refine Wu ?_ aJ;refine Wq<|Wq ?_
     obtain ⟨bm,af,ah⟩:=bdS aK;refine Wt (λa w=>∃(a6:Bool),a6=bm/\Sat 67 [(0,sl A0 N0 C0),(3,sl I J L),(4,vI x4),(6,vI x3),(49,vB a6)] a/\Below wu.z wu w) ?_ ?_
     .refine Wg<|RM z z ?_
      have aq:=W.g<|(hn.e s8).e sv
      refine R z (lnR k_ z aq)<|Rl z z z<|Rm z ?_
      rcases bs (decide<|x3<(x1.length:Int)) with O | O
      .have ai:=ifT af O;refine Rh z O (mv z)<|Rh z O (mv z)<|Rh z O (sb_ z z)<|Rh z O (lss z z)<|R z (pT z O z)<|Rm z ?_
       rcases bs (decide<|(w_ x3 x4)<127) with hca | hca
       .refine Rh z hca (mv z)<|Rh z hca (mv z) ?_
        obtain ⟨bn,bo,aL⟩:=bdS<|ifT ai hca;refine Eg z z hca z (fc call188 z<|W_w1i bo (zt' V<|lt_ (lt_ a1 s8.s) sv.s) aq hw) ?_;rintro _ _ ⟨bp,rfl⟩;exact Rh z hca (not_ z)<|R z (pT z hca z)<|Wl (λ_ q=>⟨!bn,som aL,q.k<|s5 z z z z z,bp⟩)
       iterate 4 refine Nh z hca ?_
       exact R z (pF z hca z)<|Wl (λ_ q=>⟨false,som<|ifF ai hca,q.k<|s5 z z z z z,br wu⟩)
      iterate 4 refine Nh z O ?_
      exact R z (pF z O z)<|Rm z<|Nh z z<|Nh z z<|Nh z z<|Nh z z<|R z (pF z z z)<|Wl (λ_ q=>⟨false,som<|ifF af O,q.k<|s5 z z z z z,br wu⟩)
     rintro bq _ ⟨a6,rfl,_,ar⟩;revert bq;refine Wo<|Wc z (λa0=>?_) (λa0=>?_)
     .exact Wk<|Wb<|Wg<|Rm z<|R z (add_ z z)<|Ra z<|Wl (λ_ q=>⟨b_ x3 1,(som<|ifT ah a0).symm,⟨q.k<|s4 z z z z,bup sv ar,iA _ _⟩⟩)
     exact We<|λ_ q=>a_Q (som<|ifF ah a0).symm ⟨q.k<|s4 z z z z,bup sv ar,hw⟩
    .rintro x3 bt au rfl ⟨_,sx,hw⟩;have aM:=elL ae;revert bt;refine Wo<|Wm z<|RM z z<|R z (sb_ z z)<|R z (b_Q d_3 d_5 z)<|E z (fS [(.tmp 56)] M_ z z z (a_v z) (lb z)<|lb z) ?_
     rintro _ av ⟨rfl,a7⟩;have hy:=a7.below;have bX:=b_D a7 b_b;obtain ⟨_,bu,aN⟩:=bdS aM;refine E z (b_l (α:=UInt8) M_ bu z z (((hg.e s8).e sx).e hy) hh (a7.blk:Blk av au.z [(vU<|byteI<|mkB<|w_ x3 x4)]) b_b an_ G_) ?_;rintro _ bv ⟨bw,_,_,_,rfl,a8,bx,bz,bA⟩;refine Rw z<|Wm z<|RM z z<|Rm z ?_
     obtain ⟨_,bB,aO⟩:=bdS aN;refine RX z (rX k_ z_5 z z (W.g<|(((hn.e s8).e sx).e hy).c a8<|g_ (or1 hi aj (n_<|zt' V sd.s):∀k∈h,¬B k)) z z bB) ?_;rintro _ ⟨_,_,_,rfl,bC⟩;obtain ⟨bD,bE,aP⟩:=bdS aO;refine E z (fN (α:=UInt8) M_ bE z z bx bz bC) ?_;rintro _ bF ⟨aw,bG,bH,bI,rfl,bJ,bK,bL,bN⟩;refine Rw z<|Wg<|Rm z<|Ra z<|Wl ?_
     have ax:=lt_ (lt_ s8.s sx.s) hy.s;have ay:∀k∈bw,k∈h∨G.z<=k:=or2 bA (io sr) an_<|j_ ax;exact λ_ q=>⟨bD,x3,som aP,bG,bH,bI,aw,q.k<|s3 z z z,(cM (cM (i_ (i_ (i_ (cr h G) s8:Cg h G wb) sx:Cg h G au) hy:Cg h G av) a8 (io sr):Cg h G bv) bJ ay:Cg h G bF),bK,bL,(or1 bN ay (j_<|lt_ ax a8.s):∀k∈aw,k∈h∨G.z<=k),hw⟩
    rintro _ _ _ _ rfl ⟨rfl,aQ⟩;have aR:=elR ae;obtain rfl:=som aR;have aS:=elR ab;exact ⟨f_6<|f_r (som aS).symm ⟨rfl,aQ⟩,z⟩
   rintro bO bP ⟨xm,xj,rfl,ao,np,cq,Sc,_,bQ,bR,bS,bT,bU⟩;have aT:=elL ab;revert bO;have az:∀k∈h,k∈[w0.z]∨H.z<=k:=or1 hi (io sr)<|j_ lr;exact λ_ q=>⟨(xm,xj),(som<|a_7 aT).symm,⟨ao,np,cq,Sc,q.k<|s3 z z z,(cM (cM (cr [w0.z] H) sf (io sr):Cg [w0.z] H G) bQ az:Cg [w0.z] H bP),bR,bS,(or1 bT az (j_ sf.s):∀k∈Sc,k∈[w0.z]∨H.z<=k),bU⟩⟩
  exact We<|λ_ q=>a_Q (som<|ifF aa hcz).symm ⟨I,J,L,h,q.k<|s1 z,(cM (cr [w0.z] H) sf (io sr):Cg [w0.z] H G),hg,hh,(or1 hi (io sr) (j_ lr):∀k∈h,k∈[w0.z]∨H.z<=k),hl⟩
 .rintro ⟨xe,x4⟩ bV _ rfl ⟨I,J,L,h,_,bW,hg,hh,hi,hl⟩;have aU:=elL a9;revert bV;refine Wo<|Wm z<|Rw z ?_
  obtain rfl:=som<|a_7 aU;exact Wr<|c_ hr z ⟨bM sd bW<|e_ lr,I,J,L,h,z,hg,hh,(or1 hi (e_ lr) (a_W sd.s):∀k∈h,w0.z<=k)⟩
 rintro _ _ _ _ rfl ⟨rfl,aV⟩;have aW:=elR a9;obtain rfl:=som aW;exact ⟨aV,z⟩
theorem m_0 {x1:Bt}{res:Int}(hm:f_O x1=some res)(V:B<=w0.z)(h:repS w0 B (sl A0 N0 C0) x1):h_ prog 156 [sl A0 N0 C0] w0 (Q0 w0 B res):=by
 unfold f_O at hm
 refine goG func156 z z z λfn hr=>Ws<|Rw z<|Ws<|Rw z<|Wq<|Wm z<|R z (lnR k_ z h)<|Rm z<|Wn ?_
 obtain ⟨_,I,G⟩:=bdS hm;refine Wf (σ:=Int) (ρ:=Int) (λ(k3:Nat)(x0:Int) a w=>Sat 19 [(3,vI x0),(6,sl A0 N0 C0),(7,vI (x1.length:Int)),(8,vI ((k3:Nat):Int))] a/\Below w0.z w0 w/\inI x0) (λ(x0:Int) a w=>Sat 19 [(3,vI x0)] a/\Below w0.z w0 w/\inI x0) (rQ prog fn<|Q0 w0 B) I ?_ ?_ ?_ ?_ ?_
 .exact λ_ q=>⟨q.k<|s4 z z z z,br w0,ii z⟩
 .rintro k3 x0 _ _ _ H ⟨J,s5,h1⟩ L;refine Wu ?_ J;refine Ws<|Rl z z z<|Wn<|Wq<|Wc z (λ_=>?_) (λhc=>(O_ H hc).elim)
  refine Wk<|Wq<|Wb<|Ws ?_
  obtain ⟨O,ea,hmb⟩:=bdS L;refine RX z (at_ (α:=UInt8) k_ z_5 z z z (h.e s5) ea) ?_;rintro _ ⟨_,_,_,rfl,hd,he,_⟩;obtain rfl:=u8 he;exact R z (l0 g_5 z<|hd.at0 z)<|Rw z<|Wg<|RM z z<|R z (b_s d_5 d_3 z)<|R z (add_ z z)<|Rw z<|Wg<|R z (inc_ H (lt_ (repS.len h) z_) z z)<|Rm z<|Wl (λ_ q=>⟨b_ x0<|byteI O,(som hmb).symm,⟨q.k<|s4 z z z z,s5,iA _ _⟩⟩)
 .rintro x0 _ _ ⟨hSc,sf,h1⟩;refine Wu ?_ hSc;refine Ws<|Rl z z z<|Wn<|Wq<|Wc z (λhc=>(P_ hc).elim) (λ_=>?_)
  exact We<|λ_ q=>⟨rfl,⟨q.k<|s1 z,sf,h1⟩⟩
 .rintro x0 ag _ rfl ⟨_,sh,h1⟩;have hmi:=elL G;revert ag;refine Wo<|Wm z<|R z (h_K z z (by decide))<|Rw z ?_
  obtain rfl:=som hmi;exact Wr<|c_ hr z ⟨sh,z,m_i h1⟩
 rintro _ _ _ _ rfl ⟨rfl,hqj⟩;have hmk:=elR G;obtain rfl:=som hmk;exact ⟨hqj,z⟩
theorem W_w3u {x1:p_}{res:Bt}(hm:j_s n x1=some res)(O:B<=w0.z)(a1:inI x1.kind)(a2:x1.name.b.length<=LEN)(a3:inI x1.version)(L:repS w0 B (sl AD ND CD) x1.data):h_ prog 130 [(.agg #[vI x1.kind,Str.v x1.name,vI x1.version,sl AD ND CD])] w0 (Q1 w0 B res):=by
 unfold j_s at hm
 refine goG func130 z z z λfn hr=>Ws<|E z (fb z) ?_
 rintro _ aa ⟨rfl,hi⟩;have h:=hi.below;have J:Blk aa w0.z [vI x1.kind,Str.v x1.name,vI x1.version,sl AD ND CD]:=hi.blk;refine Rw z<|Wq<|Ws<|R z (lN (vs:=[vI x1.kind,Str.v x1.name,vI x1.version,sl AD ND CD]) b_p a_a z z fid<|J.row 0 4 z) ?_
 obtain ⟨_,ab,hmj⟩:=bdS hm;refine E z (fc call128 z<|W_w1h ab (zt' O h.s) a1 a2 a3<|L.e h) ?_;rintro _ ad ⟨s1,rfl⟩;refine R z (not_ z)<|Wx z (λI=>?_) (λI=>?_)
 .refine Ws<|E z (f0 (α:=UInt8) M_) ?_
  rintro _ _ ⟨ae,af,ah,rfl,ai,aj⟩;refine Rw z ?_
  obtain rfl:=som<|ifT hmj I;exact Wr<|c_ hr z ⟨bup (bup h s1) ai,ae,af,ah,[ad.z],z,aj,Z_,m1<|lt_ h.s s1.s⟩
 refine Wk<|Ws<|Rf z d_P z ?_
 have hk:=J.e s1;refine R z (l0 K_ z<|hk.at z) ?_;have hl:=lt_ h.s s1.s;obtain ⟨G,ak,a4⟩:=bdS<|ifF hmj I;refine E z (fc call155 z<|W_w3t ak (zt' O hl)<|L.g<|(h.ag B).e s1) ?_;rintro _ wa ⟨s5,_,_,_,_,rfl,h3,_,_⟩;refine Rw z<|Ws<|Rf z c_Q z ?_
 have hb:=hk.e s5;refine R z (l0 g_3 z<|hb.at z)<|R z (b_Q d_3 d_5 z)<|Rf z d_O z<|R z (l0 g_9 z<|hb.at z)<|R z (lnT d_9 z)<|R z (b_Q d_3 d_5 z)<|E z (fS [(.tmp 14),(.tmp 18)] M_ z z z (a_v z) (lb z)<|lb z) ?_
 rintro _ wm ⟨rfl,hn⟩;have h4:=hn.below;refine Rw z<|Wm z<|Rf z d_O z ?_
 have ho:=hb.e h4;refine R z (l0 g_9 z<|ho.at z) ?_;obtain ⟨_,al,a5⟩:=bdS a4;refine E z (q_W M_ d_9 al z z (h_k (l:=[mkB x1.kind,mkB (x1.name.b.length:Int)]) (hn.blk:Blk wm wa.z [(vU<|byteI<|mkB x1.kind),(vU<|byteI<|mkB (x1.name.b.length:Int))]) z:a_ wm [wa.z] (sl (some ⟨wa.z,0,none⟩) 2 2) [mkB x1.kind,mkB (x1.name.b.length:Int)]) Z_) ?_;rintro _ wc ⟨_,_,_,_,rfl,s6,am,an,hp⟩;refine Rw z<|Wm z<|Rf z c_R z<|R z (l0 g_3 z<|(ho.c s6<|djs<|mm1 J.lt<|lt_ s1.s s5.s).at z)<|R z (b_Q d_3 d_5 z)<|Rm z ?_
 have hq:=mnr<|a_.lt h3
 have hd:=(h3.e h4).c s6<|ds hq
 refine R z (lnR k_ z<|or_ hd<|a_.lt h3)<|R z (o_i z z (by decide))<|R z (b_Q d_3 d_5 z)<|Rm z<|R z (lnR k_ z<|or_ hd<|a_.lt h3)<|R z (b_Q d_3 d_5 z)<|E z (fS [(.tmp 27),.tmp 31,(.tmp 34)] M_ z z z (a_v z) (lb z)<|lb z) ?_
 rintro _ wr ⟨rfl,ht⟩;have H:=ht.below;obtain ⟨_,ao,a6⟩:=bdS a5;refine E z (fN (α:=UInt8) M_ ao z z (am.e H) an<|a_.rep (h_k (l:=[mkB x1.version,mkB<|c_Y .i64 (G.length:Int) 8,mkB (G.length:Int)]) (ht.blk:Blk wr wc.z [(vU<|byteI<|mkB x1.version),vU<|byteI<|mkB<|c_Y .i64 (G.length:Int) 8,(vU<|byteI<|mkB (G.length:Int))]) z:a_ wr [wc.z] (sl (some ⟨wc.z,0,none⟩) 3 3) [mkB x1.version,mkB<|c_Y .i64 (G.length:Int) 8,mkB (G.length:Int)])) ?_;rintro _ _ ⟨_,_,_,_,rfl,se,ap,aq,ar⟩;refine Rw z<|Wm z<|Rm z ?_
 obtain ⟨_,au,a7⟩:=bdS a6;refine E z (fN (α:=UInt8) M_ au z z ap aq<|or_ ((hd.e H).c se<|ds<|c_c hp hq (a_.lt h3) h4.s)<|a_.lt h3) ?_;rintro _ av ⟨_,_,_,_,rfl,ss,hu,aw,ax⟩;refine Rw z<|Wm z<|Rm z ?_
 obtain ⟨ay,az,a8⟩:=bdS a7;refine E z (fc call156 z<|m_0 (B:=av.z) az zr<|a_.rep hu) ?_;rintro _ aA ⟨sf,rfl,_⟩;refine R z (b_Q d_3 d_5 z)<|E z (fS [(.tmp 43)] M_ z z z (a_v z) (lb z)<|lb z) ?_
 rintro _ aB ⟨rfl,hg⟩;have hh:=hg.below;have aK:=b_D hg b_b;obtain ⟨_,aC,a9⟩:=bdS a8;refine E z (b_l (α:=UInt8) M_ aC z z ((hu.e sf).e hh) aw (hg.blk:Blk aB aA.z [(vU<|byteI<|mkB ay)]) b_b an_ G_) ?_;rintro _ _ ⟨Sv,aD,aE,aF,rfl,aG,aH,aI,aJ⟩;refine Rw z ?_
 obtain rfl:=som a9;have hw:=lt_ hl s5.s;have hx:=m1 hw;have hy:=lt_ hw h4.s;have hz:=b_2 hp hx hy;have V:=lt_ (lt_ hy s6.s) H.s;have W:=b_2 ar hz V;have Y:=lt_ V se.s;have a0:=b_2 ax W Y;exact Wr<|c_ hr z ⟨bM (bup (bup (bM (bM (bup (bM (bup (bup (bup h s1) s5) h4) s6 hx) H) se hz) ss W) sf) hh) aG a0,aD,aE,aF,Sv,z,aH,aI,(or2 aJ a0 an_ (a_W<|lt_ (lt_ (lt_ Y ss.s) sf.s) hh.s):∀k∈Sv,w0.z<=k)⟩
theorem W_w3v {x1:Bt}{x2:Bt}{res:Bool}(hm:n_j x1 x2=some res)(H:B<=w0.z)(h:repS w0 B (sl A0 N0 C0) x1)(G:repS w0 B (sl A4 N4 C4) x2):h_ prog 154 [sl A0 N0 C0,sl A4 N4 C4] w0 (Q11 w0 B res):=by
 unfold n_j at hm
 refine goG func154 z z z λfn hr=>Ws<|Rw z<|Wm z<|R z (g_j k_ d_9 d_5 z_5 z h)<|Rm z<|R z (g_j k_ d_9 d_5 z_5 z G)<|R z (a_M z z)<|Rw z ?_
 obtain rfl:=som hm;exact Wr<|c_ hr z ⟨br w0,z⟩
theorem W_w3w {x1:Bt}{x2:Bt}{res:Bool}(hm:l_g x1 x2=some res)(H:B<=w0.z)(h:repS w0 B (sl A0 N0 C0) x1)(G:repS w0 B (sl A4 N4 C4) x2):h_ prog 129 [sl A0 N0 C0,sl A4 N4 C4] w0 (Q11 w0 B res):=by
 unfold l_g at hm
 refine goG func129 z z z λfn hr=>Ws<|Rw z<|Wm z<|Rm z ?_
 obtain ⟨_,J,I⟩:=bdS hm;refine E z (fc call154 z<|W_w3v (B:=B) J H h G) ?_;rintro _ _ ⟨s2,rfl⟩;refine Rw z ?_
 obtain rfl:=som I;exact Wr<|c_ hr z ⟨s2,z⟩
theorem W_w1j {x1:Bt}{x2:Int}{res:p_×Int×Bool}(hm:f_i n x1 x2=some res)(V:B<=w0.z)(Y:repS w0 B (sl A0 N0 C0) x1)(L:inI x2):h_ prog 96 [sl A0 N0 C0,vI x2] w0 (Q13 w0 B res):=by
 unfold f_i at hm
 refine goG func96 z z z λfn hr=>Ws<|E z (fa e_j) ?_
 rintro _ wl ⟨rfl,a8⟩;have hd:=a8.below;have h6:Blk wl w0.z [vI 0,Str.v (⟨[]⟩:Str),vI 0,sN]:=a8.blk;refine Ra z<|Rw z<|Wq<|Wq ?_
 obtain ⟨aI,a0,a1⟩:=bdS hm;refine Wt (λa w=>∃(xr:Bool),xr=aI/\Sat 126 [(0,sl A0 N0 C0),(1,vI x2),(4,pt w0.z),(28,vB xr)] a/\Below wl.z wl w) ?_ ?_
 .refine Wg<|Rm z<|Rl z z z<|Rm z ?_
  rcases bs (decide<|x2<0) with J | J
  .iterate 4 refine Nh z J ?_
   exact R z (pT z J z)<|Rm z<|Nh z z<|Nh z z<|Nh z z<|Nh z z<|Nh z z<|R z (pT z z z)<|Wl (λ_ q=>⟨true,som<|ifT a0 J,q.k<|s4 z z z z,br wl⟩)
  have a2:=ifF a0 J;refine Rh z J (mv z)<|Rh z J (mv z) ?_
  have a9:=Y.e hd;refine Rh z J (lnR k_ z a9)<|Rh z J (X_ z z)<|R z (pF z J z)<|Rm z ?_
  rcases bs (decide<|(x1.length:Int)<x2) with H | H
  .iterate 5 refine Nh z H ?_
   exact R z (pT z H z)<|Wl (λ_ q=>⟨true,som<|ifT a2 H,q.k<|s4 z z z z,br wl⟩)
  exact Rh z H (mv z)<|Rh z H (lnR k_ z a9)<|Rh z H (mv z)<|Rh z H (sb_ z z)<|Rh z H (lss z z)<|R z (pF z H z)<|Wl (λ_ q=>⟨decide<|(w_ (x1.length:Int) x2)<2,som<|ifF a2 H,q.k<|s4 z z z z,br wl⟩)
 rintro aJ _ ⟨xr,rfl,_,s2⟩;revert aJ;refine Wo<|Wc z (λhcs=>?_) (λhcs=>?_)
 .refine Ws<|R z (bP (parts:=[]) (cs:=[vI 0,Str.v (⟨[]⟩:Str),vI 0,sN]) d_L z z)<|Rm z<|E0 (fs0 (cur':=[vI 0,Str.v (⟨[]⟩:Str),vI 0,sN]) a_a z z (h6.e s2) z z z z) ?_
  rintro _ _ ⟨aK,aL⟩;refine Ra z<|Rw z ?_
  obtain rfl:=som<|ifT a1 hcs;exact Wr<|x_ hr (q_ b_p a_a z aK z) z z ⟨bM (bup hd s2) aL.one<|e_ lr,none,0,0,[],z,ii z,lb z,ii z,onL,L,G_,an_⟩
 refine Wk<|Wm z<|Rm z ?_
 obtain ⟨_,aM,ax⟩:=bdS<|ifF a1 hcs;refine RX z (rX k_ z_5 z z (Y.g<|(hd.ag B).e s2) z z aM) ?_;rintro _ ⟨_,_,_,rfl,hn⟩;refine Rw z<|Wm z ?_
 obtain ⟨aN,aO,a3⟩:=bdS ax;refine RX z (at_ (α:=UInt8) k_ z_5 z z z hn aO) ?_;rintro _ ⟨_,_,_,rfl,aP,aQ,_⟩;obtain rfl:=u8 aQ;refine R z (l0 g_5 z<|aP.at0 z)<|R z (b_s d_5 d_3 z)<|Rw z<|Wq<|Wm z<|R z (lnR k_ z hn)<|Rm z<|R z (add_ z z)<|Rl z z z<|Wx z (λhcu=>?_) (λhcu=>?_)
 .refine Ws<|R z (bP (parts:=[]) (cs:=[vI 0,Str.v (⟨[]⟩:Str),vI 0,sN]) d_L z z)<|Rm z<|E0 (fs0 (cur':=[vI 0,Str.v (⟨[]⟩:Str),vI 0,sN]) a_a z z (h6.e s2) z z z z) ?_
  rintro _ _ ⟨aR,aS⟩;refine Ra z<|Rw z ?_
  obtain rfl:=som<|ifT a3 hcu;exact Wr<|x_ hr (q_ b_p a_a z aR z) z z ⟨bM (bup hd s2) aS.one<|e_ lr,none,0,0,[],z,ii z,lb z,ii z,onL,L,G_,an_⟩
 refine Wk<|Wq (Wd (X:=noX) 0 (pl_ 15 []) mo (by kernel_rfl) λaT s5 _=>dM z z z<|dM z z z<|dR z z (add_ z z) ?_)
 obtain ⟨aU,aV,ay⟩:=bdS<|ifF a3 hcu;have hv:=hn.e s5;refine dRX z z (at_ (α:=UInt8) k_ z_5 z z z hv aV) ?_;rintro _ ⟨_,_,_,rfl,aW,aX,_⟩;obtain rfl:=u8 aX;refine dR z z (l0 g_5 z<|aW.at0 z)<|dR z z (b_s d_5 d_3 z)<|dR z z (h_L z z (by decide))<|dM z z z<|dM z z z<|dR z z (add_ z z) ?_
 obtain ⟨aY,aZ,a4⟩:=bdS ay;refine dRX z z (at_ (α:=UInt8) k_ z_5 z z z hv aZ) ?_;rintro _ ⟨_,_,_,rfl,b0,b1,_⟩;obtain rfl:=u8 b1;refine dR z z (l0 g_5 z<|b0.at0 z)<|dR z z (b_s d_5 d_3 z)<|dR z z (m_q z z)<|dQ z z z<|pD<|Wo<|Wq<|Wm z<|R z (lnR k_ z hv)<|Rm z<|R z (add_ z z)<|Rm z<|R z (add_ z z)<|Rl z z z<|Wx z (λhcw=>?_) (λhcw=>?_)
 .refine Ws<|R z (bP (parts:=[]) (cs:=[vI 0,Str.v (⟨[]⟩:Str),vI 0,sN]) d_L z z)<|Rm z<|E0 (fs0 (cur':=[vI 0,Str.v (⟨[]⟩:Str),vI 0,sN]) a_a z z ((h6.e s2).e s5) z z z z) ?_
  rintro _ _ ⟨b2,b3⟩;refine Ra z<|Rw z ?_
  obtain rfl:=som<|ifT a4 hcw;exact Wr<|x_ hr (q_ b_p a_a z b2 z) z z ⟨bM (bup (bup hd s2) s5) b3.one<|e_ lr,none,0,0,[],z,ii z,lb z,ii z,onL,L,G_,an_⟩
 refine Wk<|Wm z ?_
 obtain ⟨_,b4,az⟩:=bdS<|ifF a4 hcw;refine E z (d_n (α:=UInt8) M_ (λ_=>o_7) b4 z z) ?_;rintro _ b5 ⟨_,_,_,rfl,s9,aa⟩;refine Rw z<|Wm z<|RM z z<|R z (add_ z z) ?_
 obtain ⟨_,b6,aA⟩:=bdS az;have ab:=(s5.ag B).e s9;refine RX z (rX k_ z_5 z z (hn.g ab) z z b6) ?_;rintro _ ⟨_,_,_,rfl,b7⟩;refine E z (q_U k_ z_5 z z aa b7) ?_;rintro _ _ ⟨rfl,s7,b8⟩;refine Wn<|Wm z ?_
 obtain ⟨ad,b9,ba,aB⟩:=Y_ aA;refine E z (fc call127 z<|W_w3o (B:=b5.z) ba (a_K s7.s)<|or_ b8<|a_.lt aa) ?_;rintro _ ae ⟨sa,ai,nj,ck,bb,rfl,ho,bc,af⟩;refine Rm z<|Re z z z<|Re z z z<|Ra z<|Rw z<|Wq (Wd (X:=noX) 262144 (pl_ 19 [17,18]) mo (by kernel_rfl) λwx s1 _=>dM z z z ?_)
 obtain ⟨xe,be,aC⟩:=bdS aB;have hp:=lt_ (lt_ hd.s s2.s) s5.s;have ah:=((ab.c s7<|g_ (or0 (e_ lr) (n_<|zt' V hp):∀k∈[aT.z],¬B k)).e sa).e s1;have hy:=hn.g ah;refine dRX z z (at_ (α:=UInt8) k_ z_5 z z z hy be) ?_;rintro _ ⟨_,_,_,rfl,bf,bg,_⟩;obtain rfl:=u8 bg;refine dR z z (l0 g_5 z<|bf.at0 z)<|dR z z (b_s d_5 d_3 z)<|dM z z z<|dM z z z<|dR z z (add_ z z) ?_
 obtain ⟨xf,bh,aD⟩:=bdS aC;refine dRX z z (rX k_ z_5 z z hy z z bh) ?_;rintro _ ⟨_,_,_,rfl,ht⟩;refine dR z z (g_j k_ d_9 d_5 z_5 z ht)<|dM z z z<|dM z z z<|dR z z (add_ z z) ?_
 obtain ⟨xg,bi,aE⟩:=bdS aD;refine dRX z z (at_ (α:=UInt8) k_ z_5 z z z hy bi) ?_;rintro _ ⟨_,_,_,rfl,bj,bk,_⟩;obtain rfl:=u8 bk;refine dR z z (l0 g_5 z<|bj.at0 z)<|dR z z (b_s d_5 d_3 z)<|dM z z z<|dR z z (bP (parts:=[(0,.tmp 84),(1,.tmp 89),(2,.tmp 95),(3,.tmp 96)]) (cs:=[vI (byteI xe),Str.v (⟨xf⟩:Str),vI<|byteI xg,sl ai nj ck]) d_L z z)<|dE z z (fa e_j) (.inr λ_ _ h=>E_<|h.2.below) ?_
 rintro _ bm ⟨rfl,aj⟩;have hb:=aj.below;refine dE0 z (fs0 (cur':=[vI (byteI xe),Str.v (⟨xf⟩:Str),vI<|byteI xg,sl ai nj ck]) a_a z z (aj.blk:Blk bm wx.z [vI 0,Str.v (⟨[]⟩:Str),vI 0,sN]) z z z z) (.inl z) ?_;rintro _ ak ⟨al,bn⟩;have hc:=bn.one;refine pD<|Wo<|Wq<|Wq ?_
 obtain ⟨bo,a5,a6⟩:=bdS aE;refine Wt (λa w=>∃(xz:Bool),xz=bo/\Sat 126 [(1,vI x2),(4,pt w0.z),(8,vI<|byteI aN),(9,vI<|c_1 .i64 (· ||| ·) (b_y .i64 (byteI aU) 8)<|byteI aY),(13,pt wx.z),(116,vB xz)] a/\Below ak.z ak w) ?_ ?_
 .refine Wd (X:=noX) 0 (.rd 0<|.rd 1<|.rd 2<|.rd 3<|.ef 4<|.rd 5<|.rd 6<|.rd 7<|.rd 8<|.rd 10<|.rd 11<|.rd 12<|.rd 13<|.rd 14<|.rd 15<|.ef 9<|.ef 16<|.rd 17<|.rd 18 .done) mo (by kernel_rfl) λbH sh _=>dM z z z<|dR z z (not_ z)<|dM z z z ?_
  rcases bs (!b9) with I | I
  .refine dRn z z z I z<|dEn z z z I z<|dRn z z z I z<|dR z z (pT z I z)<|dM z z z ?_
   iterate 7 refine dRn z z z z z ?_
   exact dEn z z z z z<|dEn z z z z z<|dRn z z z z z<|dR z z (pT z z z)<|pD (λ_ q=>⟨true,som<|ifT a5 I,q.k<|s6 z z z z z z,sh⟩)
  have am:=al.e sh;refine dRg z z z I z (lN (vs:=[vI (byteI xe),Str.v (⟨xf⟩:Str),vI<|byteI xg,sl ai nj ck]) b_p a_a z z fid<|am.row 0 4 z) ?_;have an:=(((ho.e s1).e hb).c hc<|ds<|mno (a_.lt ho) s1.s).e sh;have ao:=lt_ (lt_ (lt_ s1.s hb.s) hc.s) sh.s;obtain ⟨bp,bq,a7⟩:=bdS<|ifF a5 I;refine dEg z z z I z (fc call128 z<|W_w1h (B:=ae.z) (x1:=(⟨byteI xe,(⟨xf⟩:Str),byteI xg,ad⟩:p_)) bq (a_K ao) (c_U _) (repS.len ht) (c_U _)<|or_ an<|a_.lt ho) (.inr λ_ _ h=>E_<|h.1) ?_;rintro _ _ ⟨sm,rfl⟩;refine dRg z z z I z (not_ z)<|dR z z (pF z I z)<|dM z z z ?_
  rcases bs (!bp) with G | G
  .iterate 7 refine dRn z z z G z ?_
   exact dEn z z z G z<|dEn z z z G z<|dRn z z z G z<|dR z z (pT z G z)<|pD (λ_ q=>⟨true,som<|ifT a7 G,q.k<|s6 z z z z z z,bup sh sm⟩)
  refine dRg z z z G z (lN (vs:=[vI (byteI xe),Str.v (⟨xf⟩:Str),vI<|byteI xg,sl ai nj ck]) b_p a_a z z fid<|(am.e sm).row 0 4 z)<|dRg z z z G z (mv z)<|dRg z z z G z (mv z)<|dRg z z z G z (add_ z z)<|dRg z z z G z (mv z)<|dRg z z z G z (add_ z z) ?_
  obtain ⟨_,bt,aF⟩:=bdS<|ifF a7 G;have ap:=lt_ (lt_ (lt_ (lt_ hp s9.s) s7.s) sa.s) s1.s;refine a_L z z z G z (rX k_ z_5 z z (hn.g<|(((ah.e hb).c hc<|g_ (or0 (e_ lr) (n_<|zt' V ap):∀k∈[wx.z],¬B k)).e sh).e sm) z z bt) ?_;rintro _ ⟨_,_,_,rfl,bu⟩;obtain ⟨_,bv,aG⟩:=bdS aF;refine dEg z z z G z (fc call130 z<|W_w3u (B:=ae.z) (x1:=(⟨byteI xe,(⟨xf⟩:Str),byteI xg,ad⟩:p_)) bv (a_K<|lt_ ao sm.s) (c_U _) (repS.len ht) (c_U _)<|or_ (an.e sm)<|a_.lt ho) (.inr λ_ _ h=>E_<|h.1) ?_;rintro _ bw ⟨W,_,_,_,_,rfl,bx,_,_⟩;obtain ⟨bz,bA,aH⟩:=bdS aG;refine dEg z z z G z (fc call129 z<|W_w3w (B:=bw.z) bA zr (a_.rep bx)<|repS.mono (bu.e W)<|zt' V<|lt_ (lt_ (lt_ (lt_ (lt_ ap hb.s) hc.s) sh.s) sm.s) W.s) (.inr λ_ _ h=>E_<|h.1) ?_;rintro _ _ ⟨bB,rfl⟩;exact dRg z z z G z (not_ z)<|dR z z (pF z G z)<|pD (λ_ q=>⟨!bz,som aH,q.k<|s6 z z z z z z,bup (bup (bup sh sm) W) bB⟩)
 rintro bC _ ⟨xz,rfl,_,sq⟩;revert bC;refine Wo<|Wc z (λO=>?_) (λO=>?_)
 .refine Ws<|R z (bP (parts:=[]) (cs:=[vI 0,Str.v (⟨[]⟩:Str),vI 0,sN]) d_L z z)<|Rm z ?_
  have aq:=lt_ s2.s s5.s;refine E0 (fs0 (cur':=[vI 0,Str.v (⟨[]⟩:Str),vI 0,sN]) a_a z z (((((((((h6.e s2).e s5).e s9).c s7<|djs<|mm1 h6.lt aq).e sa).e s1).e hb).c hc<|djs<|mm1 h6.lt<|lt_ (lt_ (lt_ (lt_ aq s9.s) s7.s) sa.s) s1.s).e sq) z z z z) ?_;rintro _ _ ⟨bD,bE⟩;refine Ra z<|Rw z ?_
  obtain rfl:=som<|ifT a6 O;exact Wr<|x_ hr (q_ b_p a_a z bD z) z z ⟨bM (bup (bM (bup (bup (bup (bM (bup (bup (bup hd s2) s5) s9) s7<|m1 hp) sa) s1) hb) hc<|m1<|lt_ (lt_ (lt_ (lt_ hp s9.s) s7.s) sa.s) s1.s) sq) bE.one<|e_ lr,none,0,0,[],z,ii z,lb z,ii z,onL,L,G_,an_⟩
 refine Wk<|Ws<|R z (lN (vs:=[vI (byteI xe),Str.v (⟨xf⟩:Str),vI<|byteI xg,sl ai nj ck]) b_p a_a z z fid<|(al.e sq).row 0 4 z)<|RM z z<|R z (add_ z z)<|R z (add_ z z)<|Rm z<|R z (add_ z z) ?_
 have ar:=lt_ s2.s s5.s;have au:=lt_ (lt_ ar s9.s) s7.s;refine E0 (fs0 (cur':=[vI (byteI xe),Str.v (⟨xf⟩:Str),vI<|byteI xg,sl ai nj ck]) a_a z z (((((((((h6.e s2).e s5).e s9).c s7<|djs<|mm1 h6.lt ar).e sa).e s1).e hb).c hc<|djs<|mm1 h6.lt<|lt_ (lt_ au sa.s) s1.s).e sq) z z z z) ?_;rintro _ _ ⟨bF,bG⟩;have av:=bG.one;refine Ra z<|Rw z ?_
 obtain rfl:=som<|ifF a6 O;have aw:=lt_ (lt_ hp s9.s) s7.s;exact Wr<|x_ hr (q_ b_p a_a z bF z) z z ⟨bM (bup (bM (bup (bup (bup (bM (bup (bup (bup hd s2) s5) s9) s7<|m1 hp) sa) s1) hb) hc<|m1<|lt_ (lt_ aw sa.s) s1.s) sq) av<|e_ lr,ai,nj,ck,bb,z,c_U _,repS.len ht,c_U _,((((ho.e s1).e hb).c hc<|ds<|mno (a_.lt ho) s1.s).e sq).c av<|s_ af h6.lt au,iA _ _,bc,o_ af aw⟩
theorem W_w3x {x1:Log}{res:Bool}(hm:l_t n x1=some res)(O:B<=w0.z)(L:repS w0 B (sl A0 N0 C0) x1.bytes)(V:inI x1.stored):Calls prog 93 [(.agg #[sl A0 N0 C0,vI x1.stored])].toArray w0 (q_s (.iface 141<|.agg #[])<|λq w'=>q=res/\Bw w0 w'):=by
 unfold l_t at hm
 obtain ⟨_,hf,hb,hN,hr⟩:=fnE func93;refine v_I hf (hb.trans z) (hN.trans z) (lb z)<|Ws<|E z (fb z) ?_
 rintro _ wz ⟨rfl,hl⟩;have h1:=hl.below;have I:Blk wz w0.z [sl A0 N0 C0,vI x1.stored]:=hl.blk;refine Wn<|Wq<|Ws<|Rf z e_h z<|R z (l0 g_3 z<|I.at z)<|Rf z c_6 z<|R z (l0 K_ z<|I.at z) ?_
 have hn:=L.e h1;refine R z (lnR k_ z hn) ?_;obtain ⟨_,a5,hmm⟩:=bdS hm;refine E z (fc call125 z<|d_S a5 (zt' O h1.s) V (ii z)<|b_Y<|repS.len hn) ?_;rintro _ H ⟨s2,rfl⟩;refine R z (not_ z)<|Wx z (λhcb=>?_) (λhcb=>?_)
 .refine Wg<|R z (bP (parts:=[]) (cs:=[]) l_H z z)<|R z (h_N l_K (λ_ h=>by cases h) z) ?_
  obtain rfl:=som<|ifT hmm hcb;exact n_b z λ_ ha=>⟨false,.inr ⟨rfl,z,ha.defers,z,bup h1 s2⟩⟩
 refine Wk<|Ws<|Rf z e_h z ?_
 have ho:=I.e s2;refine R z (l0 g_3 z<|ho.at z)<|Rq z z z<|Rw z<|Wq<|Ws<|Rw z ?_
 obtain ⟨_,W,hmp⟩:=bdS<|ifF hmm hcb;refine v_J (σ:=Bool×Int) (ρ:=Bool) (λs a w=>un2 (λx3 x5=>Sat 48 [(1,pt w0.z),(2,vB x3),(3,vI x5)] a/\Below H.z H w/\inI x5) s) (λs a w=>un2 (λx3 x5=>Sat 48 [(2,vB x3)] a/\Below H.z H w/\inI x5) s) (λr ex a w=>r=false/\ex = .panic (l_3<|.iface 141<|.agg #[])/\a.defers=[]/\Below w0.z w0 w) W ?_ ?_ ?_ ?_
 .exact λ_ q=>⟨q.k<|s3 z z z,br H,ii z⟩
 .rintro ⟨x3,x5⟩ _ _ _ ⟨Y,s4,hc⟩ a0;have hmq:=a_7 a0;refine Wu ?_ Y;refine Wq<|Wm z<|Rf z c_6 z ?_
  have hd:=ho.e s4;refine R z (l0 K_ z<|hd.at z) ?_;have ht:=L.g<|((h1.ag B).e s2).e s4
  refine R z (lnR k_ z ht)<|Rl z z z<|Wx z (λhce=>?_) (λhce=>?_)
  .refine Wk<|Wb<|Ws<|Rf z c_6 z<|R z (l0 K_ z<|hd.at z)<|Rm z ?_
   have hu:=lt_ (lt_ h1.s s2.s) s4.s;obtain ⟨rf,rg,_,a6,hmr⟩:=U_<|ifT hmq hce;refine E z (fc call96 z<|W_w1j a6 (zt' O hu) ht hc) ?_;rintro _ a7 ⟨s6,a8,a9,aa,_,rfl,_,_,_,_,ab,_,_⟩;refine Rm z ?_
   iterate 3 refine Re z z z ?_
   refine E z (fa e_j) ?_;rintro _ ad ⟨rfl,hv⟩;have hh:=hv.below;refine E0 (fs0 (cur':=[vI rf.kind,Str.v rf.name,vI rf.version,sl a8 a9 aa]) a_a z z (hv.blk:Blk ad a7.z [vI 0,Str.v (⟨[]⟩:Str),vI 0,sN]) z z z z) ?_;rintro _ J ⟨_,ae⟩;have hi:=ae.one;refine Ra z<|Rw z<|Wq<|Wm z<|R z (not_ z)<|Wx z (λhcj=>?_) (λhcj=>?_)
   .exact Wg<|R z (bP (parts:=[]) (cs:=[]) l_H z z)<|R z (h_N l_K (λ_ h=>by cases h) z) (n_b z λ_ ha=>.inr ⟨false,(som<|ifT hmr hcj).symm,z,z,ha.defers,bM (bup (bup (bup (bup h1 s2) s4) s6) hh) hi<|m1<|lt_ hu s6.s⟩)
   refine Wk<|Wm z<|Rw z ?_
   obtain ⟨af,hus,a1⟩:=bdS<|ifF hmr hcj;refine Wt (λa w=>∃(xa:Bool),xa=af/\Sat 48 [(1,pt w0.z),(2,vB xa),(3,vI rg)] a/\Below J.z J w) ?_ ?_
   .refine Wg<|RM z z ?_
    rcases bs x3 with G | G
    .iterate 4 refine Nh z G ?_
     exact R z (pT z G z)<|Ra z<|Wl (λ_ q=>⟨true,som<|ifT hus G,q.k<|s3 z z z,br J⟩)
    exact Rh z G (mv z)<|Rh z G (fd e_h z)<|Rh z G (l0 g_3 z<|(((hd.e s6).e hh).c hi<|djs<|mm1 I.lt<|lt_ (lt_ s2.s s4.s) s6.s).at z)<|Rh z G (eql z z)<|R z (pF z G z)<|Ra z<|Wl (λ_ q=>⟨rg==x1.stored,som<|ifF hus G,q.k<|s3 z z z,br J⟩)
   rintro ah _ ⟨xa,rfl,_,ai⟩;revert ah;exact λ_ q=>⟨(xa,rg),(som a1).symm,⟨q.k<|s3 z z z,bup (bM (bup (bup s4 s6) hh) hi<|m1<|lt_ s4.s s6.s) ai,ab⟩⟩
  exact We<|λ_ q=>a_Q (som<|ifF hmq hce).symm ⟨q.k<|s1 z,s4,hc⟩
 .rintro ⟨x3,x5⟩ aj _ rfl ⟨_,sw,hc⟩;have a2:=elL hmp;have hmx:=a_7 a2;revert aj;refine Wo<|Wm z<|R z (not_ z)<|Wx z (λhck=>?_) (λhck=>?_)
  .refine Wg<|R z (bP (parts:=[]) (cs:=[]) l_H z z)<|R z (h_N l_K (λ_ h=>by cases h) z) ?_
   obtain rfl:=som<|ifT hmx hck;exact n_b z λ_ ha=>⟨false,.inr ⟨rfl,z,ha.defers,z,bup (bup h1 s2) sw⟩⟩
  refine a_j ?_;obtain rfl:=som<|ifF hmx hck;exact ret0 hr ⟨rfl,bup (bup h1 s2) sw⟩
 rintro _ exy _ _ rfl ⟨rfl,rfl,a3,exy⟩;have a4:=elR hmp;obtain rfl:=som a4;exact ⟨⟨false,.inr ⟨rfl,z,a3,z,exy⟩⟩,_,z⟩
theorem s_e (w:World):(Instr.typeAssert (.iface 141<|.agg #[]) 20 141 true).run Tryz.prog w = .ok (.tuple #[.agg #[],.bool true]) w:=by kernel_rfl
theorem s_f (w:World):(Instr.typeAssert .nilIface 20 141 true).run Tryz.prog w = .ok (.tuple #[.agg #[],.bool false]) w:=by kernel_rfl
set_option maxRecDepth 4000 in
theorem s_g (p:Addr)(b:Bool)(older:List PanicEntry)(w:World)(hc:w.cell? p=some (vB b))(hz:w.frozen? p=false)(hp:p.block<w.heap.size) :
    CallsD Tryz.prog 92 #[.pointer (some p)] (.panicking ({ v:=.iface 141<|.agg #[],recovered:=false }::older)) w λe u' w' =>
      e = .returned (.tuple #[])/\u' = .panicking ({ v:=.iface 141<|.agg #[],recovered:=true }::older)/\w'=(w.alloc<|.cells #[] 141).setCell p (vB false):=by
  refine callsD_of_wpS Tryz.func92 rfl λc₀ cs hu=>?_
  apply wpS_seq
  apply wpS_region
  simp [wpOpsS,go_sem,recoverD,hu,Tryz.ntmps92,Exit.thenS,s_e]
  apply wpS_seq
  apply wpS_region
  simp [wpOpsS,go_sem,Exit.thenS]
  refine wpS_cond (t:=true) (by simp [Act.eval]) ?_
  simp only [if_true]
  apply wpS_region
  have hb:=b_d w<|.cells #[] 141;have h:(w.alloc<|.cells #[] 141).cell? p=some (vB b):=(hb.cell (p:=p) hp).trans hc;have G:(w.alloc<|.cells #[] 141).frozen? p=false:=(hb.frozen (p:=p) hp).trans hz
  simp [wpOpsS,go_sem,bodyPostS,results,Tryz.results92,h,G]
set_option maxRecDepth 4000 in
theorem s_h (p:Addr)(w:World) :
    CallsD Tryz.prog 92 #[.pointer (some p)] .returning w λe u' w'=>e = .returned (.tuple #[])/\u' = .returning/\w'=w.alloc (.cells #[] 141):=by
  refine callsD_of_wpS Tryz.func92 rfl λc₀ cs hu=>?_
  apply wpS_seq
  apply wpS_region
  simp [wpOpsS,go_sem,recoverD,hu,Tryz.ntmps92,Exit.thenS,s_f]
  apply wpS_seq
  apply wpS_region
  simp [wpOpsS,go_sem,Exit.thenS]
  refine wpS_cond (t:=false) (by simp [Act.eval]) ?_
  simp only [Bool.false_eq_true,if_false]
  refine wpS_of_wp<|wp_skip ?_
  cases c₀
  simp_all [bodyPostS,results,Tryz.results92]
theorem s_i {w0:World}{a b:Value}:(∀w',Below ((w0.alloc (.cells #[a,b] 36)).alloc (.cells #[.bool false] 4)).heap.size ((w0.alloc (.cells #[a,b] 36)).alloc (.cells #[.bool false] 4)) w' ->
    (w'.cell? ⟨w0.heap.size+1,0,none⟩=some (vB false)/\w'.frozen? ⟨w0.heap.size+1,0,none⟩=false/\Bw w0 w'/\w0.heap.size+1<w'.heap.size))/\Below w0.heap.size w0 ((w0.alloc (.cells #[a,b] 36)).alloc (.cells #[.bool false] 4)):=by
  have hB1:Below w0.heap.size w0 ((w0.alloc<|.cells #[a,b] 36).alloc (.cells #[.bool false] 4)) :=
    (b_d w0 _).trans ((b_d (w0.alloc<|.cells #[a,b] 36)<|.cells #[.bool false] 4).mono (by simp))
  refine ⟨λw' hb=>?_,hB1⟩;have hs0:((w0.alloc<|.cells #[a,b] 36).alloc (.cells #[.bool false] 4)).heap.size=w0.heap.size+2:=by simp
  have hsz:=hb.size;refine ⟨(hb.cell (p:=⟨w0.heap.size+1,0,none⟩) (by rw [hs0];simp only;omega)).trans (by simp [go_sem]),(hb.frozen (p:=⟨w0.heap.size+1,0,none⟩) (by rw [hs0];simp only;omega)).trans (by simp [go_sem]),hB1.trans<|hb.mono hB1.size,by omega⟩
theorem W_w1k {n:Nat}{B:Zone}{x1:Log}{A0:Option Addr}{N0 C0:Nat}{res:Bool}{w0:World}(hm:j_t n x1=some res)(O:B<=w0.heap.size)(J:repS w0 B (sl A0 N0 C0) x1.bytes)(V:inI x1.stored):h_ Tryz.prog 63 [(.agg #[(sl A0 N0 C0),(vI x1.stored)])] w0 (λv w'=>Bw w0 w'/\vB res=v):=by
  constructor
  have hmf:∀(fn:Fn)(first cap:Array Value)(w:World),(Instr.makeFunc fn first cap).run Tryz.prog w = .ok (.func fn first cap) w:=λ_ _ _ _=>rfl
  have L:=s_i (w0:=w0) (a:=sl A0 N0 C0) (b:=vI x1.stored);have hmb:=W_w3x hm (zt' O L.2.size) (J.ext L.2) V;have H:=Lib.hid L.1
  clear L hm J O
  go_enter_defers Tryz.func63,Tryz.ntmps63
  go_wp2_with (go_at_call 93;refine hmb.mono ?_;(rintro e w' (⟨v,rfl,rfl,hb⟩ | ⟨rfl,rfl,hb⟩) <;> (obtain ⟨hc,hz,hB,hsz⟩:=H.out _ hb;clear hmb hb H)))
  . refine leaves_cons (f:=92) (args:=#[.pointer (some ⟨w0.heap.size+1,0,none⟩)]) (by simp) (by simp [go_sem]) ?_
    refine (s_h _ _).mono ?_;rintro e u' w'' ⟨rfl,rfl,rfl⟩;have h:=hB.setCell (p:=⟨w0.heap.size+1,0,none⟩) (by simp)<|vB true;have G:=h.trans<|(b_d (w'.setCell ⟨w0.heap.size+1,0,none⟩<|vB true)<|.cells #[] 141).mono h.size
    have I:((w'.setCell ⟨w0.heap.size+1,0,none⟩<|vB true).alloc (.cells #[] 141)).cell? ⟨w0.heap.size+1,0,none⟩=some (vB true) :=
      ((b_d (w'.setCell ⟨w0.heap.size+1,0,none⟩<|vB true)<|.cells #[] 141).cell (p:=⟨w0.heap.size+1,0,none⟩) (by simpa using hsz)).trans (World.cell?_setCell_same _ _ _ hc)
    simp [Leaves,settle,results,Tryz.results63,go_sem,I]
    exact G
  . refine leaves_cons (f:=92) (args:=#[.pointer (some ⟨w0.heap.size+1,0,none⟩)]) (by simp) (by simp [go_sem]) ?_
    refine (s_g ⟨w0.heap.size+1,0,none⟩ false [] _ hc hz hsz).mono ?_;rintro e u' w'' ⟨rfl,rfl,rfl⟩;have h:=hB.trans<|(b_d w'<|.cells #[] 141).mono hB.size;have G:=h.setCell (p:=⟨w0.heap.size+1,0,none⟩) (by simp)<|vB false
    have W:(w'.alloc<|.cells #[] 141).cell? ⟨w0.heap.size+1,0,none⟩=some (vB false) :=
      ((b_d w'<|.cells #[] 141).cell (p:=⟨w0.heap.size+1,0,none⟩) hsz).trans hc
    have I:((w'.alloc<|.cells #[] 141).setCell ⟨w0.heap.size+1,0,none⟩ (vB false)).cell? ⟨w0.heap.size+1,0,none⟩=some (vB false):=World.cell?_setCell_same _ _ _ W
    simp [Leaves,settle,results,Tryz.results63,go_sem,I]
    exact G
theorem W_w1l {x1:Bt}{res:(List p_)×Int}(hm:h_f n x1=some res)(Y:B<=w0.z)(a1:repS w0 B (sl A0 N0 C0) x1):h_ prog 65 [sl A0 N0 C0] w0 (Q14 w0 B res):=by
 unfold h_f at hm
 refine goG func65 z z z λfn hr=>Ws<|Ra z<|Rw z<|Ws<|E z (f0 (α:=p_) g_1) ?_
 rintro _ h ⟨aa,ab,ad,rfl,sc,ae⟩;refine Rw z<|Ws<|Rw z ?_
 obtain ⟨_,a2,hmo⟩:=bdS hm;refine a_X (σ:=(List p_)×Int) (ρ:=(List p_)×Int) (λs a w=>un2 (λxd W=>∃I J L G,Sat 26 [(0,sl A0 N0 C0),(2,sN),(3,vI 0),(4,sl I J L),(5,vI W)] a/\Cg [w0.z] h w/\a_ w G (sl I J L) xd/\G.Nodup/\(∀k∈G,k∈[w0.z]∨h.z<=k)/\inI W) s) (λs a w=>un2 (λxd W=>∃I J L G,Sat 26 [(2,sN),(3,vI 0)] a/\Cg [w0.z] h w/\a_ w G (sl I J L) xd/\G.Nodup/\(∀k∈G,k∈[w0.z]∨h.z<=k)/\inI W) s) (rQ prog fn<|Q14 w0 B) a2 ?_ ?_ ?_ ?_
 .exact λ_ q=>⟨aa,ab,ad,[w0.z],q.k<|s5 z z z z z,cr [w0.z] h,ae,Z_,io sr,ii z⟩
 .rintro ⟨xd,W⟩ _ af _ ⟨I,J,L,G,a3,sa,hb,hg,hh,hi⟩ a5;refine Wu ?_ a3;refine Wb<|Wm z<|Rm z ?_
  have hp:=lt_ sc.s sa.s;obtain ⟨H,ah,_,ai,hmq⟩:=U_<|a_7 a5;refine E z (fc call96 z<|W_w1j ai (zt' Y hp) (a1.g<|(sc.ag B).c sa<|g_ (or0 (e_ lr) (n_ Y):∀k∈[w0.z],¬B k)) hi) ?_;rintro _ wj ⟨s3,ak,nl,cm,Sr,rfl,aj,al,am,he,an,ao,ht⟩;refine Rm z ?_
  iterate 3 refine Re z z z ?_
  refine E z (fa e_j) ?_;rintro _ ws ⟨rfl,hu⟩;have O:=hu.below;refine E0 (fs0 (cur':=[vI H.kind,Str.v H.name,vI H.version,sl ak nl cm]) a_a z z (hu.blk:Blk ws wj.z [vI 0,Str.v (⟨[]⟩:Str),vI 0,sN]) z z z z) ?_;rintro _ wv ⟨ap,aq⟩;have V:=aq.one;refine Ra z<|Rw z<|Wq<|Wm z<|R z (not_ z)<|Wx z (λhcn=>?_) (λhcn=>?_)
  .refine Wm z<|Rm z<|Ra z<|Rw z ?_
   exact Wr<|rtO<|qL (som<|ifT hmq hcn).symm<|a_0 hr z z ⟨bM (bup (bup (bM sc sa<|e_ lr) s3) O) V<|m1<|lt_ hp s3.s,I,J,L,G,z,((hb.e s3).e O).c V<|ds<|mno (a_.lt hb) s3.s,hi,hg,(or1 hh (e_ lr) (a_W sc.s):∀k∈G,w0.z<=k)⟩
  refine Wk<|Wm z<|R z (lN (vs:=[vI H.kind,Str.v H.name,vI H.version,sl ak nl cm]) b_p a_a z z fid<|ap.row 0 4 z)<|E z (fS [(.tmp 22)] g_1 z z z (a_v z) (lb z)<|lb z) ?_
  rintro _ ww ⟨rfl,hx⟩;have hf:=hx.below;have aF:=(he.e O).c V<|ds<|mnr<|a_.lt he
  obtain ⟨ar,au,a6⟩:=bdS<|ifF hmq hcn;refine E z (b_l (α:=p_) g_1 au z z ((((hb.e s3).e O).c V<|ds<|mno (a_.lt hb) s3.s).e hf) hg (hx.blk:Blk ww wv.z [vI H.kind,Str.v H.name,vI H.version,sl ak nl cm]) (n_x (x:=H) (S1:=Sr) aj al am<|((he.e O).c V<|ds<|mnr<|a_.lt he).e hf) (a_T ht (a_.lt hb) lr) ao) ?_;rintro _ av ⟨Sy,aw,ax,ay,rfl,az,aA,aB,aC⟩;refine Rw z<|Wg<|Rm z<|Ra z<|Wl ?_
  have hz:=lt_ sa.s s3.s;have a0:∀k∈G,k∈[w0.z]∨h.z<=k:=or1 hh (io sr)<|j_ lr;exact λ_ q=>⟨(ar,ah),(som a6).symm,⟨aw,ax,ay,Sy,q.k<|s5 z z z z z,(cM (i_ (cM (i_ (i_ (cM (cr [w0.z] h) sa (io sr):Cg [w0.z] h af) s3:Cg [w0.z] h wj) O:Cg [w0.z] h ws) V (mor hz:∀k∈[wj.z],k∈[w0.z]∨h.z<=k):Cg [w0.z] h wv) hf:Cg [w0.z] h ww) az a0:Cg [w0.z] h av),aA,aB,(or2 aC a0 (or0 ht (j_ sa.s):∀k∈Sr,k∈[w0.z]∨h.z<=k) (j_<|lt_ (lt_ (lt_ hz O.s) V.s) hf.s):∀k∈Sy,k∈[w0.z]∨h.z<=k),an⟩⟩
 .rintro ⟨xd,W⟩ aD _ rfl ⟨I,J,L,G,_,aE,hb,hg,hh,hi⟩;have a7:=elL hmo;revert aD;obtain rfl:=som<|a_7 a7;exact a_0 hr z z ⟨bM sc aE<|e_ lr,none,0,0,[],z,onL,ii z,G_,an_⟩
 rintro _ _ _ _ rfl ⟨rfl,a8⟩;have a9:=elR hmo;obtain rfl:=som a9;exact ⟨a8,z⟩
theorem W_w3y {x1:r_}{x2:p_}{h G:Nat}{res:Bool}(hm:l_u x1 x2=some res)(a3:B<=w0.z)(L:x1.name.b.length<=LEN)(O:inI x1.version)(V:repS w0 B (sl AE NE CE) x1.data)(W:inI x2.kind)(Y:x2.name.b.length<=LEN)(a0:inI x2.version)(a1:repS w0 B (sl AH NH CH) x2.data)(I:R_ w0 h G [vI x2.kind,Str.v x2.name,vI x2.version,sl AH NH CH])(a2:B h):h_ prog 95 [(.agg #[Str.v x1.name,vI x1.version,sl AE NE CE]),(.pointer<|some ⟨h,G,none⟩)] w0 (Q11 w0 B res):=by
 unfold l_u at hm
 refine goG func95 z z z λfn hr=>Ws<|E z (fb z) ?_
 rintro _ J ⟨rfl,H⟩;have h1:=H.below;refine Rw z<|Ws<|Rf z j_K z<|R z (l0 g_9 z<|(H.blk:Blk J w0.z [Str.v x1.name,vI x1.version,sl AE NE CE]).at z)<|Rf z d_O z<|R z (l0 g_9 z<|(I.e h1).at (j:=1) z)<|R z (a_M z z)<|Rw z ?_
 obtain rfl:=som hm;exact Wr<|c_ hr z ⟨h1,z⟩
theorem W_w3z {x1:List r_}{G:p_}{pa2c0_3:Option Addr}{pn2c0_3 pc2c0_3:Nat}{H J:Nat}{res:Int}(hm:j_u x1 G=some res)(a1:B<=w0.z)(I:repS w0 B (sl A0 N0 C0) x1)(p2c0_0:inI G.kind)(p2c0_1:G.name.b.length<=LEN)(p2c0_2:inI G.version)(p2c0_3:repS w0 B (sl pa2c0_3 pn2c0_3 pc2c0_3) G.data)(a2:R_ w0 H J [vI G.kind,Str.v G.name,vI G.version,sl pa2c0_3 pn2c0_3 pc2c0_3])(a0:B H):h_ prog 94 [sl A0 N0 C0,(.func (.func 95) #[] #[(.pointer<|some ⟨H,J,none⟩)])] w0 (Q0 w0 B res):=by
 unfold j_u at hm
 refine goG func94 z z z λfn hr=>Ws<|Rw z<|Wq<|Wm z<|R z (lnR b_O z I)<|Rm z<|Wn ?_
 obtain ⟨_,hug,hma⟩:=bdS hm;refine Wf (σ:=Unit) (ρ:=Int) (λ(kb:Nat)(_:Unit) a w=>Sat 19 [(1,.func (.func 95) #[] #[(.pointer<|some ⟨H,J,none⟩)]),(7,sl A0 N0 C0),(8,vI (x1.length:Int)),(9,vI ((kb:Nat):Int))] a/\Below w0.z w0 w) (λ(_:Unit) a w=>Sat 19 [] a/\Below w0.z w0 w) (rQ prog fn<|Q0 w0 B) hug ?_ ?_ ?_ ?_ ?_
 .exact λ_ q=>⟨q.k<|s4 z z z z,br w0⟩
 .rintro kb _ _ wc _ L ⟨hSh,h⟩ hmi;refine Wu ?_ hSh;refine Ws<|Rl z z z<|Wn<|Wq<|Wc z (λ_=>?_) (λhc=>(O_ L hc).elim)
  refine Wk<|Wq<|Wb<|Wm z ?_
  obtain ⟨x2,ej,hmk⟩:=bdS hmi;refine RX z (at_ (α:=r_) b_O b_4 z z z (I.e h) ej) ?_;rintro _ ⟨_,_,_,rfl,hl,hn,_⟩;obtain ⟨V,W,Y,rfl,ho,hp,hq⟩:=f_l hn;refine R z (lN (vs:=[Str.v x2.name,vI x2.version,sl V W Y]) e_H b_4 z z fid hl)<|E z (fa g_7) ?_
  rintro _ wm ⟨rfl,hd⟩;have h1:=hd.below;refine Ra z<|E0 (fs0 (cur':=[Str.v x2.name,vI x2.version,sl V W Y]) b_4 z z (hd.blk:Blk wm wc.z [(Str.v (⟨[]⟩:Str)),vI 0,sN]) z z z z) ?_
  rintro _ _ ⟨hu,sr⟩;have h3:=sr.one;refine Wn<|Wm z<|R z (lN (vs:=[Str.v x2.name,vI x2.version,sl V W Y]) e_H b_4 z z fid<|hu.row 0 3 z) ?_
  have h8:∀k∈[wc.z],¬B k:=or0 (e_ lr)<|n_<|zt' a1 h.s;obtain ⟨_,es,hme⟩:=bdS hmk;refine E z (h_s call95 z z<|W_w3y es (zt' a1<|lt_ (lt_ h.s h1.s) h3.s) ho hp (hq.g<|(h1.ag B).c h3<|g_ h8) p2c0_0 p2c0_1 p2c0_2 (p2c0_3.g<|((h.ag B).e h1).c h3<|g_ h8) (((a2.e h).e h1).c h3<|(g_ h8) _ a0) a0) ?_;rintro _ _ ⟨sf,rfl⟩;refine Wx z (λO=>?_) (λO=>?_)
  .exact Wm z<|Rw z<|Wr<|rtO<|qL (som<|ifT hme O).symm<|c_ hr z ⟨bup (bM (bup h h1) h3<|m1 h.s) sf,z,ic (Nat.le_of_lt L)<|lt_ (repS.len I) z_⟩
  exact Wk<|Wg<|R z (inc_ L (lt_ (repS.len I) z_) z z)<|Rm z<|Wl (λ_ q=>⟨(),(som<|ifF hme O).symm,⟨q.k<|s4 z z z z,bup (bM (bup h h1) h3<|m1 h.s) sf⟩⟩)
 .rintro _ _ _ ⟨hSv,sw⟩;refine Wu ?_ hSv;refine Ws<|Rl z z z<|Wn<|Wq<|Wc z (λhc=>(P_ hc).elim) (λ_=>?_)
  exact We<|λ_ q=>⟨rfl,⟨q.k sn,sw⟩⟩
 .rintro _ ax _ rfl ⟨_,sy⟩;have hmz:=elL hma;revert ax;refine Wo<|Ws<|Rw z ?_
  obtain rfl:=som hmz;exact Wr<|c_ hr z ⟨sy,z,ii z⟩
 rintro _ _ _ _ rfl ⟨rfl,a3⟩;have a4:=elR hma;obtain rfl:=som a4;exact ⟨a3,z⟩
theorem W_w1m {x1:J_}{b1 o1:Nat}{res:(List r_)}(hm:h_g n x1=some res)(V:B<=w0.z)(cB:repS w0 B (sl A0 N0 C0) x1.registry.versions)(aZ:repS w0 B (sl A1 N1 C1) x1.log.bytes)(cC:inI x1.log.stored)(hC1:R_ w0 b1 o1 [sl A0 N0 C0,sl A1 N1 C1,vI x1.log.stored])(hC1b:B b1):h_ prog 64 [(.pointer<|some ⟨b1,o1,none⟩)] w0 (Q15 w0 B res):=by
 unfold h_g at hm
 refine goG func64 z z z λfn hr=>Ws<|Rw z<|Ws<|E z (q_N (α:=r_) c_h B) ?_
 rintro _ I ⟨bm,rfl,sn,bn⟩;refine Rw z<|Wm z<|R z (a_8 z)<|Rf z c_B z<|Rf z c_6 z<|R z (l0 K_ z<|(hC1.e sn).at (j:=1) z) ?_
 obtain ⟨ru,_,bo,b0⟩:=Y_ hm;refine E z (fc call65 z<|W_w1l bo (zt' V sn.s)<|aZ.e sn) ?_;rintro _ H ⟨so,av,nw,cx,_,rfl,hy,_,_,aE⟩;refine Rm z<|Re z z z<|Re z z z<|Ra z<|Rw z<|Wq<|Wm z<|R z (lnR c_D z<|or_ hy<|zin (B:=B) aE<|a_.lt hy)<|Rm z<|Wn ?_
 obtain ⟨_,b2,ay⟩:=bdS b0;refine Wf (σ:=List r_) (ρ:=List r_) (λ(kp:Nat)(xi:List r_) a w=>∃J L O h,Sat 69 [(3,sl J L O),(20,sl av nw cx),(21,vI (ru.length:Int)),(22,vI ((kp:Nat):Int))] a/\Below H.z H w/\W_ w h (zn B I.z H.z) (sl J L O) xi/\h.Nodup/\(∀k∈h,H.z<=k)) (λ(xi:List r_) a w=>∃J L O h,Sat 69 [(3,sl J L O)] a/\Below H.z H w/\W_ w h (zn B I.z H.z) (sl J L O) xi/\h.Nodup/\(∀k∈h,H.z<=k)) (rQ prog fn<|Q15 w0 B) b2 ?_ ?_ ?_ ?_ ?_
 .exact λ_ q=>⟨bm,0,0,([]:List Nat),q.k<|s4 z z z z,br H,W_.mono (bn.e so) d_o,G_,an_⟩
 .rintro kp xi _ ao _ az ⟨J,L,O,h,b3,sh,ha,hj,hd⟩ b4;refine Wu ?_ b3;refine Ws<|Rl z z z<|Wn<|Wq<|Wc z (λ_=>?_) (λhc=>(O_ az hc).elim)
  refine Wk<|Wq<|Wb<|Ws ?_
  obtain ⟨x2,bp,b5⟩:=bdS b4;refine RX z (at_ (α:=p_) c_D a_a z z z (or_ (hy.e sh)<|zin (B:=B) aE<|a_.lt hy) bp) ?_;rintro _ ⟨_,_,_,rfl,bq,bt,_⟩;obtain ⟨ak,nl,cm,rfl,bu,ap,aq,ar⟩:=f_m bt;refine R z (lN (vs:=[vI x2.kind,Str.v x2.name,vI x2.version,sl ak nl cm]) b_p a_a z z fid bq)<|E z (fa e_j) ?_
  rintro _ aF ⟨rfl,aG⟩;have he:=aG.below;have a1:Blk aF ao.z [vI 0,Str.v (⟨[]⟩:Str),vI 0,sN]:=aG.blk;refine E0 (fs0 (cur':=[vI x2.kind,Str.v x2.name,vI x2.version,sl ak nl cm]) a_a z z a1 z z z z) ?_;rintro _ _ ⟨aH,bv⟩;have h5:=bv.one;refine Wn<|Wm z<|R z (k_2 z) ?_
  have a2:=lt_ sn.s so.s;have aI:=lt_ a2 sh.s;have aJ:∀k∈[ao.z],¬(zn B I.z H.z) k:=or0 (e_ lr)<|c_X (n_<|zt' V aI) sh.s;have hz:=(ha.e he).c h5 (ds<|mnr<|W_.lt ha)<|g_ aJ
  have au:=(he.ag<|zn B I.z H.z).c h5<|g_ aJ
  have hq:=lt_ sh.s he.s;have W:=lt_ (lt_ aI he.s) h5.s;obtain ⟨aK,bw,b6⟩:=bdS b5;refine E z (fc call94 z<|W_w3z (B:=zn B I.z aF.z) bw (e_P (zt' V W) h5.s) (repS.mono (W_.rep hz (zall (zin (B:=B) hd<|W_.lt ha)<|b_I so.s lr)<|b_I lr sh.s)<|b_I lr he.s) bu ap aq (repS.mono (ar.g au)<|b_I lr hq) (aH.row 0 4 z)<|zap' (b_I (lt_ so.s sh.s) lr)<|atp<|zin (B:=B) (e_ lr)<|e_ a1.lt) ?_;rintro _ wr ⟨s3,rfl,_⟩;refine Rw z<|Ws<|Rf z d_O z ?_
  have Y:=aH.e s3;refine R z (l0 g_9 z<|Y.at z)<|Rf z c_R z<|R z (l0 g_3 z<|Y.at z)<|Rf z d_P z<|R z (l0 K_ z<|Y.at z)<|R z (bP (parts:=[(0,.tmp 30),(1,.tmp 32),(2,.tmp 34)]) (cs:=[Str.v x2.name,vI x2.version,sl ak nl cm]) j_G z z)<|E z (fa g_7) ?_
  rintro _ bx ⟨rfl,aL⟩;have hf:=aL.below;refine E0 (fs0 (cur':=[Str.v x2.name,vI x2.version,sl ak nl cm]) b_4 z z (aL.blk:Blk bx wr.z [(Str.v (⟨[]⟩:Str)),vI 0,sN]) z z z z) ?_;rintro _ a3 ⟨aM,bz⟩;have hg:=bz.one;refine Wn<|Wb<|Wq ?_
  obtain ⟨bA,aA,b7⟩:=bdS b6;refine Wt (λa w=>∃(aw:Bool),aw=bA/\Sat 69 [(3,sl J L O),(7,pt ao.z),(8,vI aK),(9,pt wr.z),(20,sl av nw cx),(21,vI (ru.length:Int)),(22,vI ((kp:Nat):Int)),(36,vB aw)] a/\Below a3.z a3 w) ?_ ?_
  .refine Wg<|Rf z c_Q z<|R z (l0 g_3 z<|((Y.e hf).c hg<|djs<|mm1 a1.lt<|lt_ h5.s s3.s).at z)<|Rq z z z<|Rm z ?_
   rcases bs (x2.kind==1) with hcc | hcc
   .exact Rh z hcc (mv z)<|Rh z hcc (b_t z z)<|R z (pT z hcc z)<|Ra z<|Wl (λ_ q=>⟨decide<|0<=aK,som<|ifT aA hcc,q.k<|s8 z z z z z z z z,br a3⟩)
   exact Nh z hcc<|Nh z hcc<|R z (pF z hcc z)<|Ra z<|Wl (λ_ q=>⟨false,som<|ifF aA hcc,q.k<|s8 z z z z z z z z,br a3⟩)
  rintro bB G ⟨aw,rfl,_,sb⟩;revert bB;refine Wo ?_;obtain ⟨bC,aB,b8⟩:=bdS b7;refine Wt (λa w=>∃(a4:List r_),a4=bC/\∃a5 a6 a8 a0,Sat 69 [(3,sl a5 a6 a8),(20,sl av nw cx),(21,vI (ru.length:Int)),(22,vI ((kp:Nat):Int))] a/\Cg h G w/\W_ w a0 (zn B I.z H.z) (sl a5 a6 a8) a4/\a0.Nodup/\(∀k∈a0,k∈h∨G.z<=k)) ?_ ?_
  .refine Wc z (λal=>?_)<|λal=>?_
   .refine Wg<|RM z z<|R z (lN (vs:=[Str.v x2.name,vI x2.version,sl ak nl cm]) e_H b_4 z z fid<|(aM.e sb).row 0 3 z) ?_
    obtain ⟨bD,aN,b9⟩:=bdS<|ifT aB al;have aO:∀k∈[wr.z],¬(zn B I.z H.z) k:=or0 (e_ lr)<|c_X (n_<|zt' V<|lt_ W s3.s)<|lt_ (lt_ hq h5.s) s3.s;have aP:=(((hz.e s3).e hf).c hg (ds<|mno (W_.lt ha)<|lt_ (lt_ he.s h5.s) s3.s)<|g_ aO).e sb;refine RX z (w_0 (α:=r_) b_O b_4 z z aP aN) ?_;rintro _ ⟨_,bE,rfl⟩;refine E0 (v_U (α:=r_) b_4 z bE z z z aN aP hj (h_n (x:=(⟨x2.name,x2.version,x2.data⟩:r_)) ap aq<|ar.g<|(((au.e s3).e hf).c hg<|g_ aO).e sb) (or0 hd (c_X (n_<|zt' V a2) lr):∀k∈h,¬(zn B I.z H.z) k)) ?_;rintro _ bF ⟨aQ,bG,bH,bI,bJ⟩;refine Wl ?_;exact λ_ q=>⟨bD,som b9,J,L,O,aQ,q.k<|s4 z z z z,(cM (cr h G) bG (io sr):Cg h G bF),bH,bI,(or1 bJ (io sr) (j_ lr):∀k∈aQ,k∈h∨G.z<=k)⟩
   refine Ws<|Rf z c_Q z<|R z (l0 g_3 z<|(((Y.e hf).c hg<|djs<|mm1 a1.lt<|lt_ h5.s s3.s).e sb).at z)<|Rq z z z<|Rw z ?_
   obtain ⟨bK,aC,ba⟩:=bdS<|ifF aB al;refine Wt (λa w=>∃(a9:List r_),a9=bK/\∃aa ab ad Ss,Sat 69 [(3,sl aa ab ad),(20,sl av nw cx),(21,vI (ru.length:Int)),(22,vI ((kp:Nat):Int))] a/\Cg h G w/\W_ w Ss (zn B I.z H.z) (sl aa ab ad) a9/\Ss.Nodup/\(∀k∈Ss,k∈h∨G.z<=k)) ?_ ?_
   .refine Wc z (λam=>?_)<|λam=>?_
    .refine Wg<|Rm z<|R z (lN (vs:=[Str.v x2.name,vI x2.version,sl ak nl cm]) e_H b_4 z z fid<|(aM.e sb).row 0 3 z)<|E z (fS [(.tmp 53)] c_h z z z (a_v z) (lb z)<|lb z) ?_
     rintro _ aR ⟨rfl,aS⟩;have ae:=aS.below;have aT:∀k∈[wr.z],¬(zn B I.z H.z) k:=or0 (e_ lr)<|c_X (n_<|zt' V<|lt_ W s3.s)<|lt_ (lt_ hq h5.s) s3.s;obtain ⟨bL,bN,bb⟩:=bdS<|ifT aC am;refine E z (l_b (α:=r_) c_h bN z z (((((hz.e s3).e hf).c hg (ds<|mno (W_.lt ha)<|lt_ (lt_ he.s h5.s) s3.s)<|g_ aT).e sb).e ae) hj (aS.blk:Blk aR G.z [Str.v x2.name,vI x2.version,sl ak nl cm]) (h_n (x:=(⟨x2.name,x2.version,x2.data⟩:r_)) ap aq<|ar.g<|((((au.e s3).e hf).c hg<|g_ aT).e sb).e ae) (or0 hd (c_X (n_<|zt' V a2) lr):∀k∈h,¬(zn B I.z H.z) k)) ?_;rintro _ bO ⟨aU,bQ,bR,bS,rfl,bT,bU,bV,bW⟩;refine Ra z<|Wl ?_
     exact λ_ q=>⟨bL,som bb,bQ,bR,bS,aU,q.k<|s4 z z z z,(cM (i_ (cr h G) ae:Cg h G aR) bT (io sr):Cg h G bO),bU,bV,(or1 bW (io sr) (j_ ae.s):∀k∈aU,k∈h∨G.z<=k)⟩
    refine Wm z<|R z (b_t z z)<|Rw z ?_
    obtain ⟨bX,aD,bc⟩:=bdS<|ifF aC am;refine Wt (λa w=>∃(af:List r_),af=bX/\∃ah ai aj St,Sat 69 [(3,sl ah ai aj),(20,sl av nw cx),(21,vI (ru.length:Int)),(22,vI ((kp:Nat):Int))] a/\Cg h G w/\W_ w St (zn B I.z H.z) (sl ah ai aj) af/\St.Nodup/\(∀k∈St,k∈h∨G.z<=k)) ?_ ?_
    .refine Wc z (λan=>?_)<|λan=>?_
     .refine Wd (X:=noX) 128 (pl_ 9 [7]) mo (by kernel_rfl) λbY ax _=>dM z z z<|dM z z z ?_
      obtain ⟨_,bZ,be⟩:=bdS<|ifT aD an;have aV:=((((hz.e s3).e hf).c hg (ds<|mno (W_.lt ha)<|lt_ (lt_ he.s h5.s) s3.s)<|g_ (or0 (e_ lr) (c_X (n_<|zt' V<|lt_ W s3.s)<|lt_ (lt_ hq h5.s) s3.s):∀k∈[wr.z],¬(zn B I.z H.z) k)).e sb).e ax;refine dRX z z (v_Z b_O b_4 z aV z bZ) ?_;rintro _ ⟨_,rfl,c0⟩;refine dM z z z<|dM z z z<|dR z z (add_ z z) ?_
      obtain ⟨_,c1,bf⟩:=bdS be;refine dRX z z (v_W b_O b_4 z z aV z z c1) ?_;rintro _ ⟨_,_,_,rfl,c2⟩;obtain ⟨c3,c4,bg⟩:=bdS bf;refine dE z z (v_V (α:=r_) c_h c4 z z c0 hj c2 (or0 hd (c_X (n_<|zt' V a2) lr):∀k∈h,¬(zn B I.z H.z) k)) (.inl z) ?_;rintro _ c5 ⟨aW,c6,c7,c8,rfl,ca,cb,cc,cd⟩;refine dQ z z z<|pD ?_
      exact λ_ q=>⟨c3,som bg,c6,c7,c8,aW,q.k<|s4 z z z z,(cM (i_ (cr h G) ax:Cg h G bY) ca (io sr):Cg h G c5),cb,cc,(or1 cd (io sr) (j_ ax.s):∀k∈aW,k∈h∨G.z<=k)⟩
     refine a_j ?_;exact λ_ q=>⟨xi,som<|ifF aD an,J,L,O,h,q.k<|s4 z z z z,cr h G,(((hz.e s3).e hf).c hg (ds<|mno (W_.lt ha)<|lt_ (lt_ he.s h5.s) s3.s)<|g_ (or0 (e_ lr) (c_X (n_<|zt' V<|lt_ W s3.s)<|lt_ (lt_ hq h5.s) s3.s):∀k∈[wr.z],¬(zn B I.z H.z) k)).e sb,hj,io sr⟩
    rintro ce cf ⟨af,rfl,ah,ai,aj,St,_,cg,ch,ci,cj⟩;revert ce;exact λ_ q=>⟨af,som bc,ah,ai,aj,St,q.k<|s4 z z z z,(cM (cr h G) cg (io sr):Cg h G cf),ch,ci,(or1 cj (io sr) (j_ lr):∀k∈St,k∈h∨G.z<=k)⟩
   rintro ck cl ⟨a9,rfl,aa,ab,ad,Ss,_,cn,co,cp,cq⟩;revert ck;exact λ_ q=>⟨a9,som ba,aa,ab,ad,Ss,q.k<|s4 z z z z,(cM (cr h G) cn (io sr):Cg h G cl),co,cp,(or1 cq (io sr) (j_ lr):∀k∈Ss,k∈h∨G.z<=k)⟩
  rintro ct _ ⟨a4,rfl,a5,a6,a8,a0,_,cu,cv,cw,cy⟩;revert ct;refine Wo<|Wg<|R z (inc_ az (lt_ (a_.len hy) z_) z z)<|Rm z<|Wl ?_
  have aX:=lt_ (lt_ hq h5.s) s3.s;exact λ_ q=>⟨a4,(som b8).symm,⟨a5,a6,a8,a0,q.k<|s4 z z z z,bM (bup (bM (bup (bup (bM (bup sh he) h5<|m1 sh.s) s3) hf) hg<|m1 aX) sb) cu hd,cv,cw,b_2 cy hd<|lt_ (lt_ (lt_ aX hf.s) hg.s) sb.s⟩⟩
 .rintro xi _ _ ⟨J,L,O,h,bh,cz,ha,hj,hd⟩;refine Wu ?_ bh;refine Ws<|Rl z z z<|Wn<|Wq<|Wc z (λhc=>(P_ hc).elim) (λ_=>?_)
  exact We<|λ_ q=>⟨rfl,⟨J,L,O,h,q.k<|s1 z,cz,ha,hj,hd⟩⟩
 .rintro xi cA _ rfl ⟨J,L,O,h,_,aY,ha,hj,hd⟩;have bi:=elL ay;revert cA;refine Wo<|Wm z<|Rw z ?_
  obtain rfl:=som bi;exact Wr<|c_ hr z ⟨bup (bup sn so) aY,J,L,O,z,repS.mono (W_.rep ha (zall (zin (B:=B) hd<|W_.lt ha)<|b_I so.s lr)<|b_I lr aY.s)<|b_I sn.s lr⟩
 rintro _ _ _ _ rfl ⟨rfl,bj⟩;have bk:=elR ay;obtain rfl:=som bk;exact ⟨bj,z⟩
theorem W_w40 {x1:a_c}{x2:Int}{res:Bool}(hm:l_v x1 x2=some res)(W:B<=w0.z)(I:repS w0 B (sl A0 N0 C0) x1.versions)(V:inI x2):h_ prog 66 [(.agg #[sl A0 N0 C0]),vI x2] w0 (Q11 w0 B res):=by
 unfold l_v at hm
 refine goG func66 z z z λfn hr=>Ws<|E z (fb z) ?_
 rintro _ G ⟨rfl,h2⟩;have h4:=h2.below;refine Rw z<|Wq ?_
 obtain ⟨L,H,J⟩:=bdS hm;refine Wt (λa w=>∃(x3:Bool),x3=L/\Sat 14 [(4,vB x3)] a/\Below G.z G w) ?_ ?_
 .refine Wg<|Rm z<|R z (b_t z z)<|Rm z ?_
  rcases bs (decide<|0<=x2) with h | h
  .exact Rh z h (mv z)<|Rh z h (fd c_5 z)<|Rh z h (l0 c_f z<|(h2.blk:Blk G w0.z [sl A0 N0 C0]).at z)<|Rh z h (lnR b_r z<|I.e h4)<|Rh z h (lss z z)<|R z (pT z h z)<|Ra z<|Wl (λ_ q=>⟨decide<|x2<(x1.versions.length:Int),som<|ifT H h,q.k<|s1 z,br G⟩)
  iterate 5 refine Nh z h ?_
  exact R z (pF z h z)<|Ra z<|Wl (λ_ q=>⟨false,som<|ifF H h,q.k<|s1 z,br G⟩)
 rintro O _ ⟨x3,rfl,_,sa⟩;revert O;refine Wo ?_;obtain rfl:=som J;exact Wr<|c_ hr z ⟨bup h4 sa,z⟩
theorem m_1 {x1:f_}{res:Int}(hm:g_Z x1=some res)(I:B<=w0.z)(G:repS w0 B (sl A0 N0 C0) x1.rules):h_ prog 70 [(.agg #[sl A0 N0 C0])] w0 (Q0 w0 B res):=by
 unfold g_Z at hm
 refine goG func70 z z z λfn hr=>Ws<|E z (fb z) ?_
 rintro _ H ⟨rfl,h⟩;have h1:=h.below;refine Rw z<|Ws<|Rf z a_s z<|R z (l0 a_u z<|(h.blk:Blk H w0.z [sl A0 N0 C0]).at z)<|R z (lnR a_2 z<|G.e h1)<|R z (sb_ z z)<|Rw z ?_
 obtain rfl:=som hm;exact Wr<|c_ hr z ⟨h1,z,iS _ _⟩
theorem m_2 {x1:f_}{x2:Int}{res:Bool}(hm:f_N n x1 x2=some res)(I:B<=w0.z)(H:repS w0 B (sl A0 N0 C0) x1.rules)(L:inI x2):h_ prog 131 [(.agg #[sl A0 N0 C0]),vI x2] w0 (Q11 w0 B res):=by
 unfold f_N at hm
 refine goG func131 z z z λfn hr=>Ws<|E z (fb z) ?_
 rintro _ G ⟨rfl,h5⟩;have h1:=h5.below;have h6:Blk G w0.z [sl A0 N0 C0]:=h5.blk;refine Rw z<|Wq ?_
 obtain ⟨u8,O,hma⟩:=bdS hm;refine Wt (λa w=>∃(x4:Bool),x4=u8/\Sat 12 [(4,vB x4)] a/\Below G.z G w) ?_ ?_
 .refine Wg<|R z (lN (vs:=[sl A0 N0 C0]) L_ D_ z z fid<|h6.row 0 1 z) ?_
  obtain ⟨rb,ec,J⟩:=bdS O;refine E z (fc call91 z<|W_w1g ec (zt' I h1.s)<|H.e h1) ?_;rintro _ _ ⟨s2,rfl⟩;refine Rm z ?_
  rcases bs rb with h | h
  .refine Rh z h (lN (vs:=[sl A0 N0 C0]) L_ D_ z z fid<|(h6.e s2).row 0 1 z)<|Rh z h (mv z) ?_
   obtain ⟨rd,ee,hmf⟩:=bdS<|ifT J h;refine Eg z z h z (fc call152 z<|l_Y ee (zt' I<|lt_ h1.s s2.s) (H.g<|(h1.ag B).e s2) L) ?_;rintro _ _ ⟨sg,rfl⟩;exact R z (pT z h z)<|Ra z<|Wl (λ_ q=>⟨rd,som hmf,q.k<|s1 z,bup s2 sg⟩)
  iterate 3 refine Nh z h ?_
  exact R z (pF z h z)<|Ra z<|Wl (λ_ q=>⟨false,som<|ifF J h,q.k<|s1 z,s2⟩)
 rintro ah _ ⟨x4,rfl,_,si⟩;revert ah;refine Wo ?_;obtain rfl:=som hma;exact Wr<|c_ hr z ⟨bup h1 si,z⟩
def Q26 (w0:World)(B:Zone)(r:(Option<|Int×Int))(v:Value)(w':World):Prop:=Bw w0 w'/\(λh=>∃(v1:Value)(S1:List Nat),v1=v/\a_R 177 w' S1 v1 h/\(∀k∈S1,w0.z<=k)) r
theorem e_L {x1:Int}{x2:Int}{res:(Option<|Int×Int)}(hm:c_d x1 x2=some res)(L:B<=w0.z)(H:inI x1)(I:inI x2):h_ prog 166 [vI x1,vI x2] w0 (Q26 w0 B res):=by
 unfold c_d at hm
 refine goG func166 z z z λfn hr=>Ws<|Rw z<|Wm z<|Rm z<|R z (bP (parts:=[(0,.tmp 5),(1,.tmp 6)]) (cs:=[vI x1,vI x2]) r_Y z z)<|E z (fb z) ?_
 rintro _ J ⟨rfl,G⟩;refine R z (h_N d_177 (λ_ h=>by cases h) z)<|Rw z ?_
 obtain rfl:=som hm;exact Wr<|c_ hr z ⟨G.below,.iface 177<|pt w0.z,[w0.z],z,s_H (G.blk:Blk J w0.z [vI x1,vI x2]) H I z,e_ lr⟩
def Q27 (w0:World)(B:Zone)(r:Bt×(Option<|Int×Int))(v:Value)(w':World):Prop:=Bw w0 w'/\un2 (λI J=>∃(h:Option Addr)(G H:Nat)(v2:Value)(S2:List Nat),v = .tuple #[sl h G H,v2]/\repS w' w'.z (sl h G H) I/\a_R 177 w' S2 v2 J/\(∀k∈S2,w0.z<=k)) r
theorem j_Y {x1:a_z}{b1 o1:Nat}{x2:Int}{x3:Int}{res:Bt×(Option<|Int×Int)}(hm:f_c x1 x2 x3=some res)(H:B<=w0.z)(a0:repS w0 B (sl A0 N0 C0) x1.d.rules)(G:repS w0 B (sl A1 N1 C1) x1.b)(hC1:R_ w0 b1 o1 [sl A0 N0 C0,sl A1 N1 C1])(hC1b:B b1)(I:inI x2)(a1:inI x3):h_ prog 191 [(.pointer<|some ⟨b1,o1,none⟩),vI x2,vI x3] w0 (Q27 w0 B res):=by
 unfold f_c at hm
 refine goG func191 z z z λfn hr=>Ws<|Ra z<|Rw z<|Wq<|Wm z<|Rm z<|R z (a_8 z)<|Rf z g_2 z<|R z (l0 K_ z<|hC1.at (j:=1) z)<|R z (lnR k_ z G)<|Rm z<|R z (sb_ z z)<|R z (X_ z z)<|Wx z (λh=>?_) (λh=>?_)
 .refine Wm z ?_
  obtain ⟨_,O,J⟩:=bdS<|ifT hm h;refine E z (fc call166 z<|e_L (B:=B) O H I<|ii z) ?_;rintro _ _ ⟨s1,v4,V,rfl,h6,W⟩;refine Ra z<|Rw z ?_
  obtain rfl:=som J;exact Wr<|a_0 hr z z ⟨s1,none,0,0,v4,V,z,repS.mono (or_ onL an_)<|a_K s1.s,h6,W⟩
 refine Wk<|Wm z<|R z (a_8 z)<|Rf z g_2 z<|R z (l0 K_ z<|hC1.at (j:=1) z)<|RM z z<|Rm z<|R z (add_ z z) ?_
 obtain ⟨_,Y,L⟩:=bdS<|ifF hm h;refine RX z (rX k_ z_5 z z G z z Y) ?_;rintro _ ⟨aa,nb,cc,rfl,hd⟩;refine Ra z<|Rw z ?_
 obtain rfl:=som L;exact Wr<|a_0 hr z z ⟨br w0,aa,nb,cc,.nilIface,([]:List Nat),z,repS.mono hd H,e_O,an_⟩
theorem W_w1n {x1:Bt}{x2:Bool}{res:Int}(hm:h_0 x1 x2=some res)(V:B<=w0.z)(h:repS w0 B (sl A0 N0 C0) x1):h_ prog 192 [sl A0 N0 C0,vB x2] w0 (Q0 w0 B res):=by
 unfold h_0 at hm
 refine goG func192 z z z λfn hr=>Ws<|Rw z<|Wq<|Wm z<|R z (lnR k_ z h)<|R z (X_ z z)<|Wx z (λH=>?_) (λH=>?_)
 .refine Ws<|Rw z ?_
  obtain rfl:=som<|ifT hm H;exact Wr<|c_ hr z ⟨br w0,z,ii z⟩
 refine Wk<|Ws<|Rw z<|Wq<|Wm z<|R z (lnR k_ z h)<|Rm z<|Wn ?_
 obtain ⟨_,huc,J⟩:=bdS<|ifF hm H;refine Wf (σ:=Int) (ρ:=Int) (λ(k5:Nat)(x0:Int) a w=>Sat 38 [(0,sl A0 N0 C0),(1,vB x2),(5,vI x0),(11,vI (x1.length:Int)),(12,vI ((k5:Nat):Int))] a/\Below w0.z w0 w/\inI x0) (λ(x0:Int) a w=>Sat 38 [(5,vI x0)] a/\Below w0.z w0 w/\inI x0) (rQ prog fn<|Q0 w0 B) huc ?_ ?_ ?_ ?_ ?_
 .exact λ_ q=>⟨q.k<|s5 z z z z z,br w0,ii z⟩
 .rintro k5 x0 _ G _ L ⟨hSd,s6,h2⟩ hme;refine Wu ?_ hSd;refine Ws<|Rl z z z<|Wn<|Wq<|Wc z (λ_=>?_) (λhc=>(O_ L hc).elim)
  refine Wk<|Wq<|Wb<|Wm z<|Rw z<|Wm z<|Wn ?_
  obtain ⟨uf,hua,hmg⟩:=bdS hme;refine Wt (λa w=>∃(x3:Int),x3=uf/\Sat 38 [(0,sl A0 N0 C0),(1,vB x2),(5,vI x3),(11,vI (x1.length:Int)),(12,vI ((k5:Nat):Int))] a/\Below G.z G w/\inI x3) ?_ ?_
  .refine Wc z (λI=>?_)<|λI=>?_
   .refine Wg<|Rm z<|R z (h_L z z (by decide))<|RM z z ?_
    have hb:=h.e s6;refine R z (lnR k_ z hb)<|R z (sb_ z z)<|Rm z<|R z (sb_ z z) ?_
    obtain ⟨xh,ei,hmj⟩:=bdS<|ifT hua I;refine RX z (at_ (α:=UInt8) k_ z_5 z z z hb ei) ?_;rintro _ ⟨_,_,_,rfl,hk,hl,_⟩;obtain rfl:=u8 hl;exact R z (l0 g_5 z<|hk.at0 z)<|R z (b_s d_5 d_3 z)<|R z (m_q z z)<|Ra z<|Wl (λ_ q=>⟨c_1 .i64 (· ||| ·) (b_y .i64 x0 8)<|byteI xh,som hmj,q.k<|s5 z z z z z,br G,o_6 _ _ _⟩)
   refine Wg<|Rm z<|R z (h_L z z (by decide))<|RM z z ?_
   obtain ⟨xm,en,hmo⟩:=bdS<|ifF hua I;refine RX z (at_ (α:=UInt8) k_ z_5 z z z (h.e s6) en) ?_;rintro _ ⟨_,_,_,rfl,hp,hq,_⟩;obtain rfl:=u8 hq;exact R z (l0 g_5 z<|hp.at0 z)<|R z (b_s d_5 d_3 z)<|R z (m_q z z)<|Ra z<|Wl (λ_ q=>⟨c_1 .i64 (· ||| ·) (b_y .i64 x0 8)<|byteI xm,som hmo,q.k<|s5 z z z z z,br G,o_6 _ _ _⟩)
  rintro ar _ ⟨x3,rfl,_,ss,ht⟩;revert ar;exact Wo<|Wg<|R z (inc_ L (lt_ (repS.len h) z_) z z)<|Rm z<|Wl (λ_ q=>⟨x3,(som hmg).symm,⟨q.k<|s5 z z z z z,bup s6 ss,ht⟩⟩)
 .rintro x0 _ _ ⟨hSu,sv,h2⟩;refine Wu ?_ hSu;refine Ws<|Rl z z z<|Wn<|Wq<|Wc z (λhc=>(P_ hc).elim) (λ_=>?_)
  exact We<|λ_ q=>⟨rfl,⟨q.k<|s1 z,sv,h2⟩⟩
 .rintro x0 aw _ rfl ⟨_,sx,h2⟩;have hmy:=elL J;revert aw;refine Wo<|Wm z<|Rw z ?_
  obtain rfl:=som hmy;exact Wr<|c_ hr z ⟨sx,z,h2⟩
 rintro _ _ _ _ rfl ⟨rfl,hqz⟩;have O:=elR J;obtain rfl:=som O;exact ⟨hqz,z⟩
def Q28 (w0:World)(B:Zone)(r:Int×Int×(Option<|Int×Int))(v:Value)(w':World):Prop:=Bw w0 w'/\un3 (λh G H=>∃(v1:Value)(S1:List Nat),v = .tuple #[vI h,vI G,v1]/\inI h/\inI G/\a_R 177 w' S1 v1 H/\(∀k∈S1,w0.z<=k)) r
theorem j_Z {x1:a_z}{b1 o1:Nat}{x2:Int}{x3:Int}{res:Int×Int×(Option<|Int×Int)}(hm:f_d x1 x2 x3=some res)(L:B<=w0.z)(I:repS w0 B (sl A0 N0 C0) x1.d.rules)(a0:repS w0 B (sl A1 N1 C1) x1.b)(hC1:R_ w0 b1 o1 [sl A0 N0 C0,sl A1 N1 C1])(hC1b:B b1)(ab:inI x2)(J:inI x3):h_ prog 157 [(.pointer<|some ⟨b1,o1,none⟩),vI x2,vI x3] w0 (Q28 w0 B res):=by
 unfold f_d at hm
 refine goG func157 z z z λfn hr=>Ws<|RA z z<|Rw z<|Wm z<|R z (a_8 z)<|Rf z n_I z<|Rf z a_s z<|R z (l0 a_u z<|hC1.at (j:=0) z)<|Rm z ?_
 obtain ⟨x5,eq,hmr⟩:=bdS hm;refine RX z (at_ (α:=d_) a_2 t_ z z z I eq) ?_;rintro _ ⟨_,_,_,rfl,ht,hu,_⟩;obtain ⟨O,V,W,Y,na,cb,ac,nd,ce,af,ng,ch,rfl,_,_,hv,_,_,_,_⟩:=b_3 hu;refine R z (lN (vs:=vR x5 O V W Y na cb ac nd ce af ng ch) Q_ t_ z z fid ht)<|E z (fa c_q) ?_
 rintro _ ws ⟨rfl,hi⟩;have G:=hi.below;refine E0 (fs0 (cur':=vR x5 O V W Y na cb ac nd ce af ng ch) t_ z z (hi.blk:Blk ws w0.z [(Str.v (⟨[]⟩:Str)),vI 0,vI 0,vB false,sN,sN,sN,sN]) z z z z) ?_;rintro _ _ ⟨hj,sx⟩;have h1:=sx.one;refine Wn<|Wm z<|Rm z<|Rf z b_1 z<|R z (l0 g_3 z<|hj.at z) ?_
 have hk:∀k∈[w0.z],¬B k:=or0 (e_ lr)<|n_ L;have hl:=(G.ag B).c h1<|g_ hk
 have hn:=lt_ G.s h1.s;obtain ⟨_,_,ey,hmm⟩:=Y_ hmr;refine E z (fc call191 z<|j_Y ey (zt' L hn) (I.g hl) (a0.g hl) ((hC1.e G).c h1<|(g_ hk) _ hC1b) hC1b J hv) ?_;rintro _ wz ⟨s3,_,_,_,a2,a3,rfl,a4,ho,a5⟩;refine Rm z<|Re z z z<|Re z z z<|Ra z<|Rw z<|Wq<|Wm z<|R z (e_p e_i z z ho)<|Wx z (λH=>?_) (λH=>?_)
 .refine Wm z<|Rm z<|RA z z<|Rw z ?_
  obtain rfl:=som<|ifT hmm H;exact Wr<|x_ hr z z z ⟨bup (bM G h1<|e_ lr) s3,a2,a3,z,ii z,J,ho,o_ a5 hn⟩
 refine Wk<|Wq (Wd (X:=noX) 0 (.rd 0<|.rd 1<|.rd 2<|.rd 4<|.rd 5<|.rd 6<|.rd 7<|.ef 3<|.rd 8<|.rd 9<|.rd 10 .done) mo (by kernel_rfl) λad s2 _=>dM z z z<|dR z z (fd d_j z) ?_)
 have hp:=(hj.e s3).e s2;refine dR z z (l0 g_4 z<|hp.at z)<|dM z z z<|dR z z (fd b_1 z)<|dR z z (l0 g_3 z<|hp.at z)<|dR z z (add_ z z) ?_
 obtain ⟨_,a7,a1⟩:=bdS<|ifF hmm H;refine dE z z (fc call192 z<|W_w1n (B:=wz.z) a7 (a_K s2.s)<|a4.e s2) (.inr λ_ _ h=>E_<|h.1) ?_;rintro _ _ ⟨a8,rfl,aa⟩
 iterate 3 refine dQ z z z ?_
 refine pD<|Wo ?_
 obtain rfl:=som a1;exact Wr<|x_ hr z z z ⟨bup (bup (bup (bM G h1<|e_ lr) s3) s2) a8,.nilIface,([]:List Nat),z,aa,iA _ _,e_O,an_⟩
def Q29 (w0:World)(B:Zone)(r:Int×(Option<|Int×Int))(v:Value)(w':World):Prop:=Bw w0 w'/\un2 (λh G=>∃(v1:Value)(S1:List Nat),v = .tuple #[vI h,v1]/\inI h/\a_R 177 w' S1 v1 G/\(∀k∈S1,w0.z<=k)) r
theorem W_w41 {x1:a_z}{b1 o1:Nat}{x2:d_}{x3:Int}{res:Int×(Option<|Int×Int)}(hm:i_F x1 x2 x3=some res)(O:B<=w0.z)(ab:repS w0 B (sl A0 N0 C0) x1.d.rules)(Y:repS w0 B (sl A1 N1 C1) x1.b)(hC1:R_ w0 b1 o1 [sl A0 N0 C0,sl A1 N1 C1])(hC1b:B b1)(ad:x2.name.b.length<=LEN)(ae:inI x2.kind)(af:inI x2.size)(H:repS w0 B (sl A3 N3 C3) x2.bytes)(ah:repS w0 B (sl A5 N5 C5) x2.names)(ai:repS w0 B (sl A2 N2 C2) x2.tags)(aj:repS w0 B (sl A6 N6 C6) x2.kids)(I:inI x3):h_ prog 158 [(.pointer<|some ⟨b1,o1,none⟩),.agg #[Str.v x2.name,vI x2.kind,vI x2.size,vB x2.little,sl A3 N3 C3,sl A5 N5 C5,sl A2 N2 C2,sl A6 N6 C6],vI x3] w0 (Q29 w0 B res):=by
 unfold i_F at hm
 refine goG func158 z z z λfn hr=>Ws<|E z (fb z) ?_
 rintro _ G ⟨rfl,h6⟩;have h:=h6.below;have W:Blk G w0.z (vR x2 A3 N3 C3 A5 N5 C5 A2 N2 C2 A6 N6 C6):=h6.blk;refine Ra z<|Rw z<|Wq<|Ws<|Rf z b_j z<|R z (l0 K_ z<|W.at z)<|R z (lnR k_ z<|H.e h)<|Rm z<|Wn ?_
 obtain ⟨_,hui,V⟩:=bdS hm;refine Wf (σ:=Unit) (ρ:=Int×(Option<|Int×Int)) (λ(k9:Nat)(_:Unit) a w=>Sat 52 [(0,.pointer<|some ⟨b1,o1,none⟩),(2,vI x3),(4,pt w0.z),(11,sl A3 N3 C3),(12,vI (x2.bytes.length:Int)),(13,vI ((k9:Nat):Int))] a/\Below G.z G w) (λ(_:Unit) a w=>Sat 52 [(2,vI x3),(4,pt w0.z)] a/\Below G.z G w) (rQ prog fn<|Q29 w0 B) hui ?_ ?_ ?_ ?_ ?_
 .exact λ_ q=>⟨q.k<|s6 z z z z z z,br G⟩
 .rintro k9 _ _ _ _ hka ⟨hSj,s1⟩ hmk;refine Wu ?_ hSj;refine Ws<|Rl z z z<|Wn<|Wq<|Wc z (λ_=>?_) (λhc=>(O_ hka hc).elim)
  refine Wk<|Wq<|Wb<|Wm z ?_
  obtain ⟨_,el,hmb⟩:=bdS hmk;have hd:=(h.ag B).e s1;refine RX z (at_ (α:=UInt8) k_ z_5 z z z (H.g hd) el) ?_;rintro _ ⟨_,_,_,rfl,hn,ho,_⟩;obtain rfl:=u8 ho;refine R z (l0 g_5 z<|hn.at0 z)<|Ra z<|Rw z<|Wq<|Wm z<|Rm z<|R z (add_ z z)<|Rm z<|R z (a_8 z)<|Rf z g_2 z ?_
  have he:=(hC1.e h).e s1;refine R z (l0 K_ z<|he.at (j:=1) z) ?_;have hf:=Y.g hd;refine R z (lnR k_ z hf)<|R z (b_t z z)<|Wx z (λJ=>?_) (λJ=>?_)
  .refine Wm z<|Rm z ?_
   have hg:=lt_ h.s s1.s;obtain ⟨_,em,hmp⟩:=bdS<|ifT hmb J;refine E z (fc call166 z<|e_L em (zt' O hg) I<|ii z) ?_;rintro _ _ ⟨sq,vr,Ss,rfl,ht,hu⟩;exact Ra z<|Rw z<|Wr<|rtO<|qL (som hmp).symm<|a_0 hr z z ⟨bup (bup h s1) sq,vr,Ss,z,I,ht,o_ hu hg⟩
  refine Wk<|Wm z<|R z (a_8 z)<|Rf z g_2 z<|R z (l0 K_ z<|he.at (j:=1) z)<|RM z z<|R z (add_ z z) ?_
  obtain ⟨_,ev,hmc⟩:=bdS<|ifF hmb J;refine RX z (at_ (α:=UInt8) k_ z_5 z z z hf ev) ?_;rintro _ ⟨_,_,_,rfl,hw,hx,_⟩;obtain rfl:=u8 hx;refine R z (l0 g_5 z<|hw.at0 z)<|Rm z<|R z (nq z z)<|Wx z (λL=>?_) (λL=>?_)
  .refine Wm z<|RM z z<|R z (add_ z z) ?_
   have hh:=lt_ h.s s1.s;obtain ⟨_,ey,hmz⟩:=bdS<|ifT hmc L;refine E z (fc call166 z<|e_L ey (zt' O hh) (iA _ _)<|ii z) ?_;rintro _ _ ⟨a4,a5,a6,rfl,a7,a8⟩;exact Ra z<|Rw z<|Wr<|rtO<|qL (som hmz).symm<|a_0 hr z z ⟨bup (bup h s1) a4,a5,a6,z,I,a7,o_ a8 hh⟩
  exact Wk<|Wg<|R z (inc_ hka (lt_ (repS.len H) z_) z z)<|Rm z<|Wl (λ_ q=>⟨(),(som<|ifF hmc L).symm,⟨q.k<|s6 z z z z z z,s1⟩⟩)
 .rintro _ _ _ ⟨a0,a9⟩;refine Wu ?_ a0;refine Ws<|Rl z z z<|Wn<|Wq<|Wc z (λhc=>(P_ hc).elim) (λ_=>?_)
  exact We<|λ_ q=>⟨rfl,⟨q.k<|s2 z z,a9⟩⟩
 .rintro _ aa _ rfl ⟨_,s5⟩;have a1:=elL V;revert aa;refine Wo<|Wm z<|Rf z b_j z<|R z (l0 K_ z<|(W.e s5).at z)<|R z (lnR k_ z<|H.g<|(h.ag B).e s5)<|R z (add_ z z)<|Ra z<|Rw z ?_
  obtain rfl:=som a1;exact Wr<|a_0 hr z z ⟨bup h s5,.nilIface,([]:List Nat),z,iA _ _,e_O,an_⟩
 rintro _ _ _ _ rfl ⟨rfl,a2⟩;have a3:=elR V;obtain rfl:=som a3;exact ⟨a2,z⟩
def Q30 (w0:World)(B:Zone)(r:Val×Int×(Option<|Int×Int))(v:Value)(w':World):Prop:=Bw w0 w'/\un3 (λh G V=>∃(H:Option Addr)(I J:Nat)(S1:List Nat)(a2:Option Addr)(L O:Nat)(S2:List Nat)(v3:Value)(S3:List Nat),v = .tuple #[(.agg #[vI h.number,sl H I J,sl a2 L O]),vI G,v3]/\inI h.number/\a_ w' S1 (sl H I J) h.bytes/\a_ w' S2 (sl a2 L O) h.items/\inI G/\a_R 177 w' S3 v3 V/\(∀k∈S3,w0.z<=k)/\(S1++S2).Nodup/\(∀k∈(S1++S2),w0.z<=k)) r
theorem W_w1o {x1:a_z}{b1 o1:Nat}{x2:Int}{x3:Int}{res:Val×Int×(Option<|Int×Int)}(hm:h_3 x1 x2 x3=some res)(a1:B<=w0.z)(W:repS w0 B (sl A0 N0 C0) x1.d.rules)(Y:repS w0 B (sl A1 N1 C1) x1.b)(hC1:R_ w0 b1 o1 [sl A0 N0 C0,sl A1 N1 C1])(hC1b:B b1)(L:inI x2)(a0:inI x3):h_ prog 159 [(.pointer<|some ⟨b1,o1,none⟩),vI x2,vI x3] w0 (Q30 w0 B res):=by
 unfold h_3 at hm
 refine goG func159 z z z λfn hr=>Ws<|E z (fa a_q) ?_
 rintro _ wk ⟨rfl,V⟩;have h:=V.below;have h2:Blk wk w0.z [vI 0,sN,sN]:=V.blk;refine Ra z<|Rw z<|Wm z<|RM z z ?_
 obtain ⟨_,_,el,O⟩:=Y_ hm;refine E z (fc call191 z<|j_Y el (zt' a1 h.s) (W.e h) (Y.e h) (hC1.e h) hC1b L a0) ?_;rintro _ _ ⟨s1,_,_,_,vm,Sn,rfl,ho,ha,hb⟩;refine Rm z<|Re z z z<|Re z z z<|Ra z<|Rw z<|Wq<|Wm z<|R z (e_p e_i z z ha)<|Wx z (λG=>?_) (λG=>?_)
 .refine Ws<|R z (bP (parts:=[]) (cs:=[vI 0,sN,sN]) a_6 z z)<|RM z z<|E0 (fs0 (cur':=[vI 0,sN,sN]) m_ z z (h2.e s1) z z z z) ?_
  rintro _ _ ⟨hp,sq⟩;have hc:=sq.one;refine Ra z<|Rw z ?_
  obtain rfl:=som<|ifT O G;exact Wr<|x_ hr (q_ C_ m_ z hp z) z z ⟨bM (bup h s1) hc<|e_ lr,none,0,0,[],none,0,0,[],vm,Sn,z,ii z,onL,onL,L,ha.c hc<|s_ hb h2.lt lr,o_ hb h.s,nd0,al0⟩
 refine Wk<|Ws<|E z (f0 (α:=UInt8) M_) ?_
 rintro _ _ ⟨_,_,_,rfl,s3,ht⟩;refine Rm z ?_;obtain ⟨_,er,hms⟩:=bdS<|ifF O G;refine E z (fN (α:=UInt8) M_ er z z ht Z_<|ho.e s3) ?_;rintro _ _ ⟨Sd,H,I,J,rfl,se,hu,hv,hf⟩;refine R z (bP (parts:=[(1,.tmp 25)]) (cs:=[vI 0,sl H I J,sN]) a_6 z z)<|RM z z<|R z (add_ z z) ?_
 have hg:=mm1 h2.lt s1.s;refine E0 (fs0 (cur':=[vI 0,sl H I J,sN]) m_ z z (((h2.e s1).e s3).c se<|djs hg) z z z z) ?_;rintro _ _ ⟨hw,sx⟩;have hh:=sx.one;refine Ra z<|Rw z ?_
 obtain rfl:=som hms;have hi:=lt_ h.s s1.s;have hj:=m1 hi;exact Wr<|x_ hr (q_ C_ m_ z hw z) z z ⟨bM (bM (bup (bup h s1) s3) se hj) hh<|e_ lr,H,I,J,Sd,none,0,0,[],.nilIface,([]:List Nat),z,ii z,hu.c hh (or1 hf hg (a_P (e_ h2.lt)<|lt_ s1.s s3.s):∀k∈Sd,k∉[w0.z]),onL,iA _ _,e_O,an_,na_ hv G_<|nmN _,aa_ (b_2 hf hj<|lt_ hi s3.s) an_⟩
theorem W_w1p {x1:Bt}{x2:Int}{x3:UInt8}{res:Bt×Int×Bool}(hm:h_1 n x1 x2 x3=some res)(ap:B<=w0.z)(W:repS w0 B (sl A0 N0 C0) x1)(Y:inI x2):h_ prog 165 [sl A0 N0 C0,vI x2,vU<|byteI x3] w0 (Q18 w0 B res):=by
 unfold h_1 at hm
 refine goG func165 z z z λfn hr=>Ws<|RA z z<|Rw z<|Ws<|E z (f0 (α:=UInt8) M_) ?_
 rintro _ wg ⟨aj,nk,cl,rfl,s8,hv⟩;refine Rw z<|Wq<|Wq ?_
 obtain ⟨aq,huw,hmx⟩:=bdS hm;refine Wt (λa w=>∃(xm:Bool),xm=aq/\Sat 58 [(0,sl A0 N0 C0),(1,vI x2),(2,vU<|byteI x3),(9,sl aj nk cl),(19,vB xm)] a/\Below wg.z wg w) ?_ ?_
 .refine Wg<|Rm z<|Rl z z z<|Rm z ?_
  rcases bs (decide<|x2<0) with H | H
  .iterate 4 refine Nh z H ?_
   exact R z (pT z H z)<|Wl (λ_ q=>⟨true,som<|ifT huw H,q.k<|s5 z z z z z,br wg⟩)
  exact Rh z H (mv z)<|Rh z H (mv z)<|Rh z H (lnR k_ z<|W.e s8)<|Rh z H (X_ z z)<|R z (pF z H z)<|Wl (λ_ q=>⟨decide<|(x1.length:Int)<x2,som<|ifF huw H,q.k<|s5 z z z z z,br wg⟩)
 rintro ar h ⟨xm,rfl,_,s6⟩;revert ar;refine Wo<|Wc z (λhcn=>?_) (λhcn=>?_)
 .refine Wm z<|Rm z<|RA z z<|Rw z ?_
  obtain rfl:=som<|ifT hmx hcn;exact Wr<|x_ hr z z z ⟨bup s8 s6,aj,nk,cl,[w0.z],z,hv.e s6,Y,Z_,e_ lr⟩
 refine Wk<|Wq<|Wm z<|Rw z ?_
 obtain ⟨_,ab,hmy⟩:=bdS<|ifF hmx hcn;refine a_X (σ:=Bt×Int) (ρ:=Bt×Int×Bool) (λs a w=>un2 (λxb O=>∃I J L G,Sat 58 [(0,sl A0 N0 C0),(1,vI x2),(2,vU<|byteI x3),(9,sl I J L),(10,vI O)] a/\Cg [w0.z] h w/\a_ w G (sl I J L) xb/\G.Nodup/\(∀k∈G,k∈[w0.z]∨h.z<=k)/\inI O) s) (λs a w=>un2 (λxb O=>∃I J L G,Sat 58 [(1,vI x2)] a/\Cg [w0.z] h w/\a_ w G (sl I J L) xb/\G.Nodup/\(∀k∈G,k∈[w0.z]∨h.z<=k)/\inI O) s) (rQ prog fn<|Q18 w0 B) ab ?_ ?_ ?_ ?_
 .exact λ_ q=>⟨aj,nk,cl,[w0.z],q.k<|s5 z z z z z,cr [w0.z] h,hv.e s6,Z_,io sr,Y⟩
 .rintro ⟨xb,O⟩ _ V _ ⟨I,J,L,G,ad,sa,hc,hd,he,ho⟩ ae;have hmz:=a_7 ae;refine Wu ?_ ad;refine Wq<|Wm z<|Rm z ?_
  have a5:=((s8.ag B).e s6).c sa<|g_ (or0 (e_ lr) (n_ ap):∀k∈[w0.z],¬B k)
  have hh:=W.g a5;refine R z (lnR k_ z hh)<|Rl z z z<|Wx z (λhcp=>?_) (λhcp=>?_)
  .refine Wk<|Wq<|Wb<|Wq<|Wm z<|Rm z ?_
   obtain ⟨_,au,a0⟩:=bdS<|ifT hmz hcp;refine RX z (at_ (α:=UInt8) k_ z_5 z z z hh au) ?_;rintro _ ⟨_,_,_,rfl,av,aw,_⟩;obtain rfl:=u8 aw;refine R z (l0 g_5 z<|av.at0 z)<|Rm z<|Rq z z z<|Wx z (λhcq=>?_) (λhcq=>?_)
   .refine Wm z<|Rm z<|R z (add_ z z)<|RA z z<|Rw z ?_
    exact Wr<|rtO<|qL (som<|ifT a0 hcq).symm<|x_ hr z z z ⟨bM (bup s8 s6) sa<|e_ lr,I,J,L,G,z,hc,iA _ _,hd,(or1 he (e_ lr) (a_W<|lt_ s8.s s6.s):∀k∈G,w0.z<=k)⟩
   refine Wk<|Wq<|Wm z<|Rm z ?_
   obtain ⟨_,ax,af⟩:=bdS<|ifF a0 hcq;refine RX z (at_ (α:=UInt8) k_ z_5 z z z hh ax) ?_;rintro _ ⟨_,_,_,rfl,ay,az,_⟩;obtain rfl:=u8 az;refine R z (l0 g_5 z<|ay.at0 z)<|Rq z z z<|Wn ?_
   obtain ⟨aA,a1,a2⟩:=bdS af;refine Wt (λa w=>∃(xf:Int),Sum.inl xf=aA/\Sat 58 [(0,sl A0 N0 C0),(1,vI x2),(2,vU<|byteI x3),(9,sl I J L),(10,vI xf)] a/\Below V.z V w/\inI xf) ?_ ?_
   .refine Wc z (λhcr=>?_)<|λhcr=>?_
    .have a4:=ifT a1 hcr;refine Wm z<|R z (add_ z z)<|Rw z<|Wm z<|Rm z<|R z (lnR k_ z hh)<|Rq z z z<|Wx z (λhcs=>?_) (λhcs=>?_)
     .obtain rfl:=som<|ifT a4 hcs;have ah:=elR a2;exact We<|exO z (λ_ q=>a_Q (som ah).symm ⟨I,J,L,G,q.k<|s1 z,(cM (cr [w0.z] h) sa (io sr):Cg [w0.z] h V),hc,hd,(or1 he (io sr) (j_ lr):∀k∈G,k∈[w0.z]∨h.z<=k),iA _ _⟩)
     exact a_j<|λ_ q=>⟨b_ O 1,som<|ifF a4 hcs,q.k<|s5 z z z z z,br V,iA _ _⟩
    exact a_j<|λ_ q=>⟨O,som<|ifF a1 hcr,q.k<|s5 z z z z z,br V,ho⟩
   rintro aB a6 ⟨xf,rfl,_,si,_⟩;have ai:=elL a2;revert aB;refine Wo<|Wg<|RM z z<|Rm z ?_
   obtain ⟨aC,aD,ak⟩:=bdS ai;refine RX z (at_ (α:=UInt8) k_ z_5 z z z (W.g<|a5.e si) aD) ?_;rintro _ ⟨_,_,_,rfl,aE,aF,_⟩;obtain rfl:=u8 aF;refine R z (l0 g_5 z<|aE.at0 z)<|E z (fS [(.tmp 53)] M_ z z z (a_v z) (lb z)<|lb z) ?_
   rintro _ a7 ⟨rfl,ht⟩;have hu:=ht.below;have aX:=b_D ht b_b;obtain ⟨aG,aH,al⟩:=bdS ak;refine E z (b_l (α:=UInt8) M_ aH z z ((hc.e si).e hu) hd (ht.blk:Blk a7 a6.z [vU (byteI aC)]) b_b an_ G_) ?_;rintro _ aI ⟨a8,aJ,aK,aL,rfl,aM,aN,aO,aP⟩;refine Rw z<|Wg<|Rm z<|R z (add_ z z)<|Ra z<|Wl ?_
   have a9:∀k∈G,k∈[w0.z]∨h.z<=k:=or1 he (io sr)<|j_ lr;exact λ_ q=>⟨(aG,b_ xf 1),(som al).symm,⟨aJ,aK,aL,a8,q.k<|s5 z z z z z,(cM (i_ (i_ (cM (cr [w0.z] h) sa (io sr):Cg [w0.z] h V) si:Cg [w0.z] h a6) hu:Cg [w0.z] h a7) aM a9:Cg [w0.z] h aI),aN,aO,(or2 aP a9 an_ (j_<|lt_ (lt_ sa.s si.s) hu.s):∀k∈a8,k∈[w0.z]∨h.z<=k),iA _ _⟩⟩
  exact We<|λ_ q=>a_Q (som<|ifF hmz hcp).symm ⟨I,J,L,G,q.k<|s1 z,(cM (cr [w0.z] h) sa (io sr):Cg [w0.z] h V),hc,hd,(or1 he (io sr) (j_ lr):∀k∈G,k∈[w0.z]∨h.z<=k),ho⟩
 .rintro ⟨xb,O⟩ aQ aR rfl ⟨I,J,L,G,_,aa,hc,hd,he,ho⟩;have am:=elL hmy;revert aQ;refine Wo<|Ws<|E z (f0 (α:=UInt8) M_) ?_
  rintro _ _ ⟨aS,aT,aU,rfl,aV,aW⟩;refine Rm z<|RA z z<|Rw z ?_
  obtain rfl:=som<|a_7 am;exact Wr<|x_ hr z z z ⟨bup (bM (bup s8 s6) aa<|e_ lr) aV,aS,aT,aU,[aR.z],z,aW,Y,Z_,m1<|lt_ (lt_ s8.s s6.s) aa.s⟩
 rintro _ _ _ _ rfl ⟨rfl,an⟩;have ao:=elR hmy;obtain rfl:=som ao;exact ⟨an,z⟩
def Q31 (w0:World)(B:Zone)(S2_1:List Nat)(S2_2:List Nat)(r:Val×Int×(Option<|Int×Int))(v:Value)(w':World):Prop:=Chg (· ∈ (S2_1++S2_2)) w0 w'/\un3 (λh G V=>∃(H:Option Addr)(I J:Nat)(S1:List Nat)(a2:Option Addr)(L O:Nat)(S2:List Nat)(v3:Value)(S3:List Nat),v = .tuple #[(.agg #[vI h.number,sl H I J,sl a2 L O]),vI G,v3]/\inI h.number/\a_ w' S1 (sl H I J) h.bytes/\a_ w' S2 (sl a2 L O) h.items/\inI G/\a_R 177 w' S3 v3 V/\(∀k∈S3,w0.z<=k)/\(S1++S2).Nodup/\(∀k∈(S1++S2),k∈(S2_1++S2_2)∨w0.z<=k)) r
structure m_3 (f:a_z->Int->Int->Option (Val×Int×(Option<|Int×Int))):Prop where
  run:∀{A0 A1:Option Addr}{N0 C0 N1 C1 b1 o1:Nat}{B:Zone}{x1:a_z}{x2:Int}{x3:Int}{res:Val×Int×(Option<|Int×Int)}{w0:World}(hm:f x1 x2 x3=some res)(hBw:B<=w0.z)(p1_0:repS w0 B (sl A0 N0 C0) x1.d.rules)(p1_1:repS w0 B (sl A1 N1 C1) x1.b)(hC1:R_ w0 b1 o1 [sl A0 N0 C0,sl A1 N1 C1])(hC1b:B b1)(p2_0:inI x2)(p3_0:inI x3),h_ prog 132 [(.pointer<|some ⟨b1,o1,none⟩),vI x2,vI x3] w0<|Q30 w0 B res
structure m_4 (f:a_z->d_->Int->Option (Val×Int×(Option<|Int×Int))):Prop where
  run:∀{A0 A1 A3 A5 A2 A6:Option Addr}{N0 C0 N1 C1 b1 o1 N3 C3 N5 C5 N2 C2 N6 C6:Nat}{B:Zone}{x1:a_z}{x2:d_}{x3:Int}{res:Val×Int×(Option<|Int×Int)}{w0:World}(hm:f x1 x2 x3=some res)(hBw:B<=w0.z)(p1_0:repS w0 B (sl A0 N0 C0) x1.d.rules)(p1_1:repS w0 B (sl A1 N1 C1) x1.b)(hC1:R_ w0 b1 o1 [sl A0 N0 C0,sl A1 N1 C1])(hC1b:B b1)(p2_0:x2.name.b.length<=LEN)(p2_1:inI x2.kind)(p2_2:inI x2.size)(p2_4:repS w0 B (sl A3 N3 C3) x2.bytes)(p2_5:repS w0 B (sl A5 N5 C5) x2.names)(p2_6:repS w0 B (sl A2 N2 C2) x2.tags)(p2_7:repS w0 B (sl A6 N6 C6) x2.kids)(p3_0:inI x3),h_ prog 160 [(.pointer<|some ⟨b1,o1,none⟩),.agg #[Str.v x2.name,vI x2.kind,vI x2.size,vB x2.little,sl A3 N3 C3,sl A5 N5 C5,sl A2 N2 C2,sl A6 N6 C6],vI x3] w0<|Q30 w0 B res
structure m_5 (f:a_z->Val->(List Int)->Int->Option (Val×Int×(Option<|Int×Int))):Prop where
  run:∀{A0 A1 AC AG A7:Option Addr}{N0 C0 N1 C1 b1 o1 NC CC NG CG N7 C7:Nat}{S2_1 S2_2:List Nat}{B:Zone}{x1:a_z}{x2:Val}{x3:List Int}{x4:Int}{res:Val×Int×(Option<|Int×Int)}{w0:World}(hm:f x1 x2 x3 x4=some res)(hBw:B<=w0.z)(p1_0:repS w0 B (sl A0 N0 C0) x1.d.rules)(p1_1:repS w0 B (sl A1 N1 C1) x1.b)(hC1:R_ w0 b1 o1 [sl A0 N0 C0,sl A1 N1 C1])(hC1b:B b1)(p2_0:inI x2.number)(p2_1:a_ w0 S2_1 (sl AC NC CC) x2.bytes)(p2_1n:S2_1.Nodup)(p2_1g:∀k∈S2_1,¬B k)(p2_2:a_ w0 S2_2 (sl AG NG CG) x2.items)(p2_2n:S2_2.Nodup)(p2_2g:∀k∈S2_2,¬B k)(p2_2d1:∀k∈S2_2,k∉S2_1)(p3_0:repS w0 B (sl A7 N7 C7) x3)(p4_0:inI x4),h_ prog 161 [(.pointer<|some ⟨b1,o1,none⟩),.agg #[vI x2.number,sl AC NC CC,sl AG NG CG],sl A7 N7 C7,vI x4] w0<|Q31 w0 B S2_1 S2_2 res
structure m_6 (f:a_z->d_->Int->Option (Val×Int×(Option<|Int×Int))):Prop where
  run:∀{A0 A1 A3 A5 A2 A6:Option Addr}{N0 C0 N1 C1 b1 o1 N3 C3 N5 C5 N2 C2 N6 C6:Nat}{B:Zone}{x1:a_z}{x2:d_}{x3:Int}{res:Val×Int×(Option<|Int×Int)}{w0:World}(hm:f x1 x2 x3=some res)(hBw:B<=w0.z)(p1_0:repS w0 B (sl A0 N0 C0) x1.d.rules)(p1_1:repS w0 B (sl A1 N1 C1) x1.b)(hC1:R_ w0 b1 o1 [sl A0 N0 C0,sl A1 N1 C1])(hC1b:B b1)(p2_0:x2.name.b.length<=LEN)(p2_1:inI x2.kind)(p2_2:inI x2.size)(p2_4:repS w0 B (sl A3 N3 C3) x2.bytes)(p2_5:repS w0 B (sl A5 N5 C5) x2.names)(p2_6:repS w0 B (sl A2 N2 C2) x2.tags)(p2_7:repS w0 B (sl A6 N6 C6) x2.kids)(p3_0:inI x3),h_ prog 162 [(.pointer<|some ⟨b1,o1,none⟩),.agg #[Str.v x2.name,vI x2.kind,vI x2.size,vB x2.little,sl A3 N3 C3,sl A5 N5 C5,sl A2 N2 C2,sl A6 N6 C6],vI x3] w0<|Q30 w0 B res
structure m_7 (f:a_z->d_->Int->Option (Val×Int×(Option<|Int×Int))):Prop where
  run:∀{A0 A1 A3 A5 A2 A6:Option Addr}{N0 C0 N1 C1 b1 o1 N3 C3 N5 C5 N2 C2 N6 C6:Nat}{B:Zone}{x1:a_z}{x2:d_}{x3:Int}{res:Val×Int×(Option<|Int×Int)}{w0:World}(hm:f x1 x2 x3=some res)(hBw:B<=w0.z)(p1_0:repS w0 B (sl A0 N0 C0) x1.d.rules)(p1_1:repS w0 B (sl A1 N1 C1) x1.b)(hC1:R_ w0 b1 o1 [sl A0 N0 C0,sl A1 N1 C1])(hC1b:B b1)(p2_0:x2.name.b.length<=LEN)(p2_1:inI x2.kind)(p2_2:inI x2.size)(p2_4:repS w0 B (sl A3 N3 C3) x2.bytes)(p2_5:repS w0 B (sl A5 N5 C5) x2.names)(p2_6:repS w0 B (sl A2 N2 C2) x2.tags)(p2_7:repS w0 B (sl A6 N6 C6) x2.kids)(p3_0:inI x3),h_ prog 163 [(.pointer<|some ⟨b1,o1,none⟩),.agg #[Str.v x2.name,vI x2.kind,vI x2.size,vB x2.little,sl A3 N3 C3,sl A5 N5 C5,sl A2 N2 C2,sl A6 N6 C6],vI x3] w0<|Q30 w0 B res
structure m_8 (f:a_z->d_->Int->Option (Val×Int×(Option<|Int×Int))):Prop where
  run:∀{A0 A1 A3 A5 A2 A6:Option Addr}{N0 C0 N1 C1 b1 o1 N3 C3 N5 C5 N2 C2 N6 C6:Nat}{B:Zone}{x1:a_z}{x2:d_}{x3:Int}{res:Val×Int×(Option<|Int×Int)}{w0:World}(hm:f x1 x2 x3=some res)(hBw:B<=w0.z)(p1_0:repS w0 B (sl A0 N0 C0) x1.d.rules)(p1_1:repS w0 B (sl A1 N1 C1) x1.b)(hC1:R_ w0 b1 o1 [sl A0 N0 C0,sl A1 N1 C1])(hC1b:B b1)(p2_0:x2.name.b.length<=LEN)(p2_1:inI x2.kind)(p2_2:inI x2.size)(p2_4:repS w0 B (sl A3 N3 C3) x2.bytes)(p2_5:repS w0 B (sl A5 N5 C5) x2.names)(p2_6:repS w0 B (sl A2 N2 C2) x2.tags)(p2_7:repS w0 B (sl A6 N6 C6) x2.kids)(p3_0:inI x3),h_ prog 164 [(.pointer<|some ⟨b1,o1,none⟩),.agg #[Str.v x2.name,vI x2.kind,vI x2.size,vB x2.little,sl A3 N3 C3,sl A5 N5 C5,sl A2 N2 C2,sl A6 N6 C6],vI x3] w0<|Q30 w0 B res
end Go.Vw
