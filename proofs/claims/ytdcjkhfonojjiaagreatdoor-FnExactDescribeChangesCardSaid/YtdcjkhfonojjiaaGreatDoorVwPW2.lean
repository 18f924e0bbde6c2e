
import Derived.Test.YtdcjkhfonojjiaaGreatDoorVwPW1
set_option linter.unusedVariables false
namespace Go.Vw
open Go.RowKit Dat Go.Proofs
open Go.Proofs.Tryz
open Go.Vw renaming a_S->Wq,b_m->Wg,WC.of_KC->Wo,a_T->Wl,c_R->Wc,e_6->Wr,h_E->Wu,j_9->pT,j_a->pF,h_K->fd,c_r->l1,j_n->lN,b_S->mv,d_H->asg,h_x->lnR,f_Z->lss,h_P->eql,h_L->ext_,j_c->bP,h_M->add_,h_u->inc_,f_6->not_,h_y->at_,f_I->fc,b_E->fs,f_H->fb,e_Q->fa,j_3->sr,j_7->cr,j_8->cM,d_A->bM,i_V->iS,i_U->iA,h_t->br,b_O->oA,i_Z->bs,ltge->lg,inor->io,h_Q->nq,j_o->lnT,j_p->sb_,j_1->ar_,j_0->al_,j_2->ds,k_N->m1,j_5->nr_,j_4->nl_,h_w->aa_,all_nil->an_,e_7->Wb,h_v->u8,i_N->pD,h_o->We,i_X->Wt,h_q->fS,f_G->or_,j_l->Wf,j_g->qL,i_M->Wd,j_d->fN,f_L->na_,j_6->nj,f_P->f0,j_b->rX,j_e->tl_,j_f->ic
variable {A0:Option Addr}{N0 C0:Nat}{B:Zone}{w0:World}{AD:Option Addr}{AC:Option Addr}{AE:Option Addr}{AF:Option Addr}{ND CD:Nat}{NC CC:Nat}{NE CE:Nat}{NF CF:Nat}{A2:Option Addr}{A3:Option Addr}{A1:Option Addr}{A4:Option Addr}{N2 C2:Nat}{N3 C3:Nat}{N1 C1:Nat}{N4 C4:Nat}{A9:Option Addr}{N9 C9:Nat}{A7:Option Addr}{N7 C7:Nat}{n:Nat}{A6:Option Addr}{A5:Option Addr}{N6 C6:Nat}{N5 C5:Nat}{AA:Option Addr}{AB:Option Addr}{NA CA:Nat}{NB CB:Nat}{AK:Option Addr}{NK CK:Nat}{A8:Option Addr}{N8 C8:Nat}
theorem W_w2k {x1:Str}{res:(List Str)×Bool}(hm:g_v n x1=some res)(O:B<=w0.z)(V:x1.b.length<=LEN):h_ prog 62 [Str.v x1] w0 (Q15 w0 B res):=by
 unfold g_v at hm
 refine goG func62 z z z fun fn hr=>Ws<|Ra z<|Rw z<|Wq<|Wm z<|R z (b_6 z z)<|Wx z (fun I=>?_) (fun I=>?_)
 ·refine Ws<|E z (f0 (α:=Str) a_A) ?_
  rintro _ _ ⟨aq,nr,cs,rfl,st,hc⟩;refine Ra z<|Rw z ?_
  obtain rfl:=som<|ifT hm I;exact Wr<|a_P hr z z ⟨st,aq,nr,cs,z,or_ hc<|zin (B:=B) (f_ lr)<|a_.lt hc⟩
 refine Wk<|Wm z ?_
 obtain ⟨_,eu,hmv⟩:=bdS<|ifF hm I;refine E z (fc call90 z<|W_w2h (B:=B) eu O V) ?_;rintro _ H ⟨s3,ad,ne,cf,_,rfl,G,_,h4⟩;refine Rw z<|Wq<|Wm z ?_
 obtain ⟨_,ew,hmg⟩:=bdS hmv;refine RX z (at_ (α:=Str) J_ z_9 z z z (or_ G<|zin (B:=B) h4<|a_.lt G) ew) ?_;rintro _ ⟨_,_,_,rfl,hx,hy,_⟩;obtain ⟨rfl,_⟩:=a_R hy;refine R z (l0 g_9 z<|hx.at0 z)<|R z (e_i z z)<|Wx z (fun J=>?_) (fun J=>?_)
 ·refine Ws<|E z (f0 (α:=Str) a_A) ?_
  rintro _ _ ⟨az,a5,a6,rfl,a7,hh⟩;refine Ra z<|Rw z ?_
  obtain rfl:=som<|ifT hmg J;exact Wr<|a_P hr z z ⟨bup s3 a7,az,a5,a6,z,repS.mono (or_ hh<|zin (B:=B) (f_ lr)<|a_.lt hh)<|d_F s3.s lr⟩
 refine Wk<|Wq<|Ws<|Rw z ?_
 obtain ⟨_,W,hmi⟩:=bdS<|ifF hmg J;refine e_d (σ:=Int) (ρ:=(List Str)×Bool) (fun (x2:Int) a w=>Sat 34 [(4,sl ad ne cf),(5,vI x2)] a/\Below H.z H w/\inI x2) (fun (x2:Int) a w=>Sat 34 [(4,sl ad ne cf)] a/\Below H.z H w/\inI x2) (rQ prog fn<|Q15 w0 B) W ?_ ?_ ?_ ?_
 ·exact fun _ q=>⟨q.k<|s2 z z,br H,ii z⟩
 ·rintro x2 _ _ _ ⟨Y,s5,hj⟩ hmk;refine Wu ?_ Y;refine Wq<|Wm z<|Rm z ?_
  have hl:=G.e s5;refine R z (lnR J_ z<|or_ hl<|zin (B:=B) h4<|a_.lt G)<|Rl z z z<|Wx z (fun L=>?_) (fun L=>?_)
  ·refine Wk<|Wq<|Wb<|Wm z<|Rm z ?_
   obtain ⟨_,a8,a0⟩:=bdS<|ifT hmk L;refine RX z (at_ (α:=Str) J_ z_9 z z z (or_ hl<|zin (B:=B) h4<|a_.lt G) a8) ?_;rintro _ ⟨_,_,_,rfl,a9,aa,_⟩;obtain ⟨rfl,ab⟩:=a_R aa;refine R z (l0 g_9 z<|a9.at0 z) ?_;have hn:=lt_ s3.s s5.s;obtain ⟨_,ae,hmm⟩:=bdS a0;refine E z (fc call91 z<|W_w2j ae (zt' O hn) ab) ?_;rintro _ _ ⟨s9,rfl⟩;refine R z (not_ z)<|Wx z (fun hca=>?_) (fun hca=>?_)
   ·refine Ws<|E z (f0 (α:=Str) a_A) ?_
    rintro _ _ ⟨af,ah,ai,rfl,aj,ho⟩;exact Ra z<|Rw z<|Wr<|rtO<|qL (som<|ifT hmm hca).symm<|a_P hr z z ⟨bup (bup (bup s3 s5) s9) aj,af,ah,ai,z,repS.mono (or_ ho<|zin (B:=B) (f_ lr)<|a_.lt ho)<|d_F (lt_ hn s9.s) lr⟩
   exact Wk<|Wg<|Rm z<|R z (add_ z z)<|Ra z<|Wl (fun _ q=>⟨s_ x2 1,(som<|ifF hmm hca).symm,⟨q.k<|s2 z z,bup s5 s9,iA _ _⟩⟩)
  exact We<|fun _ q=>c_U (som<|ifF hmk L).symm ⟨q.k<|s1 z,s5,hj⟩
 ·rintro x2 ak _ rfl ⟨_,sb,hj⟩;have a1:=elL hmi;revert ak;refine Wo<|Wm z ?_
  obtain ⟨_,al,a2⟩:=bdS a1;have hp:=G.e sb;refine RX z (rX J_ z_9 z z (or_ hp<|zin (B:=B) h4<|a_.lt G) z z al) ?_;rintro _ ⟨am,an,ao,rfl,ap⟩;refine Rm z<|R z (lnR J_ z<|or_ hp<|zin (B:=B) h4<|a_.lt G)<|R z (a_q z z)<|Ra z<|Rw z ?_
  obtain rfl:=som a2;exact Wr<|a_P hr z z ⟨bup s3 sb,am,an,ao,z,repS.mono ap<|d_F lr sb.s⟩
 rintro _ _ _ _ rfl ⟨rfl,a3⟩;have a4:=elR hmi;obtain rfl:=som a4;exact ⟨a3,z⟩
theorem W_w2l {x1:d_}{x2:Int}{x3:Val}{x4:Str}{res:Int}(hm:e_R n x1 x2 x3 x4=some res)(V:B<=w0.z)(O:repS w0 B (sl A0 N0 C0) x1.rules)(W:inI x2)(aD:inI x3.number)(aE:repS w0 B (sl A6 N6 C6) x3.bytes)(Y:repS w0 B (sl A5 N5 C5) x3.items)(aF:x4.b.length<=LEN):h_ prog 63 [(.agg #[sl A0 N0 C0]),vI x2,.agg #[vI x3.number,sl A6 N6 C6,sl A5 N5 C5],Str.v x4] w0 (Q0 w0 B res):=by
 unfold e_R at hm
 refine goG func63 z z z fun fn hr=>Ws<|E z (fb z) ?_
 rintro _ J ⟨rfl,hg⟩;have h5:=hg.below;have hh:Blk J w0.z [sl A0 N0 C0]:=hg.blk;refine E z (fb z) ?_;rintro _ I ⟨rfl,hi⟩;have h4:=hi.below;refine Rw z<|Wq<|Ws<|Rw z ?_
 obtain ⟨_,hus,hmj⟩:=bdS hm;refine e_d (σ:=Int) (ρ:=Int) (fun (x0:Int) a w=>Sat 38 [(1,vI x2),(3,Str.v x4),(4,pt w0.z),(6,pt J.z),(9,vI x0)] a/\Below I.z I w/\inI x0) (fun (x0:Int) a w=>Sat 38 [] a/\Below I.z I w/\inI x0) (rQ prog fn<|Q0 w0 B) hus ?_ ?_ ?_ ?_
 ·exact fun _ q=>⟨q.k<|s5 z z z z z,br I,ii z⟩
 ·rintro x0 _ wb _ ⟨hSu,s1,L⟩ hmv;refine Wu ?_ hSu;refine Wq<|Wq ?_
  obtain ⟨uw,huk,hml⟩:=bdS hmv;refine Wt (fun a w=>∃(xc:Bool),xc=uw/\Sat 38 [(1,vI x2),(3,Str.v x4),(4,pt w0.z),(6,pt J.z),(9,vI x0),(20,vB xc)] a/\Below wb.z wb w) ?_ ?_
  ·refine Wg<|Rm z<|Rf z F_ z<|R z (l0 I_ z<|((hi.blk:Blk I J.z [vI x3.number,sl A6 N6 C6,sl A5 N5 C5]).e s1).at z) ?_
   have hn:=((h5.ag B).e h4).e s1;refine R z (lnR K_ z<|Y.g hn)<|Rl z z z<|Rm z ?_
   rcases bs (decide<|x0<(x3.items.length:Int)) with G | G
   ·refine Rh z G (lN (vs:=[sl A0 N0 C0]) o_ n_ z z fid<|((hh.e h4).e s1).row 0 1 z)<|Rh z G (mv z) ?_
    obtain ⟨rx,ey,hmz⟩:=bdS<|ifT huk G;refine Eg z z G z (fc call53 z<|k_6 ey (zt' V<|lt_ (lt_ h5.s h4.s) s1.s) (O.g hn) W) ?_;rintro _ _ ⟨a5,rfl⟩;exact R z (pT z G z)<|Wl (fun _ q=>⟨rx,som hmz,q.k<|s6 z z z z z z,a5⟩)
   iterate 3 refine Nh z G ?_
   exact R z (pF z G z)<|Wl (fun _ q=>⟨false,som<|ifF huk G,q.k<|s6 z z z z z z,br wb⟩)
  rintro a6 _ ⟨xc,rfl,_,s7⟩;revert a6;refine Wo<|Wc z (fun hcd=>?_) (fun hcd=>?_)
  ·refine Wk<|Wq<|Wb<|Ws<|Rf z a_c z<|R z (l0 a_e z<|(((hh.e h4).e s1).e s7).at z)<|Rm z ?_
   obtain ⟨a7,a8,a0⟩:=bdS<|ifT hml hcd;refine RX z (at_ (α:=e_) a_1 p_ z z z (O.g<|(((h5.ag B).e h4).e s1).e s7) a8) ?_;rintro _ ⟨_,_,_,rfl,a9,aa,_⟩;obtain ⟨ab,ad,ae,af,ah,ai,aj,ak,al,am,an,ao,rfl,ap,aq,ar,au,av,aw,ax⟩:=a_y aa;refine R z (lN (vs:=vR a7 ab ad ae af ah ai aj ak al am an ao) G_ p_ z z fid a9)<|Rm z ?_
   obtain ⟨rm,ay,a1⟩:=bdS a0;refine E z (fc call61 z<|W_w1i ay (zt' V<|lt_ (lt_ (lt_ h5.s h4.s) s1.s) s7.s) ap aq ar au av aw ax L) ?_;rintro _ wa ⟨so,rfl,_⟩;refine Rw z<|Wq ?_
   obtain ⟨az,hup,hmq⟩:=bdS a1;refine Wt (fun a w=>∃(xe:Bool),xe=az/\Sat 38 [(1,vI x2),(3,Str.v x4),(4,pt w0.z),(6,pt J.z),(9,vI x0),(36,vB xe)] a/\Below wa.z wa w) ?_ ?_
   ·refine Wg<|Rm z<|R z (e_i z z)<|Rm z ?_
    rcases bs (rm.b != (⟨[]⟩:Str).b) with H | H
    ·exact Rh z H (mv z)<|Rh z H (mv z)<|Rh z H (b_6 z z)<|R z (pT z H z)<|Wl (fun _ q=>⟨rm.b==x4.b,som<|ifT hup H,q.k<|s6 z z z z z z,br wa⟩)
    iterate 3 refine Nh z H ?_
    exact R z (pF z H z)<|Wl (fun _ q=>⟨false,som<|ifF hup H,q.k<|s6 z z z z z z,br wa⟩)
   rintro aA _ ⟨xe,rfl,_,sr⟩;revert aA;refine Wo<|Wc z (fun hcf=>?_) (fun hcf=>?_)
   ·exact Wm z<|Rw z<|Wr<|rtO<|qL (som<|ifT hmq hcf).symm<|b_ hr z ⟨bup (bup (bup (bup (bup h5 h4) s1) s7) so) sr,z,L⟩
   exact Wk<|Wg<|Rm z<|R z (add_ z z)<|Ra z<|Wl (fun _ q=>⟨s_ x0 1,(som<|ifF hmq hcf).symm,⟨q.k<|s5 z z z z z,bup (bup (bup s1 s7) so) sr,iA _ _⟩⟩)
  exact We<|fun _ q=>c_U (som<|ifF hml hcd).symm ⟨q.k sn,bup s1 s7,L⟩
 ·rintro x0 aB _ rfl ⟨_,aC,L⟩;have a2:=elL hmj;revert aB;refine Wo<|Ws<|Rw z ?_
  obtain rfl:=som a2;exact Wr<|b_ hr z ⟨bup (bup h5 h4) aC,z,ii z⟩
 rintro _ _ _ _ rfl ⟨rfl,a3⟩;have a4:=elR hmj;obtain rfl:=som a4;exact ⟨a3,z⟩
def Q16 (w0:World)(B:Zone)(r:Val×Int×Bool)(v:Value)(w':World):Prop:=Bw w0 w'/\un3 (fun G H W=>∃I J L S1 a2 O V S2,v = .tuple #[(.agg #[vI G.number,sl I J L,sl a2 O V]),vI H,vB W]/\inI G.number/\a_ w' S1 (sl I J L) G.bytes/\a_ w' S2 (sl a2 O V) G.items/\inI H/\(S1++S2).Nodup/\(∀k∈(S1++S2),w0.z<=k)) r
theorem W_w2m {x1:d_}{x2:Val}{x3:Str}{res:Val×Int×Bool}(hm:f_J n x1 x2 x3=some res)(W:B<=w0.z)(Y:repS w0 B (sl A0 N0 C0) x1.rules)(ap:inI x2.number)(aq:repS w0 B (sl AA NA CA) x2.bytes)(ar:repS w0 B (sl AB NB CB) x2.items)(b0:x3.b.length<=LEN):h_ prog 37 [(.agg #[sl A0 N0 C0]),.agg #[vI x2.number,sl AA NA CA,sl AB NB CB],Str.v x3] w0 (Q16 w0 B res):=by
 unfold f_J at hm
 refine goG func37 z z z fun fn hr=>Ws<|E z (fb z) ?_
 rintro _ G ⟨rfl,az⟩;have hf:=az.below;have aA:Blk G w0.z [sl A0 N0 C0]:=az.blk;refine E z (fb z) ?_;rintro _ wr ⟨rfl,aB⟩;have hl:=aB.below;have hn:Blk wr G.z [vI x2.number,sl AA NA CA,sl AB NB CB]:=aB.blk;refine E z (fa O_) ?_;rintro _ bj ⟨rfl,aC⟩;have he:=aC.below;have ht:Blk bj wr.z [vI 0,sl none 0 0,sl none 0 0]:=aC.blk;refine Ra z<|Rw z<|Ws ?_
 have a8:=(aA.e hl).e he;refine R z (lN (vs:=[sl A0 N0 C0]) o_ n_ z z fid<|a8.row 0 1 z) ?_;have hx:=((hf.ag B).e hl).e he;have hy:=lt_ hf.s hl.s;have aD:=lt_ hy he.s;obtain ⟨bk,bm,b3⟩:=bdS hm;refine E z (fc call34 z<|i_m bm (zt' W aD)<|Y.g hx) ?_;rintro _ wz ⟨H,rfl,aE⟩;refine Rw z<|Wm z ?_
 have a0:=lt_ aD H.s;obtain ⟨_,bn,bo,b4⟩:=c_1 b3;refine E z (fc call62 z<|W_w2k bo (zt' W a0) b0) ?_;rintro _ wk ⟨s2,aF,aG,aH,rfl,a1⟩;refine Rm z<|Re z z z<|Re z z z<|Ra z<|Rw z<|Wq<|Wq ?_
 obtain ⟨bp,au,av⟩:=bdS b4;refine Wt (fun a w=>∃(a9:Bool),a9=bp/\Sat 65 [(3,pt w0.z),(4,pt G.z),(6,pt wr.z),(9,vI bk),(10,sl aF aG aH),(29,vB a9)] a/\Below wk.z wk w) ?_ ?_
 ·refine Wg<|Rm z<|R z (not_ z)<|Rm z ?_
  rcases bs (!bn) with J | J
  ·iterate 5 refine Nh z J ?_
   exact R z (pT z J z)<|Wl (fun _ q=>⟨true,som<|ifT au J,q.k<|s6 z z z z z z,br wk⟩)
  refine Rh z J (lN (vs:=[sl A0 N0 C0]) o_ n_ z z fid<|((a8.e H).e s2).row 0 1 z)<|Rh z J (mv z)<|Rh z J (lN (vs:=[vI x2.number,sl AA NA CA,sl AB NB CB]) i_ c_ z z fid<|(((hn.e he).e H).e s2).row 0 3 z) ?_
  have ab:=(hx.e H).e s2;obtain ⟨bq,bt,b5⟩:=bdS<|ifF au J;refine Eg z z J z (fc call35 z<|i_n bt (zt' W<|lt_ a0 s2.s) (Y.g ab) aE ap (aq.g ab)<|ar.g ab) ?_;rintro _ _ ⟨bu,rfl⟩;exact Rh z J (not_ z)<|R z (pF z J z)<|Wl (fun _ q=>⟨!bq,som b5,q.k<|s6 z z z z z z,bu⟩)
 rintro bv I ⟨a9,rfl,_,s4⟩;revert bv;refine Wo<|Wc z (fun a5=>?_) (fun a5=>?_)
 ·refine Ws<|R z (bP (parts:=[]) (cs:=[vI 0,sl none 0 0,sl none 0 0]) E_ z z)<|E0 (fs0 (cur':=[vI 0,sl none 0 0,sl none 0 0]) c_ z z (((ht.e H).e s2).e s4) z z z z) ?_
  rintro _ _ ⟨bw,bx⟩;refine Ra z<|Rw z ?_
  obtain rfl:=som<|ifT av a5;exact Wr<|w_ hr (y_ i_ c_ z bw z) z z ⟨bM (bup (bup (bup (bup (bup hf hl) he) H) s2) s4) bx.one<|m1 hy,none,0,0,[],none,0,0,[],z,ii z,onL,onL,ii z,nd0,al0⟩
 refine Wk<|Wq<|Ws<|Rw z ?_
 obtain ⟨_,b6,aw⟩:=bdS<|ifF av a5;refine Wf (σ:=Int×Int×(List UInt8)×(List Val)) (ρ:=Val×Int×Bool) (fun (aI:Nat) s a w=>un4 (fun xg x5 xh xi=>∃L O V aa nb cc,Sat 65 [(3,pt w0.z),(4,pt G.z),(6,pt wr.z),(9,vI xg),(10,sl aF aG aH),(12,vI ((aI:Nat):Int))] a/\Chg (· ∈ [G.z]) I w/\inI xg/\inI x5/\repS w B (sl L O V) xh/\repS w B (sl aa nb cc) xi/\Blk w G.z [vI x5,sl L O V,sl aa nb cc]) s) (fun s a w=>un4 (fun xg x5 xh xi=>∃L O V aa nb cc,Sat 65 [(4,pt G.z),(6,pt wr.z),(9,vI xg)] a/\Chg (· ∈ [G.z]) I w/\inI xg/\inI x5/\repS w B (sl L O V) xh/\repS w B (sl aa nb cc) xi/\Blk w G.z [vI x5,sl L O V,sl aa nb cc]) s) (rQ prog fn<|Q16 w0 B) b6 ?_ ?_ ?_ ?_ ?_
 ·have aJ:=((hx.e H).e s2).e s4;exact fun _ q=>⟨AA,NA,CA,AB,NB,CB,q.k<|s6 z z z z z z,cr [G.z] I,aE,ap,aq.g aJ,ar.g aJ,(((hn.e he).e H).e s2).e s4⟩
 ·rintro aI ⟨xg,x5,xh,xi⟩ _ bz _ ax ⟨L,O,V,aa,nb,cc,b7,sm,hu,ho,hv,hp,hw⟩ b8;refine Wu ?_ b7;refine Wq<|Wm z<|Rm z ?_
  have a2:∀k∈[G.z],¬B k:=or0 (f_ lr)<|t_<|zt' W hf.s;have aK:=(s4.ag<|zn B wz.z wk.z).c sm<|g_ ((nznL a2 (f_ hn.lt)<|lt_ he.s H.s):∀k∈[G.z],¬(zn B wz.z wk.z) k)
  refine R z (lnR J_ z<|a1.g aK)<|Rl z z z<|Wx z (fun _=>?_) (fun hc=>(L_ ax hc).elim)
  refine Wk<|Wq<|Wb<|Wq (Wd (X:=noX) 0 (pl_ 9 [7]) mo (by kernel_rfl) fun bA sd _=>?_)
  have aL:=((((a8.e H).e s2).e s4).c sm<|djs<|mmr aA.lt).e sd;refine dR z z (lN (vs:=[sl A0 N0 C0]) o_ n_ z z fid<|aL.row 0 1 z)<|dM z z z ?_
  have aM:=hw.e sd;refine dR z z (lN (vs:=[vI x5,sl L O V,sl aa nb cc]) i_ c_ z z fid<|aM.row 0 3 z)<|dM z z z<|dM z z z ?_
  obtain ⟨_,bB,b9⟩:=bdS<|un4S b8;refine dRX z z (at_ (α:=Str) J_ z_9 z z z (a1.g<|aK.e sd) bB) ?_;rintro _ ⟨_,_,_,rfl,bC,bD,_⟩;obtain ⟨rfl,bE⟩:=a_R bD;refine dR z z (l0 g_9 z<|bC.at0 z) ?_;have aN:=((((hx.e H).e s2).e s4).c sm<|g_ a2).e sd;have aO:=lt_ (lt_ (lt_ (lt_ a0 s2.s) s4.s) sm.s) sd.s;obtain ⟨_,bF,ay⟩:=bdS b9;refine dE z z (fc call63 z<|W_w2l (B:=B) (x3:=(⟨x5,xh,xi⟩:Val)) bF (zt' W aO) (Y.g aN) hu ho (hv.e sd) (hp.e sd) bE) (.inr fun _ _ h=>j_<|h.1) ?_;rintro _ bG ⟨sj,rfl,bH⟩;refine dQ z z z<|pD<|Wo<|Wq<|Wm z<|Rl z z z<|Wx z (fun a6=>?_) (fun a6=>?_)
  ·refine Ws<|R z (bP (parts:=[]) (cs:=[vI 0,sl none 0 0,sl none 0 0]) E_ z z)<|E0 (fs0 (cur':=[vI 0,sl none 0 0,sl none 0 0]) c_ z z ((((((ht.e H).e s2).e s4).c sm<|atp<|mmr hn.lt).e sd).e sj) z z z z) ?_
   rintro _ _ ⟨bI,bJ⟩;exact Ra z<|Rw z<|Wr<|rtO<|qL (som<|ifT ay a6).symm<|w_ hr (y_ i_ c_ z bI z) z z ⟨bM (bup (bup (bM (bup (bup (bup (bup (bup hf hl) he) H) s2) s4) sm<|m1 hf.s) sd) sj) bJ.one<|m1 hy,none,0,0,[],none,0,0,[],z,ii z,onL,onL,ii z,nd0,al0⟩
  refine Wk<|Wq (Wd (X:=noX) 0 (pl_ 10 [8]) mo (by kernel_rfl) fun bK sq _=>dR z z (fd a_c z)<|dR z z (l0 a_e z<|((aL.e sj).e sq).at z)<|dM z z z ?_)
  obtain ⟨bL,bN,ba⟩:=bdS<|ifF ay a6;refine dRX z z (at_ (α:=e_) a_1 p_ z z z (Y.g<|(aN.e sj).e sq) bN) ?_;rintro _ ⟨_,_,_,rfl,bO,bQ,_⟩;obtain ⟨bR,bS,bT,bU,bV,bW,bX,bY,bZ,c0,c1,c2,rfl,c3,c4,c5,c6,c7,h40,c8⟩:=a_y bQ;refine dR z z (lN (vs:=vR bL bR bS bT bU bV bW bX bY bZ c0 c1 c2) G_ p_ z z fid bO)<|dR z z (fd a_v z) ?_
  have aP:=(aM.e sj).e sq;refine dR z z (l0 g_3 z<|aP.at z)<|dM z z z ?_
  obtain ⟨ca,cb,bb⟩:=bdS ba;refine dE z z (fc call60 z<|d_R cb (zt' W<|lt_ (lt_ aO sj.s) sq.s) c3 c4 c5 c6 c7 h40 c8 ho bH) (.inr fun _ _ h=>j_<|h.1) ?_;rintro _ cd ⟨ad,rfl,ce⟩;refine dQ z z z<|pD<|Wo<|Wg<|Rf z F_ z ?_
  have aQ:=aP.e ad;refine R z (l0 I_ z<|aQ.at z)<|Rm z ?_
  obtain ⟨xs,cf,bc⟩:=bdS bb;refine RX z (at_ (α:=Val) K_ c_ z z z (hp.g<|(((sd.ag B).e sj).e sq).e ad) cf) ?_;rintro _ ⟨_,_,_,rfl,cg,ch,_⟩;obtain ⟨ae,af,ah,ai,aj,ak,rfl,ci,cj,ck⟩:=b_1 ch;refine R z (lN (vs:=[vI xs.number,sl ae af ah,sl ai aj ak]) i_ c_ z z fid cg)<|E0 (fs0 (cur':=[vI xs.number,sl ae af ah,sl ai aj ak]) c_ z z aQ z z z z) ?_
  rintro _ cl ⟨cm,cn⟩;have al:=cn.one;refine Wn<|Wg<|Rm z<|R z (inc_ ax (lt_ (repS.len a1) v_) z z)<|Ra z<|Wl ?_
  exact fun _ q=>⟨(ca,xs.number,xs.bytes,xs.items),(som bc).symm,⟨ae,af,ah,ai,aj,ak,q.k<|s6 z z z z z z,(cM (D_ (D_ (D_ (D_ (cM (cr [G.z] I) sm (io sr):Chg (· ∈ [G.z]) I bz) sd:Chg (· ∈ [G.z]) I bA) sj:Chg (· ∈ [G.z]) I bG) sq:Chg (· ∈ [G.z]) I bK) ad:Chg (· ∈ [G.z]) I cd) al (io sr):Chg (· ∈ [G.z]) I cl),ce,ci,cj.c al<|g_ a2,ck.c al<|g_ a2,cm⟩⟩
 ·rintro ⟨xg,x5,xh,xi⟩ _ co ⟨L,O,V,aa,nb,cc,be,aR,hu,ho,hv,hp,hw⟩;refine Wu ?_ be;refine Wq<|Wm z<|Rm z ?_
  refine R z (lnR J_ z<|a1.g<|(s4.ag<|zn B wz.z wk.z).c aR<|g_ ((nznL (or0 (f_ lr) (t_<|zt' W hf.s):∀k∈[G.z],¬B k) (f_ hn.lt)<|lt_ he.s H.s):∀k∈[G.z],¬(zn B wz.z wk.z) k))<|Rl z z z<|Wx z (fun hc=>(M_ hc).elim) (fun _=>?_)
  exact We<|fun _ q=>⟨rfl,⟨L,O,V,aa,nb,cc,q.k<|s3 z z z,(cM (cr [G.z] I) aR (io sr):Chg (· ∈ [G.z]) I co),hu,ho,hv,hp,hw⟩⟩
 ·rintro ⟨xg,x5,xh,xi⟩ cp _ rfl ⟨L,O,V,aa,nb,cc,_,a3,hu,ho,hv,hp,hw⟩;have bf:=elL aw;revert cp;refine Wo<|Ws<|R z (lN (vs:=[vI x5,sl L O V,sl aa nb cc]) i_ c_ z z fid<|hw.row 0 3 z) ?_
  have am:=lt_ (lt_ (lt_ a0 s2.s) s4.s) a3.s;obtain ⟨cq,ct,bg⟩:=bdS<|un4S bf;refine E z (fc call59 z<|W_w0b.run (B:=B) (x1:=(⟨x5,xh,xi⟩:Val)) ct (zt' W am) ho hv hp) ?_;rintro _ _ ⟨aS,aT,aU,aV,cu,aW,aX,aY,cv,rfl,cw,cx,cy,an,a4⟩;refine Rm z<|E0 (fs0 (cur':=[vI cq.number,sl aT aU aV,sl aW aX aY]) c_ z z (((((ht.e H).e s2).e s4).c a3<|atp<|mmr hn.lt).e aS) z z z z) ?_
  rintro _ _ ⟨cz,cA⟩;have ao:=cA.one;refine Ra z<|Rw z ?_
  obtain rfl:=som bg;have aZ:=lt_ (lt_ (lt_ H.s s2.s) s4.s) a3.s;exact Wr<|w_ hr (y_ i_ c_ z cz z) z z ⟨bM (bup (bM (bup (bup (bup (bup (bup hf hl) he) H) s2) s4) a3<|m1 hf.s) aS) ao<|m1 hy,aT,aU,aV,cu,aW,aX,aY,cv,z,cw,cx.c ao<|k_ (al_ a4) ht.lt aZ,cy.c ao<|k_ (ar_ a4) ht.lt aZ,hu,na_ (nl_ an) (nr_ an)<|nj an,aa_ (m_ (al_ a4) am)<|m_ (ar_ a4) am⟩
 rintro _ _ _ _ rfl ⟨rfl,bh⟩;have bi:=elR aw;obtain rfl:=som bi;exact ⟨bh,z⟩
theorem W_w2n {x1:Int}{x2:Str}{x3:Str}{x4:Str}{res:Str}(hm:i_G n x1 x2 x3 x4=some res)(I:B<=w0.z)(H:inI x1)(a0:x2.b.length<=LEN)(a1:x3.b.length<=LEN)(a2:x4.b.length<=LEN):h_ prog 93 [vI x1,Str.v x2,Str.v x3,Str.v x4] w0 (Q12 w0 B res):=by
 unfold i_G at hm
 refine goG func93 z z z fun fn hr=>Ws<|Rw z<|Wm z ?_
 obtain ⟨_,W,J⟩:=bdS hm;refine E z (fc call89 z<|g_h (B:=B) W I H) ?_;rintro _ _ ⟨s3,rfl,_⟩;refine Rm z ?_;obtain ⟨_,Y,L⟩:=bdS J;refine R z (a_6 z z Y)<|Rm z ?_
 obtain ⟨_,e6,O⟩:=bdS L;refine R z (a_6 z z e6)<|Rm z ?_
 obtain ⟨_,G,V⟩:=bdS O;refine R z (a_6 z z G)<|Rw z ?_
 obtain rfl:=som V;exact Wr<|b_ hr z ⟨s3,z,a_F G⟩
theorem W_w2o {x1:List UInt8}{res:Str}(hm:h_f x1=some res)(O:B<=w0.z)(G:repS w0 B (sl A0 N0 C0) x1):h_ prog 94 [sl A0 N0 C0] w0 (Q12 w0 B res):=by
 unfold h_f at hm
 refine goG func94 z z z fun fn hr=>Ws<|Rw z<|Ws<|Rw z<|Ws<|Rw z<|Wq<|Ws<|Rw z ?_
 obtain ⟨_,L,H⟩:=bdS hm;refine Wf (σ:=Str) (ρ:=Str) (fun (k4:Nat)(x0:Str) a w=>Sat 40 [(0,sl A0 N0 C0),(3,Str.v (⟨[48,49,50,51,52,53,54,55,56,57,97,98,99,100,101,102]⟩:Str)),(4,Str.v x0),(5,vI ((k4:Nat):Int))] a/\Below w0.z w0 w/\x0.b.length<=LEN) (fun (x0:Str) a w=>Sat 40 [(4,Str.v x0)] a/\Below w0.z w0 w/\x0.b.length<=LEN) (rQ prog fn<|Q12 w0 B) L ?_ ?_ ?_ ?_ ?_
 ·exact fun _ q=>⟨q.k<|s4 z z z z,br w0,lb z⟩
 ·rintro k4 x0 _ _ _ I ⟨hSa,s6,h1⟩ hmb;refine Wu ?_ hSa;refine Wq<|Wm z<|Rm z ?_
  have h2:=G.e s6;refine R z (lnR l_ z h2)<|Rl z z z<|Wx z (fun _=>?_) (fun hc=>(L_ I hc).elim)
  refine Wk<|Wq<|Wb<|Wm z<|Rm z ?_
  obtain ⟨_,ec,hmd⟩:=bdS hmb;refine RX z (at_ (α:=UInt8) l_ z_5 z z z h2 ec) ?_;rintro _ ⟨_,_,_,rfl,he,hf,_⟩;obtain rfl:=u8 hf;refine R z (l0 g_5 z<|he.at0 z)<|R z (c_2 d_5 d_3 z)<|R z (l_D z z (by decide))<|Rw z<|Wm z<|Rm z ?_
  obtain ⟨_,eg,hmh⟩:=bdS hmd;refine RX z (at_ (α:=UInt8) l_ z_5 z z z h2 eg) ?_;rintro _ ⟨_,_,_,rfl,hi,hj,_⟩;obtain rfl:=u8 hj;refine R z (l0 g_5 z<|hi.at0 z)<|R z (c_2 d_5 d_3 z)<|R z (h_N z z (by decide))<|Ra z<|Wn (Wd (X:=noX) 0 (pl_ 14 []) mo (by kernel_rfl) fun V sk _=>?_)
  iterate 4 refine dM z z z ?_
  refine dR z z (add_ z z) ?_;obtain ⟨_,el,hmm⟩:=bdS hmh;refine dR z z (f_W d_9 z z z (lb z) el) ?_;obtain ⟨_,en,hmo⟩:=bdS hmm;refine dR z z (a_6 z z en) ?_
  iterate 3 refine dM z z z ?_
  refine dR z z (add_ z z) ?_;obtain ⟨_,ep,hmq⟩:=bdS hmo;refine dR z z (f_W d_9 z z z (lb z) ep) ?_;obtain ⟨xr,J,hms⟩:=bdS hmq;exact dR z z (a_6 z z J)<|dQ z z z<|pD<|Wo<|Wg<|Rm z<|R z (inc_ I (lt_ (repS.len G) v_) z z)<|Ra z<|Wl (fun _ q=>⟨xr,(som hms).symm,⟨q.k<|s4 z z z z,bup s6 sk,a_F J⟩⟩)
 ·rintro x0 _ _ ⟨hSt,s8,h1⟩;refine Wu ?_ hSt;refine Wq<|Wm z<|Rm z<|R z (lnR l_ z<|G.e s8)<|Rl z z z<|Wx z (fun hc=>(M_ hc).elim) (fun _=>?_)
  exact We<|fun _ q=>⟨rfl,⟨q.k<|s1 z,s8,h1⟩⟩
 ·rintro x0 au _ rfl ⟨_,sv,h1⟩;have hmw:=elL H;revert au;refine Wo<|Wm z<|Rw z ?_
  obtain rfl:=som hmw;exact Wr<|b_ hr z ⟨sv,z,h1⟩
 rintro _ _ _ _ rfl ⟨rfl,hqx⟩;have hmy:=elR H;obtain rfl:=som hmy;exact ⟨hqx,z⟩
structure k_j (f:d_->Int->Val->Option Str):Prop where
  run:∀{A0 A6 A5:Option Addr}{N0 C0 N6 C6 N5 C5:Nat}{B:Zone}{x1:d_}{x2:Int}{x3:Val}{res:Str}{w0:World}(hm:f x1 x2 x3=some res)(hBw:B<=w0.z)(p1_0:repS w0 B (sl A0 N0 C0) x1.rules)(p2_0:inI x2)(p3_0:inI x3.number)(p3_1:repS w0 B (sl A6 N6 C6) x3.bytes)(p3_2:repS w0 B (sl A5 N5 C5) x3.items),h_ prog 64 [(.agg #[sl A0 N0 C0]),vI x2,(.agg #[vI x3.number,sl A6 N6 C6,sl A5 N5 C5])] w0<|Q12 w0 B res
structure k_k (f:d_->e_->Val->Option Str):Prop where
  run:∀{A0 A2 A3 A1 A4 A6 A5:Option Addr}{N0 C0 N2 C2 N3 C3 N1 C1 N4 C4 N6 C6 N5 C5:Nat}{B:Zone}{x1:d_}{x2:e_}{x3:Val}{res:Str}{w0:World}(hm:f x1 x2 x3=some res)(hBw:B<=w0.z)(p1_0:repS w0 B (sl A0 N0 C0) x1.rules)(p2_0:x2.name.b.length<=LEN)(p2_1:inI x2.kind)(p2_2:inI x2.size)(p2_4:repS w0 B (sl A2 N2 C2) x2.bytes)(p2_5:repS w0 B (sl A3 N3 C3) x2.names)(p2_6:repS w0 B (sl A1 N1 C1) x2.tags)(p2_7:repS w0 B (sl A4 N4 C4) x2.kids)(p3_0:inI x3.number)(p3_1:repS w0 B (sl A6 N6 C6) x3.bytes)(p3_2:repS w0 B (sl A5 N5 C5) x3.items),h_ prog 92 [(.agg #[sl A0 N0 C0]),.agg #[Str.v x2.name,vI x2.kind,vI x2.size,vB x2.little,sl A2 N2 C2,sl A3 N3 C3,sl A1 N1 C1,sl A4 N4 C4],(.agg #[vI x3.number,sl A6 N6 C6,sl A5 N5 C5])] w0<|Q12 w0 B res
abbrev k_l (n:Nat):Prop:=k_j (b_2 n).spec_l10Text/\k_k (b_2 n).spec_l10List
theorem T_w07 (ih:k_l n):k_j (a_M n<|b_2 n):=by
 obtain ⟨_,aC⟩:=ih
 constructor
 intro A0 A6 A5 N0 C0 N6 C6 N5 C5 B x1 x2 x3 res w0 hm H V b4 O W Y;unfold a_M at hm
 refine goG func64 z z z fun fn hr=>Ws<|E z (fb z) ?_
 rintro _ ww ⟨rfl,hx⟩;have h4:=hx.below;have hy:Blk ww w0.z [sl A0 N0 C0]:=hx.blk;refine E z (fb z) ?_;rintro _ wa ⟨rfl,hz⟩;have h3:=hz.below;have a8:Blk wa ww.z [vI x3.number,sl A6 N6 C6,sl A5 N5 C5]:=hz.blk;refine Rw z<|Ws<|Rf z a_c z ?_
 have a9:=hy.e h3;refine R z (l0 a_e z<|a9.at z)<|Rm z ?_
 obtain ⟨xb,aD,ao⟩:=bdS hm;have aa:=(h4.ag B).e h3;refine RX z (at_ (α:=e_) a_1 p_ z z z (V.g aa) aD) ?_;rintro _ ⟨_,_,_,rfl,aE,aF,_⟩;obtain ⟨ac,nd,ce,af,ng,ch,ai,nj,ck,al,nm,cn,rfl,aG,aH,aI,aJ,aK,aL,aM⟩:=a_y aF;refine R z (lN (vs:=vR xb ac nd ce af ng ch ai nj ck al nm cn) G_ p_ z z fid aE)<|E z (fa b_X) ?_
 rintro _ aN ⟨rfl,ab⟩;have h1:=ab.below;refine E0 (fs0 (cur':=vR xb ac nd ce af ng ch ai nj ck al nm cn) p_ z z (ab.blk:Blk aN wa.z [(Str.v (⟨[]⟩:Str)),vI 0,vI 0,vB false,sl none 0 0,sl none 0 0,sl none 0 0,sl none 0 0]) z z z z) ?_;rintro _ _ ⟨ad,aO⟩;have h2:=aO.one;refine Wn<|Ws<|R z (lN (vs:=[sl A0 N0 C0]) o_ n_ z z fid<|((a9.e h1).c h2<|djs<|mm1 hy.lt h3.s).row 0 1 z)<|R z (lN (vs:=vR xb ac nd ce af ng ch ai nj ck al nm cn) G_ p_ z z fid<|ad.row 0 8 z) ?_
 have h6:=(a8.e h1).c h2<|djs<|mmr a8.lt
 refine R z (lN (vs:=[vI x3.number,sl A6 N6 C6,sl A5 N5 C5]) i_ c_ z z fid<|h6.row 0 3 z) ?_;have h5:=lt_ h4.s h3.s;have ae:∀k∈[wa.z],¬B k:=or0 (f_ lr)<|t_<|zt' H h5;have I:=(aa.e h1).c h2<|g_ ae
 have J:=(h1.ag B).c h2<|g_ ae
 have L:=lt_ (lt_ h5 h1.s) h2.s;obtain ⟨_,aP,a0⟩:=bdS ao;refine E z (fc call92 z<|aC.run aP (zt' H L) (V.g I) aG aH aI (aJ.g J) (aK.g J) (aL.g J) (aM.g J) O (W.g I)<|Y.g I) ?_;rintro _ _ ⟨G,rfl,aQ⟩;refine Rw z<|Wq<|Ws<|Rf z a_n z<|R z (l0 g_3 z<|(ad.e G).at z)<|Wn<|Wb<|Ws<|Rq z z z<|Rw z<|Wc z (fun hco=>?_) (fun hco=>?_)
 ·refine Ws<|Rf z a_v z<|R z (l0 g_3 z<|(h6.e G).at z) ?_
  obtain ⟨_,aR,ap⟩:=bdS<|ifT a0 hco;refine E z (fc call89 z<|g_h aR (zt' H<|lt_ L G.s) O) ?_;rintro _ _ ⟨aS,rfl,aT⟩;refine Rw z ?_
  obtain rfl:=som ap;exact Wr<|rtO<|b_ hr z ⟨bup (bup (bM (bup (bup h4 h3) h1) h2<|m1 h5) G) aS,z,aT⟩
 have a1:=ifF a0 hco;refine Ws<|Rq z z z<|Rw z<|Wc z (fun hcp=>?_) (fun hcp=>?_)
 ·refine Ws<|Rw z ?_
  obtain rfl:=som<|ifT a1 hcp;exact Wr<|rtO<|b_ hr z ⟨bup (bM (bup (bup h4 h3) h1) h2<|m1 h5) G,z,lb z⟩
 have a2:=ifF a1 hcp;refine Ws<|Rq z z z<|Rw z<|Wc z (fun hcq=>?_) (fun hcq=>?_)
 ·refine Wm z ?_
  obtain ⟨_,aU,aq⟩:=bdS<|ifT a2 hcq;refine R z (a_6 z z aU) ?_;obtain ⟨_,ah,ar⟩:=bdS aq;refine R z (a_6 z z ah)<|Rw z ?_
  obtain rfl:=som ar;exact Wr<|rtO<|b_ hr z ⟨bup (bM (bup (bup h4 h3) h1) h2<|m1 h5) G,z,a_F ah⟩
 have a3:=ifF a2 hcq;refine Ws<|Rq z z z<|Rw z<|Wc z (fun hcr=>?_) (fun hcr=>?_)
 ·refine Wm z ?_
  obtain ⟨_,aV,au⟩:=bdS<|ifT a3 hcr;refine R z (a_6 z z aV) ?_;obtain ⟨_,aj,av⟩:=bdS au;refine R z (a_6 z z aj)<|Rw z ?_
  obtain rfl:=som av;exact Wr<|rtO<|b_ hr z ⟨bup (bM (bup (bup h4 h3) h1) h2<|m1 h5) G,z,a_F aj⟩
 have a4:=ifF a3 hcr;refine Ws<|Rq z z z<|Rw z<|Wc z (fun hcs=>?_) (fun hcs=>?_)
 ·refine Ws<|Rf z a_v z<|R z (l0 g_3 z<|(h6.e G).at z)<|Rm z ?_
  obtain ⟨_,aW,aw⟩:=bdS<|ifT a4 hcs;refine E z (fc call93 z<|W_w2n aW (zt' H<|lt_ L G.s) O (lb z) aQ<|lb z) ?_;rintro _ _ ⟨aX,rfl,aY⟩;refine Rw z ?_
  obtain rfl:=som aw;exact Wr<|rtO<|b_ hr z ⟨bup (bup (bM (bup (bup h4 h3) h1) h2<|m1 h5) G) aX,z,aY⟩
 have a5:=ifF a4 hcs;refine Ws<|Rq z z z<|Rw z<|Wc z (fun hct=>?_) (fun hct=>?_)
 ·have a6:=ifT a5 hct;refine Wq<|Ws<|Rf z F_ z<|R z (l0 I_ z<|(h6.e G).at z)<|R z (lnR K_ z<|Y.g<|I.e G)<|Rq z z z<|Wx z (fun hcu=>?_) (fun hcu=>?_)
  ·refine Ws<|Rw z ?_
   obtain rfl:=som<|ifT a6 hcu;exact Wr<|rtO<|b_ hr z ⟨bup (bM (bup (bup h4 h3) h1) h2<|m1 h5) G,z,lb z⟩
  refine Wk<|Wm z ?_
  obtain ⟨_,ak,ax⟩:=bdS<|ifF a6 hcu;refine R z (a_6 z z ak)<|Rw z ?_
  obtain rfl:=som ax;exact Wr<|rtO<|b_ hr z ⟨bup (bM (bup (bup h4 h3) h1) h2<|m1 h5) G,z,a_F ak⟩
 have a7:=ifF a5 hct;refine Ws<|Rq z z z<|Rw z<|Wc z (fun hcv=>?_) (fun hcv=>?_)
 ·refine Wm z ?_
  obtain ⟨_,aZ,ay⟩:=bdS<|ifT a7 hcv;refine R z (a_6 z z aZ) ?_;obtain ⟨_,am,az⟩:=bdS ay;refine R z (a_6 z z am)<|Rw z ?_
  obtain rfl:=som az;exact Wr<|rtO<|b_ hr z ⟨bup (bM (bup (bup h4 h3) h1) h2<|m1 h5) G,z,a_F am⟩
 refine Wk<|Ws<|Rf z a_Q z<|R z (l0 U_ z<|(h6.e G).at z) ?_
 obtain ⟨_,b0,aA⟩:=bdS<|ifF a7 hcv;refine E z (fc call94 z<|W_w2o b0 (zt' H<|lt_ L G.s)<|W.g<|I.e G) ?_;rintro _ _ ⟨b3,rfl,_⟩;obtain ⟨_,an,aB⟩:=bdS aA;refine R z (a_6 z z an)<|Rw z ?_
 obtain rfl:=som aB;exact Wr<|b_ hr z ⟨bup (bup (bM (bup (bup h4 h3) h1) h2<|m1 h5) G) b3,z,a_F an⟩
theorem T_w1j (ih:k_l n):k_k (h_g n<|b_2 n):=by
 obtain ⟨aq,_⟩:=ih
 constructor
 intro A0 A2 A3 A1 A4 A6 A5 N0 C0 N2 C2 N3 C3 N1 C1 N4 C4 N6 C6 N5 C5 B x1 x2 x3 res w0 hm O Y a0 a1 a2 a3 L a4 a5 a6 aY H;unfold h_g at hm
 refine goG func92 z z z fun fn hr=>Ws<|E z (fb z) ?_
 rintro _ I ⟨rfl,hp⟩;have he:=hp.below;refine E z (fb z) ?_;rintro _ J ⟨rfl,hq⟩;have ha:=hq.below;refine E z (fb z) ?_;rintro _ G ⟨rfl,ht⟩;have h3:=ht.below;have hu:Blk G J.z [vI x3.number,sl A6 N6 C6,sl A5 N5 C5]:=ht.blk;refine Rw z<|Ws<|Rw z<|Wq<|Ws<|Rw z ?_
 obtain ⟨_,a7,hmr⟩:=bdS hm;refine Wf (σ:=Str) (ρ:=Str) (fun (kf:Nat)(x0:Str) a w=>Sat 46 [(3,pt w0.z),(4,pt I.z),(5,pt J.z),(7,Str.v x0),(8,vI ((kf:Nat):Int))] a/\Below G.z G w/\x0.b.length<=LEN) (fun (x0:Str) a w=>Sat 46 [(7,Str.v x0)] a/\Below G.z G w/\x0.b.length<=LEN) (rQ prog fn<|Q12 w0 B) a7 ?_ ?_ ?_ ?_ ?_
 ·exact fun _ q=>⟨q.k<|s5 z z z z z,br G,lb z⟩
 ·rintro kf x0 _ wg _ hkj ⟨a8,s4,hb⟩ a9;refine Wu ?_ a8;refine Wq<|Wm z<|Rf z F_ z ?_
  have hv:=hu.e s4;refine R z (l0 I_ z<|hv.at z) ?_;have hk:=(((he.ag B).e ha).e h3).e s4;refine R z (lnR K_ z<|H.g hk)<|Rl z z z<|Wx z (fun _=>?_) (fun hc=>(L_ hkj hc).elim)
  refine Wk<|Wq<|Wb<|Wq<|Wm z<|R z (a_q z z)<|Wn ?_
  obtain ⟨ar,hus,aa⟩:=bdS a9;refine Wt (fun a w=>∃(xc:Str),xc=ar/\Sat 46 [(3,pt w0.z),(4,pt I.z),(5,pt J.z),(7,Str.v xc),(8,vI ((kf:Nat):Int))] a/\Below wg.z wg w/\xc.b.length<=LEN) ?_ ?_
  ·refine Wc z (fun hcl=>?_)<|fun hcl=>?_
   ·refine Wg<|Rm z ?_
    obtain ⟨au,ew,ab⟩:=bdS<|ifT hus hcl;exact R z (a_6 z z ew)<|Ra z<|Wl (fun _ q=>⟨au,som ab,q.k<|s5 z z z z z,br wg,a_F ew⟩)
   exact a_s<|fun _ q=>⟨x0,som<|ifF hus hcl,q.k<|s5 z z z z z,br wg,hb⟩
  rintro av wh ⟨xc,rfl,_,s2,aw⟩;revert av;refine Wo<|Wq<|Ws<|Rf z a_n z ?_
  have hn:=(((hq.blk:Blk J I.z (vR x2 A2 N2 C2 A3 N3 C3 A1 N1 C1 A4 N4 C4)).e h3).e s4).e s2;refine R z (l0 g_3 z<|hn.at z)<|Rq z z z<|Wn ?_
  obtain ⟨ax,hux,ad⟩:=bdS aa;refine Wt (fun a w=>∃(xi:Str),xi=ax/\Sat 46 [(3,pt w0.z),(4,pt I.z),(5,pt J.z),(7,Str.v xi),(8,vI ((kf:Nat):Int))] a/\Below wh.z wh w/\xi.b.length<=LEN) ?_ ?_
  ·refine Wc z (fun hcm=>?_)<|fun hcm=>?_
   ·refine Wg<|Rm z<|Rf z b_p z<|R z (l0 a_E z<|hn.at z)<|Rm z ?_
    obtain ⟨_,ay,ae⟩:=bdS<|ifT hux hcm;refine RX z (at_ (α:=Str) J_ z_9 z z z (L.g<|hk.e s2) ay) ?_;rintro _ ⟨_,_,_,rfl,az,aA,_⟩;obtain ⟨rfl,_⟩:=a_R aA;refine R z (l0 g_9 z<|az.at0 z) ?_;obtain ⟨_,aB,af⟩:=bdS ae;refine R z (a_6 z z aB) ?_;obtain ⟨aC,ey,ah⟩:=bdS af;exact R z (a_6 z z ey)<|Ra z<|Wl (fun _ q=>⟨aC,som ah,q.k<|s5 z z z z z,br wh,a_F ey⟩)
   exact a_s<|fun _ q=>⟨xc,som<|ifF hux hcm,q.k<|s5 z z z z z,br wh,aw⟩
  rintro aD _ ⟨xi,rfl,_,s6,_⟩;revert aD;refine Wo (Wd (X:=noX) 0 (.rd 0<|.rd 1<|.rd 2<|.rd 3<|.rd 4<|.rd 5<|.rd 7<|.rd 8<|.rd 9<|.rd 10<|.rd 11<|.ef 6<|.ef 12<|.rd 13<|.rd 14 .done) mo (by kernel_rfl) fun aZ s7 _=>dM z z z<|dR z z (lN (vs:=[sl A0 N0 C0]) o_ n_ z z fid<|(((((((hp.blk:Blk I w0.z [sl A0 N0 C0]).e ha).e h3).e s4).e s2).e s6).e s7).row 0 1 z)<|dR z z (lN (vs:=vR x2 A2 N2 C2 A3 N3 C3 A1 N1 C1 A4 N4 C4) G_ p_ z z fid<|((hn.e s6).e s7).row 0 8 z)<|dR z z (fd a_v z) ?_);have hz:=((hv.e s2).e s6).e s7;refine dR z z (l0 g_3 z<|hz.at z)<|dM z z z<|dR z z (fd F_ z)<|dR z z (l0 I_ z<|hz.at z)<|dM z z z ?_
  obtain ⟨aE,aF,ai⟩:=bdS ad;have h5:=((hk.e s2).e s6).e s7;refine dRX z z (at_ (α:=Val) K_ c_ z z z (H.g h5) aF) ?_;rintro _ ⟨_,_,_,rfl,aG,aH,_⟩;obtain ⟨aI,aJ,aK,aL,aM,aN,rfl,aO,aP,aQ⟩:=b_1 aH;refine dR z z (lN (vs:=[vI aE.number,sl aI aJ aK,sl aL aM aN]) i_ c_ z z fid aG) ?_;have V:=lt_ (lt_ (lt_ (lt_ (lt_ (lt_ he.s ha.s) h3.s) s4.s) s2.s) s6.s) s7.s;obtain ⟨_,aR,aj⟩:=bdS ai;refine dE z z (fc call60 z<|d_R aR (zt' O V) a0 a1 a2 (a3.g h5) (L.g h5) (a4.g h5) (a5.g h5) a6<|ic (Nat.le_of_lt hkj)<|lt_ (repS.len H) v_) (.inr fun _ _ h=>j_<|h.1) ?_;rintro _ _ ⟨sd,rfl,aS⟩;obtain ⟨_,aT,ak⟩:=bdS aj;refine dE z z (fc call64 z<|aq.run aT (zt' O<|lt_ V sd.s) (Y.g<|h5.e sd) aS aO (aP.e sd)<|aQ.e sd) (.inr fun _ _ h=>j_<|h.1) ?_;rintro _ _ ⟨aU,rfl,_⟩;obtain ⟨aV,W,al⟩:=bdS ak;exact dR z z (a_6 z z W)<|dQ z z z<|pD<|Wo<|Wg<|Rm z<|R z (inc_ hkj (lt_ (repS.len H) v_) z z)<|Ra z<|Wl (fun _ q=>⟨aV,(som al).symm,⟨q.k<|s5 z z z z z,bup (bup (bup (bup (bup s4 s2) s6) s7) sd) aU,a_F W⟩⟩)
 ·rintro x0 _ _ ⟨am,so,hb⟩;refine Wu ?_ am;refine Wq<|Wm z<|Rf z F_ z<|R z (l0 I_ z<|(hu.e so).at z)<|R z (lnR K_ z<|H.g<|(((he.ag B).e ha).e h3).e so)<|Rl z z z<|Wx z (fun hc=>(M_ hc).elim) (fun _=>?_)
  exact We<|fun _ q=>⟨rfl,⟨q.k<|s1 z,so,hb⟩⟩
 ·rintro x0 aW _ rfl ⟨_,aX,hb⟩;have an:=elL hmr;revert aW;refine Wo<|Wm z<|Rw z ?_
  obtain rfl:=som an;exact Wr<|b_ hr z ⟨bup (bup (bup he ha) h3) aX,z,hb⟩
 rintro _ _ _ _ rfl ⟨rfl,ao⟩;have ap:=elR hmr;obtain rfl:=som ap;exact ⟨ao,z⟩
theorem i_o:∀n,k_l n
  | 0=>⟨⟨fun hm=>by intros;exact nomatch (show none=some _ from hm)⟩,⟨fun hm=>by intros;exact nomatch (show none=some _ from hm)⟩⟩
  | n+1=>⟨T_w07<|i_o n,T_w1j<|i_o n⟩
theorem W_w07:k_j (b_2 n).spec_l10Text:=(i_o n).1
theorem W_w1j:k_k (b_2 n).spec_l10List:=(i_o n).2
theorem W_w2p {x1:d_}{x2:Int}{x3:Val}{res:Str}(hm:h_h n x1 x2 x3=some res)(W:B<=w0.z)(I:repS w0 B (sl A0 N0 C0) x1.rules)(J:inI x2)(L:inI x3.number)(O:repS w0 B (sl A6 N6 C6) x3.bytes)(V:repS w0 B (sl A5 N5 C5) x3.items):h_ prog 38 [(.agg #[sl A0 N0 C0]),vI x2,(.agg #[vI x3.number,sl A6 N6 C6,sl A5 N5 C5])] w0 (Q12 w0 B res):=by
 unfold h_h at hm
 refine goG func38 z z z fun fn hr=>Ws<|E z (fb z) ?_
 rintro _ Y ⟨rfl,h7⟩;have h2:=h7.below;refine E z (fb z) ?_;rintro _ we ⟨rfl,h8⟩;have h1:=h8.below;have h9:Blk we Y.z [vI x3.number,sl A6 N6 C6,sl A5 N5 C5]:=h8.blk;refine Rw z<|Wq<|Ws ?_
 have ha:=(h7.blk:Blk Y w0.z [sl A0 N0 C0]).e h1;refine R z (lN (vs:=[sl A0 N0 C0]) o_ n_ z z fid<|ha.row 0 1 z)<|Rm z<|R z (lN (vs:=[vI x3.number,sl A6 N6 C6,sl A5 N5 C5]) i_ c_ z z fid<|h9.row 0 3 z) ?_
 have h3:=(h2.ag B).e h1;have hb:=lt_ h2.s h1.s;obtain ⟨_,ef,hmc⟩:=bdS hm;refine E z (fc call35 z<|i_n ef (zt' W hb) (I.g h3) J L (O.g h3)<|V.g h3) ?_;rintro _ _ ⟨G,rfl⟩;refine R z (not_ z)<|Wx z (fun H=>?_) (fun H=>?_)
 ·refine Ws<|Rw z ?_
  obtain rfl:=som<|ifT hmc H;exact Wr<|b_ hr z ⟨bup (bup h2 h1) G,z,lb z⟩
 refine Wk<|Ws<|R z (lN (vs:=[sl A0 N0 C0]) o_ n_ z z fid<|(ha.e G).row 0 1 z)<|Rm z<|R z (lN (vs:=[vI x3.number,sl A6 N6 C6,sl A5 N5 C5]) i_ c_ z z fid<|(h9.e G).row 0 3 z) ?_
 have h5:=h3.e G;obtain ⟨_,eg,hmh⟩:=bdS<|ifF hmc H;refine E z (fc call64 z<|W_w07.run eg (zt' W<|lt_ hb G.s) (I.g h5) J L (O.g h5)<|V.g h5) ?_;rintro _ _ ⟨si,rfl,hj⟩;refine Rw z ?_
 obtain rfl:=som hmh;exact Wr<|b_ hr z ⟨bup (bup (bup h2 h1) G) si,z,hj⟩
theorem W_w2q {x1:d_}{x2:Val}{x3:A_}{res:Str}(hm:e_Z n x1 x2 x3=some res)(L:B<=w0.z)(O:repS w0 B (sl A0 N0 C0) x1.rules)(W:inI x2.number)(Y:repS w0 B (sl AA NA CA) x2.bytes)(a0:repS w0 B (sl AB NB CB) x2.items)(V:x3.path.b.length<=LEN)(a1:inI x3.part.number)(a2:repS w0 B (sl A5 N5 C5) x3.part.bytes)(a3:repS w0 B (sl AK NK CK) x3.part.items):h_ prog 23 [(.agg #[sl A0 N0 C0]),.agg #[vI x2.number,sl AA NA CA,sl AB NB CB],(.agg #[Str.v x3.path,vI x3.part.number,sl A5 N5 C5,sl AK NK CK])] w0 (Q12 w0 B res):=by
 unfold e_Z at hm
 refine goG func23 z z z fun fn hr=>Ws<|E z (fb z) ?_
 rintro _ wh ⟨rfl,hi⟩;have h6:=hi.below;have hj:Blk wh w0.z [sl A0 N0 C0]:=hi.blk;refine E z (fb z) ?_;rintro _ wa ⟨rfl,hk⟩;have h2:=hk.below;refine E z (fb z) ?_;rintro _ wu ⟨rfl,hl⟩;have h1:=hl.below;have hb:Blk wu wa.z [Str.v x3.path,vI x3.part.number,sl A5 N5 C5,sl AK NK CK]:=hl.blk;refine Rw z<|Ws ?_
 have hn:=(hj.e h2).e h1;refine R z (lN (vs:=[sl A0 N0 C0]) o_ n_ z z fid<|hn.row 0 1 z)<|R z (lN (vs:=[vI x2.number,sl AA NA CA,sl AB NB CB]) i_ c_ z z fid<|((hk.blk:Blk wa wh.z [vI x2.number,sl AA NA CA,sl AB NB CB]).e h1).row 0 3 z)<|Rf z i_j z<|R z (l0 g_9 z<|hb.at z) ?_
 have H:=((h6.ag B).e h2).e h1;have hc:=lt_ (lt_ h6.s h2.s) h1.s;obtain ⟨rv,rx,_,ew,hmm⟩:=S_ hm;refine E z (fc call37 z<|W_w2m ew (zt' L hc) (O.g H) W (Y.g H) (a0.g H) V) ?_;rintro _ wo ⟨G,ay,nz,a8,_,a9,aa,ab,_,rfl,_,_,_,ad,_,_⟩;refine Rm z ?_
 iterate 3 refine Re z z z ?_
 refine E z (fa O_) ?_;rintro _ ae ⟨rfl,hp⟩;have h3:=hp.below;refine E0 (fs0 (cur':=[vI rv.number,sl ay nz a8,sl a9 aa ab]) c_ z z (hp.blk:Blk ae wo.z [vI 0,sl none 0 0,sl none 0 0]) z z z z) ?_;rintro _ I ⟨_,af⟩;have h4:=af.one;refine Ra z<|Rw z<|Wq<|Wm z<|R z (not_ z)<|Wx z (fun hcd=>?_) (fun hcd=>?_)
 ·refine Ws<|Rw z ?_
  obtain rfl:=som<|ifT hmm hcd;exact Wr<|b_ hr z ⟨bM (bup (bup (bup (bup h6 h2) h1) G) h3) h4<|m1<|lt_ hc G.s,z,lb z⟩
 refine Wk<|Ws<|Rf z i_j z ?_
 have hq:=((hb.e G).e h3).c h4<|djs<|mm1 hb.lt G.s
 refine R z (l0 g_9 z<|hq.at z)<|Rw z<|Wq<|Wm z<|R z (b_6 z z)<|Wn ?_
 obtain ⟨ah,hur,a4⟩:=bdS<|ifF hmm hcd;refine Wt (fun a w=>∃(J:Str),J=ah/\Sat 34 [(3,pt w0.z),(5,pt wa.z),(8,vI rx),(10,Str.v J)] a/\Below I.z I w/\J.b.length<=LEN) ?_ ?_
 ·refine Wc z (fun hce=>?_)<|fun hce=>?_
  ·exact Wg<|Ra z<|Wl (fun _ q=>⟨(⟨[46]⟩:Str),som<|ifT hur hce,q.k<|s4 z z z z,br I,lb z⟩)
  exact a_s<|fun _ q=>⟨x3.path,som<|ifF hur hce,q.k<|s4 z z z z,br I,V⟩
 rintro ai _ ⟨J,rfl,_,s5,_⟩;revert ai;refine Wo<|Wm z ?_
 obtain ⟨_,aj,a5⟩:=bdS a4;refine R z (a_6 z z aj)<|R z (lN (vs:=[sl A0 N0 C0]) o_ n_ z z fid<|((((hn.e G).e h3).c h4<|djs<|mm1 hj.lt<|lt_ (lt_ h2.s h1.s) G.s).e s5).row 0 1 z)<|Rm z<|Rf z m_S z<|R z (lN (vs:=[vI x3.part.number,sl A5 N5 C5,sl AK NK CK]) i_ c_ z z fid<|(hq.e s5).row 1 3 z) ?_
 have hf:=lt_ hc G.s;have hg:=(((H.e G).e h3).c h4<|g_ (or0 (f_ lr) (t_<|zt' L hf):∀k∈[wo.z],¬B k)).e s5;obtain ⟨_,ak,a6⟩:=bdS a5;refine E z (fc call38 z<|W_w2p (B:=B) (x3:=(⟨x3.part.number,x3.part.bytes,x3.part.items⟩:Val)) ak (zt' L<|lt_ (lt_ (lt_ hf h3.s) h4.s) s5.s) (O.g hg) ad a1 (a2.g hg)<|a3.g hg) ?_;rintro _ _ ⟨al,rfl,_⟩;obtain ⟨_,es,a7⟩:=bdS a6;refine R z (a_6 z z es)<|Rw z ?_
 obtain rfl:=som a7;exact Wr<|b_ hr z ⟨bup (bup (bM (bup (bup (bup (bup h6 h2) h1) G) h3) h4<|m1 hf) s5) al,z,a_F es⟩
theorem W_w2r {x1:d_}{x2:List UInt8}{x3:List UInt8}{res:(List Str)}(hm:f_S n x1 x2 x3=some res)(O:B<=w0.z)(V:repS w0 B (sl A0 N0 C0) x1.rules)(aZ:repS w0 B (sl A7 N7 C7) x2)(b0:repS w0 B (sl A9 N9 C9) x3):h_ prog 13 [(.agg #[sl A0 N0 C0]),sl A7 N7 C7,sl A9 N9 C9] w0 (Q2 w0 B res):=by
 unfold f_S at hm
 refine goG func13 z z z fun fn hr=>Ws<|E z (fb z) ?_
 rintro _ G ⟨rfl,am⟩;have hi:=am.below;have hv:Blk G w0.z [sl A0 N0 C0]:=am.blk;refine Rw z<|Ws<|E z (f0 (α:=Str) a_A) ?_
 rintro _ _ ⟨ay,nz,Y,rfl,sj,ha⟩;refine Rw z<|Ws ?_
 have an:=hv.e sj;refine R z (lN (vs:=[sl A0 N0 C0]) o_ n_ z z fid<|an.row 0 1 z)<|Rm z ?_
 have a0:=(hi.ag B).e sj;have ao:=lt_ hi.s sj.s;obtain ⟨a1,_,bh,bi,b3⟩:=S_ hm;refine E z (fc call21 z<|k_e bi (zt' O ao) (V.g a0)<|aZ.g a0) ?_;rintro _ wm ⟨s7,a2,a3,a4,_,a5,a6,a7,_,rfl,ap,hn,ho,_,_,_,aq⟩;refine Rm z ?_
 iterate 3 refine Re z z z ?_
 refine E z (fa O_) ?_;rintro _ bj ⟨rfl,ar⟩;have J:=ar.below;have au:Blk bj wm.z [vI 0,sl none 0 0,sl none 0 0]:=ar.blk;refine E0 (fs0 (cur':=[vI a1.number,sl a2 a3 a4,sl a5 a6 a7]) c_ z z au z z z z) ?_;rintro _ _ ⟨bk,bm⟩;have h6:=bm.one;refine Ra z<|Rw z<|Ws ?_
 have av:=lt_ sj.s s7.s;have aw:=((an.e s7).e J).c h6<|djs<|mm1 hv.lt av
 refine R z (lN (vs:=[sl A0 N0 C0]) o_ n_ z z fid<|aw.row 0 1 z)<|Rm z ?_
 have hw:=lt_ ao s7.s;have a8:=((a0.e s7).e J).c h6<|g_ (or0 (f_ lr) (t_<|zt' O hw):∀k∈[wm.z],¬B k)
 have a9:=lt_ (lt_ hw J.s) h6.s;obtain ⟨ax,_,bn,bo,b4⟩:=S_ b3;refine E z (fc call21 z<|k_e bo (zt' O a9) (V.g a8)<|b0.g a8) ?_;rintro _ wr ⟨H,az,aA,aB,_,aC,aD,aE,_,rfl,bp,aa,ab,_,_,_,_⟩;refine Rm z ?_
 iterate 3 refine Re z z z ?_
 refine E z (fa O_) ?_;rintro _ bq ⟨rfl,aF⟩;have h3:=aF.below;refine E0 (fs0 (cur':=[vI ax.number,sl az aA aB,sl aC aD aE]) c_ z z (aF.blk:Blk bq wr.z [vI 0,sl none 0 0,sl none 0 0]) z z z z) ?_;rintro _ ws ⟨bt,bu⟩;have h4:=bu.one;refine Ra z<|Rw z<|Wq<|Wq ?_
 obtain ⟨bv,ai,aj⟩:=bdS b4;refine Wt (fun a w=>∃(ad:Bool),ad=bv/\Sat 59 [(3,pt w0.z),(7,sl ay nz Y),(8,pt wm.z),(11,pt wr.z),(36,vB ad)] a/\Below ws.z ws w) ?_ ?_
 ·refine Wg<|Rm z<|R z (nq z z)<|Rm z ?_
  rcases bs (bh != 0) with hcf | hcf
  ·exact Nh z hcf<|Nh z hcf<|R z (pT z hcf z)<|Wl (fun _ q=>⟨true,som<|ifT ai hcf,q.k<|s5 z z z z z,br ws⟩)
  exact Rh z hcf (mv z)<|Rh z hcf (nq z z)<|R z (pF z hcf z)<|Wl (fun _ q=>⟨bn != 0,som<|ifF ai hcf,q.k<|s5 z z z z z,br ws⟩)
 rintro bw _ ⟨ad,rfl,_,s2⟩;revert bw;refine Wo<|Wc z (fun W=>?_) (fun W=>?_)
 ·refine Wm z<|Rw z ?_
  obtain rfl:=som<|ifT aj W;exact Wr<|b_ hr z ⟨bup (bM (bup (bup (bM (bup (bup (bup hi sj) s7) J) h6<|m1 hw) H) h3) h4<|m1<|lt_ a9 H.s) s2,ay,nz,Y,[G.z],z,((((((ha.e s7).e J).c h6<|ds<|mno (a_.lt ha) s7.s).e H).e h3).c h4<|ds<|mno (a_.lt ha)<|lt_ (lt_ (lt_ s7.s J.s) h6.s) H.s).e s2,R_,m1 hi.s⟩
 refine Wk<|Ws ?_
 have aG:=(((aw.e H).e h3).c h4<|djs<|mm1 hv.lt<|lt_ (lt_ (lt_ av J.s) h6.s) H.s).e s2;refine R z (lN (vs:=[sl A0 N0 C0]) o_ n_ z z fid<|aG.row 0 1 z) ?_;have aH:=(((bk.e H).e h3).c h4<|djs<|mm1 au.lt<|lt_ h6.s H.s).e s2;refine R z (lN (vs:=[vI a1.number,sl a2 a3 a4,sl a5 a6 a7]) i_ c_ z z fid<|aH.row 0 3 z)<|R z (lN (vs:=[vI ax.number,sl az aA aB,sl aC aD aE]) i_ c_ z z fid<|(bt.e s2).row 0 3 z) ?_
 have hx:=lt_ a9 H.s;have aI:=zt' O hx;have aJ:=(((a8.e H).e h3).c h4<|g_ (or0 (f_ lr) (t_ aI):∀k∈[wr.z],¬B k)).e s2;have hp:=lt_ (lt_ J.s h6.s) H.s;have aK:=(((((hn.e J).c h6<|ds<|mnr<|a_.lt hn).e H).e h3).c h4<|ds<|mno (a_.lt hn) hp).e s2;have aL:=(((((ho.e J).c h6<|ds<|mnr<|a_.lt ho).e H).e h3).c h4<|ds<|mno (a_.lt ho) hp).e s2;obtain ⟨_,bx,b5⟩:=bdS<|ifF aj W;refine E z (fc call22 z<|W_w2g (B:=wr.z) bx (Z_<|lt_ (lt_ h3.s h4.s) s2.s) (repS.mono (V.g aJ) aI) ap (repS.mono (or_ aK<|a_.lt hn)<|Z_ hp) (repS.mono (or_ aL<|a_.lt ho)<|Z_ hp) bp (or_ (((aa.e h3).c h4<|ds<|mnr<|a_.lt aa).e s2)<|a_.lt aa)<|or_ (((ab.e h3).c h4<|ds<|mnr<|a_.lt ab).e s2)<|a_.lt ab) ?_;rintro _ I ⟨sb,bz,bA,bB,_,rfl,hk,_,aM⟩;refine Rw z<|Wq<|Ws<|Rw z ?_
 obtain ⟨_,b6,ak⟩:=bdS b5;refine Wf (σ:=List Str) (ρ:=List Str) (fun (aN:Nat)(xl:List Str) a w=>∃ac nd ce L,Sat 59 [(3,pt w0.z),(7,sl ac nd ce),(8,pt wm.z),(14,sl bz bA bB),(15,vI ((aN:Nat):Int))] a/\Chg (· ∈ [G.z]) I w/\a_ w L (sl ac nd ce) xl/\L.Nodup/\(∀k∈L,k∈[G.z]∨I.z<=k)) (fun (xl:List Str) a w=>∃ac nd ce L,Sat 59 [(7,sl ac nd ce)] a/\Chg (· ∈ [G.z]) I w/\a_ w L (sl ac nd ce) xl/\L.Nodup/\(∀k∈L,k∈[G.z]∨I.z<=k)) (rQ prog fn<|Q2 w0 B) b6 ?_ ?_ ?_ ?_ ?_
 ·have bC:=(((((((ha.e s7).e J).c h6<|ds<|mno (a_.lt ha) s7.s).e H).e h3).c h4<|ds<|mno (a_.lt ha)<|lt_ (lt_ (lt_ s7.s J.s) h6.s) H.s).e s2).e sb;exact fun _ q=>⟨ay,nz,Y,[G.z],q.k<|s5 z z z z z,cr [G.z] I,bC,R_,io sr⟩
 ·rintro aN xl _ bD _ al ⟨ac,nd,ce,L,b7,sh,hq,ht,hu⟩ b8;refine Wu ?_ b7;refine Wq<|Wm z<|Rm z ?_
  have aO:=hk.c sh<|a_x aM (a_.lt ha)<|lt_ (lt_ (lt_ (lt_ (lt_ (lt_ s7.s J.s) h6.s) H.s) h3.s) h4.s) s2.s
  refine R z (lnR d_52 z<|or_ aO<|a_.lt hk)<|Rl z z z<|Wx z (fun _=>?_) (fun hc=>(L_ al hc).elim)
  refine Wk<|Wq<|Wb (Wd (X:=noX) 512 (pl_ 11 [7,8,9]) mo (by kernel_rfl) fun bE sg _=>dM z z z<|dR z z (lN (vs:=[sl A0 N0 C0]) o_ n_ z z fid<|(((aG.e sb).c sh<|djs<|mmr hv.lt).e sg).row 0 1 z)<|dR z z (lN (vs:=[vI a1.number,sl a2 a3 a4,sl a5 a6 a7]) i_ c_ z z fid<|(((aH.e sb).c sh<|atp<|mno (a_.lt ha) s7.s).e sg).row 0 3 z)<|dM z z z<|dM z z z ?_)
  obtain ⟨aP,bF,b9⟩:=bdS b8;refine dRX z z (at_ (α:=A_) d_52 f_m z z z (or_ (aO.e sg)<|a_.lt hk) bF) ?_;rintro _ ⟨_,_,_,rfl,bG,bH,_⟩;obtain ⟨bI,bJ,bK,bL,bN,bO,rfl,bP,bQ,bR,bS⟩:=i_Q bH;refine dR z z (lN (vs:=[Str.v aP.path,vI aP.part.number,sl bI bJ bK,sl bL bN bO]) g_56 f_m z z fid bG) ?_;have aQ:=lt_ (lt_ (lt_ (lt_ hp h3.s) h4.s) s2.s) sb.s;have aR:=lt_ sh.s sg.s;obtain ⟨bT,bU,ba⟩:=bdS b9;refine dE z z (fc call23 z<|W_w2q (B:=I.z) bU (Z_ aR) (repS.mono (V.g<|((aJ.e sb).c sh<|g_ (or0 (f_ lr) (t_<|zt' O hi.s):∀k∈[G.z],¬B k)).e sg)<|zt' O<|lt_ (lt_ (lt_ (lt_ hx h3.s) h4.s) s2.s) sb.s) ap (repS.mono (or_ (((aK.e sb).c sh<|a_x (al_ aq) (a_.lt ha) lr).e sg)<|a_.lt hn)<|Z_ aQ) (repS.mono (or_ (((aL.e sb).c sh<|a_x (ar_ aq) (a_.lt ha) lr).e sg)<|a_.lt ho)<|Z_ aQ) bP bQ bR bS) (.inr fun _ _ h=>j_<|h.1) ?_;rintro _ aS ⟨ae,rfl,aT⟩;refine dE z z (fS [(.tmp 55)] a_A z z z (b_b z) (lb z)<|lb z) (.inr fun _ _ h=>j_<|h.2.below) ?_;rintro _ aU ⟨rfl,af⟩;have ah:=af.below;have c8:=c_m af<|b_9 aT
  obtain ⟨bV,bW,bb⟩:=bdS ba;refine dE z z (b_u (α:=Str) a_A bW z z (((hq.e sg).e ae).e ah) ht (af.blk:Blk aU aS.z [Str.v bT]) (b_9 aT) an_ a_8) (.inl z) ?_;rintro _ bX ⟨aV,bY,bZ,c0,rfl,c1,c2,c3,c4⟩;refine dQ z z z<|pD<|Wo<|Wg<|Rm z<|R z (inc_ al (lt_ (a_.len hk) v_) z z)<|Ra z<|Wl ?_
  have aW:∀k∈L,k∈[G.z]∨I.z<=k:=or1 hu (io sr)<|x_ lr;exact fun _ q=>⟨bV,(som bb).symm,⟨bY,bZ,c0,aV,q.k<|s5 z z z z z,(cM (D_ (D_ (D_ (cM (cr [G.z] I) sh (io sr):Chg (· ∈ [G.z]) I bD) sg:Chg (· ∈ [G.z]) I bE) ae:Chg (· ∈ [G.z]) I aS) ah:Chg (· ∈ [G.z]) I aU) c1 aW:Chg (· ∈ [G.z]) I bX),c2,c3,(or2 c4 aW an_ (x_<|lt_ (lt_ aR ae.s) ah.s):∀k∈aV,k∈[G.z]∨I.z<=k)⟩⟩
 ·rintro xl _ c5 ⟨ac,nd,ce,L,bc,aX,hq,ht,hu⟩;refine Wu ?_ bc;refine Wq<|Wm z<|Rm z<|R z (lnR d_52 z<|or_ (hk.c aX<|a_x aM (a_.lt ha)<|lt_ (lt_ (lt_ (lt_ (lt_ (lt_ s7.s J.s) h6.s) H.s) h3.s) h4.s) s2.s)<|a_.lt hk)<|Rl z z z<|Wx z (fun hc=>(M_ hc).elim) (fun _=>?_)
  exact We<|fun _ q=>⟨rfl,⟨ac,nd,ce,L,q.k<|s1 z,(cM (cr [G.z] I) aX (io sr):Chg (· ∈ [G.z]) I c5),hq,ht,(or1 hu (io sr) (x_ lr):∀k∈L,k∈[G.z]∨I.z<=k)⟩⟩
 ·rintro xl c6 _ rfl ⟨ac,nd,ce,L,_,c7,hq,ht,hu⟩;have be:=elL ak;revert c6;refine Wo<|Wm z<|Rw z ?_
  obtain rfl:=som be;have aY:=m1 hi.s;exact Wr<|b_ hr z ⟨bM (bup (bup (bM (bup (bup (bM (bup (bup (bup hi sj) s7) J) h6<|m1 hw) H) h3) h4<|m1 hx) s2) sb) c7 aY,ac,nd,ce,L,z,hq,ht,a_o hu aY<|lt_ (lt_ (lt_ (lt_ hx h3.s) h4.s) s2.s) sb.s⟩
 rintro _ _ _ _ rfl ⟨rfl,bf⟩;have bg:=elR ak;obtain rfl:=som bg;exact ⟨bf,z⟩
theorem W_w2s {x1:List Str}{x2:Str}{res:Str}(hm:h_9 x1 x2=some res)(W:B<=w0.z)(G:repS w0 B (sl A0 N0 C0) x1)(V:x2.b.length<=LEN):h_ prog 14 [sl A0 N0 C0,Str.v x2] w0 (Q12 w0 B res):=by
 unfold h_9 at hm
 refine goG func14 z z z fun fn hr=>Ws<|Rw z<|Ws<|Rw z<|Wq<|Ws<|Rw z ?_
 obtain ⟨_,hue,J⟩:=bdS hm;refine Wf (σ:=Str) (ρ:=Str) (fun (k4:Nat)(x0:Str) a w=>Sat 25 [(0,sl A0 N0 C0),(1,Str.v x2),(5,Str.v x0),(6,vI ((k4:Nat):Int))] a/\Below w0.z w0 w/\x0.b.length<=LEN) (fun (x0:Str) a w=>Sat 25 [(5,Str.v x0)] a/\Below w0.z w0 w/\x0.b.length<=LEN) (rQ prog fn<|Q12 w0 B) hue ?_ ?_ ?_ ?_ ?_
 ·exact fun _ q=>⟨q.k<|s4 z z z z,br w0,lb z⟩
 ·rintro k4 x0 _ H _ L ⟨hSf,s5,h1⟩ hmg;refine Wu ?_ hSf;refine Wq<|Wm z<|Rm z<|R z (lnR J_ z<|G.e s5)<|Rl z z z<|Wx z (fun _=>?_) (fun hc=>(L_ L hc).elim)
  refine Wk<|Wq<|Wb<|Wq<|Wm z<|R z (a_q z z)<|Wn ?_
  obtain ⟨uh,O,hmi⟩:=bdS hmg;refine Wt (fun a w=>∃(x3:Str),x3=uh/\Sat 25 [(0,sl A0 N0 C0),(1,Str.v x2),(5,Str.v x3),(6,vI ((k4:Nat):Int))] a/\Below H.z H w/\x3.b.length<=LEN) ?_ ?_
  ·refine Wc z (fun I=>?_)<|fun I=>?_
   ·refine Wg<|RM z z ?_
    obtain ⟨xj,ea,hmk⟩:=bdS<|ifT O I;exact R z (a_6 z z ea)<|Ra z<|Wl (fun _ q=>⟨xj,som hmk,q.k<|s4 z z z z,br H,a_F ea⟩)
   exact a_s<|fun _ q=>⟨x0,som<|ifF O I,q.k<|s4 z z z z,br H,h1⟩
  rintro al _ ⟨x3,rfl,_,sb,_⟩;revert al;refine Wo<|Wg<|RM z z<|Rm z ?_
  obtain ⟨_,em,hmn⟩:=bdS hmi;refine RX z (at_ (α:=Str) J_ z_9 z z z (G.g<|(s5.ag B).e sb) em) ?_;rintro _ ⟨_,_,_,rfl,ho,hp,_⟩;obtain ⟨rfl,_⟩:=a_R hp;refine R z (l0 g_9 z<|ho.at0 z) ?_;obtain ⟨xq,ec,hmr⟩:=bdS hmn;exact R z (a_6 z z ec)<|Rw z<|Wg<|Rm z<|R z (inc_ L (lt_ (repS.len G) v_) z z)<|Ra z<|Wl (fun _ q=>⟨xq,(som hmr).symm,⟨q.k<|s4 z z z z,bup s5 sb,a_F ec⟩⟩)
 ·rintro x0 _ _ ⟨hSs,sd,h1⟩;refine Wu ?_ hSs;refine Wq<|Wm z<|Rm z<|R z (lnR J_ z<|G.e sd)<|Rl z z z<|Wx z (fun hc=>(M_ hc).elim) (fun _=>?_)
  exact We<|fun _ q=>⟨rfl,⟨q.k<|s1 z,sd,h1⟩⟩
 ·rintro x0 au _ rfl ⟨_,st,h1⟩;have hmv:=elL J;revert au;refine Wo<|Wm z<|Rw z ?_
  obtain rfl:=som hmv;exact Wr<|b_ hr z ⟨st,z,h1⟩
 rintro _ _ _ _ rfl ⟨rfl,hqw⟩;have hmx:=elR J;obtain rfl:=som hmx;exact ⟨hqw,z⟩
theorem W_w2t {x1:d_}{x2:List UInt8}{x3:List UInt8}{res:Str}(hm:h_a n x1 x2 x3=some res)(J:B<=w0.z)(I:repS w0 B (sl A0 N0 C0) x1.rules)(Y:repS w0 B (sl A7 N7 C7) x2)(a0:repS w0 B (sl A9 N9 C9) x3):h_ prog 5 [(.agg #[sl A0 N0 C0]),sl A7 N7 C7,sl A9 N9 C9] w0 (Q12 w0 B res):=by
 unfold h_a at hm
 refine goG func5 z z z fun fn hr=>Ws<|E z (fb z) ?_
 rintro _ V ⟨rfl,ha⟩;have H:=ha.below;have h5:Blk V w0.z [sl A0 N0 C0]:=ha.blk;refine Rw z<|Wq<|Wq ?_
 obtain ⟨uh,hui,hmb⟩:=bdS hm;refine Wt (fun a w=>∃(x6:Bool),x6=uh/\Sat 27 [(1,sl A7 N7 C7),(2,sl A9 N9 C9),(3,pt w0.z),(17,vB x6)] a/\Below V.z V w) ?_ ?_
 ·refine Wg<|R z (lN (vs:=[sl A0 N0 C0]) o_ n_ z z fid<|h5.row 0 1 z)<|Rm z ?_
  obtain ⟨rj,ek,hmc⟩:=bdS hui;refine E z (fc call12 z<|W_w1f ek (zt' J H.s) (I.e H)<|Y.e H) ?_;rintro _ _ ⟨s3,rfl⟩;refine R z (not_ z)<|Rm z ?_
  rcases bs (!rj) with G | G
  ·iterate 4 refine Nh z G ?_
   exact R z (pT z G z)<|Wl (fun _ q=>⟨true,som<|ifT hmc G,q.k<|s4 z z z z,s3⟩)
  refine Rh z G (lN (vs:=[sl A0 N0 C0]) o_ n_ z z fid<|(h5.e s3).row 0 1 z)<|Rh z G (mv z) ?_
  have hd:=(H.ag B).e s3;obtain ⟨rl,em,hmn⟩:=bdS<|ifF hmc G;refine Eg z z G z (fc call12 z<|W_w1f em (zt' J<|lt_ H.s s3.s) (I.g hd)<|a0.g hd) ?_;rintro _ _ ⟨so,rfl⟩;exact Rh z G (not_ z)<|R z (pF z G z)<|Wl (fun _ q=>⟨!rl,som hmn,q.k<|s4 z z z z,bup s3 so⟩)
 rintro ap _ ⟨x6,rfl,_,s2⟩;revert ap;refine Wo<|Wc z (fun L=>?_) (fun L=>?_)
 ·refine Ws<|Rw z ?_
  obtain rfl:=som<|ifT hmb L;exact Wr<|b_ hr z ⟨bup H s2,z,lb z⟩
 refine Wk<|Ws<|R z (lN (vs:=[sl A0 N0 C0]) o_ n_ z z fid<|(h5.e s2).row 0 1 z)<|RM z z ?_
 have W:=(H.ag B).e s2;obtain ⟨_,eq,hme⟩:=bdS<|ifF hmb L;refine E z (fc call13 z<|W_w2r eq (zt' J<|lt_ H.s s2.s) (I.g W) (Y.g W)<|a0.g W) ?_;rintro _ wr ⟨sf,_,_,_,_,rfl,hg,_,_⟩;refine Rw z<|Wq<|Wm z<|R z (lnR J_ z<|a_.rep hg)<|Rq z z z<|Wx z (fun O=>?_) (fun O=>?_)
 ·refine Ws<|Rw z ?_
  obtain rfl:=som<|ifT hme O;exact Wr<|b_ hr z ⟨bup (bup H s2) sf,z,lb z⟩
 refine Wk<|Wm z ?_
 obtain ⟨_,es,hmt⟩:=bdS<|ifF hme O;refine E z (fc call14 z<|W_w2s (B:=wr.z) es zr (a_.rep hg)<|lb z) ?_;rintro _ _ ⟨su,rfl,hv⟩;refine Rw z ?_
 obtain rfl:=som hmt;exact Wr<|b_ hr z ⟨bup (bup (bup H s2) sf) su,z,hv⟩
theorem g_i {x1:d_}{res:Int}(hm:e_0 x1=some res)(J:B<=w0.z)(H:repS w0 B (sl A0 N0 C0) x1.rules):h_ prog 42 [(.agg #[sl A0 N0 C0])] w0 (Q0 w0 B res):=by
 unfold e_0 at hm
 refine goG func42 z z z fun fn hr=>Ws<|E z (fb z) ?_
 rintro _ I ⟨rfl,G⟩;have h1:=G.below;refine Rw z<|Ws<|Rf z a_c z<|R z (l0 a_e z<|(G.blk:Blk I w0.z [sl A0 N0 C0]).at z)<|R z (lnR a_1 z<|H.e h1)<|R z (sb_ z z)<|Rw z ?_
 obtain rfl:=som hm;exact Wr<|b_ hr z ⟨h1,z,iS _ _⟩
theorem d_n {x1:Int}{x2:Int}{x3:Int}{res:Bool}(hm:b_Z x1 x2 x3=some res)(Y:B<=w0.z)(O:inI x1)(V:inI x2)(W:inI x3):h_ prog 131 [vI x1,vI x2,vI x3] w0 (Q7 w0 B res):=by
 unfold b_Z at hm
 refine goG func131 z z z fun fn hr=>Ws<|Rw z<|Wq ?_
 obtain ⟨J,H,I⟩:=bdS hm;refine Wt (fun a w=>∃(x4:Bool),x4=J/\Sat 15 [(6,vB x4)] a/\Below w0.z w0 w) ?_ ?_
 ·refine Wg<|RM z z<|R z (b_T z z)<|Rm z ?_
  rcases bs (decide<|x2<=x1) with G | G
  ·exact Rh z G (mv z)<|Rh z G (mv z)<|Rh z G (b_T z z)<|R z (pT z G z)<|Ra z<|Wl (fun _ q=>⟨decide<|x1<=x3,som<|ifT H G,q.k<|s1 z,br w0⟩)
  iterate 3 refine Nh z G ?_
  exact R z (pF z G z)<|Ra z<|Wl (fun _ q=>⟨false,som<|ifF H G,q.k<|s1 z,br w0⟩)
 rintro L _ ⟨x4,rfl,_,s6⟩;revert L;refine Wo ?_;obtain rfl:=som I;exact Wr<|b_ hr z ⟨s6,z⟩
theorem k_m {x1:d_}{x2:Int}{res:Bool}(hm:d_Z x1 x2=some res)(Y:B<=w0.z)(J:repS w0 B (sl A0 N0 C0) x1.rules)(W:inI x2):h_ prog 96 [(.agg #[sl A0 N0 C0]),vI x2] w0 (Q7 w0 B res):=by
 unfold d_Z at hm
 refine goG func96 z z z fun fn hr=>Ws<|E z (fb z) ?_
 rintro _ H ⟨rfl,h2⟩;have h4:=h2.below;refine Rw z<|Wq ?_
 obtain ⟨O,I,L⟩:=bdS hm;refine Wt (fun a w=>∃(x3:Bool),x3=O/\Sat 14 [(4,vB x3)] a/\Below H.z H w) ?_ ?_
 ·refine Wg<|Rm z<|R z (b_K z z)<|Rm z ?_
  rcases bs (decide<|0<=x2) with G | G
  ·exact Rh z G (mv z)<|Rh z G (fd a_c z)<|Rh z G (l0 a_e z<|(h2.blk:Blk H w0.z [sl A0 N0 C0]).at z)<|Rh z G (lnR a_1 z<|J.e h4)<|Rh z G (lss z z)<|R z (pT z G z)<|Ra z<|Wl (fun _ q=>⟨decide<|x2<(x1.rules.length:Int),som<|ifT I G,q.k<|s1 z,br H⟩)
  iterate 5 refine Nh z G ?_
  exact R z (pF z G z)<|Ra z<|Wl (fun _ q=>⟨false,som<|ifF I G,q.k<|s1 z,br H⟩)
 rintro V _ ⟨x3,rfl,_,sa⟩;revert V;refine Wo ?_;obtain rfl:=som L;exact Wr<|b_ hr z ⟨bup h4 sa,z⟩
theorem k_n {x1:Str}{res:Bool}(hm:d_Y n x1=some res)(ap:B<=w0.z)(ao:x1.b.length<=LEN):h_ prog 143 [Str.v x1] w0 (Q7 w0 B res):=by
 unfold d_Y at hm
 refine goG func143 z z z fun fn hr=>Ws<|Rw z<|Wq<|Wq ?_
 obtain ⟨a8,huo,hmp⟩:=bdS hm;refine Wt (fun a w=>∃(xg:Bool),xg=a8/\Sat 43 [(0,Str.v x1),(14,vB xg)] a/\Below w0.z w0 w) ?_ ?_
 ·refine Wg<|Rm z<|R z (lnT d_9 z)<|Rl z z z<|Rm z ?_
  rcases bs (decide<|(x1.b.length:Int)<1) with J | J
  ·iterate 3 refine Nh z J ?_
   exact R z (pT z J z)<|Wl (fun _ q=>⟨true,som<|ifT huo J,q.k<|s2 z z,br w0⟩)
  exact Rh z J (mv z)<|Rh z J (lnT d_9 z)<|Rh z J (a_q z z)<|R z (pF z J z)<|Wl (fun _ q=>⟨decide<|12<(x1.b.length:Int),som<|ifF huo J,q.k<|s2 z z,br w0⟩)
 rintro a9 G ⟨xg,rfl,_,s9⟩;revert a9;refine Wo<|Wc z (fun hch=>?_) (fun hch=>?_)
 ·refine Ws<|Rw z ?_
  obtain rfl:=som<|ifT hmp hch;exact Wr<|b_ hr z ⟨s9,z⟩
 refine Wk<|Wq<|Wm z<|E z (o_o d_9 z) ?_
 rintro _ I ⟨rfl,sq,aa⟩;refine Wn ?_;obtain ⟨_,a1,hmr⟩:=bdS<|ifF hmp hch;refine e_d (σ:=Nat) (ρ:=Bool) (fun (x0:Nat) a w=>Sat 43 [(16,pt G.z)] a/\Chg (· ∈ [G.z]) I w/\b_c w G.z x1 x0) (fun (x0:Nat) a w=>Sat 43 [] a/\Chg (· ∈ [G.z]) I w/\b_c w G.z x1 x0) (rQ prog fn<|Q7 w0 B) a1 ?_ ?_ ?_ ?_
 ·exact fun _ q=>⟨q.k<|s1 z,cr [G.z] I,aa⟩
 ·rintro x0 _ ws _ ⟨a2,si,he⟩ hmt;refine Wu ?_ a2;refine Ws ?_
  rcases bs (decide<|x0<x1.b.length) with hca | hca
  ·refine E z (o_p z he<|of_decide_eq_true hca) ?_;rintro _ wb ⟨rfl,ab,su⟩;refine Re z z z<|Wn<|Wq<|Wc z (fun _=>?_) (fun hc=>(b_4 z hc).elim)
   refine Wk<|Wb<|Ws<|Re z z z<|Re z z z<|Ra z<|Rw z<|Wq ?_
   obtain ⟨ad,huv,a3⟩:=bdS<|ifT hmt hca;refine Wt (fun a w=>∃(xc:Bool),xc=ad/\Sat 43 [(3,vI (x0:Int)),(4,.int .i32<|(dec x1 x0).1),(5,vB xc),(16,pt G.z)] a/\Below wb.z wb w) ?_ ?_
   ·refine Wg<|Rm z<|R z (b_K z z)<|Rm z ?_
    rcases bs (decide<|97<=((dec x1 x0).1)) with L | L
    ·exact Rh z L (mv z)<|Rh z L (b_T z z)<|R z (pT z L z)<|Ra z<|Wl (fun _ q=>⟨decide<|((dec x1 x0).1)<=122,som<|ifT huv L,q.k<|s4 z z z z,br wb⟩)
    exact Nh z L<|Nh z L<|R z (pF z L z)<|Ra z<|Wl (fun _ q=>⟨false,som<|ifF huv L,q.k<|s4 z z z z,br wb⟩)
   rintro ae wd ⟨xc,rfl,_,sj⟩;revert ae;refine Wo<|Wq ?_
   obtain ⟨af,huw,a4⟩:=bdS a3;refine Wt (fun a w=>∃(xf:Bool),xf=af/\Sat 43 [(3,vI (x0:Int)),(5,vB xc),(6,vB xf),(16,pt G.z)] a/\Below wd.z wd w) ?_ ?_
   ·refine Wg<|Rm z<|R z (b_K z z)<|Rm z ?_
    rcases bs (decide<|48<=((dec x1 x0).1)) with O | O
    ·exact Rh z O (mv z)<|Rh z O (b_T z z)<|R z (pT z O z)<|Ra z<|Wl (fun _ q=>⟨decide<|((dec x1 x0).1)<=57,som<|ifT huw O,q.k<|s4 z z z z,br wd⟩)
    exact Nh z O<|Nh z O<|R z (pF z O z)<|Ra z<|Wl (fun _ q=>⟨false,som<|ifF huw O,q.k<|s4 z z z z,br wd⟩)
   rintro ah W ⟨xf,rfl,_,sk⟩;revert ah;refine Wo<|Wq ?_
   obtain ⟨ai,hux,hmy⟩:=bdS a4;refine Wt (fun a w=>∃(xl:Bool),xl=ai/\Sat 43 [(16,pt G.z),(42,vB xl)] a/\Below W.z W w) ?_ ?_
   ·refine Wg<|Rm z<|R z (not_ z)<|Rm z ?_
    rcases bs (!xc) with H | H
    ·have hmz:=ifT hux H;refine Rh z H (mv z)<|Rh z H (not_ z)<|Rh z H (mv z) ?_
     rcases bs (!xf) with V | V
     ·exact Nh z V<|Nh z V<|Rh z H (pT z V z)<|R z (pT z H z)<|Wl (fun _ q=>⟨true,som<|ifT hmz V,q.k<|s2 z z,br W⟩)
     exact Rh z V (mv z)<|Rh z V (eql z z)<|Rh z H (pF z V z)<|R z (pT z H z)<|Wl (fun _ q=>⟨(x0:Int)==0,som<|ifF hmz V,q.k<|s2 z z,br W⟩)
    iterate 3 refine Nh z H ?_
    exact Nv z<|Nv z<|Nh z H<|R z (pF z H z)<|Wl (fun _ q=>⟨false,som<|ifF hux H,q.k<|s2 z z,br W⟩)
   rintro aj ak ⟨xl,rfl,_,sm⟩;revert aj;refine Wo<|Wc z (fun hcn=>?_) (fun hcn=>?_)
   ·refine Ws<|Rw z ?_
    have Y:=m1 s9.s;exact Wr<|rtO<|qL (som<|ifT hmy hcn).symm<|b_ hr z ⟨bup (bup (bup (bM (bM (bup s9 sq) si Y) su Y) sj) sk) sm,z⟩
   refine a_s ?_;exact fun _ q=>⟨x0+(dec x1 x0).2,(som<|ifF hmy hcn).symm,⟨q.k<|s1 z,(D_ (D_ (D_ (cM (cM (cr [G.z] I) si (io sr):Chg (· ∈ [G.z]) I ws) su (io sr):Chg (· ∈ [G.z]) I wb) sj:Chg (· ∈ [G.z]) I wd) sk:Chg (· ∈ [G.z]) I W) sm:Chg (· ∈ [G.z]) I ak),((ab.e sj).e sk).e sm⟩⟩
  refine E z (o_q z he<|of_decide_eq_false hca) ?_;rintro _ al ⟨rfl,a0⟩;refine Re z z z<|Wn<|Wq<|Wc z (fun hc=>(b_4 hc z).elim) (fun _=>?_)
  exact We<|fun _ q=>c_U (som<|ifF hmt hca).symm ⟨q.k sn,(D_ (cM (cr [G.z] I) si (io sr):Chg (· ∈ [G.z]) I ws) a0:Chg (· ∈ [G.z]) I al),he.e a0⟩
 ·rintro x0 am _ rfl ⟨_,an,he⟩;have a5:=elL hmr;revert am;refine Wo<|Ws<|Rw z ?_
  obtain rfl:=som a5;exact Wr<|b_ hr z ⟨bM (bup s9 sq) an<|m1 s9.s,z⟩
 rintro _ _ _ _ rfl ⟨rfl,a6⟩;have a7:=elR hmr;obtain rfl:=som a7;exact ⟨a6,z⟩
theorem d_o {x1:e_}{x2:Bool}{x3:Bool}{x4:Bool}{x5:Bool}{x6:Int}{res:Bool}(hm:c_c x1 x2 x3 x4 x5 x6=some res)(a8:B<=w0.z)(a4:x1.name.b.length<=LEN)(a5:inI x1.kind)(a6:inI x1.size)(a0:repS w0 B (sl AD ND CD) x1.bytes)(a1:repS w0 B (sl AC NC CC) x1.names)(a2:repS w0 B (sl AE NE CE) x1.tags)(a3:repS w0 B (sl AF NF CF) x1.kids)(a7:inI x6):h_ prog 157 [(.agg #[Str.v x1.name,vI x1.kind,vI x1.size,vB x1.little,sl AD ND CD,sl AC NC CC,sl AE NE CE,sl AF NF CF]),vB x2,vB x3,vB x4,vB x5,vI x6] w0 (Q7 w0 B res):=by
 unfold c_c at hm
 refine goG func157 z z z fun fn hr=>Ws<|E z (fb z) ?_
 rintro _ w9 ⟨rfl,hd⟩;have ha:=hd.below;have hb:Blk w9 w0.z (vR x1 AD ND CD AC NC CC AE NE CE AF NF CF):=hd.blk;refine Rw z<|Wq ?_
 obtain ⟨ur,hus,hmt⟩:=bdS hm;refine Wt (fun a w=>∃(xc:Bool),xc=ur/\Sat 57 [(12,vB xc)] a/\Below w9.z w9 w) ?_ ?_
 ·refine Wg<|RM z z ?_
  obtain ⟨ue,huf,hmu⟩:=bdS hus;refine c_E 18 ue 4 ?_ ?_
  ·rcases bs x2 with Y | Y
   ·iterate 3 refine Nh z Y ?_
    exact R z (pT z Y z)<|WLq 4 (ifT huf Y) z z z
   exact Rh z Y (fd a_H z)<|Rh z Y (l0 g_3 z<|hb.at z)<|Rh z Y (eql z z)<|R z (pF z Y z)<|WLq 4 (ifF huf Y) z z z
  refine Rm z ?_;obtain ⟨ug,huh,hmv⟩:=bdS hmu;refine c_E 27 ug 8 ?_ ?_
  ·rcases bs ue with G | G
   ·have hmi:=ifT huh G;refine Rh z G (mv z)<|Rh z G (mv z) ?_
    rcases bs x3 with O | O
    ·iterate 4 refine Nh z O ?_
     exact Rh z G (pT z O z)<|R z (pT z G z)<|WLq 8 (ifT hmi O) z z z
    exact Rh z O (fd b_g z)<|Rh z O (l0 U_ z<|hb.at z)<|Rh z O (lnR l_ z<|a0.e ha)<|Rh z O (eql z z)<|Rh z G (pF z O z)<|R z (pT z G z)<|WLq 8 (ifF hmi O) z z z
   exact Nh z G<|Nh z G<|Nv z<|Nv z<|Nv z<|Nv z<|Nh z G<|R z (pF z G z)<|WLq 8 (ifF huh G) z z z
  refine Rm z ?_;obtain ⟨uj,huk,hmw⟩:=bdS hmv;refine c_E 36 uj 8 ?_ ?_
  ·rcases bs ug with H | H
   ·have hml:=ifT huk H;refine Rh z H (mv z)<|Rh z H (mv z) ?_
    rcases bs x4 with V | V
    ·iterate 4 refine Nh z V ?_
     exact Rh z H (pT z V z)<|R z (pT z H z)<|WLq 8 (ifT hml V) z z z
    exact Rh z V (fd b_p z)<|Rh z V (l0 a_E z<|hb.at z)<|Rh z V (lnR J_ z<|a1.e ha)<|Rh z V (eql z z)<|Rh z H (pF z V z)<|R z (pT z H z)<|WLq 8 (ifF hml V) z z z
   exact Nh z H<|Nh z H<|Nv z<|Nv z<|Nv z<|Nv z<|Nh z H<|R z (pF z H z)<|WLq 8 (ifF huk H) z z z
  refine Rm z ?_;obtain ⟨um,hun,hmo⟩:=bdS hmw;refine c_E 45 um 8 ?_ ?_
  ·rcases bs uj with I | I
   ·have hmp:=ifT hun I;refine Rh z I (mv z)<|Rh z I (mv z) ?_
    rcases bs x5 with W | W
    ·iterate 4 refine Nh z W ?_
     exact Rh z I (pT z W z)<|R z (pT z I z)<|WLq 8 (ifT hmp W) z z z
    exact Rh z W (fd b_0 z)<|Rh z W (l0 B_ z<|hb.at z)<|Rh z W (lnR z_ z<|a2.e ha)<|Rh z W (eql z z)<|Rh z I (pF z W z)<|R z (pT z I z)<|WLq 8 (ifF hmp W) z z z
   exact Nh z I<|Nh z I<|Nv z<|Nv z<|Nv z<|Nv z<|Nh z I<|R z (pF z I z)<|WLq 8 (ifF hun I) z z z
  refine Rm z ?_
  rcases bs um with J | J
  ·have hmq:=ifT hmo J;refine Rh z J (mv z)<|Rh z J (lss z z)<|Rh z J (mv z) ?_
   rcases bs (decide<|x6<0) with L | L
   ·iterate 5 refine Nh z L ?_
    exact Rh z J (pT z L z)<|R z (pT z J z)<|Ra z<|Wl (fun _ q=>⟨true,som<|ifT hmq L,q.k<|s1 z,br w9⟩)
   exact Rh z L (fd Y_ z)<|Rh z L (l0 B_ z<|hb.at z)<|Rh z L (lnR z_ z<|a3.e ha)<|Rh z L (mv z)<|Rh z L (eql z z)<|Rh z J (pF z L z)<|R z (pT z J z)<|Ra z<|Wl (fun _ q=>⟨(x1.kids.length:Int)==x6,som<|ifF hmq L,q.k<|s1 z,br w9⟩)
  iterate 3 refine Nh z J ?_
  exact Nv z<|Nv z<|Nv z<|Nv z<|Nv z<|Nh z J<|R z (pF z J z)<|Ra z<|Wl (fun _ q=>⟨false,som<|ifF hmo J,q.k<|s1 z,br w9⟩)
 rintro ax _ ⟨xc,rfl,_,sy⟩;revert ax;refine Wo ?_;obtain rfl:=som hmt;exact Wr<|b_ hr z ⟨bup ha sy,z⟩
theorem e_u {x1:d_}{x2:Int}{res:Int}(hm:c_B x1 x2=some res)(V:B<=w0.z)(I:repS w0 B (sl A0 N0 C0) x1.rules)(Y:inI x2):h_ prog 139 [(.agg #[sl A0 N0 C0]),vI x2] w0 (Q0 w0 B res):=by
 unfold c_B at hm
 refine goG func139 z z z fun fn hr=>Ws<|E z (fb z) ?_
 rintro _ L ⟨rfl,W⟩;have h2:=W.below;have h6:Blk L w0.z [sl A0 N0 C0]:=W.blk;refine Rw z<|Wq<|Wq ?_
 obtain ⟨uf,hug,hma⟩:=bdS hm;refine Wt (fun a w=>∃(O:Bool),O=uf/\Sat 37 [(1,vI x2),(2,pt w0.z),(27,vB O)] a/\Below L.z L w) ?_ ?_
 ·refine Wg<|R z (lN (vs:=[sl A0 N0 C0]) o_ n_ z z fid<|h6.row 0 1 z)<|Rm z ?_
  obtain ⟨rh,ei,hmb⟩:=bdS hug;refine E z (fc call96 z<|k_m ei (zt' V h2.s) (I.e h2) Y) ?_;rintro _ _ ⟨s4,rfl⟩;refine R z (not_ z)<|Rm z ?_
  rcases bs (!rh) with H | H
  ·iterate 7 refine Nh z H ?_
   exact R z (pT z H z)<|Rm z<|Nh z z<|Nh z z<|Nh z z<|Nh z z<|Nh z z<|Nh z z<|Nh z z<|Nh z z<|R z (pT z z z)<|Wl (fun _ q=>⟨true,som<|ifT hmb H,q.k<|s3 z z z,s4⟩)
  refine Rh z H (fd a_c z) ?_;have hc:=h6.e s4;refine Rh z H (l0 a_e z<|hc.at z)<|Rh z H (mv z) ?_
  obtain ⟨xj,ek,hmd⟩:=bdS<|ifF hmb H;have he:=I.g<|(h2.ag B).e s4
  refine RXg z z H z (at_ (α:=e_) a_1 p_ z z z he ek) ?_;rintro _ ⟨_,_,_,rfl,hl,hn,_⟩;obtain ⟨_,_,_,_,_,_,_,_,_,_,_,_,rfl,_,_,_,_,_,_,_⟩:=a_y hn;refine Rh z H (fd a_n z)<|Rh z H (l0 g_3 z<|hl.at (j:=1) z)<|Rh z H (nq z z)<|R z (pF z H z)<|Rm z ?_
  rcases bs (xj.kind != 1) with G | G
  ·iterate 8 refine Nh z G ?_
   exact R z (pT z G z)<|Wl (fun _ q=>⟨true,som<|ifT hmd G,q.k<|s3 z z z,s4⟩)
  refine Rh z G (fd a_c z)<|Rh z G (l0 a_e z<|hc.at z)<|Rh z G (mv z) ?_
  obtain ⟨_,em,hmo⟩:=bdS<|ifF hmd G;refine RXg z z G z (at_ (α:=e_) a_1 p_ z z z he em) ?_;rintro _ ⟨_,_,_,rfl,hp,hq,_⟩;obtain ⟨_,_,_,_,_,_,_,_,_,_,_,_,rfl,_,_,ht,_,_,_,_⟩:=a_y hq;refine Rh z G (fd a_H z)<|Rh z G (l0 g_3 z<|hp.at (j:=2) z) ?_
  obtain ⟨rr,es,hmu⟩:=bdS hmo;refine Eg z z G z (fc call131 z<|d_n es (zt' V<|lt_ h2.s s4.s) ht (ii z)<|ii z) ?_;rintro _ _ ⟨sv,rfl⟩;exact Rh z G (not_ z)<|R z (pF z G z)<|Wl (fun _ q=>⟨!rr,som hmu,q.k<|s3 z z z,bup s4 sv⟩)
 rintro aw _ ⟨O,rfl,_,s5⟩;revert aw;refine Wo<|Wc z (fun J=>?_) (fun J=>?_)
 ·refine Ws<|Rw z ?_
  obtain rfl:=som<|ifT hma J;exact Wr<|b_ hr z ⟨bup h2 s5,z,ii z⟩
 refine Wk<|Ws<|Rf z a_c z<|R z (l0 a_e z<|(h6.e s5).at z)<|Rm z ?_
 obtain ⟨_,ex,hmy⟩:=bdS<|ifF hma J;refine RX z (at_ (α:=e_) a_1 p_ z z z (I.g<|(h2.ag B).e s5) ex) ?_;rintro _ ⟨_,_,_,rfl,hz,a1,_⟩;obtain ⟨_,_,_,_,_,_,_,_,_,_,_,_,rfl,_,_,_,_,_,_,_⟩:=a_y a1;refine Rf z a_H z<|R z (l0 g_3 z<|hz.at (j:=2) z)<|R z (f_5 z z) ?_
 obtain ⟨_,a2,a0⟩:=bdS hmy;refine R z (h_O z z<|nnS a2)<|R z (sb_ z z)<|Rw z ?_
 obtain rfl:=som a0;exact Wr<|b_ hr z ⟨bup h2 s5,z,iS _ _⟩
theorem W_w2u {x1:List Str}{x2:Str}{res:Bool}(hm:f_y x1 x2=some res)(a1:B<=w0.z)(G:repS w0 B (sl A0 N0 C0) x1)(a0:x2.b.length<=LEN):h_ prog 162 [sl A0 N0 C0,Str.v x2] w0 (Q7 w0 B res):=by
 unfold f_y at hm
 refine goG func162 z z z fun fn hr=>Ws<|Rw z<|Wq<|Wm z<|R z (lnR J_ z G)<|Rm z<|Wn ?_
 obtain ⟨_,V,J⟩:=bdS hm;refine Wf (σ:=Unit) (ρ:=Bool) (fun (k3:Nat)(_:Unit) a w=>Sat 17 [(1,Str.v x2),(7,sl A0 N0 C0),(8,vI (x1.length:Int)),(9,vI ((k3:Nat):Int))] a/\Below w0.z w0 w) (fun (_:Unit) a w=>Sat 17 [] a/\Below w0.z w0 w) (rQ prog fn<|Q7 w0 B) V ?_ ?_ ?_ ?_ ?_
 ·exact fun _ q=>⟨q.k<|s4 z z z z,br w0⟩
 ·rintro k3 _ _ _ _ L ⟨W,I⟩ Y;refine Wu ?_ W;refine Ws<|Rl z z z<|Wn<|Wq<|Wc z (fun _=>?_) (fun hc=>(L_ L hc).elim)
  refine Wk<|Wq<|Wb<|Ws ?_
  obtain ⟨_,e9,O⟩:=bdS Y;refine RX z (at_ (α:=Str) J_ z_9 z z z (G.e I) e9) ?_;rintro _ ⟨_,_,_,rfl,ha,hb,_⟩;obtain ⟨rfl,_⟩:=a_R hb;refine R z (l0 g_9 z<|ha.at0 z)<|Rw z<|Wm z<|Rm z<|R z (b_6 z z)<|Wx z (fun H=>?_) (fun H=>?_)
  ·exact Ws<|Rw z<|Wr<|rtO<|qL (som<|ifT O H).symm<|b_ hr z ⟨I,z⟩
  exact Wk<|Wg<|R z (inc_ L (lt_ (repS.len G) v_) z z)<|Rm z<|Wl (fun _ q=>⟨(),(som<|ifF O H).symm,⟨q.k<|s4 z z z z,I⟩⟩)
 ·rintro _ _ _ ⟨hSc,sd⟩;refine Wu ?_ hSc;refine Ws<|Rl z z z<|Wn<|Wq<|Wc z (fun hc=>(M_ hc).elim) (fun _=>?_)
  exact We<|fun _ q=>⟨rfl,⟨q.k sn,sd⟩⟩
 ·rintro _ ae _ rfl ⟨_,sf⟩;have hmg:=elL J;revert ae;refine Wo<|Ws<|Rw z ?_
  obtain rfl:=som hmg;exact Wr<|b_ hr z ⟨sf,z⟩
 rintro _ _ _ _ rfl ⟨rfl,hqh⟩;have hmi:=elR J;obtain rfl:=som hmi;exact ⟨hqh,z⟩
theorem W_w2v {x1:e_}{res:Bool}(hm:g_O n x1=some res)(O:B<=w0.z)(Y:x1.name.b.length<=LEN)(a0:inI x1.kind)(a1:inI x1.size)(a2:repS w0 B (sl AD ND CD) x1.bytes)(J:repS w0 B (sl AC NC CC) x1.names)(a3:repS w0 B (sl AE NE CE) x1.tags)(W:repS w0 B (sl AF NF CF) x1.kids):h_ prog 158 [(.agg #[Str.v x1.name,vI x1.kind,vI x1.size,vB x1.little,sl AD ND CD,sl AC NC CC,sl AE NE CE,sl AF NF CF])] w0 (Q7 w0 B res):=by
 unfold g_O at hm
 refine goG func158 z z z fun fn hr=>Ws<|E z (fb z) ?_
 rintro _ V ⟨rfl,hi⟩;have h1:=hi.below;have ha:Blk V w0.z (vR x1 AD ND CD AC NC CC AE NE CE AF NF CF):=hi.blk;refine Rw z<|Wq<|Wq ?_
 obtain ⟨uy,huz,hmj⟩:=bdS hm;refine Wt (fun a w=>∃(xb:Bool),xb=uy/\Sat 44 [(1,pt w0.z),(23,vB xb)] a/\Below V.z V w) ?_ ?_
 ·refine Wg<|R z (lN (vs:=vR x1 AD ND CD AC NC CC AE NE CE AF NF CF) G_ p_ z z fid<|ha.row 0 8 z) ?_
  obtain ⟨ai,aj,hmk⟩:=bdS huz;refine E z (fc call157 z<|d_o aj (zt' O h1.s) Y a0 a1 (a2.e h1) (J.e h1) (a3.e h1) (W.e h1)<|ii z) ?_;rintro _ _ ⟨s6,rfl⟩;refine R z (not_ z)<|Rm z ?_
  rcases bs (!ai) with G | G
  ·iterate 7 refine Nh z G ?_
   exact R z (pT z G z)<|Rm z<|Nh z z<|Nh z z<|Nh z z<|Nh z z<|Nh z z<|R z (pT z z z)<|Wl (fun _ q=>⟨true,som<|ifT hmk G,q.k<|s2 z z,s6⟩)
  have hml:=ifF hmk G;refine Rh z G (fd Y_ z) ?_;have hd:=ha.e s6;refine Rh z G (l0 B_ z<|hd.at z) ?_;have hn:=(h1.ag B).e s6;have he:=W.g hn;refine Rh z G (lnR z_ z he)<|Rh z G (fd b_p z)<|Rh z G (l0 a_E z<|hd.at z)<|Rh z G (lnR J_ z<|J.g hn)<|Rh z G (nq z z)<|R z (pF z G z)<|Rm z ?_
  rcases bs ((x1.kids.length:Int) != (x1.names.length:Int)) with I | I
  ·iterate 5 refine Nh z I ?_
   exact R z (pT z I z)<|Wl (fun _ q=>⟨true,som<|ifT hml I,q.k<|s2 z z,s6⟩)
  refine Rh z I (fd Y_ z)<|Rh z I (l0 B_ z<|hd.at z)<|Rh z I (lnR z_ z he) ?_
  obtain ⟨ak,al,a4⟩:=bdS<|ifF hml I;refine Eg z z I z (fc call131 z<|d_n al (zt' O<|lt_ h1.s s6.s) (b_F<|repS.len he) (ii z)<|ii z) ?_;rintro _ _ ⟨am,rfl⟩;exact Rh z I (not_ z)<|R z (pF z I z)<|Wl (fun _ q=>⟨!ak,som a4,q.k<|s2 z z,bup s6 am⟩)
 rintro an L ⟨xb,rfl,_,s7⟩;revert an;refine Wo<|Wc z (fun hcc=>?_) (fun hcc=>?_)
 ·refine Ws<|Rw z ?_
  obtain rfl:=som<|ifT hmj hcc;exact Wr<|b_ hr z ⟨bup h1 s7,z⟩
 refine Wk<|Wq<|Ws<|Rf z b_p z ?_
 have ho:=ha.e s7;refine R z (l0 a_E z<|ho.at z) ?_;have hp:=(h1.ag B).e s7;refine R z (lnR J_ z<|J.g hp)<|Rm z<|Wn ?_
 obtain ⟨_,a5,hmm⟩:=bdS<|ifF hmj hcc;refine Wf (σ:=Unit) (ρ:=Bool) (fun (kf:Nat)(_:Unit) a w=>Sat 44 [(1,pt w0.z),(25,sl AC NC CC),(26,vI (x1.names.length:Int)),(27,vI ((kf:Nat):Int))] a/\Below L.z L w) (fun (_:Unit) a w=>Sat 44 [] a/\Below L.z L w) (rQ prog fn<|Q7 w0 B) a5 ?_ ?_ ?_ ?_ ?_
 ·exact fun _ q=>⟨q.k<|s4 z z z z,br L⟩
 ·rintro kf _ _ wq _ hkr ⟨a6,s8⟩ a7;refine Wu ?_ a6;refine Ws<|Rl z z z<|Wn<|Wq<|Wc z (fun _=>?_) (fun hc=>(L_ hkr hc).elim)
  refine Wk<|Wq<|Wb<|Wm z ?_
  obtain ⟨_,ao,a8⟩:=bdS a7;have ht:=hp.e s8;refine RX z (at_ (α:=Str) J_ z_9 z z z (J.g ht) ao) ?_;rintro _ ⟨_,_,_,rfl,ap,aq,_⟩;obtain ⟨rfl,hu⟩:=a_R aq;refine R z (l0 g_9 z<|ap.at0 z)<|Ra z<|Rw z<|Wq ?_
  obtain ⟨ar,a9,hms⟩:=bdS a8;refine Wt (fun a w=>∃(xg:Bool),xg=ar/\Sat 44 [(1,pt w0.z),(25,sl AC NC CC),(26,vI (x1.names.length:Int)),(27,vI ((kf:Nat):Int)),(42,vB xg)] a/\Below wq.z wq w) ?_ ?_
  ·refine Wg<|Rm z ?_
   have hv:=lt_ (lt_ h1.s s7.s) s8.s;obtain ⟨au,av,hmw⟩:=bdS a9;refine E z (fc call143 z<|k_n av (zt' O hv) hu) ?_;rintro _ _ ⟨s9,rfl⟩;refine R z (not_ z)<|Rm z ?_
   rcases bs (!au) with H | H
   ·iterate 6 refine Nh z H ?_
    exact R z (pT z H z)<|Wl (fun _ q=>⟨true,som<|ifT hmw H,q.k<|s5 z z z z z,s9⟩)
   refine Rh z H (fd b_p z)<|Rh z H (l0 a_E z<|((ho.e s8).e s9).at z)<|Rh z H (mv z) ?_
   obtain ⟨_,aw,aa⟩:=bdS<|ifF hmw H;refine RXg z z H z (rX J_ z_9 z z (J.g<|ht.e s9) z z aw) ?_;rintro _ ⟨_,_,_,rfl,ax⟩;refine Rh z H (mv z) ?_;obtain ⟨ay,az,ab⟩:=bdS aa;refine Eg z z H z (fc call162 z<|W_w2u az (zt' O<|lt_ hv s9.s) ax hu) ?_;rintro _ _ ⟨aA,rfl⟩;exact R z (pF z H z)<|Wl (fun _ q=>⟨ay,som ab,q.k<|s5 z z z z z,bup s9 aA⟩)
  rintro aB _ ⟨xg,rfl,_,sx⟩;revert aB;refine Wo<|Wc z (fun hch=>?_) (fun hch=>?_)
  ·exact Ws<|Rw z<|Wr<|rtO<|qL (som<|ifT hms hch).symm<|b_ hr z ⟨bup (bup (bup h1 s7) s8) sx,z⟩
  exact Wk<|Wg<|R z (inc_ hkr (lt_ (repS.len J) v_) z z)<|Rm z<|Wl (fun _ q=>⟨(),(som<|ifF hms hch).symm,⟨q.k<|s4 z z z z,bup s8 sx⟩⟩)
 ·rintro _ _ _ ⟨ad,aC⟩;refine Wu ?_ ad;refine Ws<|Rl z z z<|Wn<|Wq<|Wc z (fun hc=>(M_ hc).elim) (fun _=>?_)
  exact We<|fun _ q=>⟨rfl,⟨q.k sn,aC⟩⟩
 ·rintro _ aD _ rfl ⟨_,aE⟩;have ae:=elL hmm;revert aD;refine Wo<|Ws<|Rw z ?_
  obtain rfl:=som ae;exact Wr<|b_ hr z ⟨bup (bup h1 s7) aE,z⟩
 rintro _ _ _ _ rfl ⟨rfl,af⟩;have ah:=elR hmm;obtain rfl:=som ah;exact ⟨af,z⟩
theorem W_w2w {x1:d_}{x2:e_}{res:Bool}(hm:g_P x1 x2=some res)(O:B<=w0.z)(a4:repS w0 B (sl A0 N0 C0) x1.rules)(a5:x2.name.b.length<=LEN)(a6:inI x2.kind)(a7:inI x2.size)(a8:repS w0 B (sl A2 N2 C2) x2.bytes)(a9:repS w0 B (sl A3 N3 C3) x2.names)(J:repS w0 B (sl A1 N1 C1) x2.tags)(V:repS w0 B (sl A4 N4 C4) x2.kids):h_ prog 159 [(.agg #[sl A0 N0 C0]),(.agg #[Str.v x2.name,vI x2.kind,vI x2.size,vB x2.little,sl A2 N2 C2,sl A3 N3 C3,sl A1 N1 C1,sl A4 N4 C4])] w0 (Q7 w0 B res):=by
 unfold g_P at hm
 refine goG func159 z z z fun fn hr=>Ws<|E z (fb z) ?_
 rintro _ L ⟨rfl,hn⟩;have h4:=hn.below;refine E z (fb z) ?_;rintro _ wg ⟨rfl,ho⟩;have h3:=ho.below;have he:Blk wg L.z (vR x2 A2 N2 C2 A3 N3 C3 A1 N1 C1 A4 N4 C4):=ho.blk;refine Rw z<|Wq<|Wq ?_
 obtain ⟨aq,aa,hmp⟩:=bdS hm;refine Wt (fun a w=>∃(xh:Bool),xh=aq/\Sat 57 [(2,pt w0.z),(3,pt L.z),(21,vB xh)] a/\Below wg.z wg w) ?_ ?_
 ·refine Wg<|R z (lN (vs:=vR x2 A2 N2 C2 A3 N3 C3 A1 N1 C1 A4 N4 C4) G_ p_ z z fid<|he.row 0 8 z)<|Rf z b_0 z<|R z (l0 B_ z<|he.at z) ?_
  have h6:=(h4.ag B).e h3;have hq:=J.g h6;refine R z (lnR z_ z hq)<|R z (add_ z z) ?_
  have ht:=lt_ h4.s h3.s;obtain ⟨ar,au,hmr⟩:=bdS aa;refine E z (fc call157 z<|d_o au (zt' O ht) a5 a6 a7 (a8.g h6) (a9.g h6) hq (V.g h6)<|iA _ _) ?_;rintro _ _ ⟨s9,rfl⟩;refine R z (not_ z)<|Rm z ?_
  rcases bs (!ar) with I | I
  ·iterate 5 refine Nh z I ?_
   exact R z (pT z I z)<|Wl (fun _ q=>⟨true,som<|ifT hmr I,q.k<|s3 z z z,s9⟩)
  refine Rh z I (fd b_0 z)<|Rh z I (l0 B_ z<|(he.e s9).at z) ?_
  have hu:=J.g<|h6.e s9
  refine Rh z I (lnR z_ z hu) ?_;obtain ⟨av,aw,ab⟩:=bdS<|ifF hmr I;refine Eg z z I z (fc call131 z<|d_n aw (zt' O<|lt_ ht s9.s) (b_F<|repS.len hu) (ii z)<|ii z) ?_;rintro _ _ ⟨ax,rfl⟩;exact Rh z I (not_ z)<|R z (pF z I z)<|Wl (fun _ q=>⟨!av,som ab,q.k<|s3 z z z,bup s9 ax⟩)
 rintro ay _ ⟨xh,rfl,_,s7⟩;revert ay;refine Wo<|Wc z (fun hci=>?_) (fun hci=>?_)
 ·refine Ws<|Rw z ?_
  obtain rfl:=som<|ifT hmp hci;exact Wr<|b_ hr z ⟨bup (bup h4 h3) s7,z⟩
 refine Wk<|Wq (Wd (X:=noX) 0 (pl_ 7 [5]) mo (by kernel_rfl) fun aV s8 _=>dR z z (lN (vs:=[sl A0 N0 C0]) o_ n_ z z fid<|((((hn.blk:Blk L w0.z [sl A0 N0 C0]).e h3).e s7).e s8).row 0 1 z)<|dR z z (fd Y_ z) ?_)
 have hv:=(he.e s7).e s8;refine dR z z (l0 B_ z<|hv.at z) ?_;obtain ⟨_,az,ad⟩:=bdS<|ifF hmp hci;have hj:=(((h4.ag B).e h3).e s7).e s8;refine dRX z z (at_ (α:=Int) z_ z_3 z z z (V.g hj) az) ?_;rintro _ ⟨_,_,_,rfl,aA,aB,_⟩;obtain ⟨rfl,aC⟩:=a_5 aB;refine dR z z (l0 g_3 z<|aA.at0 z) ?_;have hw:=lt_ (lt_ (lt_ h4.s h3.s) s7.s) s8.s;obtain ⟨rk,aD,ae⟩:=bdS ad;refine dE z z (fc call139 z<|e_u aD (zt' O hw) (a4.g hj) aC) (.inr fun _ _ h=>j_<|h.1) ?_;rintro _ wa ⟨sb,rfl,aE⟩;refine dQ z z z<|pD<|Wo<|Wq<|Ws<|Rf z b_0 z ?_
 have hx:=hv.e sb;refine R z (l0 B_ z<|hx.at z) ?_;have hy:=hj.e sb;refine R z (lnR z_ z<|J.g hy)<|Rm z<|Wn ?_
 obtain ⟨_,af,hms⟩:=bdS ae;refine Wf (σ:=Unit) (ρ:=Bool) (fun (kf:Nat)(_:Unit) a w=>Sat 57 [(3,pt L.z),(5,vI rk),(29,sl A1 N1 C1),(30,vI (x2.tags.length:Int)),(31,vI ((kf:Nat):Int))] a/\Below wa.z wa w) (fun (_:Unit) a w=>Sat 57 [(5,vI rk)] a/\Below wa.z wa w) (rQ prog fn<|Q7 w0 B) af ?_ ?_ ?_ ?_ ?_
 ·exact fun _ q=>⟨q.k<|s5 z z z z z,br wa⟩
 ·rintro kf _ _ wz _ W ⟨ah,sc⟩ ai;refine Wu ?_ ah;refine Ws<|Rl z z z<|Wn<|Wq<|Wc z (fun _=>?_) (fun hc=>(L_ W hc).elim)
  refine Wk<|Wq<|Wb<|Wm z ?_
  obtain ⟨aF,aG,aj⟩:=bdS ai;have a2:=hy.e sc;refine RX z (at_ (α:=Int) z_ z_3 z z z (J.g a2) aG) ?_;rintro _ ⟨_,_,_,rfl,aH,aI,_⟩;obtain ⟨rfl,aJ⟩:=a_5 aI;refine R z (l0 g_3 z<|aH.at0 z)<|Ra z<|Rw z<|Wq ?_
  obtain ⟨aK,ak,Y⟩:=bdS aj;refine Wt (fun a w=>∃(xl:Bool),xl=aK/\Sat 57 [(3,pt L.z),(5,vI rk),(29,sl A1 N1 C1),(30,vI (x2.tags.length:Int)),(31,vI ((kf:Nat):Int)),(53,vB xl)] a/\Below wz.z wz w) ?_ ?_
  ·refine Wg<|RM z z ?_
   obtain ⟨aL,aM,a0⟩:=bdS ak;refine E z (fc call131 z<|d_n aM (zt' O<|lt_ (lt_ hw sb.s) sc.s) aJ (ii z) aE) ?_;rintro _ _ ⟨sd,rfl⟩;refine R z (not_ z)<|Rm z ?_
   rcases bs (!aL) with H | H
   ·iterate 3 refine Nh z H ?_
    exact Nv z<|Nv z<|Nv z<|Nv z<|Nv z<|Nv z<|Nv z<|Nv z<|Nh z H<|R z (pT z H z)<|Wl (fun _ q=>⟨true,som<|ifT a0 H,q.k<|s6 z z z z z z,sd⟩)
   have a1:=ifF a0 H;refine Rh z H (mv z)<|Rh z H (a_q z z)<|Rh z H (mv z) ?_
   rcases bs (decide<|0<((kf:Nat):Int)) with G | G
   ·refine Rh z G (fd b_0 z)<|Rh z G (l0 B_ z<|((hx.e sc).e sd).at z)<|Rh z G (mv z)<|Rh z G (sb_ z z) ?_
    obtain ⟨aN,aO,al⟩:=bdS<|ifT a1 G;refine RXg z z G z (at_ (α:=Int) z_ z_3 z z z (J.g<|a2.e sd) aO) ?_;rintro _ ⟨_,_,_,rfl,aP,aQ,_⟩;obtain ⟨rfl,_⟩:=a_5 aQ;exact Rh z G (l0 g_3 z<|aP.at0 z)<|Rh z G (mv z)<|Rh z G (b_K z z)<|Rh z H (pT z G z)<|R z (pF z H z)<|Wl (fun _ q=>⟨decide<|aF<=aN,som al,q.k<|s6 z z z z z z,sd⟩)
   iterate 8 refine Nh z G ?_
   exact Rh z H (pF z G z)<|R z (pF z H z)<|Wl (fun _ q=>⟨false,som<|ifF a1 G,q.k<|s6 z z z z z z,sd⟩)
  rintro aR _ ⟨xl,rfl,_,a3⟩;revert aR;refine Wo<|Wc z (fun hcm=>?_) (fun hcm=>?_)
  ·exact Ws<|Rw z<|Wr<|rtO<|qL (som<|ifT Y hcm).symm<|b_ hr z ⟨bup (bup (bup (bup (bup (bup h4 h3) s7) s8) sb) sc) a3,z⟩
  exact Wk<|Wg<|R z (inc_ W (lt_ (repS.len J) v_) z z)<|Rm z<|Wl (fun _ q=>⟨(),(som<|ifF Y hcm).symm,⟨q.k<|s5 z z z z z,bup sc a3⟩⟩)
 ·rintro _ _ _ ⟨am,aS⟩;refine Wu ?_ am;refine Ws<|Rl z z z<|Wn<|Wq<|Wc z (fun hc=>(M_ hc).elim) (fun _=>?_)
  exact We<|fun _ q=>⟨rfl,⟨q.k<|s1 z,aS⟩⟩
 ·rintro _ aT _ rfl ⟨_,aU⟩;have an:=elL hms;revert aT;refine Wo<|Wm z<|R z (a_q z z)<|Rw z ?_
  obtain rfl:=som an;exact Wr<|b_ hr z ⟨bup (bup (bup (bup (bup h4 h3) s7) s8) sb) aU,z⟩
 rintro _ _ _ _ rfl ⟨rfl,ao⟩;have ap:=elR hms;obtain rfl:=som ap;exact ⟨ao,z⟩
theorem W_w2x {x1:d_}{x2:e_}{res:Bool}(hm:g_Q n x1 x2=some res)(L:B<=w0.z)(a7:repS w0 B (sl A0 N0 C0) x1.rules)(a3:x2.name.b.length<=LEN)(a4:inI x2.kind)(V:inI x2.size)(W:repS w0 B (sl A2 N2 C2) x2.bytes)(a5:repS w0 B (sl A3 N3 C3) x2.names)(a6:repS w0 B (sl A1 N1 C1) x2.tags)(Y:repS w0 B (sl A4 N4 C4) x2.kids):h_ prog 148 [(.agg #[sl A0 N0 C0]),(.agg #[Str.v x2.name,vI x2.kind,vI x2.size,vB x2.little,sl A2 N2 C2,sl A3 N3 C3,sl A1 N1 C1,sl A4 N4 C4])] w0 (Q7 w0 B res):=by
 unfold g_Q at hm
 refine goG func148 z z z fun fn hr=>Ws<|E z (fb z) ?_
 rintro _ ww ⟨rfl,aJ⟩;have h1:=aJ.below;have hx:Blk ww w0.z [sl A0 N0 C0]:=aJ.blk;refine E z (fb z) ?_;rintro _ J ⟨rfl,aK⟩;have G:=aK.below;have h6:Blk J ww.z (vR x2 A2 N2 C2 A3 N3 C3 A1 N1 C1 A4 N4 C4):=aK.blk;refine Rw z<|Wq<|Ws<|Rf z a_n z<|R z (l0 g_3 z<|h6.at z)<|Wn<|Wb<|Ws<|Rq z z z<|Rw z<|Wc z (fun hcy=>?_) (fun hcy=>?_)
 ·refine Wq ?_;obtain ⟨bt,b3,b4⟩:=bdS<|ifT hm hcy;refine Wt (fun a w=>∃(xz:Bool),xz=bt/\Sat 102 [(4,vB xz)] a/\Below J.z J w) ?_ ?_
  ·refine Wg<|R z (lN (vs:=vR x2 A2 N2 C2 A3 N3 C3 A1 N1 C1 A4 N4 C4) G_ p_ z z fid<|h6.row 0 8 z) ?_
   have hq:=(h1.ag B).e G;have aL:=lt_ h1.s G.s;obtain ⟨bu,bv,ap⟩:=bdS b3;refine E z (fc call157 z<|d_o bv (zt' L aL) a3 a4 V (W.g hq) (a5.g hq) (a6.g hq) (Y.g hq)<|ii z) ?_;rintro _ _ ⟨se,rfl⟩;refine Rm z ?_
   rcases bs bu with hca | hca
   ·refine Rh z hca (fd a_H z) ?_;have aM:=h6.e se;refine Rh z hca (l0 g_3 z<|aM.at z) ?_;obtain ⟨bw,bx,aq⟩:=bdS<|ifT ap hca;refine Eg z z hca z (fc call131 z<|d_n bx (zt' L<|lt_ aL se.s) V (ii z)<|ii z) ?_;rintro _ _ ⟨sr,rfl⟩;refine R z (pT z hca z)<|Rm z ?_
    rcases bs bw with O | O
    ·have ar:=ifT aq O;refine Rh z O (fd d_k z) ?_;have aN:=aM.e sr;refine Rh z O (l0 g_4 z<|aN.at z)<|Rh z O (not_ z)<|Rh z O (mv z) ?_
     rcases bs (!x2.little) with hcb | hcb
     ·iterate 3 refine Nh z hcb ?_
      exact Rh z O (pT z hcb z)<|R z (pT z O z)<|Ra z<|Wl (fun _ q=>⟨true,som<|ifT ar hcb,q.k<|s1 z,bup se sr⟩)
     exact Rh z hcb (fd a_H z)<|Rh z hcb (l0 g_3 z<|aN.at z)<|Rh z hcb (a_q z z)<|Rh z O (pF z hcb z)<|R z (pT z O z)<|Ra z<|Wl (fun _ q=>⟨decide<|1<x2.size,som<|ifF ar hcb,q.k<|s1 z,bup se sr⟩)
    iterate 4 refine Nh z O ?_
    exact Nv z<|Nv z<|Nv z<|Nh z O<|R z (pF z O z)<|Ra z<|Wl (fun _ q=>⟨false,som<|ifF aq O,q.k<|s1 z,bup se sr⟩)
   iterate 3 refine Nh z hca ?_
   exact R z (pF z hca z)<|Rm z<|Nh z z<|Nh z z<|Nh z z<|Nh z z<|Nv z<|Nv z<|Nv z<|Nh z z<|R z (pF z z z)<|Ra z<|Wl (fun _ q=>⟨false,som<|ifF ap hca,q.k<|s1 z,se⟩)
  rintro bz _ ⟨xz,rfl,_,bA⟩;revert bz;refine Wo ?_;obtain rfl:=som b4;exact Wr<|rtO<|b_ hr z ⟨bup (bup h1 G) bA,z⟩
 have au:=ifF hm hcy;refine Ws<|Rq z z z<|Rw z<|Wc z (fun a8=>?_) (fun a8=>?_)
 ·refine Wq ?_;obtain ⟨bB,b5,b6⟩:=bdS<|ifT au a8;refine Wt (fun a w=>∃(aj:Bool),aj=bB/\Sat 102 [(4,vB aj)] a/\Below J.z J w) ?_ ?_
  ·refine Wg<|R z (lN (vs:=vR x2 A2 N2 C2 A3 N3 C3 A1 N1 C1 A4 N4 C4) G_ p_ z z fid<|h6.row 0 8 z) ?_
   have hj:=(h1.ag B).e G;have aO:=lt_ h1.s G.s;obtain ⟨bC,bD,av⟩:=bdS b5;refine E z (fc call157 z<|d_o bD (zt' L aO) a3 a4 V (W.g hj) (a5.g hj) (a6.g hj) (Y.g hj)<|ii z) ?_;rintro _ _ ⟨sk,rfl⟩;refine Rm z ?_
   rcases bs bC with a1 | a1
   ·refine Rh z a1 (fd b_g z)<|Rh z a1 (l0 U_ z<|(h6.e sk).at z) ?_
    have aP:=W.g<|hj.e sk
    refine Rh z a1 (lnR l_ z aP) ?_;obtain ⟨bE,bF,b7⟩:=bdS<|ifT av a1;refine Eg z z a1 z (fc call131 z<|d_n bF (zt' L<|lt_ aO sk.s) (b_F<|repS.len aP) (ii z)<|ii z) ?_;rintro _ _ ⟨bG,rfl⟩;exact R z (pT z a1 z)<|Ra z<|Wl (fun _ q=>⟨bE,som b7,q.k<|s1 z,bup sk bG⟩)
   iterate 4 refine Nh z a1 ?_
   exact R z (pF z a1 z)<|Ra z<|Wl (fun _ q=>⟨false,som<|ifF av a1,q.k<|s1 z,sk⟩)
  rintro bH _ ⟨aj,rfl,_,bI⟩;revert bH;refine Wo ?_;obtain rfl:=som b6;exact Wr<|rtO<|b_ hr z ⟨bup (bup h1 G) bI,z⟩
 have aw:=ifF au a8;refine Ws<|Rq z z z<|Rw z<|Wc z (fun a9=>?_) (fun a9=>?_)
 ·refine Wq ?_;obtain ⟨bJ,b8,b9⟩:=bdS<|ifT aw a9;refine Wt (fun a w=>∃(ak:Bool),ak=bJ/\Sat 102 [(4,vB ak)] a/\Below J.z J w) ?_ ?_
  ·refine Wg<|R z (lN (vs:=vR x2 A2 N2 C2 A3 N3 C3 A1 N1 C1 A4 N4 C4) G_ p_ z z fid<|h6.row 0 8 z) ?_
   have ht:=(h1.ag B).e G;have aQ:=lt_ h1.s G.s;obtain ⟨bK,bL,ax⟩:=bdS b8;refine E z (fc call157 z<|d_o bL (zt' L aQ) a3 a4 V (W.g ht) (a5.g ht) (a6.g ht) (Y.g ht)<|ii z) ?_;rintro _ _ ⟨ss,rfl⟩;refine Rm z ?_
   rcases bs bK with hcc | hcc
   ·refine Rh z hcc (fd a_H z)<|Rh z hcc (l0 g_3 z<|(h6.e ss).at z) ?_
    obtain ⟨bM,bN,ba⟩:=bdS<|ifT ax hcc;refine Eg z z hcc z (fc call131 z<|d_n bN (zt' L<|lt_ aQ ss.s) V (ii z)<|ii z) ?_;rintro _ _ ⟨bO,rfl⟩;exact R z (pT z hcc z)<|Ra z<|Wl (fun _ q=>⟨bM,som ba,q.k<|s1 z,bup ss bO⟩)
   iterate 3 refine Nh z hcc ?_
   exact R z (pF z hcc z)<|Ra z<|Wl (fun _ q=>⟨false,som<|ifF ax hcc,q.k<|s1 z,ss⟩)
  rintro bP _ ⟨ak,rfl,_,bQ⟩;revert bP;refine Wo ?_;obtain rfl:=som b9;exact Wr<|rtO<|b_ hr z ⟨bup (bup h1 G) bQ,z⟩
 have ay:=ifF aw a9;refine Ws<|Rq z z z<|Rw z<|Wc z (fun aa=>?_) (fun aa=>?_)
 ·refine Wq ?_;obtain ⟨bR,bb,bc⟩:=bdS<|ifT ay aa;refine Wt (fun a w=>∃(al:Bool),al=bR/\Sat 102 [(4,vB al)] a/\Below J.z J w) ?_ ?_
  ·refine Wd (X:=noX) 0 (pl_ 12 [1,8]) mo (by kernel_rfl) fun cx sf _=>?_
   have aR:=h6.e sf;refine dR z z (lN (vs:=vR x2 A2 N2 C2 A3 N3 C3 A1 N1 C1 A4 N4 C4) G_ p_ z z fid<|aR.row 0 8 z) ?_;have hl:=((h1.ag B).e G).e sf;have aS:=lt_ (lt_ h1.s G.s) sf.s;obtain ⟨bS,bT,az⟩:=bdS bb;refine dE z z (fc call157 z<|d_o bT (zt' L aS) a3 a4 V (W.g hl) (a5.g hl) (a6.g hl) (Y.g hl)<|ii z) (.inr fun _ _ h=>j_<|h.1) ?_;rintro _ _ ⟨sg,rfl⟩;refine dM z z z ?_
   rcases bs bS with H | H
   ·refine dRg z z z H z (lN (vs:=[sl A0 N0 C0]) o_ n_ z z fid<|(((hx.e G).e sf).e sg).row 0 1 z)<|dRg z z z H z (fd Y_ z)<|dRg z z z H z (l0 B_ z<|(aR.e sg).at z) ?_
    obtain ⟨_,bU,be⟩:=bdS<|ifT az H;have aT:=hl.e sg;refine c_n z z z H z (at_ (α:=Int) z_ z_3 z z z (Y.g aT) bU) ?_;rintro _ ⟨_,_,_,rfl,bV,bW,_⟩;obtain ⟨rfl,bX⟩:=a_5 bW;refine dRg z z z H z (l0 g_3 z<|bV.at0 z) ?_;obtain ⟨bY,bZ,bf⟩:=bdS be;refine dEg z z z H z (fc call139 z<|e_u bZ (zt' L<|lt_ aS sg.s) (a7.g aT) bX) (.inr fun _ _ h=>j_<|h.1) ?_;rintro _ _ ⟨c0,rfl,_⟩;exact dRg z z z H z (a_q z z)<|dR z z (pT z H z)<|dQ z z z<|pD (fun _ q=>⟨decide<|0<bY,som bf,q.k<|s1 z,bup (bup sf sg) c0⟩)
   iterate 5 refine dRn z z z H z ?_
   exact dEn z z z H z<|dRn z z z H z<|dR z z (pF z H z)<|dQ z z z<|pD (fun _ q=>⟨false,som<|ifF az H,q.k<|s1 z,bup sf sg⟩)
  rintro c1 _ ⟨al,rfl,_,c2⟩;revert c1;refine Wo ?_;obtain rfl:=som bc;exact Wr<|rtO<|b_ hr z ⟨bup (bup h1 G) c2,z⟩
 have aA:=ifF ay aa;refine Ws<|Rq z z z<|Rw z<|Wc z (fun ab=>?_) (fun ab=>?_)
 ·refine Wq ?_;obtain ⟨c3,bg,bh⟩:=bdS<|ifT aA ab;refine Wt (fun a w=>∃(am:Bool),am=c3/\Sat 102 [(4,vB am)] a/\Below J.z J w) ?_ ?_
  ·refine Wd (X:=noX) 0 (pl_ 12 [1,8]) mo (by kernel_rfl) fun cy sh _=>?_
   have aU:=h6.e sh;refine dR z z (lN (vs:=vR x2 A2 N2 C2 A3 N3 C3 A1 N1 C1 A4 N4 C4) G_ p_ z z fid<|aU.row 0 8 z) ?_;have hn:=((h1.ag B).e G).e sh;have aV:=lt_ (lt_ h1.s G.s) sh.s;obtain ⟨c4,c5,aB⟩:=bdS bg;refine dE z z (fc call157 z<|d_o c5 (zt' L aV) a3 a4 V (W.g hn) (a5.g hn) (a6.g hn) (Y.g hn)<|ii z) (.inr fun _ _ h=>j_<|h.1) ?_;rintro _ _ ⟨si,rfl⟩;refine dM z z z ?_
   rcases bs c4 with I | I
   ·refine dRg z z z I z (lN (vs:=[sl A0 N0 C0]) o_ n_ z z fid<|(((hx.e G).e sh).e si).row 0 1 z)<|dRg z z z I z (fd Y_ z)<|dRg z z z I z (l0 B_ z<|(aU.e si).at z) ?_
    obtain ⟨_,c6,bi⟩:=bdS<|ifT aB I;have aW:=hn.e si;refine c_n z z z I z (at_ (α:=Int) z_ z_3 z z z (Y.g aW) c6) ?_;rintro _ ⟨_,_,_,rfl,c7,c8,_⟩;obtain ⟨rfl,c9⟩:=a_5 c8;refine dRg z z z I z (l0 g_3 z<|c7.at0 z) ?_;obtain ⟨ca,cb,bj⟩:=bdS bi;refine dEg z z z I z (fc call139 z<|e_u cb (zt' L<|lt_ aV si.s) (a7.g aW) c9) (.inr fun _ _ h=>j_<|h.1) ?_;rintro _ _ ⟨cc,rfl,_⟩;exact dRg z z z I z (a_q z z)<|dR z z (pT z I z)<|dQ z z z<|pD (fun _ q=>⟨decide<|0<ca,som bj,q.k<|s1 z,bup (bup sh si) cc⟩)
   iterate 5 refine dRn z z z I z ?_
   exact dEn z z z I z<|dRn z z z I z<|dR z z (pF z I z)<|dQ z z z<|pD (fun _ q=>⟨false,som<|ifF aB I,q.k<|s1 z,bup sh si⟩)
  rintro cd _ ⟨am,rfl,_,ce⟩;revert cd;refine Wo ?_;obtain rfl:=som bh;exact Wr<|rtO<|b_ hr z ⟨bup (bup h1 G) ce,z⟩
 have aC:=ifF aA ab;refine Ws<|Rq z z z<|Rw z<|Wc z (fun ad=>?_) (fun ad=>?_)
 ·refine Ws<|R z (lN (vs:=vR x2 A2 N2 C2 A3 N3 C3 A1 N1 C1 A4 N4 C4) G_ p_ z z fid<|h6.row 0 8 z) ?_
  have hu:=(h1.ag B).e G;obtain ⟨_,cf,bk⟩:=bdS<|ifT aC ad;refine E z (fc call158 z<|W_w2v cf (zt' L<|lt_ h1.s G.s) a3 a4 V (W.g hu) (a5.g hu) (a6.g hu)<|Y.g hu) ?_;rintro _ _ ⟨cg,rfl⟩;refine Rw z ?_
  obtain rfl:=som bk;exact Wr<|rtO<|b_ hr z ⟨bup (bup h1 G) cg,z⟩
 have aD:=ifF aC ad;refine Ws<|Rq z z z<|Rw z<|Wc z (fun ae=>?_) (fun ae=>?_)
 ·refine Ws<|R z (lN (vs:=[sl A0 N0 C0]) o_ n_ z z fid<|(hx.e G).row 0 1 z)<|R z (lN (vs:=vR x2 A2 N2 C2 A3 N3 C3 A1 N1 C1 A4 N4 C4) G_ p_ z z fid<|h6.row 0 8 z) ?_
  have ho:=(h1.ag B).e G;obtain ⟨_,ch,bm⟩:=bdS<|ifT aD ae;refine E z (fc call159 z<|W_w2w ch (zt' L<|lt_ h1.s G.s) (a7.g ho) a3 a4 V (W.g ho) (a5.g ho) (a6.g ho)<|Y.g ho) ?_;rintro _ _ ⟨ci,rfl⟩;refine Rw z ?_
  obtain rfl:=som bm;exact Wr<|rtO<|b_ hr z ⟨bup (bup h1 G) ci,z⟩
 refine Wq<|Ws<|Rq z z z<|Rw z ?_
 obtain ⟨cj,aE,aF⟩:=bdS<|ifF aD ae;refine Wt (fun a w=>∃(an:Bool),an=cj/\Sat 102 [(3,pt ww.z),(6,vI x2.kind),(80,vB an)] a/\Below J.z J w) ?_ ?_
 ·refine Wc z (fun af=>?_)<|fun af=>?_
  ·exact a_s<|fun _ q=>⟨x2.kind==8,som<|ifT aE af,q.k<|s3 z z z,br J⟩
  exact Wg<|Rq z z z<|Ra z<|Wl (fun _ q=>⟨x2.kind==9,som<|ifF aE af,q.k<|s3 z z z,br J⟩)
 rintro ck aX ⟨an,rfl,_,sd⟩;revert ck;refine Wo<|Wc z (fun ah=>?_) (fun ah=>?_)
 ·refine Ws<|R z (lN (vs:=vR x2 A2 N2 C2 A3 N3 C3 A1 N1 C1 A4 N4 C4) G_ p_ z z fid<|(h6.e sd).row 0 8 z) ?_
  have hv:=((h1.ag B).e G).e sd;obtain ⟨_,cl,bn⟩:=bdS<|ifT aF ah;refine E z (fc call157 z<|d_o cl (zt' L<|lt_ (lt_ h1.s G.s) sd.s) a3 a4 V (W.g hv) (a5.g hv) (a6.g hv) (Y.g hv)<|ii z) ?_;rintro _ _ ⟨cm,rfl⟩;refine Rw z ?_
  obtain rfl:=som bn;exact Wr<|rtO<|b_ hr z ⟨bup (bup (bup h1 G) sd) cm,z⟩
 have aG:=ifF aF ah;refine Ws<|Rq z z z<|Rw z<|Wc z (fun ai=>?_) (fun ai=>?_)
 ·refine Wq ?_;obtain ⟨cn,bo,bp⟩:=bdS<|ifT aG ai;refine Wt (fun a w=>∃(ao:Bool),ao=cn/\Sat 102 [(4,vB ao)] a/\Below aX.z aX w) ?_ ?_
  ·refine Wg ?_;have aY:=h6.e sd;refine R z (lN (vs:=vR x2 A2 N2 C2 A3 N3 C3 A1 N1 C1 A4 N4 C4) G_ p_ z z fid<|aY.row 0 8 z) ?_;have hp:=((h1.ag B).e G).e sd;obtain ⟨co,cp,aH⟩:=bdS bo;refine E z (fc call157 z<|d_o cp (zt' L<|lt_ (lt_ h1.s G.s) sd.s) a3 a4 V (W.g hp) (a5.g hp) (a6.g hp) (Y.g hp)<|ii z) ?_;rintro _ _ ⟨sm,rfl⟩;refine Rm z ?_
   rcases bs co with a2 | a2
   ·have aI:=ifT aH a2;refine Rh z a2 (fd b_g z) ?_;have aZ:=aY.e sm;refine Rh z a2 (l0 U_ z<|aZ.at z) ?_;have b0:=W.g<|hp.e sm
    refine Rh z a2 (lnR l_ z b0)<|Rh z a2 (eql z z)<|R z (pT z a2 z)<|Rm z ?_
    rcases bs ((x2.bytes.length:Int)==1) with a0 | a0
    ·refine Rh z a0 (fd b_g z)<|Rh z a0 (l0 U_ z<|aZ.at z) ?_
     obtain ⟨cq,cr,bq⟩:=bdS<|ifT aI a0;refine RXg z z a0 z (at_ (α:=UInt8) l_ z_5 z z z b0 cr) ?_;rintro _ ⟨_,_,_,rfl,ct,cu,_⟩;obtain rfl:=u8 cu;exact Rh z a0 (l0 g_5 z<|ct.at0 z)<|Rh z a0 (nq z z)<|R z (pT z a0 z)<|Ra z<|Wl (fun _ q=>⟨(byteI cq) != (byteI (92:UInt8)),som bq,q.k<|s1 z,sm⟩)
    iterate 5 refine Nh z a0 ?_
    exact R z (pF z a0 z)<|Ra z<|Wl (fun _ q=>⟨false,som<|ifF aI a0,q.k<|s1 z,sm⟩)
   iterate 4 refine Nh z a2 ?_
   exact R z (pF z a2 z)<|Rm z<|Nh z z<|Nh z z<|Nh z z<|Nh z z<|Nh z z<|R z (pF z z z)<|Ra z<|Wl (fun _ q=>⟨false,som<|ifF aH a2,q.k<|s1 z,sm⟩)
  rintro cv _ ⟨ao,rfl,_,cw⟩;revert cv;refine Wo ?_;obtain rfl:=som bp;exact Wr<|rtO<|b_ hr z ⟨bup (bup (bup h1 G) sd) cw,z⟩
 refine Wk<|Ws<|Rw z ?_
 obtain rfl:=som<|ifF aG ai;exact Wr<|b_ hr z ⟨bup (bup h1 G) sd,z⟩
theorem W_w2y {x1:d_}{x2:Int}{res:Bool}(hm:g_R n x1 x2=some res)(V:B<=w0.z)(O:repS w0 B (sl A0 N0 C0) x1.rules)(aU:inI x2):h_ prog 132 [(.agg #[sl A0 N0 C0]),vI x2] w0 (Q7 w0 B res):=by
 unfold g_R at hm
 refine goG func132 z z z fun fn hr=>Ws<|E z (fb z) ?_
 rintro _ bh ⟨rfl,am⟩;have h2:=am.below;have ho:Blk bh w0.z [sl A0 N0 C0]:=am.blk;refine Rw z<|Wq<|Ws<|R z (lN (vs:=[sl A0 N0 C0]) o_ n_ z z fid<|ho.row 0 1 z)<|Rm z ?_
 obtain ⟨_,bi,a8⟩:=bdS hm;refine E z (fc call96 z<|k_m bi (zt' V h2.s) (O.e h2) aU) ?_;rintro _ J ⟨s5,rfl⟩;refine R z (not_ z)<|Wx z (fun hcp=>?_) (fun hcp=>?_)
 ·refine Ws<|Rw z ?_
  obtain rfl:=som<|ifT a8 hcp;exact Wr<|b_ hr z ⟨bup h2 s5,z⟩
 refine Wk<|Ws<|Rf z a_c z ?_
 have an:=ho.e s5;refine R z (l0 a_e z<|an.at z)<|Rm z ?_
 obtain ⟨L,bj,aV⟩:=bdS<|ifF a8 hcp;have ao:=(h2.ag B).e s5;refine RX z (at_ (α:=e_) a_1 p_ z z z (O.g ao) bj) ?_;rintro _ ⟨_,_,_,rfl,bk,bm,_⟩;obtain ⟨aq,nr,cs,au,nt,cv,aw,nx,cy,ae,nf,cg,rfl,ap,bn,bo,bp,bq,bt,hj⟩:=a_y bm;refine R z (lN (vs:=vR L aq nr cs au nt cv aw nx cy ae nf cg) G_ p_ z z fid bk)<|E z (fa b_X) ?_
 rintro _ bu ⟨rfl,ar⟩;have h4:=ar.below;have av:Blk bu J.z [(Str.v (⟨[]⟩:Str)),vI 0,vI 0,vB false,sl none 0 0,sl none 0 0,sl none 0 0,sl none 0 0]:=ar.blk;refine E0 (fs0 (cur':=vR L aq nr cs au nt cv aw nx cy ae nf cg) p_ z z av z z z z) ?_;rintro _ ax ⟨hk,bv⟩;have h3:=bv.one;refine Wn<|Wq<|Wq ?_
 obtain ⟨bw,aW,a9⟩:=bdS aV;refine Wt (fun a w=>∃(xz:Bool),xz=bw/\Sat 65 [(1,vI x2),(2,pt w0.z),(5,pt J.z),(31,vB xz)] a/\Below ax.z ax w) ?_ ?_
 ·refine Wg<|Rf z d_j z<|R z (l0 g_9 z<|hk.at z) ?_
  obtain ⟨bx,bz,aa⟩:=bdS aW;refine E z (fc call143 z<|k_n bz (zt' V<|lt_ (lt_ (lt_ h2.s s5.s) h4.s) h3.s) ap) ?_;rintro _ _ ⟨sm,rfl⟩;refine R z (not_ z)<|Rm z ?_
  rcases bs (!bx) with G | G
  ·iterate 3 refine Nh z G ?_
   exact Nv z<|Nv z<|Nv z<|Nh z G<|R z (pT z G z)<|Wl (fun _ q=>⟨true,som<|ifT aa G,q.k<|s4 z z z z,sm⟩)
  have ab:=ifF aa G;refine Rh z G (fd d_k z) ?_;have ay:=hk.e sm;refine Rh z G (l0 g_4 z<|ay.at z)<|Rh z G (mv z) ?_
  rcases bs L.little with H | H
  ·exact Rh z H (fd a_n z)<|Rh z H (l0 g_3 z<|ay.at z)<|Rh z H (nq z z)<|Rh z G (pT z H z)<|R z (pF z G z)<|Wl (fun _ q=>⟨L.kind != 1,som<|ifT ab H,q.k<|s4 z z z z,sm⟩)
  iterate 3 refine Nh z H ?_
  exact Rh z G (pF z H z)<|R z (pF z G z)<|Wl (fun _ q=>⟨false,som<|ifF ab H,q.k<|s4 z z z z,sm⟩)
 rintro bA wh ⟨xz,rfl,_,s1⟩;revert bA;refine Wo<|Wc z (fun W=>?_) (fun W=>?_)
 ·refine Ws<|Rw z ?_
  obtain rfl:=som<|ifT a9 W;exact Wr<|b_ hr z ⟨bup (bM (bup (bup h2 s5) h4) h3<|m1<|lt_ h2.s s5.s) s1,z⟩
 refine Wk<|Wq<|Ws<|Rf z a_c z ?_
 have az:=((an.e h4).c h3<|djs<|mm1 ho.lt s5.s).e s1;refine R z (l0 a_e z<|az.at z)<|Rm z ?_
 obtain ⟨bB,bC,aX⟩:=bdS<|ifF a9 W;have hd:=lt_ h2.s s5.s;have aA:∀k∈[J.z],¬B k:=or0 (f_ lr)<|t_<|zt' V hd;have aB:=((ao.e h4).c h3<|g_ aA).e s1;refine RX z (rX a_1 p_ z z (O.g aB) z z bC) ?_;rintro _ ⟨bD,bE,bF,rfl,a1⟩;refine R z (lnR a_1 z a1)<|Rm z<|Wn ?_
 obtain ⟨_,aY,ad⟩:=bdS aX;refine Wf (σ:=Unit) (ρ:=Bool) (fun (aC:Nat)(_:Unit) a w=>Sat 65 [(1,vI x2),(2,pt w0.z),(5,pt J.z),(35,sl bD bE bF),(36,vI (bB.length:Int)),(37,vI ((aC:Nat):Int))] a/\Below wh.z wh w) (fun (_:Unit) a w=>Sat 65 [(1,vI x2),(2,pt w0.z),(5,pt J.z)] a/\Below wh.z wh w) (rQ prog fn<|Q7 w0 B) aY ?_ ?_ ?_ ?_ ?_
 ·exact fun _ q=>⟨q.k<|s6 z z z z z z,br wh⟩
 ·rintro aC _ _ bG _ af ⟨aZ,sa⟩ b0;refine Wu ?_ aZ;refine Ws<|Rl z z z<|Wn<|Wq<|Wc z (fun _=>?_) (fun hc=>(L_ af hc).elim)
  refine Wk<|Wq<|Wb<|Ws ?_
  obtain ⟨aD,bH,ah⟩:=bdS b0;refine RX z (at_ (α:=e_) a_1 p_ z z z (a1.e sa) bH) ?_;rintro _ ⟨_,_,_,rfl,bI,bJ,_⟩;obtain ⟨aE,aF,aG,aH,aI,aJ,aK,aL,aM,aN,aO,aP,rfl,_,_,_,_,_,_,_⟩:=a_y bJ;refine R z (lN (vs:=vR aD aE aF aG aH aI aJ aK aL aM aN aO aP) G_ p_ z z fid bI)<|E z (fa b_X) ?_
  rintro _ bK ⟨rfl,aQ⟩;have a2:=aQ.below;refine E0 (fs0 (cur':=vR aD aE aF aG aH aI aJ aK aL aM aN aO aP) p_ z z (aQ.blk:Blk bK bG.z [(Str.v (⟨[]⟩:Str)),vI 0,vI 0,vB false,sl none 0 0,sl none 0 0,sl none 0 0,sl none 0 0]) z z z z) ?_;rintro _ _ ⟨bL,bN⟩;have a3:=bN.one;refine Wn<|Ws<|Rf z d_j z<|R z (l0 g_9 z<|bL.at z)<|Rf z d_j z<|R z (l0 g_9 z<|((((hk.e s1).e sa).e a2).c a3<|djs<|mm1 av.lt<|lt_ (lt_ h3.s s1.s) sa.s).at z)<|R z (b_6 z z)<|Wx z (fun Y=>?_) (fun Y=>?_)
  ·exact Ws<|Rw z<|Wr<|rtO<|qL (som<|ifT ah Y).symm<|b_ hr z ⟨bM (bup (bup (bup (bM (bup (bup h2 s5) h4) h3<|m1 hd) s1) sa) a2) a3<|m1<|lt_ (lt_ (lt_ (lt_ hd h4.s) h3.s) s1.s) sa.s,z⟩
  exact Wk<|Wg<|R z (inc_ af (lt_ (repS.len a1) v_) z z)<|Rm z<|Wl (fun _ q=>⟨(),(som<|ifF ah Y).symm,⟨q.k<|s6 z z z z z z,bM (bup sa a2) a3<|m1 sa.s⟩⟩)
 ·rintro _ _ _ ⟨b3,bO⟩;refine Wu ?_ b3;refine Ws<|Rl z z z<|Wn<|Wq<|Wc z (fun hc=>(M_ hc).elim) (fun _=>?_)
  exact We<|fun _ q=>⟨rfl,⟨q.k<|s3 z z z,bO⟩⟩
 ·rintro _ bP wi rfl ⟨_,sb⟩;have b4:=elL ad;revert bP;refine Wo<|Wq<|Ws<|Rf z Y_ z ?_
  have aR:=(hk.e s1).e sb;refine R z (l0 B_ z<|aR.at z) ?_;have a4:=(((h4.ag B).c h3<|g_ aA).e s1).e sb;refine R z (lnR z_ z<|hj.g a4)<|Rm z<|Wn ?_
  obtain ⟨_,b5,ai⟩:=bdS b4;refine Wf (σ:=Unit) (ρ:=Bool) (fun (a5:Nat)(_:Unit) a w=>Sat 65 [(1,vI x2),(2,pt w0.z),(5,pt J.z),(48,sl ae nf cg),(49,vI (L.kids.length:Int)),(50,vI ((a5:Nat):Int))] a/\Below wi.z wi w) (fun (_:Unit) a w=>Sat 65 [(2,pt w0.z),(5,pt J.z)] a/\Below wi.z wi w) (rQ prog fn<|Q7 w0 B) b5 ?_ ?_ ?_ ?_ ?_
  ·exact fun _ q=>⟨q.k<|s6 z z z z z z,br wi⟩
  ·rintro a5 _ _ wl _ aj ⟨b6,a6⟩ b7;refine Wu ?_ b6;refine Ws<|Rl z z z<|Wn<|Wq<|Wc z (fun _=>?_) (fun hc=>(L_ aj hc).elim)
   refine Wk<|Wq<|Wb<|Ws ?_
   obtain ⟨aS,bQ,b8⟩:=bdS b7;refine RX z (at_ (α:=Int) z_ z_3 z z z (hj.g<|a4.e a6) bQ) ?_;rintro _ ⟨_,_,_,rfl,bR,bS,_⟩;obtain ⟨rfl,_⟩:=a_5 bS;refine R z (l0 g_3 z<|bR.at0 z)<|Rw z<|Wq ?_
   obtain ⟨bT,ak,al⟩:=bdS b8;refine Wt (fun a w=>∃(a7:Bool),a7=bT/\Sat 65 [(1,vI x2),(2,pt w0.z),(5,pt J.z),(48,sl ae nf cg),(49,vI (L.kids.length:Int)),(50,vI ((a5:Nat):Int)),(60,vB a7)] a/\Below wl.z wl w) ?_ ?_
   ·refine Wg<|Rm z<|Rl z z z<|Rm z ?_
    rcases bs (decide<|aS<0) with I | I
    ·iterate 3 refine Nh z I ?_
     exact R z (pT z I z)<|Wl (fun _ q=>⟨true,som<|ifT ak I,q.k<|s7 z z z z z z z,br wl⟩)
    exact Rh z I (mv z)<|Rh z I (mv z)<|Rh z I (b_K z z)<|R z (pF z I z)<|Wl (fun _ q=>⟨decide<|x2<=aS,som<|ifF ak I,q.k<|s7 z z z z z z z,br wl⟩)
   rintro bU _ ⟨a7,rfl,_,aT⟩;revert bU;refine Wo<|Wc z (fun a0=>?_) (fun a0=>?_)
   ·exact Ws<|Rw z<|Wr<|rtO<|qL (som<|ifT al a0).symm<|b_ hr z ⟨bup (bup (bup (bup (bM (bup (bup h2 s5) h4) h3<|m1 hd) s1) sb) a6) aT,z⟩
   exact Wk<|Wg<|R z (inc_ aj (lt_ (repS.len hj) v_) z z)<|Rm z<|Wl (fun _ q=>⟨(),(som<|ifF al a0).symm,⟨q.k<|s6 z z z z z z,bup a6 aT⟩⟩)
  ·rintro _ _ _ ⟨b9,bV⟩;refine Wu ?_ b9;refine Ws<|Rl z z z<|Wn<|Wq<|Wc z (fun hc=>(M_ hc).elim) (fun _=>?_)
   exact We<|fun _ q=>⟨rfl,⟨q.k<|s2 z z,bV⟩⟩
  ·rintro _ bW _ rfl ⟨_,sc⟩;have ba:=elL ai;revert bW;refine Wo<|Ws<|R z (lN (vs:=[sl A0 N0 C0]) o_ n_ z z fid<|((az.e sb).e sc).row 0 1 z)<|R z (lN (vs:=vR L aq nr cs au nt cv aw nx cy ae nf cg) G_ p_ z z fid<|(aR.e sc).row 0 8 z) ?_
   have hn:=a4.e sc;obtain ⟨_,bX,bb⟩:=bdS ba;refine E z (fc call148 z<|W_w2x bX (zt' V<|lt_ (lt_ (lt_ (lt_ (lt_ hd h4.s) h3.s) s1.s) sb.s) sc.s) (O.g<|(aB.e sb).e sc) ap bn bo (bp.g hn) (bq.g hn) (bt.g hn)<|hj.g hn) ?_;rintro _ _ ⟨bY,rfl⟩;refine Rw z ?_
   obtain rfl:=som bb;exact Wr<|b_ hr z ⟨bup (bup (bup (bup (bM (bup (bup h2 s5) h4) h3<|m1 hd) s1) sb) sc) bY,z⟩
  rintro _ _ _ _ rfl ⟨rfl,bc⟩;have be:=elR ai;obtain rfl:=som be;exact ⟨bc,z⟩
 rintro _ _ _ _ rfl ⟨rfl,bf⟩;have bg:=elR ad;obtain rfl:=som bg;exact ⟨bf,z⟩
theorem W_w2z {x1:d_}{res:Bool}(hm:g_S n x1=some res)(V:B<=w0.z)(H:repS w0 B (sl A0 N0 C0) x1.rules):h_ prog 95 [(.agg #[sl A0 N0 C0])] w0 (Q7 w0 B res):=by
 unfold g_S at hm
 refine goG func95 z z z fun fn hr=>Ws<|E z (fb z) ?_
 rintro _ wh ⟨rfl,W⟩;have G:=W.below;have Y:Blk wh w0.z [sl A0 N0 C0]:=W.blk;refine Rw z<|Wq<|Ws<|Rf z a_c z<|R z (l0 a_e z<|Y.at z) ?_
 have h9:=H.e G;refine R z (lnR a_1 z h9) ?_;obtain ⟨_,ei,hma⟩:=bdS hm;refine E z (fc call131 z<|d_n ei (zt' V G.s) (b_F<|repS.len h9) (ii z)<|ii z) ?_;rintro _ I ⟨s1,rfl⟩;refine R z (not_ z)<|Wx z (fun J=>?_) (fun J=>?_)
 ·refine Ws<|Rw z ?_
  obtain rfl:=som<|ifT hma J;exact Wr<|b_ hr z ⟨bup G s1,z⟩
 refine Wk<|Wq<|Ws<|Rf z a_c z ?_
 have hb:=Y.e s1;refine R z (l0 a_e z<|hb.at z) ?_;have hd:=(G.ag B).e s1;refine R z (lnR a_1 z<|H.g hd)<|Rm z<|Wn ?_
 obtain ⟨_,huj,hmc⟩:=bdS<|ifF hma J;refine Wf (σ:=Unit) (ρ:=Bool) (fun (ke:Nat)(_:Unit) a w=>Sat 20 [(1,pt w0.z),(11,vI (x1.rules.length:Int)),(12,vI ((ke:Nat):Int))] a/\Below I.z I w) (fun (_:Unit) a w=>Sat 20 [] a/\Below I.z I w) (rQ prog fn<|Q7 w0 B) huj ?_ ?_ ?_ ?_ ?_
 ·exact fun _ q=>⟨q.k<|s3 z z z,br I⟩
 ·rintro ke _ _ _ _ L ⟨hSk,s4⟩ hml;refine Wu ?_ hSk;refine Ws<|Rl z z z<|Wn<|Wq<|Wc z (fun _=>?_) (fun hc=>(L_ L hc).elim)
  refine Wk<|Wq<|Wb<|Wm z<|Rw z<|Ws<|R z (lN (vs:=[sl A0 N0 C0]) o_ n_ z z fid<|(hb.e s4).row 0 1 z)<|Rm z ?_
  obtain ⟨_,em,hmf⟩:=bdS hml;refine E z (fc call132 z<|W_w2y em (zt' V<|lt_ (lt_ G.s s1.s) s4.s) (H.g<|hd.e s4)<|ic (Nat.le_of_lt L)<|lt_ (repS.len H) v_) ?_;rintro _ _ ⟨sg,rfl⟩;refine R z (not_ z)<|Wx z (fun O=>?_) (fun O=>?_)
  ·exact Ws<|Rw z<|Wr<|rtO<|qL (som<|ifT hmf O).symm<|b_ hr z ⟨bup (bup (bup G s1) s4) sg,z⟩
  exact Wk<|Wg<|R z (inc_ L (lt_ (repS.len H) v_) z z)<|Rm z<|Wl (fun _ q=>⟨(),(som<|ifF hmf O).symm,⟨q.k<|s3 z z z,bup s4 sg⟩⟩)
 ·rintro _ _ _ ⟨hSn,so⟩;refine Wu ?_ hSn;refine Ws<|Rl z z z<|Wn<|Wq<|Wc z (fun hc=>(M_ hc).elim) (fun _=>?_)
  exact We<|fun _ q=>⟨rfl,⟨q.k sn,so⟩⟩
 ·rintro _ ap _ rfl ⟨_,sq⟩;have hmr:=elL hmc;revert ap;refine Wo<|Ws<|Rw z ?_
  obtain rfl:=som hmr;exact Wr<|b_ hr z ⟨bup (bup G s1) sq,z⟩
 rintro _ _ _ _ rfl ⟨rfl,hqs⟩;have hmt:=elR hmc;obtain rfl:=som hmt;exact ⟨hqs,z⟩
theorem i_p {x1:d_}{x2:Int}{res:Bool}(hm:e_1 n x1 x2=some res)(J:B<=w0.z)(I:repS w0 B (sl A0 N0 C0) x1.rules)(O:inI x2):h_ prog 65 [(.agg #[sl A0 N0 C0]),vI x2] w0 (Q7 w0 B res):=by
 unfold e_1 at hm
 refine goG func65 z z z fun fn hr=>Ws<|E z (fb z) ?_
 rintro _ H ⟨rfl,h5⟩;have h1:=h5.below;have h6:Blk H w0.z [sl A0 N0 C0]:=h5.blk;refine Rw z<|Wq ?_
 obtain ⟨u8,V,hma⟩:=bdS hm;refine Wt (fun a w=>∃(x4:Bool),x4=u8/\Sat 12 [(4,vB x4)] a/\Below H.z H w) ?_ ?_
 ·refine Wg<|R z (lN (vs:=[sl A0 N0 C0]) o_ n_ z z fid<|h6.row 0 1 z) ?_
  obtain ⟨rb,ec,L⟩:=bdS V;refine E z (fc call95 z<|W_w2z ec (zt' J h1.s)<|I.e h1) ?_;rintro _ _ ⟨s2,rfl⟩;refine Rm z ?_
  rcases bs rb with G | G
  ·refine Rh z G (lN (vs:=[sl A0 N0 C0]) o_ n_ z z fid<|(h6.e s2).row 0 1 z)<|Rh z G (mv z) ?_
   obtain ⟨rd,ee,hmf⟩:=bdS<|ifT L G;refine Eg z z G z (fc call96 z<|k_m ee (zt' J<|lt_ h1.s s2.s) (I.g<|(h1.ag B).e s2) O) ?_;rintro _ _ ⟨sg,rfl⟩;exact R z (pT z G z)<|Ra z<|Wl (fun _ q=>⟨rd,som hmf,q.k<|s1 z,bup s2 sg⟩)
  iterate 3 refine Nh z G ?_
  exact R z (pF z G z)<|Ra z<|Wl (fun _ q=>⟨false,som<|ifF L G,q.k<|s1 z,s2⟩)
 rintro ah _ ⟨x4,rfl,_,si⟩;revert ah;refine Wo ?_;obtain rfl:=som hma;exact Wr<|b_ hr z ⟨bup h1 si,z⟩
def Q17 (w0:World)(B:Zone)(r:(Option<|Int×Int))(v:Value)(w':World):Prop:=Bw w0 w'/\(fun G=>∃(v1:Value)(S1:List Nat),v1=v/\a_t 106 w' S1 v1 G/\(∀k∈S1,w0.z<=k)) r
theorem d_S {x1:Int}{x2:Int}{res:(Option<|Int×Int)}(hm:b_C x1 x2=some res)(L:B<=w0.z)(H:inI x1)(I:inI x2):h_ prog 106 [vI x1,vI x2] w0 (Q17 w0 B res):=by
 unfold b_C at hm
 refine goG func106 z z z fun fn hr=>Ws<|Rw z<|Wm z<|Rm z<|R z (bP (parts:=[(0,.tmp 5),(1,.tmp 6)]) (cs:=[vI x1,vI x2]) r_j z z)<|E z (fb z) ?_
 rintro _ J ⟨rfl,G⟩;refine R z (c_I d_106 (fun _ h=>by cases h) z)<|Rw z ?_
 obtain rfl:=som hm;exact Wr<|b_ hr z ⟨G.below,.iface 106<|pt w0.z,[w0.z],z,o_l (G.blk:Blk J w0.z [vI x1,vI x2]) H I z,f_ lr⟩
def Q18 (w0:World)(B:Zone)(r:(List UInt8)×(Option<|Int×Int))(v:Value)(w':World):Prop:=Bw w0 w'/\un2 (fun J L=>∃(G:Option Addr)(H I:Nat)(v2:Value)(S2:List Nat),v = .tuple #[sl G H I,v2]/\repS w' w'.z (sl G H I) J/\a_t 106 w' S2 v2 L/\(∀k∈S2,w0.z<=k)) r
theorem i_q {x1:a_l}{b1 o1:Nat}{x2:Int}{x3:Int}{res:(List UInt8)×(Option<|Int×Int)}(hm:e_2 x1 x2 x3=some res)(I:B<=w0.z)(a0:repS w0 B (sl A0 N0 C0) x1.d.rules)(H:repS w0 B (sl A8 N8 C8) x1.b)(hC1:C_ w0 b1 o1 [sl A0 N0 C0,sl A8 N8 C8])(hC1b:B b1)(J:inI x2)(a1:inI x3):h_ prog 133 [(.pointer<|some ⟨b1,o1,none⟩),vI x2,vI x3] w0 (Q18 w0 B res):=by
 unfold e_2 at hm
 refine goG func133 z z z fun fn hr=>Ws<|Ra z<|Rw z<|Wq<|Wm z<|Rm z<|R z (H_ z)<|Rf z f_l z<|R z (l0 U_ z<|hC1.at (j:=1) z)<|R z (lnR l_ z H)<|Rm z<|R z (sb_ z z)<|R z (a_q z z)<|Wx z (fun G=>?_) (fun G=>?_)
 ·refine Wm z ?_
  obtain ⟨_,V,L⟩:=bdS<|ifT hm G;refine E z (fc call106 z<|d_S (B:=B) V I J<|ii z) ?_;rintro _ _ ⟨s1,v4,W,rfl,h6,Y⟩;refine Ra z<|Rw z ?_
  obtain rfl:=som L;exact Wr<|a_P hr z z ⟨s1,none,0,0,v4,W,z,repS.mono (or_ onL an_)<|Z_ s1.s,h6,Y⟩
 refine Wk<|Wm z<|R z (H_ z)<|Rf z f_l z<|R z (l0 U_ z<|hC1.at (j:=1) z)<|RM z z<|Rm z<|R z (add_ z z) ?_
 obtain ⟨_,e8,O⟩:=bdS<|ifF hm G;refine RX z (rX l_ z_5 z z H z z e8) ?_;rintro _ ⟨aa,nb,cc,rfl,hd⟩;refine Ra z<|Rw z ?_
 obtain rfl:=som O;exact Wr<|a_P hr z z ⟨br w0,aa,nb,cc,.nilIface,([]:List Nat),z,repS.mono hd I,d_C,an_⟩
theorem W_w30 {x1:List UInt8}{x2:Bool}{res:Int}(hm:g_T x1 x2=some res)(W:B<=w0.z)(G:repS w0 B (sl A0 N0 C0) x1):h_ prog 134 [sl A0 N0 C0,vB x2] w0 (Q0 w0 B res):=by
 unfold g_T at hm
 refine goG func134 z z z fun fn hr=>Ws<|Rw z<|Wq<|Wm z<|R z (lnR l_ z G)<|R z (a_q z z)<|Wx z (fun I=>?_) (fun I=>?_)
 ·refine Ws<|Rw z ?_
  obtain rfl:=som<|ifT hm I;exact Wr<|b_ hr z ⟨br w0,z,ii z⟩
 refine Wk<|Ws<|Rw z<|Wq<|Wm z<|R z (lnR l_ z G)<|Rm z<|Wn ?_
 obtain ⟨_,huc,L⟩:=bdS<|ifF hm I;refine Wf (σ:=Int) (ρ:=Int) (fun (k5:Nat)(x0:Int) a w=>Sat 38 [(0,sl A0 N0 C0),(1,vB x2),(5,vI x0),(11,vI (x1.length:Int)),(12,vI ((k5:Nat):Int))] a/\Below w0.z w0 w/\inI x0) (fun (x0:Int) a w=>Sat 38 [(5,vI x0)] a/\Below w0.z w0 w/\inI x0) (rQ prog fn<|Q0 w0 B) huc ?_ ?_ ?_ ?_ ?_
 ·exact fun _ q=>⟨q.k<|s5 z z z z z,br w0,ii z⟩
 ·rintro k5 x0 _ H _ O ⟨hSd,s6,h2⟩ hme;refine Wu ?_ hSd;refine Ws<|Rl z z z<|Wn<|Wq<|Wc z (fun _=>?_) (fun hc=>(L_ O hc).elim)
  refine Wk<|Wq<|Wb<|Wm z<|Rw z<|Wm z<|Wn ?_
  obtain ⟨uf,hua,hmg⟩:=bdS hme;refine Wt (fun a w=>∃(x3:Int),x3=uf/\Sat 38 [(0,sl A0 N0 C0),(1,vB x2),(5,vI x3),(11,vI (x1.length:Int)),(12,vI ((k5:Nat):Int))] a/\Below H.z H w/\inI x3) ?_ ?_
  ·refine Wc z (fun J=>?_)<|fun J=>?_
   ·refine Wg<|Rm z<|R z (h_O z z (by decide))<|RM z z ?_
    have hb:=G.e s6;refine R z (lnR l_ z hb)<|R z (sb_ z z)<|Rm z<|R z (sb_ z z) ?_
    obtain ⟨xh,ei,hmj⟩:=bdS<|ifT hua J;refine RX z (at_ (α:=UInt8) l_ z_5 z z z hb ei) ?_;rintro _ ⟨_,_,_,rfl,hk,hl,_⟩;obtain rfl:=u8 hl;exact R z (l0 g_5 z<|hk.at0 z)<|R z (c_2 d_5 d_3 z)<|R z (rd_or z z)<|Ra z<|Wl (fun _ q=>⟨b_I .i64 (· ||| ·) (b_w .i64 x0 8)<|byteI xh,som hmj,q.k<|s5 z z z z z,br H,l_m _ _ _⟩)
   refine Wg<|Rm z<|R z (h_O z z (by decide))<|RM z z ?_
   obtain ⟨xm,en,hmo⟩:=bdS<|ifF hua J;refine RX z (at_ (α:=UInt8) l_ z_5 z z z (G.e s6) en) ?_;rintro _ ⟨_,_,_,rfl,hp,hq,_⟩;obtain rfl:=u8 hq;exact R z (l0 g_5 z<|hp.at0 z)<|R z (c_2 d_5 d_3 z)<|R z (rd_or z z)<|Ra z<|Wl (fun _ q=>⟨b_I .i64 (· ||| ·) (b_w .i64 x0 8)<|byteI xm,som hmo,q.k<|s5 z z z z z,br H,l_m _ _ _⟩)
  rintro ar _ ⟨x3,rfl,_,ss,ht⟩;revert ar;exact Wo<|Wg<|R z (inc_ O (lt_ (repS.len G) v_) z z)<|Rm z<|Wl (fun _ q=>⟨x3,(som hmg).symm,⟨q.k<|s5 z z z z z,bup s6 ss,ht⟩⟩)
 ·rintro x0 _ _ ⟨hSu,sv,h2⟩;refine Wu ?_ hSu;refine Ws<|Rl z z z<|Wn<|Wq<|Wc z (fun hc=>(M_ hc).elim) (fun _=>?_)
  exact We<|fun _ q=>⟨rfl,⟨q.k<|s1 z,sv,h2⟩⟩
 ·rintro x0 aw _ rfl ⟨_,sx,h2⟩;have hmy:=elL L;revert aw;refine Wo<|Wm z<|Rw z ?_
  obtain rfl:=som hmy;exact Wr<|b_ hr z ⟨sx,z,h2⟩
 rintro _ _ _ _ rfl ⟨rfl,hqz⟩;have V:=elR L;obtain rfl:=som V;exact ⟨hqz,z⟩
def Q19 (w0:World)(B:Zone)(r:Int×Int×(Option<|Int×Int))(v:Value)(w':World):Prop:=Bw w0 w'/\un3 (fun G H I=>∃(v1:Value)(S1:List Nat),v = .tuple #[vI G,vI H,v1]/\inI G/\inI H/\a_t 106 w' S1 v1 I/\(∀k∈S1,w0.z<=k)) r
theorem i_r {x1:a_l}{b1 o1:Nat}{x2:Int}{x3:Int}{res:Int×Int×(Option<|Int×Int)}(hm:e_3 x1 x2 x3=some res)(L:B<=w0.z)(I:repS w0 B (sl A0 N0 C0) x1.d.rules)(a0:repS w0 B (sl A8 N8 C8) x1.b)(hC1:C_ w0 b1 o1 [sl A0 N0 C0,sl A8 N8 C8])(hC1b:B b1)(ab:inI x2)(J:inI x3):h_ prog 97 [(.pointer<|some ⟨b1,o1,none⟩),vI x2,vI x3] w0 (Q19 w0 B res):=by
 unfold e_3 at hm
 refine goG func97 z z z fun fn hr=>Ws<|RA z z<|Rw z<|Wm z<|R z (H_ z)<|Rf z m_L z<|Rf z a_c z<|R z (l0 a_e z<|hC1.at (j:=0) z)<|Rm z ?_
 obtain ⟨x5,eq,hmr⟩:=bdS hm;refine RX z (at_ (α:=e_) a_1 p_ z z z I eq) ?_;rintro _ ⟨_,_,_,rfl,ht,hu,_⟩;obtain ⟨O,V,W,Y,na,cb,ac,nd,ce,af,ng,ch,rfl,_,_,hv,_,_,_,_⟩:=a_y hu;refine R z (lN (vs:=vR x5 O V W Y na cb ac nd ce af ng ch) G_ p_ z z fid ht)<|E z (fa b_X) ?_
 rintro _ ws ⟨rfl,hi⟩;have G:=hi.below;refine E0 (fs0 (cur':=vR x5 O V W Y na cb ac nd ce af ng ch) p_ z z (hi.blk:Blk ws w0.z [(Str.v (⟨[]⟩:Str)),vI 0,vI 0,vB false,sl none 0 0,sl none 0 0,sl none 0 0,sl none 0 0]) z z z z) ?_;rintro _ _ ⟨hj,sx⟩;have h1:=sx.one;refine Wn<|Wm z<|Rm z<|Rf z a_H z<|R z (l0 g_3 z<|hj.at z) ?_
 have hk:∀k∈[w0.z],¬B k:=or0 (f_ lr)<|t_ L;have hl:=(G.ag B).c h1<|g_ hk
 have hn:=lt_ G.s h1.s;obtain ⟨_,_,ey,hmm⟩:=c_1 hmr;refine E z (fc call133 z<|i_q ey (zt' L hn) (I.g hl) (a0.g hl) ((hC1.e G).c h1<|(g_ hk) _ hC1b) hC1b J hv) ?_;rintro _ wz ⟨s3,_,_,_,a2,a3,rfl,a4,ho,a5⟩;refine Rm z<|Re z z z<|Re z z z<|Ra z<|Rw z<|Wq<|Wm z<|R z (c_V d_l z z ho)<|Wx z (fun H=>?_) (fun H=>?_)
 ·refine Wm z<|Rm z<|RA z z<|Rw z ?_
  obtain rfl:=som<|ifT hmm H;exact Wr<|w_ hr z z z ⟨bup (bM G h1<|f_ lr) s3,a2,a3,z,ii z,J,ho,m_ a5 hn⟩
 refine Wk<|Wq (Wd (X:=noX) 0 (.rd 0<|.rd 1<|.rd 2<|.rd 4<|.rd 5<|.rd 6<|.rd 7<|.ef 3<|.rd 8<|.rd 9<|.rd 10 .done) mo (by kernel_rfl) fun ad s2 _=>dM z z z<|dR z z (fd d_k z) ?_)
 have hp:=(hj.e s3).e s2;refine dR z z (l0 g_4 z<|hp.at z)<|dM z z z<|dR z z (fd a_H z)<|dR z z (l0 g_3 z<|hp.at z)<|dR z z (add_ z z) ?_
 obtain ⟨_,a7,a1⟩:=bdS<|ifF hmm H;refine dE z z (fc call134 z<|W_w30 (B:=wz.z) a7 (Z_ s2.s)<|a4.e s2) (.inr fun _ _ h=>j_<|h.1) ?_;rintro _ _ ⟨a8,rfl,aa⟩
 iterate 3 refine dQ z z z ?_
 refine pD<|Wo ?_
 obtain rfl:=som a1;exact Wr<|w_ hr z z z ⟨bup (bup (bup (bM G h1<|f_ lr) s3) s2) a8,.nilIface,([]:List Nat),z,aa,iA _ _,d_C,an_⟩
def Q20 (w0:World)(B:Zone)(r:Int×(Option<|Int×Int))(v:Value)(w':World):Prop:=Bw w0 w'/\un2 (fun G H=>∃(v1:Value)(S1:List Nat),v = .tuple #[vI G,v1]/\inI G/\a_t 106 w' S1 v1 H/\(∀k∈S1,w0.z<=k)) r
theorem W_w31 {x1:a_l}{b1 o1:Nat}{x2:e_}{x3:Int}{res:Int×(Option<|Int×Int)}(hm:g_W x1 x2 x3=some res)(V:B<=w0.z)(ad:repS w0 B (sl A0 N0 C0) x1.d.rules)(a0:repS w0 B (sl A8 N8 C8) x1.b)(hC1:C_ w0 b1 o1 [sl A0 N0 C0,sl A8 N8 C8])(hC1b:B b1)(ae:x2.name.b.length<=LEN)(af:inI x2.kind)(ah:inI x2.size)(I:repS w0 B (sl A2 N2 C2) x2.bytes)(ai:repS w0 B (sl A3 N3 C3) x2.names)(aj:repS w0 B (sl A1 N1 C1) x2.tags)(ak:repS w0 B (sl A4 N4 C4) x2.kids)(J:inI x3):h_ prog 98 [(.pointer<|some ⟨b1,o1,none⟩),.agg #[Str.v x2.name,vI x2.kind,vI x2.size,vB x2.little,sl A2 N2 C2,sl A3 N3 C3,sl A1 N1 C1,sl A4 N4 C4],vI x3] w0 (Q20 w0 B res):=by
 unfold g_W at hm
 refine goG func98 z z z fun fn hr=>Ws<|E z (fb z) ?_
 rintro _ H ⟨rfl,h6⟩;have G:=h6.below;have Y:Blk H w0.z (vR x2 A2 N2 C2 A3 N3 C3 A1 N1 C1 A4 N4 C4):=h6.blk;refine Ra z<|Rw z<|Wq<|Ws<|Rf z b_g z<|R z (l0 U_ z<|Y.at z)<|R z (lnR l_ z<|I.e G)<|Rm z<|Wn ?_
 obtain ⟨_,hui,W⟩:=bdS hm;refine Wf (σ:=Unit) (ρ:=Int×(Option<|Int×Int)) (fun (k9:Nat)(_:Unit) a w=>Sat 52 [(0,.pointer<|some ⟨b1,o1,none⟩),(2,vI x3),(4,pt w0.z),(11,sl A2 N2 C2),(12,vI (x2.bytes.length:Int)),(13,vI ((k9:Nat):Int))] a/\Below H.z H w) (fun (_:Unit) a w=>Sat 52 [(2,vI x3),(4,pt w0.z)] a/\Below H.z H w) (rQ prog fn<|Q20 w0 B) hui ?_ ?_ ?_ ?_ ?_
 ·exact fun _ q=>⟨q.k<|s6 z z z z z z,br H⟩
 ·rintro k9 _ _ _ _ hka ⟨hSj,s1⟩ hmk;refine Wu ?_ hSj;refine Ws<|Rl z z z<|Wn<|Wq<|Wc z (fun _=>?_) (fun hc=>(L_ hka hc).elim)
  refine Wk<|Wq<|Wb<|Wm z ?_
  obtain ⟨_,el,hmb⟩:=bdS hmk;have hd:=(G.ag B).e s1;refine RX z (at_ (α:=UInt8) l_ z_5 z z z (I.g hd) el) ?_;rintro _ ⟨_,_,_,rfl,hn,ho,_⟩;obtain rfl:=u8 ho;refine R z (l0 g_5 z<|hn.at0 z)<|Ra z<|Rw z<|Wq<|Wm z<|Rm z<|R z (add_ z z)<|Rm z<|R z (H_ z)<|Rf z f_l z ?_
  have he:=(hC1.e G).e s1;refine R z (l0 U_ z<|he.at (j:=1) z) ?_;have hf:=a0.g hd;refine R z (lnR l_ z hf)<|R z (b_K z z)<|Wx z (fun L=>?_) (fun L=>?_)
  ·refine Wm z<|Rm z ?_
   have hg:=lt_ G.s s1.s;obtain ⟨_,em,hmp⟩:=bdS<|ifT hmb L;refine E z (fc call106 z<|d_S em (zt' V hg) J<|ii z) ?_;rintro _ _ ⟨sq,vr,Ss,rfl,ht,hu⟩;exact Ra z<|Rw z<|Wr<|rtO<|qL (som hmp).symm<|a_P hr z z ⟨bup (bup G s1) sq,vr,Ss,z,J,ht,m_ hu hg⟩
  refine Wk<|Wm z<|R z (H_ z)<|Rf z f_l z<|R z (l0 U_ z<|he.at (j:=1) z)<|RM z z<|R z (add_ z z) ?_
  obtain ⟨_,ev,hmc⟩:=bdS<|ifF hmb L;refine RX z (at_ (α:=UInt8) l_ z_5 z z z hf ev) ?_;rintro _ ⟨_,_,_,rfl,hw,hx,_⟩;obtain rfl:=u8 hx;refine R z (l0 g_5 z<|hw.at0 z)<|Rm z<|R z (nq z z)<|Wx z (fun O=>?_) (fun O=>?_)
  ·refine Wm z<|RM z z<|R z (add_ z z) ?_
   have hh:=lt_ G.s s1.s;obtain ⟨_,ey,hmz⟩:=bdS<|ifT hmc O;refine E z (fc call106 z<|d_S ey (zt' V hh) (iA _ _)<|ii z) ?_;rintro _ _ ⟨a5,a6,a7,rfl,a8,a9⟩;exact Ra z<|Rw z<|Wr<|rtO<|qL (som hmz).symm<|a_P hr z z ⟨bup (bup G s1) a5,a6,a7,z,J,a8,m_ a9 hh⟩
  exact Wk<|Wg<|R z (inc_ hka (lt_ (repS.len I) v_) z z)<|Rm z<|Wl (fun _ q=>⟨(),(som<|ifF hmc O).symm,⟨q.k<|s6 z z z z z z,s1⟩⟩)
 ·rintro _ _ _ ⟨a1,aa⟩;refine Wu ?_ a1;refine Ws<|Rl z z z<|Wn<|Wq<|Wc z (fun hc=>(M_ hc).elim) (fun _=>?_)
  exact We<|fun _ q=>⟨rfl,⟨q.k<|s2 z z,aa⟩⟩
 ·rintro _ ab _ rfl ⟨_,s5⟩;have a2:=elL W;revert ab;refine Wo<|Wm z<|Rf z b_g z<|R z (l0 U_ z<|(Y.e s5).at z)<|R z (lnR l_ z<|I.g<|(G.ag B).e s5)<|R z (add_ z z)<|Ra z<|Rw z ?_
  obtain rfl:=som a2;exact Wr<|a_P hr z z ⟨bup G s5,.nilIface,([]:List Nat),z,iA _ _,d_C,an_⟩
 rintro _ _ _ _ rfl ⟨rfl,a3⟩;have a4:=elR W;obtain rfl:=som a4;exact ⟨a3,z⟩
def Q21 (w0:World)(B:Zone)(r:Val×Int×(Option<|Int×Int))(v:Value)(w':World):Prop:=Bw w0 w'/\un3 (fun G H W=>∃(I:Option Addr)(J L:Nat)(S1:List Nat)(a2:Option Addr)(O V:Nat)(S2:List Nat)(v3:Value)(S3:List Nat),v = .tuple #[(.agg #[vI G.number,sl I J L,sl a2 O V]),vI H,v3]/\inI G.number/\a_ w' S1 (sl I J L) G.bytes/\a_ w' S2 (sl a2 O V) G.items/\inI H/\a_t 106 w' S3 v3 W/\(∀k∈S3,w0.z<=k)/\(S1++S2).Nodup/\(∀k∈(S1++S2),w0.z<=k)) r
theorem W_w1k {x1:a_l}{b1 o1:Nat}{x2:Int}{x3:Int}{res:Val×Int×(Option<|Int×Int)}(hm:f_z x1 x2 x3=some res)(a2:B<=w0.z)(Y:repS w0 B (sl A0 N0 C0) x1.d.rules)(a0:repS w0 B (sl A8 N8 C8) x1.b)(hC1:C_ w0 b1 o1 [sl A0 N0 C0,sl A8 N8 C8])(hC1b:B b1)(O:inI x2)(a1:inI x3):h_ prog 99 [(.pointer<|some ⟨b1,o1,none⟩),vI x2,vI x3] w0 (Q21 w0 B res):=by
 unfold f_z at hm
 refine goG func99 z z z fun fn hr=>Ws<|E z (fa O_) ?_
 rintro _ wk ⟨rfl,W⟩;have G:=W.below;have h2:Blk wk w0.z [vI 0,sl none 0 0,sl none 0 0]:=W.blk;refine Ra z<|Rw z<|Wm z<|RM z z ?_
 obtain ⟨_,_,el,V⟩:=c_1 hm;refine E z (fc call133 z<|i_q el (zt' a2 G.s) (Y.e G) (a0.e G) (hC1.e G) hC1b O a1) ?_;rintro _ _ ⟨s1,_,_,_,vm,Sn,rfl,ho,ha,hb⟩;refine Rm z<|Re z z z<|Re z z z<|Ra z<|Rw z<|Wq<|Wm z<|R z (c_V d_l z z ha)<|Wx z (fun H=>?_) (fun H=>?_)
 ·refine Ws<|R z (bP (parts:=[]) (cs:=[vI 0,sl none 0 0,sl none 0 0]) E_ z z)<|RM z z<|E0 (fs0 (cur':=[vI 0,sl none 0 0,sl none 0 0]) c_ z z (h2.e s1) z z z z) ?_
  rintro _ _ ⟨hp,sq⟩;have hc:=sq.one;refine Ra z<|Rw z ?_
  obtain rfl:=som<|ifT V H;exact Wr<|w_ hr (y_ i_ c_ z hp z) z z ⟨bM (bup G s1) hc<|f_ lr,none,0,0,[],none,0,0,[],vm,Sn,z,ii z,onL,onL,O,ha.c hc<|k_ hb h2.lt lr,m_ hb G.s,nd0,al0⟩
 refine Wk<|Ws<|E z (f0 (α:=UInt8) a_b) ?_
 rintro _ _ ⟨_,_,_,rfl,s3,ht⟩;refine Rm z ?_;obtain ⟨_,er,hms⟩:=bdS<|ifF V H;refine E z (fN (α:=UInt8) a_b er z z ht R_<|ho.e s3) ?_;rintro _ _ ⟨Sd,I,J,L,rfl,se,hu,hv,hf⟩;refine R z (bP (parts:=[(1,.tmp 25)]) (cs:=[vI 0,sl I J L,sl none 0 0]) E_ z z)<|RM z z<|R z (add_ z z) ?_
 have hg:=mm1 h2.lt s1.s;refine E0 (fs0 (cur':=[vI 0,sl I J L,sl none 0 0]) c_ z z (((h2.e s1).e s3).c se<|djs hg) z z z z) ?_;rintro _ _ ⟨hw,sx⟩;have hh:=sx.one;refine Ra z<|Rw z ?_
 obtain rfl:=som hms;have hi:=lt_ G.s s1.s;have hj:=m1 hi;exact Wr<|w_ hr (y_ i_ c_ z hw z) z z ⟨bM (bM (bup (bup G s1) s3) se hj) hh<|f_ lr,I,J,L,Sd,none,0,0,[],.nilIface,([]:List Nat),z,ii z,hu.c hh (or1 hf hg (a_9 (f_ h2.lt)<|lt_ s1.s s3.s):∀k∈Sd,k∉[w0.z]),onL,iA _ _,d_C,an_,na_ hv a_8<|nmN _,aa_ (a_o hf hj<|lt_ hi s3.s) an_⟩
theorem W_w32 {x1:List UInt8}{res:Int}(hm:g_U x1=some res)(W:B<=w0.z)(G:repS w0 B (sl A0 N0 C0) x1):h_ prog 135 [sl A0 N0 C0] w0 (Q0 w0 B res):=by
 unfold g_U at hm
 refine goG func135 z z z fun fn hr=>Ws<|Rw z<|Ws<|Rw z<|Wq<|Wm z<|R z (lnR l_ z G)<|Rm z<|Wn ?_
 obtain ⟨_,J,H⟩:=bdS hm;refine Wf (σ:=Int) (ρ:=Int) (fun (k3:Nat)(x0:Int) a w=>Sat 19 [(3,vI x0),(6,sl A0 N0 C0),(7,vI (x1.length:Int)),(8,vI ((k3:Nat):Int))] a/\Below w0.z w0 w/\inI x0) (fun (x0:Int) a w=>Sat 19 [(3,vI x0)] a/\Below w0.z w0 w/\inI x0) (rQ prog fn<|Q0 w0 B) J ?_ ?_ ?_ ?_ ?_
 ·exact fun _ q=>⟨q.k<|s4 z z z z,br w0,ii z⟩
 ·rintro k3 x0 _ _ _ I ⟨L,s5,h1⟩ O;refine Wu ?_ L;refine Ws<|Rl z z z<|Wn<|Wq<|Wc z (fun _=>?_) (fun hc=>(L_ I hc).elim)
  refine Wk<|Wq<|Wb<|Ws ?_
  obtain ⟨V,ea,hmb⟩:=bdS O;refine RX z (at_ (α:=UInt8) l_ z_5 z z z (G.e s5) ea) ?_;rintro _ ⟨_,_,_,rfl,hd,he,_⟩;obtain rfl:=u8 he;exact R z (l0 g_5 z<|hd.at0 z)<|Rw z<|Wg<|RM z z<|R z (c_2 d_5 d_3 z)<|R z (add_ z z)<|Rw z<|Wg<|R z (inc_ I (lt_ (repS.len G) v_) z z)<|Rm z<|Wl (fun _ q=>⟨s_ x0<|byteI V,(som hmb).symm,⟨q.k<|s4 z z z z,s5,iA _ _⟩⟩)
 ·rintro x0 _ _ ⟨hSc,sf,h1⟩;refine Wu ?_ hSc;refine Ws<|Rl z z z<|Wn<|Wq<|Wc z (fun hc=>(M_ hc).elim) (fun _=>?_)
  exact We<|fun _ q=>⟨rfl,⟨q.k<|s1 z,sf,h1⟩⟩
 ·rintro x0 ag _ rfl ⟨_,sh,h1⟩;have hmi:=elL H;revert ag;refine Wo<|Wm z<|R z (h_N z z (by decide))<|Rw z ?_
  obtain rfl:=som hmi;exact Wr<|b_ hr z ⟨sh,z,i_W h1⟩
 rintro _ _ _ _ rfl ⟨rfl,hqj⟩;have hmk:=elR H;obtain rfl:=som hmk;exact ⟨hqj,z⟩
theorem W_w33 {x1:List UInt8}{x2:Int}{x3:UInt8}{res:(List UInt8)×Int×Bool}(hm:g_V n x1 x2 x3=some res)(aq:B<=w0.z)(Y:repS w0 B (sl A0 N0 C0) x1)(a0:inI x2):h_ prog 105 [sl A0 N0 C0,vI x2,vU<|byteI x3] w0 (Q10 w0 B res):=by
 unfold g_V at hm
 refine goG func105 z z z fun fn hr=>Ws<|RA z z<|Rw z<|Ws<|E z (f0 (α:=UInt8) a_b) ?_
 rintro _ wg ⟨aj,nk,cl,rfl,s8,hv⟩;refine Rw z<|Wq<|Wq ?_
 obtain ⟨ar,huw,hmx⟩:=bdS hm;refine Wt (fun a w=>∃(xm:Bool),xm=ar/\Sat 58 [(0,sl A0 N0 C0),(1,vI x2),(2,vU<|byteI x3),(9,sl aj nk cl),(19,vB xm)] a/\Below wg.z wg w) ?_ ?_
 ·refine Wg<|Rm z<|Rl z z z<|Rm z ?_
  rcases bs (decide<|x2<0) with I | I
  ·iterate 4 refine Nh z I ?_
   exact R z (pT z I z)<|Wl (fun _ q=>⟨true,som<|ifT huw I,q.k<|s5 z z z z z,br wg⟩)
  exact Rh z I (mv z)<|Rh z I (mv z)<|Rh z I (lnR l_ z<|Y.e s8)<|Rh z I (a_q z z)<|R z (pF z I z)<|Wl (fun _ q=>⟨decide<|(x1.length:Int)<x2,som<|ifF huw I,q.k<|s5 z z z z z,br wg⟩)
 rintro au G ⟨xm,rfl,_,s6⟩;revert au;refine Wo<|Wc z (fun hcn=>?_) (fun hcn=>?_)
 ·refine Wm z<|Rm z<|RA z z<|Rw z ?_
  obtain rfl:=som<|ifT hmx hcn;exact Wr<|w_ hr z z z ⟨bup s8 s6,aj,nk,cl,[w0.z],z,hv.e s6,a0,R_,f_ lr⟩
 refine Wk<|Wq<|Wm z<|Rw z ?_
 obtain ⟨_,ad,hmy⟩:=bdS<|ifF hmx hcn;refine e_d (σ:=(List UInt8)×Int) (ρ:=(List UInt8)×Int×Bool) (fun s a w=>un2 (fun xb V=>∃J L O H,Sat 58 [(0,sl A0 N0 C0),(1,vI x2),(2,vU<|byteI x3),(9,sl J L O),(10,vI V)] a/\Chg (· ∈ [w0.z]) G w/\a_ w H (sl J L O) xb/\H.Nodup/\(∀k∈H,k∈[w0.z]∨G.z<=k)/\inI V) s) (fun s a w=>un2 (fun xb V=>∃J L O H,Sat 58 [(1,vI x2)] a/\Chg (· ∈ [w0.z]) G w/\a_ w H (sl J L O) xb/\H.Nodup/\(∀k∈H,k∈[w0.z]∨G.z<=k)/\inI V) s) (rQ prog fn<|Q10 w0 B) ad ?_ ?_ ?_ ?_
 ·exact fun _ q=>⟨aj,nk,cl,[w0.z],q.k<|s5 z z z z z,cr [w0.z] G,hv.e s6,R_,io sr,a0⟩
 ·rintro ⟨xb,V⟩ _ W _ ⟨J,L,O,H,ae,sa,hc,hd,he,ho⟩ af;have hmz:=b_a af;refine Wu ?_ ae;refine Wq<|Wm z<|Rm z ?_
  have a6:=((s8.ag B).e s6).c sa<|g_ (or0 (f_ lr) (t_ aq):∀k∈[w0.z],¬B k)
  have hh:=Y.g a6;refine R z (lnR l_ z hh)<|Rl z z z<|Wx z (fun hcp=>?_) (fun hcp=>?_)
  ·refine Wk<|Wq<|Wb<|Wq<|Wm z<|Rm z ?_
   obtain ⟨_,av,a1⟩:=bdS<|ifT hmz hcp;refine RX z (at_ (α:=UInt8) l_ z_5 z z z hh av) ?_;rintro _ ⟨_,_,_,rfl,aw,ax,_⟩;obtain rfl:=u8 ax;refine R z (l0 g_5 z<|aw.at0 z)<|Rm z<|Rq z z z<|Wx z (fun hcq=>?_) (fun hcq=>?_)
   ·refine Wm z<|Rm z<|R z (add_ z z)<|RA z z<|Rw z ?_
    exact Wr<|rtO<|qL (som<|ifT a1 hcq).symm<|w_ hr z z z ⟨bM (bup s8 s6) sa<|f_ lr,J,L,O,H,z,hc,iA _ _,hd,(or1 he (f_ lr) (b_P<|lt_ s8.s s6.s):∀k∈H,w0.z<=k)⟩
   refine Wk<|Wq<|Wm z<|Rm z ?_
   obtain ⟨_,ay,ah⟩:=bdS<|ifF a1 hcq;refine RX z (at_ (α:=UInt8) l_ z_5 z z z hh ay) ?_;rintro _ ⟨_,_,_,rfl,az,aA,_⟩;obtain rfl:=u8 aA;refine R z (l0 g_5 z<|az.at0 z)<|Rq z z z<|Wn ?_
   obtain ⟨aB,a2,a4⟩:=bdS ah;refine Wt (fun a w=>∃(xf:Int),Sum.inl xf=aB/\Sat 58 [(0,sl A0 N0 C0),(1,vI x2),(2,vU<|byteI x3),(9,sl J L O),(10,vI xf)] a/\Below W.z W w/\inI xf) ?_ ?_
   ·refine Wc z (fun hcr=>?_)<|fun hcr=>?_
    ·have a5:=ifT a2 hcr;refine Wm z<|R z (add_ z z)<|Rw z<|Wm z<|Rm z<|R z (lnR l_ z hh)<|Rq z z z<|Wx z (fun hcs=>?_) (fun hcs=>?_)
     ·obtain rfl:=som<|ifT a5 hcs;have ai:=elR a4;exact We<|exO z (fun _ q=>c_U (som ai).symm ⟨J,L,O,H,q.k<|s1 z,(cM (cr [w0.z] G) sa (io sr):Chg (· ∈ [w0.z]) G W),hc,hd,(or1 he (io sr) (x_ lr):∀k∈H,k∈[w0.z]∨G.z<=k),iA _ _⟩)
     exact a_s<|fun _ q=>⟨s_ V 1,som<|ifF a5 hcs,q.k<|s5 z z z z z,br W,iA _ _⟩
    exact a_s<|fun _ q=>⟨V,som<|ifF a2 hcr,q.k<|s5 z z z z z,br W,ho⟩
   rintro aC a7 ⟨xf,rfl,_,si,_⟩;have ak:=elL a4;revert aC;refine Wo<|Wg<|RM z z<|Rm z ?_
   obtain ⟨aD,aE,al⟩:=bdS ak;refine RX z (at_ (α:=UInt8) l_ z_5 z z z (Y.g<|a6.e si) aE) ?_;rintro _ ⟨_,_,_,rfl,aF,aG,_⟩;obtain rfl:=u8 aG;refine R z (l0 g_5 z<|aF.at0 z)<|E z (fS [(.tmp 53)] a_b z z z (b_b z) (lb z)<|lb z) ?_
   rintro _ a8 ⟨rfl,ht⟩;have hu:=ht.below;have aY:=c_m ht e_W;obtain ⟨aH,aI,am⟩:=bdS al;refine E z (b_u (α:=UInt8) a_b aI z z ((hc.e si).e hu) hd (ht.blk:Blk a8 a7.z [vU (byteI aD)]) e_W an_ a_8) ?_;rintro _ aJ ⟨a9,aK,aL,aM,rfl,aN,aO,aP,aQ⟩;refine Rw z<|Wg<|Rm z<|R z (add_ z z)<|Ra z<|Wl ?_
   have aa:∀k∈H,k∈[w0.z]∨G.z<=k:=or1 he (io sr)<|x_ lr;exact fun _ q=>⟨(aH,s_ xf 1),(som am).symm,⟨aK,aL,aM,a9,q.k<|s5 z z z z z,(cM (D_ (D_ (cM (cr [w0.z] G) sa (io sr):Chg (· ∈ [w0.z]) G W) si:Chg (· ∈ [w0.z]) G a7) hu:Chg (· ∈ [w0.z]) G a8) aN aa:Chg (· ∈ [w0.z]) G aJ),aO,aP,(or2 aQ aa an_ (x_<|lt_ (lt_ sa.s si.s) hu.s):∀k∈a9,k∈[w0.z]∨G.z<=k),iA _ _⟩⟩
  exact We<|fun _ q=>c_U (som<|ifF hmz hcp).symm ⟨J,L,O,H,q.k<|s1 z,(cM (cr [w0.z] G) sa (io sr):Chg (· ∈ [w0.z]) G W),hc,hd,(or1 he (io sr) (x_ lr):∀k∈H,k∈[w0.z]∨G.z<=k),ho⟩
 ·rintro ⟨xb,V⟩ aR aS rfl ⟨J,L,O,H,_,ab,hc,hd,he,ho⟩;have an:=elL hmy;revert aR;refine Wo<|Ws<|E z (f0 (α:=UInt8) a_b) ?_
  rintro _ _ ⟨aT,aU,aV,rfl,aW,aX⟩;refine Rm z<|RA z z<|Rw z ?_
  obtain rfl:=som<|b_a an;exact Wr<|w_ hr z z z ⟨bup (bM (bup s8 s6) ab<|f_ lr) aW,aT,aU,aV,[aS.z],z,aX,a0,R_,m1<|lt_ (lt_ s8.s s6.s) ab.s⟩
 rintro _ _ _ _ rfl ⟨rfl,ao⟩;have ap:=elR hmy;obtain rfl:=som ap;exact ⟨ao,z⟩
def Q22 (w0:World)(B:Zone)(S2_1:List Nat)(S2_2:List Nat)(r:Val×Int×(Option<|Int×Int))(v:Value)(w':World):Prop:=Chg (· ∈ (S2_1++S2_2)) w0 w'/\un3 (fun G H W=>∃(I:Option Addr)(J L:Nat)(S1:List Nat)(a2:Option Addr)(O V:Nat)(S2:List Nat)(v3:Value)(S3:List Nat),v = .tuple #[(.agg #[vI G.number,sl I J L,sl a2 O V]),vI H,v3]/\inI G.number/\a_ w' S1 (sl I J L) G.bytes/\a_ w' S2 (sl a2 O V) G.items/\inI H/\a_t 106 w' S3 v3 W/\(∀k∈S3,w0.z<=k)/\(S1++S2).Nodup/\(∀k∈(S1++S2),k∈(S2_1++S2_2)∨w0.z<=k)) r
structure k_o (f:a_l->Int->Int->Option (Val×Int×(Option<|Int×Int))):Prop where
  run:∀{A0 A8:Option Addr}{N0 C0 N8 C8 b1 o1:Nat}{B:Zone}{x1:a_l}{x2:Int}{x3:Int}{res:Val×Int×(Option<|Int×Int)}{w0:World}(hm:f x1 x2 x3=some res)(hBw:B<=w0.z)(p1_0:repS w0 B (sl A0 N0 C0) x1.d.rules)(p1_1:repS w0 B (sl A8 N8 C8) x1.b)(hC1:C_ w0 b1 o1 [sl A0 N0 C0,sl A8 N8 C8])(hC1b:B b1)(p2_0:inI x2)(p3_0:inI x3),h_ prog 66 [(.pointer<|some ⟨b1,o1,none⟩),vI x2,vI x3] w0<|Q21 w0 B res
structure k_p (f:a_l->e_->Int->Option (Val×Int×(Option<|Int×Int))):Prop where
  run:∀{A0 A8 A2 A3 A1 A4:Option Addr}{N0 C0 N8 C8 b1 o1 N2 C2 N3 C3 N1 C1 N4 C4:Nat}{B:Zone}{x1:a_l}{x2:e_}{x3:Int}{res:Val×Int×(Option<|Int×Int)}{w0:World}(hm:f x1 x2 x3=some res)(hBw:B<=w0.z)(p1_0:repS w0 B (sl A0 N0 C0) x1.d.rules)(p1_1:repS w0 B (sl A8 N8 C8) x1.b)(hC1:C_ w0 b1 o1 [sl A0 N0 C0,sl A8 N8 C8])(hC1b:B b1)(p2_0:x2.name.b.length<=LEN)(p2_1:inI x2.kind)(p2_2:inI x2.size)(p2_4:repS w0 B (sl A2 N2 C2) x2.bytes)(p2_5:repS w0 B (sl A3 N3 C3) x2.names)(p2_6:repS w0 B (sl A1 N1 C1) x2.tags)(p2_7:repS w0 B (sl A4 N4 C4) x2.kids)(p3_0:inI x3),h_ prog 100 [(.pointer<|some ⟨b1,o1,none⟩),.agg #[Str.v x2.name,vI x2.kind,vI x2.size,vB x2.little,sl A2 N2 C2,sl A3 N3 C3,sl A1 N1 C1,sl A4 N4 C4],vI x3] w0<|Q21 w0 B res
structure k_q (f:a_l->Val->(List Int)->Int->Option (Val×Int×(Option<|Int×Int))):Prop where
  run:∀{A0 A8 AA AB A9:Option Addr}{N0 C0 N8 C8 b1 o1 NA CA NB CB N9 C9:Nat}{S2_1 S2_2:List Nat}{B:Zone}{x1:a_l}{x2:Val}{x3:List Int}{x4:Int}{res:Val×Int×(Option<|Int×Int)}{w0:World}(hm:f x1 x2 x3 x4=some res)(hBw:B<=w0.z)(p1_0:repS w0 B (sl A0 N0 C0) x1.d.rules)(p1_1:repS w0 B (sl A8 N8 C8) x1.b)(hC1:C_ w0 b1 o1 [sl A0 N0 C0,sl A8 N8 C8])(hC1b:B b1)(p2_0:inI x2.number)(p2_1:a_ w0 S2_1 (sl AA NA CA) x2.bytes)(p2_1n:S2_1.Nodup)(p2_1g:∀k∈S2_1,¬B k)(p2_2:a_ w0 S2_2 (sl AB NB CB) x2.items)(p2_2n:S2_2.Nodup)(p2_2g:∀k∈S2_2,¬B k)(p2_2d1:∀k∈S2_2,k∉S2_1)(p3_0:repS w0 B (sl A9 N9 C9) x3)(p4_0:inI x4),h_ prog 101 [(.pointer<|some ⟨b1,o1,none⟩),.agg #[vI x2.number,sl AA NA CA,sl AB NB CB],sl A9 N9 C9,vI x4] w0<|Q22 w0 B S2_1 S2_2 res
structure k_r (f:a_l->e_->Int->Option (Val×Int×(Option<|Int×Int))):Prop where
  run:∀{A0 A8 A2 A3 A1 A4:Option Addr}{N0 C0 N8 C8 b1 o1 N2 C2 N3 C3 N1 C1 N4 C4:Nat}{B:Zone}{x1:a_l}{x2:e_}{x3:Int}{res:Val×Int×(Option<|Int×Int)}{w0:World}(hm:f x1 x2 x3=some res)(hBw:B<=w0.z)(p1_0:repS w0 B (sl A0 N0 C0) x1.d.rules)(p1_1:repS w0 B (sl A8 N8 C8) x1.b)(hC1:C_ w0 b1 o1 [sl A0 N0 C0,sl A8 N8 C8])(hC1b:B b1)(p2_0:x2.name.b.length<=LEN)(p2_1:inI x2.kind)(p2_2:inI x2.size)(p2_4:repS w0 B (sl A2 N2 C2) x2.bytes)(p2_5:repS w0 B (sl A3 N3 C3) x2.names)(p2_6:repS w0 B (sl A1 N1 C1) x2.tags)(p2_7:repS w0 B (sl A4 N4 C4) x2.kids)(p3_0:inI x3),h_ prog 102 [(.pointer<|some ⟨b1,o1,none⟩),.agg #[Str.v x2.name,vI x2.kind,vI x2.size,vB x2.little,sl A2 N2 C2,sl A3 N3 C3,sl A1 N1 C1,sl A4 N4 C4],vI x3] w0<|Q21 w0 B res
structure k_s (f:a_l->e_->Int->Option (Val×Int×(Option<|Int×Int))):Prop where
  run:∀{A0 A8 A2 A3 A1 A4:Option Addr}{N0 C0 N8 C8 b1 o1 N2 C2 N3 C3 N1 C1 N4 C4:Nat}{B:Zone}{x1:a_l}{x2:e_}{x3:Int}{res:Val×Int×(Option<|Int×Int)}{w0:World}(hm:f x1 x2 x3=some res)(hBw:B<=w0.z)(p1_0:repS w0 B (sl A0 N0 C0) x1.d.rules)(p1_1:repS w0 B (sl A8 N8 C8) x1.b)(hC1:C_ w0 b1 o1 [sl A0 N0 C0,sl A8 N8 C8])(hC1b:B b1)(p2_0:x2.name.b.length<=LEN)(p2_1:inI x2.kind)(p2_2:inI x2.size)(p2_4:repS w0 B (sl A2 N2 C2) x2.bytes)(p2_5:repS w0 B (sl A3 N3 C3) x2.names)(p2_6:repS w0 B (sl A1 N1 C1) x2.tags)(p2_7:repS w0 B (sl A4 N4 C4) x2.kids)(p3_0:inI x3),h_ prog 103 [(.pointer<|some ⟨b1,o1,none⟩),.agg #[Str.v x2.name,vI x2.kind,vI x2.size,vB x2.little,sl A2 N2 C2,sl A3 N3 C3,sl A1 N1 C1,sl A4 N4 C4],vI x3] w0<|Q21 w0 B res
structure k_t (f:a_l->e_->Int->Option (Val×Int×(Option<|Int×Int))):Prop where
  run:∀{A0 A8 A2 A3 A1 A4:Option Addr}{N0 C0 N8 C8 b1 o1 N2 C2 N3 C3 N1 C1 N4 C4:Nat}{B:Zone}{x1:a_l}{x2:e_}{x3:Int}{res:Val×Int×(Option<|Int×Int)}{w0:World}(hm:f x1 x2 x3=some res)(hBw:B<=w0.z)(p1_0:repS w0 B (sl A0 N0 C0) x1.d.rules)(p1_1:repS w0 B (sl A8 N8 C8) x1.b)(hC1:C_ w0 b1 o1 [sl A0 N0 C0,sl A8 N8 C8])(hC1b:B b1)(p2_0:x2.name.b.length<=LEN)(p2_1:inI x2.kind)(p2_2:inI x2.size)(p2_4:repS w0 B (sl A2 N2 C2) x2.bytes)(p2_5:repS w0 B (sl A3 N3 C3) x2.names)(p2_6:repS w0 B (sl A1 N1 C1) x2.tags)(p2_7:repS w0 B (sl A4 N4 C4) x2.kids)(p3_0:inI x3),h_ prog 104 [(.pointer<|some ⟨b1,o1,none⟩),.agg #[Str.v x2.name,vI x2.kind,vI x2.size,vB x2.little,sl A2 N2 C2,sl A3 N3 C3,sl A1 N1 C1,sl A4 N4 C4],vI x3] w0<|Q21 w0 B res
abbrev e_v (n:Nat):Prop:=k_o (a_4 n).impl_fileReader_value/\k_p (a_4 n).impl_fileReader_array/\k_q (a_4 n).impl_fileReader_items/\k_r (a_4 n).impl_fileReader_choice/\k_s (a_4 n).impl_fileReader_option/\k_t (a_4 n).impl_fileReader_checked
theorem T_w01 (ih:e_v n):k_o (g_X n<|a_4 n):=by
 obtain ⟨_,d6,d7,d8,d9,da⟩:=ih
 constructor
 intro A0 A8 N0 C0 N8 C8 b1 o1 B x1 x2 x3 res w0 hm H L O hC1 hC1b cT I;unfold g_X at hm
 refine goG func66 z z z fun fn hr=>Ws<|E z (fa O_) ?_
 rintro _ J ⟨rfl,bi⟩;have h2:=bi.below;have h3:Blk J w0.z [vI 0,sl none 0 0,sl none 0 0]:=bi.blk;refine Ra z<|Rw z<|Wm z<|R z (H_ z)<|Rf z m_L z<|Rf z a_c z ?_
 have h5:=hC1.e h2;refine R z (l0 a_e z<|h5.at (j:=0) z)<|Rm z ?_
 obtain ⟨W,db,b6⟩:=bdS hm;refine RX z (at_ (α:=e_) a_1 p_ z z z (L.e h2) db) ?_;rintro _ ⟨_,_,_,rfl,dc,dd,_⟩;obtain ⟨aa,nb,cc,ad,ne,cf,ah,ng,ci,aj,nk,cl,rfl,hq,ht,ho,hp,hu,hv,hn⟩:=a_y dd;refine R z (lN (vs:=vR W aa nb cc ad ne cf ah ng ci aj nk cl) G_ p_ z z fid dc)<|E z (fa b_X) ?_
 rintro _ de ⟨rfl,bj⟩;have G:=bj.below;refine E0 (fs0 (cur':=vR W aa nb cc ad ne cf ah ng ci aj nk cl) p_ z z (bj.blk:Blk de J.z [(Str.v (⟨[]⟩:Str)),vI 0,vI 0,vB false,sl none 0 0,sl none 0 0,sl none 0 0,sl none 0 0]) z z z z) ?_;rintro _ _ ⟨V,df⟩;have h1:=df.one;refine Wn<|Wq<|Ws<|Rf z a_n z<|R z (l0 g_3 z<|V.at z)<|Wn<|Wb<|Ws<|Rq z z z<|Rw z<|Wc z (fun hcr=>?_) (fun hcr=>?_)
 ·refine Wm z<|RM z z ?_
  have bk:∀k∈[J.z],¬B k:=or0 (f_ lr)<|t_<|zt' H h2.s;have bm:=((h2.ag B).e G).c h1<|g_ bk
  have bn:=lt_ (lt_ h2.s G.s) h1.s;obtain ⟨bo,_,_,dg,cU⟩:=S_<|ifT b6 hcr;refine E z (fc call97 z<|i_r dg (zt' H bn) (L.g bm) (O.g bm) ((h5.e G).c h1<|(g_ bk) _ hC1b) hC1b cT I) ?_;rintro _ _ ⟨bp,dh,di,rfl,dj,dk,dl,bq⟩;refine Rm z ?_
  iterate 3 refine Re z z z ?_
  refine RA z z<|Rw z<|Wm z<|R z (bP (parts:=[(0,.tmp 41)]) (cs:=[vI bo,sl none 0 0,sl none 0 0]) E_ z z)<|RM z z<|E0 (fs0 (cur':=[vI bo,sl none 0 0,sl none 0 0]) c_ z z (((h3.e G).c h1<|djs<|mmr h3.lt).e bp) z z z z) ?_
  rintro _ _ ⟨dm,dn⟩;have br:=dn.one;refine Ra z<|Rw z ?_
  obtain rfl:=som cU;exact Wr<|rtO<|w_ hr (y_ i_ c_ z dm z) z z ⟨bM (bup (bM (bup h2 G) h1<|m1 h2.s) bp) br<|f_ lr,none,0,0,[],none,0,0,[],dh,di,z,dj,onL,onL,dk,dl.c br<|k_ bq h3.lt<|lt_ G.s h1.s,m_ bq bn,nd0,al0⟩
 have b7:=ifF b6 hcr;refine Ws<|Rq z z z<|Rw z<|Wc z (fun hcs=>?_) (fun hcs=>?_)
 ·refine Wm z<|R z (lN (vs:=vR W aa nb cc ad ne cf ah ng ci aj nk cl) G_ p_ z z fid<|V.row 0 8 z)<|Rm z ?_
  have aC:∀k∈[J.z],¬B k:=or0 (f_ lr)<|t_<|zt' H h2.s;have bs:=((h2.ag B).e G).c h1<|g_ aC
  have hw:=(G.ag B).c h1<|g_ aC
  have bt:=lt_ (lt_ h2.s G.s) h1.s;obtain ⟨_,_,dp,cV⟩:=c_1<|ifT b7 hcs;refine E z (fc call98 z<|W_w31 dp (zt' H bt) (L.g bs) (O.g bs) ((h5.e G).c h1<|(g_ aC) _ hC1b) hC1b hq ht ho (hp.g hw) (hu.g hw) (hv.g hw) (hn.g hw) I) ?_;rintro _ _ ⟨bu,dq,dr,rfl,ds,dt,bv⟩;refine Rm z<|Re z z z<|Re z z z<|Ra z<|Rw z<|Ws<|R z (bP (parts:=[]) (cs:=[vI 0,sl none 0 0,sl none 0 0]) E_ z z)<|RM z z<|E0 (fs0 (cur':=[vI 0,sl none 0 0,sl none 0 0]) c_ z z (((h3.e G).c h1<|djs<|mmr h3.lt).e bu) z z z z) ?_
  rintro _ _ ⟨du,dv⟩;have bw:=dv.one;refine Ra z<|Rw z ?_
  obtain rfl:=som cV;exact Wr<|rtO<|w_ hr (y_ i_ c_ z du z) z z ⟨bM (bup (bM (bup h2 G) h1<|m1 h2.s) bu) bw<|f_ lr,none,0,0,[],none,0,0,[],dq,dr,z,ii z,onL,onL,ds,dt.c bw<|k_ bv h3.lt<|lt_ G.s h1.s,m_ bv bt,nd0,al0⟩
 have b8:=ifF b7 hcs;refine Ws<|Rq z z z<|Rw z<|Wc z (fun ar=>?_) (fun ar=>?_)
 ·refine Wm z<|Rm z<|Rf z a_H z<|R z (l0 g_3 z<|V.at z) ?_
  have bx:∀k∈[J.z],¬B k:=or0 (f_ lr)<|t_<|zt' H h2.s;have bz:=((h2.ag B).e G).c h1<|g_ bx
  have hx:=lt_ (lt_ h2.s G.s) h1.s;obtain ⟨dw,_,_,dx,cW⟩:=S_<|ifT b8 ar;refine E z (fc call99 z<|W_w1k dx (zt' H hx) (L.g bz) (O.g bz) ((h5.e G).c h1<|(g_ bx) _ hC1b) hC1b I ho) ?_;rintro _ _ ⟨bA,bB,bC,bD,dy,bE,bF,bG,dz,dA,dB,rfl,dC,dD,dF,dG,dH,bH,aD,hy⟩
  iterate 3 refine Re z z z ?_
  refine E0 (fs0 (cur':=[vI dw.number,sl bB bC bD,sl bE bF bG]) c_ z z (((h3.e G).c h1<|djs<|mmr h3.lt).e bA) z z z z) ?_;rintro _ _ ⟨dI,dJ⟩;have hz:=dJ.one;refine Ra z<|Rw z ?_
  obtain rfl:=som cW;have aE:=lt_ G.s h1.s;exact Wr<|rtO<|w_ hr (y_ i_ c_ z dI z) z z ⟨bM (bup (bM (bup h2 G) h1<|m1 h2.s) bA) hz<|f_ lr,bB,bC,bD,dy,bE,bF,bG,dz,dA,dB,z,dC,dD.c hz<|k_ (al_ hy) h3.lt aE,dF.c hz<|k_ (ar_ hy) h3.lt aE,dG,dH.c hz<|k_ bH h3.lt aE,m_ bH hx,na_ (nl_ aD) (nr_ aD)<|nj aD,aa_ (m_ (al_ hy) hx)<|m_ (ar_ hy) hx⟩
 have b9:=ifF b8 ar;refine Ws<|Rq z z z<|Rw z<|Wc z (fun au=>?_) (fun au=>?_)
 ·refine Wm z<|Rf z Y_ z<|R z (l0 B_ z<|V.at z) ?_
  obtain ⟨_,dK,cX⟩:=bdS<|ifT b9 au;have aF:∀k∈[J.z],¬B k:=or0 (f_ lr)<|t_<|zt' H h2.s;refine RX z (at_ (α:=Int) z_ z_3 z z z (hn.g<|(G.ag B).c h1<|g_ aF) dK) ?_;rintro _ ⟨_,_,_,rfl,dL,dN,_⟩;obtain ⟨rfl,dO⟩:=a_5 dN;refine R z (l0 g_3 z<|dL.at0 z)<|Rm z ?_
  have bI:=(h5.e G).c h1<|(g_ aF) _ hC1b
  have aG:=((h2.ag B).e G).c h1<|g_ aF
  have aH:=lt_ (lt_ h2.s G.s) h1.s;obtain ⟨_,_,_,dP,ba⟩:=S_ cX;refine E z (fc call97 z<|i_r dP (zt' H aH) (L.g aG) (O.g aG) bI hC1b dO I) ?_;rintro _ _ ⟨s8,dS,dT,rfl,dU,dV,bJ,bK⟩;refine Rm z ?_
  iterate 3 refine Re z z z ?_
  refine RA z z<|Rw z<|Wq<|Wm z<|R z (c_V d_l z z bJ)<|Wx z (fun av=>?_) (fun av=>?_)
  ·refine Ws<|R z (bP (parts:=[]) (cs:=[vI 0,sl none 0 0,sl none 0 0]) E_ z z)<|RM z z<|E0 (fs0 (cur':=[vI 0,sl none 0 0,sl none 0 0]) c_ z z (((h3.e G).c h1<|djs<|mmr h3.lt).e s8) z z z z) ?_
   rintro _ _ ⟨dW,dX⟩;have bL:=dX.one;refine Ra z<|Rw z ?_
   obtain rfl:=som<|ifT ba av;exact Wr<|rtO<|w_ hr (y_ i_ c_ z dW z) z z ⟨bM (bup (bM (bup h2 G) h1<|m1 h2.s) s8) bL<|f_ lr,none,0,0,[],none,0,0,[],dS,dT,z,ii z,onL,onL,I,bJ.c bL<|k_ bK h3.lt<|lt_ G.s h1.s,m_ bK aH,nd0,al0⟩
  refine Wk<|Wm z<|RM z z ?_
  have bN:=aG.e s8;have Y:=lt_ aH s8.s;obtain ⟨dY,_,_,dZ,cY⟩:=S_<|ifF ba av;refine E z (fc call99 z<|W_w1k dZ (zt' H Y) (L.g bN) (O.g bN) (bI.e s8) hC1b dV dU) ?_;rintro _ _ ⟨bO,bQ,bR,bS,e0,bT,bU,bV,e1,e2,e3,rfl,e4,e5,e6,e7,e8,bW,aI,a0⟩
  iterate 3 refine Re z z z ?_
  refine E0 (fs0 (cur':=[vI dY.number,sl bQ bR bS,sl bT bU bV]) c_ z z ((((h3.e G).c h1<|djs<|mmr h3.lt).e s8).e bO) z z z z) ?_;rintro _ _ ⟨e9,ea⟩;have a1:=ea.one;refine Ra z<|Rw z ?_
  obtain rfl:=som cY;have aJ:=lt_ (lt_ G.s h1.s) s8.s;exact Wr<|rtO<|w_ hr (y_ i_ c_ z e9 z) z z ⟨bM (bup (bup (bM (bup h2 G) h1<|m1 h2.s) s8) bO) a1<|f_ lr,bQ,bR,bS,e0,bT,bU,bV,e1,e2,e3,z,e4,e5.c a1<|k_ (al_ a0) h3.lt aJ,e6.c a1<|k_ (ar_ a0) h3.lt aJ,e7,e8.c a1<|k_ bW h3.lt aJ,m_ bW Y,na_ (nl_ aI) (nr_ aI)<|nj aI,aa_ (m_ (al_ a0) Y)<|m_ (ar_ a0) Y⟩
 have bb:=ifF b9 au;refine Ws<|Rq z z z<|Rw z<|Wc z (fun aw=>?_) (fun aw=>?_)
 ·refine Wm z<|R z (lN (vs:=vR W aa nb cc ad ne cf ah ng ci aj nk cl) G_ p_ z z fid<|V.row 0 8 z)<|Rm z ?_
  have aK:∀k∈[J.z],¬B k:=or0 (f_ lr)<|t_<|zt' H h2.s;have bX:=((h2.ag B).e G).c h1<|g_ aK
  have a2:=(G.ag B).c h1<|g_ aK
  have a3:=lt_ (lt_ h2.s G.s) h1.s;obtain ⟨eb,_,_,ec,cZ⟩:=S_<|ifT bb aw;refine E z (fc call100 z<|d6.run ec (zt' H a3) (L.g bX) (O.g bX) ((h5.e G).c h1<|(g_ aK) _ hC1b) hC1b hq ht ho (hp.g a2) (hu.g a2) (hv.g a2) (hn.g a2) I) ?_;rintro _ _ ⟨bY,bZ,c0,c1,ed,c2,c3,c4,ee,ef,eg,rfl,eh,ei,ej,ek,em,c5,aL,a4⟩
  iterate 3 refine Re z z z ?_
  refine E0 (fs0 (cur':=[vI eb.number,sl bZ c0 c1,sl c2 c3 c4]) c_ z z (((h3.e G).c h1<|djs<|mmr h3.lt).e bY) z z z z) ?_;rintro _ _ ⟨en,eo⟩;have a5:=eo.one;refine Ra z<|Rw z ?_
  obtain rfl:=som cZ;have aM:=lt_ G.s h1.s;exact Wr<|rtO<|w_ hr (y_ i_ c_ z en z) z z ⟨bM (bup (bM (bup h2 G) h1<|m1 h2.s) bY) a5<|f_ lr,bZ,c0,c1,ed,c2,c3,c4,ee,ef,eg,z,eh,ei.c a5<|k_ (al_ a4) h3.lt aM,ej.c a5<|k_ (ar_ a4) h3.lt aM,ek,em.c a5<|k_ c5 h3.lt aM,m_ c5 a3,na_ (nl_ aL) (nr_ aL)<|nj aL,aa_ (m_ (al_ a4) a3)<|m_ (ar_ a4) a3⟩
 have bc:=ifF bb aw;refine Ws<|Rq z z z<|Rw z<|Wc z (fun ax=>?_) (fun ax=>?_)
 ·refine Wm z<|R z (bP (parts:=[]) (cs:=[vI 0,sl none 0 0,sl none 0 0]) E_ z z)<|Rf z Y_ z<|R z (l0 B_ z<|V.at z)<|Rm z ?_
  have aN:∀k∈[J.z],¬B k:=or0 (f_ lr)<|t_<|zt' H h2.s;have c6:=((h2.ag B).e G).c h1<|g_ aN
  have a6:=lt_ (lt_ h2.s G.s) h1.s;obtain ⟨ep,_,_,er,d0⟩:=S_<|ifT bc ax;refine E z (fc call101 z<|d7.run (B:=B) (x2:=(⟨0,([]:List UInt8),([]:List Val)⟩:Val)) er (zt' H a6) (L.g c6) (O.g c6) ((h5.e G).c h1<|(g_ aN) _ hC1b) hC1b (ii z) onL a_8 an_ onL a_8 an_ an_ (hn.g<|(G.ag B).c h1<|g_ aN) I) ?_;rintro _ _ ⟨c7,c8,c9,ca,cb,cd,ce,cg,ch,es,eu,rfl,ew,ex,ey,ez,eA,cj,aO,a7⟩
  iterate 3 refine Re z z z ?_
  refine E0 (fs0 (cur':=[vI ep.number,sl c8 c9 ca,sl cd ce cg]) c_ z z (((h3.e G).c h1<|djs<|mmr h3.lt).c c7<|atp<|nmA (nmN _)<|nmN _) z z z z) ?_;rintro _ _ ⟨eB,eC⟩;have a8:=eC.one;refine Ra z<|Rw z ?_
  obtain rfl:=som d0;have aP:=lt_ G.s h1.s;exact Wr<|rtO<|w_ hr (y_ i_ c_ z eB z) z z ⟨bM (bM (bM (bup h2 G) h1<|m1 h2.s) c7 al0) a8<|f_ lr,c8,c9,ca,cb,cd,ce,cg,ch,es,eu,z,ew,ex.c a8 (or1 (al_ a7) al0 (a_9 (f_ h3.lt) aP):∀k∈cb,k∉[w0.z]),ey.c a8 (or1 (ar_ a7) al0 (a_9 (f_ h3.lt) aP):∀k∈ch,k∉[w0.z]),ez,eA.c a8<|k_ cj h3.lt aP,m_ cj a6,na_ (nl_ aO) (nr_ aO)<|nj aO,aa_ (a_o (al_ a7) al0 a6)<|a_o (ar_ a7) al0 a6⟩
 have be:=ifF bc ax;refine Ws<|Rq z z z<|Rw z<|Wc z (fun ay=>?_) (fun ay=>?_)
 ·refine Wm z<|R z (lN (vs:=vR W aa nb cc ad ne cf ah ng ci aj nk cl) G_ p_ z z fid<|V.row 0 8 z)<|Rm z ?_
  have aQ:∀k∈[J.z],¬B k:=or0 (f_ lr)<|t_<|zt' H h2.s;have ck:=((h2.ag B).e G).c h1<|g_ aQ
  have a9:=(G.ag B).c h1<|g_ aQ
  have ab:=lt_ (lt_ h2.s G.s) h1.s;obtain ⟨eD,_,_,eE,d1⟩:=S_<|ifT be ay;refine E z (fc call102 z<|d8.run eE (zt' H ab) (L.g ck) (O.g ck) ((h5.e G).c h1<|(g_ aQ) _ hC1b) hC1b hq ht ho (hp.g a9) (hu.g a9) (hv.g a9) (hn.g a9) I) ?_;rintro _ _ ⟨cm,cn,co,cp,eF,cq,cr,ct,eG,eH,eI,rfl,eJ,eK,eL,eM,eN,cu,aR,ae⟩
  iterate 3 refine Re z z z ?_
  refine E0 (fs0 (cur':=[vI eD.number,sl cn co cp,sl cq cr ct]) c_ z z (((h3.e G).c h1<|djs<|mmr h3.lt).e cm) z z z z) ?_;rintro _ _ ⟨eO,eP⟩;have af:=eP.one;refine Ra z<|Rw z ?_
  obtain rfl:=som d1;have aS:=lt_ G.s h1.s;exact Wr<|rtO<|w_ hr (y_ i_ c_ z eO z) z z ⟨bM (bup (bM (bup h2 G) h1<|m1 h2.s) cm) af<|f_ lr,cn,co,cp,eF,cq,cr,ct,eG,eH,eI,z,eJ,eK.c af<|k_ (al_ ae) h3.lt aS,eL.c af<|k_ (ar_ ae) h3.lt aS,eM,eN.c af<|k_ cu h3.lt aS,m_ cu ab,na_ (nl_ aR) (nr_ aR)<|nj aR,aa_ (m_ (al_ ae) ab)<|m_ (ar_ ae) ab⟩
 have bf:=ifF be ay;refine Ws<|Rq z z z<|Rw z<|Wc z (fun az=>?_) (fun az=>?_)
 ·refine Wm z<|R z (lN (vs:=vR W aa nb cc ad ne cf ah ng ci aj nk cl) G_ p_ z z fid<|V.row 0 8 z)<|Rm z ?_
  have aT:∀k∈[J.z],¬B k:=or0 (f_ lr)<|t_<|zt' H h2.s;have cv:=((h2.ag B).e G).c h1<|g_ aT
  have ai:=(G.ag B).c h1<|g_ aT
  have ak:=lt_ (lt_ h2.s G.s) h1.s;obtain ⟨eQ,_,_,eR,d2⟩:=S_<|ifT bf az;refine E z (fc call103 z<|d9.run eR (zt' H ak) (L.g cv) (O.g cv) ((h5.e G).c h1<|(g_ aT) _ hC1b) hC1b hq ht ho (hp.g ai) (hu.g ai) (hv.g ai) (hn.g ai) I) ?_;rintro _ _ ⟨cw,cx,cy,cz,eS,cA,cB,cC,eT,eU,eV,rfl,eW,eX,eY,eZ,f0,cD,aU,al⟩
  iterate 3 refine Re z z z ?_
  refine E0 (fs0 (cur':=[vI eQ.number,sl cx cy cz,sl cA cB cC]) c_ z z (((h3.e G).c h1<|djs<|mmr h3.lt).e cw) z z z z) ?_;rintro _ _ ⟨f1,f2⟩;have am:=f2.one;refine Ra z<|Rw z ?_
  obtain rfl:=som d2;have aV:=lt_ G.s h1.s;exact Wr<|rtO<|w_ hr (y_ i_ c_ z f1 z) z z ⟨bM (bup (bM (bup h2 G) h1<|m1 h2.s) cw) am<|f_ lr,cx,cy,cz,eS,cA,cB,cC,eT,eU,eV,z,eW,eX.c am<|k_ (al_ al) h3.lt aV,eY.c am<|k_ (ar_ al) h3.lt aV,eZ,f0.c am<|k_ cD h3.lt aV,m_ cD ak,na_ (nl_ aU) (nr_ aU)<|nj aU,aa_ (m_ (al_ al) ak)<|m_ (ar_ al) ak⟩
 have bg:=ifF bf az;refine Ws<|Rq z z z<|Rw z<|Wc z (fun aA=>?_) (fun aA=>?_)
 ·refine Wm z<|R z (lN (vs:=vR W aa nb cc ad ne cf ah ng ci aj nk cl) G_ p_ z z fid<|V.row 0 8 z)<|Rm z ?_
  have aW:∀k∈[J.z],¬B k:=or0 (f_ lr)<|t_<|zt' H h2.s;have cE:=((h2.ag B).e G).c h1<|g_ aW
  have an:=(G.ag B).c h1<|g_ aW
  have ao:=lt_ (lt_ h2.s G.s) h1.s;obtain ⟨f3,_,_,f4,d3⟩:=S_<|ifT bg aA;refine E z (fc call104 z<|da.run f4 (zt' H ao) (L.g cE) (O.g cE) ((h5.e G).c h1<|(g_ aW) _ hC1b) hC1b hq ht ho (hp.g an) (hu.g an) (hv.g an) (hn.g an) I) ?_;rintro _ _ ⟨cF,cG,cH,cI,f5,cJ,cK,cL,f6,f7,f8,rfl,f9,fb,fe,ff,fg,cM,aX,ap⟩
  iterate 3 refine Re z z z ?_
  refine E0 (fs0 (cur':=[vI f3.number,sl cG cH cI,sl cJ cK cL]) c_ z z (((h3.e G).c h1<|djs<|mmr h3.lt).e cF) z z z z) ?_;rintro _ _ ⟨fh,fi⟩;have aq:=fi.one;refine Ra z<|Rw z ?_
  obtain rfl:=som d3;have aY:=lt_ G.s h1.s;exact Wr<|rtO<|w_ hr (y_ i_ c_ z fh z) z z ⟨bM (bup (bM (bup h2 G) h1<|m1 h2.s) cF) aq<|f_ lr,cG,cH,cI,f5,cJ,cK,cL,f6,f7,f8,z,f9,fb.c aq<|k_ (al_ ap) h3.lt aY,fe.c aq<|k_ (ar_ ap) h3.lt aY,ff,fg.c aq<|k_ cM h3.lt aY,m_ cM ao,na_ (nl_ aX) (nr_ aX)<|nj aX,aa_ (m_ (al_ ap) ao)<|m_ (ar_ ap) ao⟩
 refine Wk<|Wq (Wd (X:=noX) 0 (pl_ 17 [9]) mo (by kernel_rfl) fun fA s6 _=>dM z z z<|dR z z (H_ z)<|dR z z (fd f_l z) ?_)
 have aZ:∀k∈[J.z],¬B k:=or0 (f_ lr)<|t_<|zt' H h2.s;refine dR z z (l0 U_ z<|(((h5.e G).c h1<|(g_ aZ) _ hC1b).e s6).at (j:=1) z)<|dM z z z<|dR z z (fd b_g z)<|dR z z (l0 U_ z<|(V.e s6).at z) ?_
 obtain ⟨_,fj,d4⟩:=bdS<|ifF bg aA;refine dRX z z (at_ (α:=UInt8) l_ z_5 z z z (hp.g<|((G.ag B).c h1<|g_ aZ).e s6) fj) ?_;rintro _ ⟨_,_,_,rfl,fk,fl,_⟩;obtain rfl:=u8 fl;refine dR z z (l0 g_5 z<|fk.at0 z) ?_;have b0:=lt_ (lt_ (lt_ h2.s G.s) h1.s) s6.s;obtain ⟨_,_,_,fm,bh⟩:=S_ d4;refine dE z z (fc call105 z<|W_w33 fm (zt' H b0) (O.g<|(((h2.ag B).e G).c h1<|g_ aZ).e s6) I) (.inr fun _ _ h=>j_<|h.1) ?_;rintro _ _ ⟨sm,b3,b4,b5,fo,rfl,fp,fq,fr,cN⟩;refine dM z z z ?_
 iterate 3 refine dR z z (ext_ z z) ?_
 iterate 3 refine dQ z z z ?_
 refine pD<|Wo<|Wq<|Wm z<|R z (not_ z)<|Wx z (fun aB=>?_) (fun aB=>?_)
 ·refine Ws<|R z (bP (parts:=[]) (cs:=[vI 0,sl none 0 0,sl none 0 0]) E_ z z)<|RM z z ?_
  have cO:=lt_ b0 sm.s;obtain ⟨_,fs,d5⟩:=bdS<|ifT bh aB;refine E z (fc call106 z<|d_S fs (zt' H cO) I<|ii z) ?_;rintro _ _ ⟨cP,ft,fu,rfl,fv,cQ⟩;refine E0 (fs0 (cur':=[vI 0,sl none 0 0,sl none 0 0]) c_ z z (((((h3.e G).c h1<|djs<|mmr h3.lt).e s6).e sm).e cP) z z z z) ?_;rintro _ _ ⟨fw,fx⟩;have cR:=fx.one;refine Ra z<|Rw z ?_
  obtain rfl:=som d5;exact Wr<|w_ hr (y_ i_ c_ z fw z) z z ⟨bM (bup (bup (bup (bM (bup h2 G) h1<|m1 h2.s) s6) sm) cP) cR<|f_ lr,none,0,0,[],none,0,0,[],ft,fu,z,ii z,onL,onL,I,fv.c cR<|k_ cQ h3.lt<|lt_ (lt_ (lt_ G.s h1.s) s6.s) sm.s,m_ cQ cO,nd0,al0⟩
 refine Wk<|Wm z<|R z (bP (parts:=[(1,.tmp 159)]) (cs:=[vI 0,sl b3 b4 b5,sl none 0 0]) E_ z z)<|Rm z<|E0 (fs0 (cur':=[vI 0,sl b3 b4 b5,sl none 0 0]) c_ z z ((((h3.e G).c h1<|djs<|mmr h3.lt).e s6).e sm) z z z z) ?_
 rintro _ _ ⟨fy,fz⟩;have cS:=fz.one;refine Ra z<|Rw z ?_
 obtain rfl:=som<|ifF bh aB;exact Wr<|w_ hr (y_ i_ c_ z fy z) z z ⟨bM (bup (bup (bM (bup h2 G) h1<|m1 h2.s) s6) sm) cS<|f_ lr,b3,b4,b5,fo,none,0,0,[],.nilIface,([]:List Nat),z,ii z,fp.c cS<|k_ cN h3.lt<|lt_ (lt_ G.s h1.s) s6.s,onL,fq,d_C,an_,na_ fr a_8<|nmN _,aa_ (m_ cN b0) an_⟩
theorem T_w1l (ih:e_v n):k_p (g_Y n<|a_4 n):=by
 obtain ⟨_,_,aJ,_,_,_⟩:=ih
 constructor
 intro A0 A8 A2 A3 A1 A4 N0 C0 N8 C8 b1 o1 N2 C2 N3 C3 N1 C1 N4 C4 B x1 x2 x3 res w0 hm O W Y hC1 hC1b bz bA bB bC bD bE a0 V;unfold g_Y at hm
 refine goG func100 z z z fun fn hr=>Ws<|E z (fb z) ?_
 rintro _ J ⟨rfl,hw⟩;have h4:=hw.below;have hx:Blk J w0.z (vR x2 A2 N2 C2 A3 N3 C3 A1 N1 C1 A4 N4 C4):=hw.blk;refine E z (fa O_) ?_;rintro _ aK ⟨rfl,hy⟩;have h6:=hy.below;have h5:Blk aK J.z [vI 0,sl none 0 0,sl none 0 0]:=hy.blk;refine Ra z<|Rw z<|Wm z<|Rf z Y_ z ?_
 have hz:=hx.e h6;refine R z (l0 B_ z<|hz.at z) ?_;obtain ⟨_,aL,aw⟩:=bdS hm;have hd:=(h4.ag B).e h6;refine RX z (at_ (α:=Int) z_ z_3 z z z (a0.g hd) aL) ?_;rintro _ ⟨_,_,_,rfl,aM,aN,_⟩;obtain ⟨rfl,aO⟩:=a_5 aN;refine R z (l0 g_3 z<|aM.at0 z)<|Rm z ?_
 have a4:=(hC1.e h4).e h6;have he:=lt_ h4.s h6.s;obtain ⟨_,rr,_,aP,hms⟩:=S_ aw;refine E z (fc call97 z<|i_r aP (zt' O he) (W.g hd) (Y.g hd) a4 hC1b aO V) ?_;rintro _ H ⟨G,aQ,aR,rfl,_,aS,a5,a6⟩;refine Rm z ?_
 iterate 3 refine Re z z z ?_
 refine RA z z<|Rw z<|Wq<|Wm z<|R z (c_V d_l z z a5)<|Wx z (fun hcm=>?_) (fun hcm=>?_)
 ·refine Ws<|R z (bP (parts:=[]) (cs:=[vI 0,sl none 0 0,sl none 0 0]) E_ z z)<|RM z z<|E0 (fs0 (cur':=[vI 0,sl none 0 0,sl none 0 0]) c_ z z (h5.e G) z z z z) ?_
  rintro _ _ ⟨aT,aU⟩;have a7:=aU.one;refine Ra z<|Rw z ?_
  obtain rfl:=som<|ifT hms hcm;exact Wr<|w_ hr (y_ i_ c_ z aT z) z z ⟨bM (bup (bup h4 h6) G) a7<|m1 h4.s,none,0,0,[],none,0,0,[],aQ,aR,z,ii z,onL,onL,V,a5.c a7<|k_ a6 h5.lt lr,m_ a6 he,nd0,al0⟩
 have a1:=ifF hms hcm;refine Wk<|Wq<|Wm z<|R z (a_q z z)<|Wx z (fun hco=>?_) (fun hco=>?_)
 ·refine Ws<|R z (bP (parts:=[]) (cs:=[vI 0,sl none 0 0,sl none 0 0]) E_ z z)<|RM z z ?_
  have a8:=lt_ he G.s;obtain ⟨_,aV,ax⟩:=bdS<|ifT a1 hco;refine E z (fc call106 z<|d_S aV (zt' O a8) V<|ii z) ?_;rintro _ _ ⟨a9,aW,aX,rfl,aY,aa⟩;refine E0 (fs0 (cur':=[vI 0,sl none 0 0,sl none 0 0]) c_ z z ((h5.e G).e a9) z z z z) ?_;rintro _ _ ⟨aZ,b0⟩;have ab:=b0.one;refine Ra z<|Rw z ?_
  obtain rfl:=som ax;exact Wr<|w_ hr (y_ i_ c_ z aZ z) z z ⟨bM (bup (bup (bup h4 h6) G) a9) ab<|m1 h4.s,none,0,0,[],none,0,0,[],aW,aX,z,ii z,onL,onL,V,aY.c ab<|k_ aa h5.lt G.s,m_ aa a8,nd0,al0⟩
 refine Wk<|Wm z ?_
 obtain ⟨b3,b4,ay⟩:=bdS<|ifF a1 hco;refine E z (f_O (α:=Int) k_0 (fun _=>e_a<|ii z) b4 z z) ?_;rintro _ I ⟨ac,nf,cg,rfl,s8,hp⟩;refine Rw z<|Wq<|Wm z<|R z (lnR z_ z<|a_.rep hp)<|Rm z<|Wn ?_
 obtain ⟨_,az,a2⟩:=bdS ay;refine Wf (σ:=List Int) (ρ:=Val×Int×(Option<|Int×Int)) (fun (ad:Nat)(L:List Int) a w=>∃(S3:List Nat),Sat 59 [(0,.pointer<|some ⟨b1,o1,none⟩),(4,pt w0.z),(6,pt J.z),(10,vI rr),(12,sl ac nf cg),(39,vI (b3.length:Int)),(40,vI ((ad:Nat):Int))] a/\Chg (· ∈ [H.z]) I w/\a_ w S3 (sl ac nf cg) L/\S3.Nodup/\(∀k∈S3,k∈[H.z]∨I.z<=k)) (fun (L:List Int) a w=>∃(S3:List Nat),Sat 59 [(0,.pointer<|some ⟨b1,o1,none⟩),(6,pt J.z),(10,vI rr),(12,sl ac nf cg)] a/\Chg (· ∈ [H.z]) I w/\a_ w S3 (sl ac nf cg) L/\S3.Nodup/\(∀k∈S3,k∈[H.z]∨I.z<=k)) (rQ prog fn<|Q21 w0 B) az ?_ ?_ ?_ ?_ ?_
 ·exact fun _ q=>⟨[H.z],q.k<|s7 z z z z z z z,cr [H.z] I,hp,R_,io sr⟩
 ·rintro ad L _ b5 _ a3 ⟨S3,aA,sh,ha,hi,hj⟩ aB;refine Wu ?_ aA;refine Ws<|Rl z z z<|Wn<|Wq<|Wc z (fun _=>?_) (fun hc=>(L_ a3 hc).elim)
  refine Wk<|Wq<|Wb<|Wm z<|Rw z<|Wg<|RM z z<|Rf z Y_ z<|R z (l0 B_ z<|(((hz.e G).e s8).c sh<|djs<|mm1 hx.lt<|lt_ h6.s G.s).at z) ?_
  obtain ⟨_,b6,aC⟩:=bdS aB;refine RX z (at_ (α:=Int) z_ z_3 z z z (a0.g<|((hd.e G).e s8).c sh<|g_ (or0 (f_ lr) (t_<|zt' O<|lt_ he G.s):∀k∈[H.z],¬B k)) b6) ?_;rintro _ ⟨_,_,_,rfl,b7,b8,_⟩;obtain ⟨rfl,b9⟩:=a_5 b8;refine R z (l0 g_3 z<|b7.at0 z) ?_;obtain ⟨ba,ae,aD⟩:=bdS aC;refine RX z (f_M (α:=Int) z_ z_3 z z ha ae) ?_;rintro _ ⟨_,bb,rfl⟩;refine E0 (f_N (α:=Int) z_3 z bb z z z ae ha hi (e_a b9) an_ a_8) ?_;rintro _ bc ⟨af,be,bf,bg,bh⟩;refine Wn<|Wg<|R z (inc_ a3 (lt_ (a_.len hp) v_) z z)<|Rm z<|Wl ?_
  have ah:∀k∈S3,k∈[H.z]∨I.z<=k:=or1 hj (io sr)<|x_ lr;exact fun _ q=>⟨ba,(som aD).symm,⟨af,q.k<|s7 z z z z z z z,(cM (cM (cr [H.z] I) sh (io sr):Chg (· ∈ [H.z]) I b5) be ah:Chg (· ∈ [H.z]) I bc),bf,bg,(or2 bh ah an_ (x_ sh.s):∀k∈af,k∈[H.z]∨I.z<=k)⟩⟩
 ·rintro L _ bi ⟨S3,aE,bj,ha,hi,hj⟩;refine Wu ?_ aE;refine Ws<|Rl z z z<|Wn<|Wq<|Wc z (fun hc=>(M_ hc).elim) (fun _=>?_)
  exact We<|fun _ q=>⟨rfl,⟨S3,q.k<|s4 z z z z,(cM (cr [H.z] I) bj (io sr):Chg (· ∈ [H.z]) I bi),ha,hi,(or1 hj (io sr) (x_ lr):∀k∈S3,k∈[H.z]∨I.z<=k)⟩⟩
 ·rintro L bk bm rfl ⟨S3,_,sb,ha,hi,hj⟩;have aF:=elL a2;revert bk;refine Wo<|Wm z<|R z (bP (parts:=[]) (cs:=[vI 0,sl none 0 0,sl none 0 0]) E_ z z)<|RM z z ?_
  have hq:=lt_ he G.s;have ai:∀k∈[H.z],¬B k:=or0 (f_ lr)<|t_<|zt' O hq;have aj:=((hd.e G).e s8).c sb<|g_ ai
  have hk:=lt_ (lt_ hq s8.s) sb.s;have ht:=zt' O hk;obtain ⟨bn,_,_,bo,aG⟩:=S_ aF;refine E z (fc call101 z<|aJ.run (B:=bm.z) (x2:=(⟨0,([]:List UInt8),([]:List Val)⟩:Val)) bo zr (repS.mono (W.g aj) ht) (repS.mono (Y.g aj) ht) (((a4.e G).e s8).c sb<|(g_ ai) _ hC1b) (zap' ht hC1b) (ii z) onL a_8 (nbl an_) onL a_8 (nbl an_) an_ (a_.rep ha) aS) ?_;rintro _ _ ⟨ak,al,am,an,ao,ap,aq,ar,au,bp,bq,rfl,br,bs,bt,bu,bv,av,hu,hl⟩
  iterate 3 refine Re z z z ?_
  refine E0 (fs0 (cur':=[vI bn.number,sl al am an,sl ap aq ar]) c_ z z ((((h5.e G).e s8).c sb<|djs<|mm1 h5.lt G.s).c ak<|atp<|nmA (nmN _)<|nmN _) z z z z) ?_;rintro _ _ ⟨bw,bx⟩;have hn:=bx.one;refine Ra z<|Rw z ?_
  obtain rfl:=som aG;have hv:=lt_ (lt_ G.s s8.s) sb.s;exact Wr<|w_ hr (y_ i_ c_ z bw z) z z ⟨bM (bM (bM (bup (bup (bup h4 h6) G) s8) sb<|m1 hq) ak al0) hn<|m1 h4.s,al,am,an,ao,ap,aq,ar,au,bp,bq,z,br,bs.c hn (or1 (al_ hl) al0 (a_9 (f_ h5.lt) hv):∀k∈ao,k∉[J.z]),bt.c hn (or1 (ar_ hl) al0 (a_9 (f_ h5.lt) hv):∀k∈au,k∉[J.z]),bu,bv.c hn<|k_ av h5.lt hv,m_ av hk,na_ (nl_ hu) (nr_ hu)<|nj hu,aa_ (a_o (al_ hl) al0 hk)<|a_o (ar_ hl) al0 hk⟩
 rintro _ _ _ _ rfl ⟨rfl,aH⟩;have aI:=elR a2;obtain rfl:=som aI;exact ⟨aH,z⟩
theorem T_w1m (ih:e_v n):k_q (g_Z n<|a_4 n):=by
 obtain ⟨aY,_,_,_,_,_⟩:=ih
 constructor
 intro A0 A8 AA AB A9 N0 C0 N8 C8 b1 o1 NA CA NB CB N9 C9 S2_1 S2_2 B x1 x2 x3 x4 res w0 hm ae aL aM hC1 hC1b aN Y p2_1n p2_1g a0 p2_2n p2_2g p2_2d1 a1 aO;unfold g_Z at hm
 refine goG func101 z z z fun fn hr=>Ws<|E z (fb z) ?_
 rintro _ wb ⟨rfl,af⟩;have h2:=af.below;have he:Blk wb w0.z [vI x2.number,sl AA NA CA,sl AB NB CB]:=af.blk;refine E z (fa O_) ?_;rintro _ G ⟨rfl,ah⟩;have W:=ah.below;have hk:Blk G wb.z [vI 0,sl none 0 0,sl none 0 0]:=ah.blk;refine Ra z<|Rw z<|Wq<|Wm z ?_
 have ai:=(h2.ag B).e W;refine R z (lnR z_ z<|a1.g ai)<|Rm z<|Wn ?_
 obtain ⟨_,aP,aa⟩:=bdS hm;refine Wf (σ:=Int×(List Val)) (ρ:=Val×Int×(Option<|Int×Int)) (fun (aj:Nat) s a w=>un2 (fun xc xh=>∃I J L H,Sat 45 [(0,.pointer<|some ⟨b1,o1,none⟩),(3,vI xc),(5,pt w0.z),(8,pt wb.z),(16,sl A9 N9 C9),(17,vI (x3.length:Int)),(18,vI ((aj:Nat):Int))] a/\Chg (· ∈ (S2_2++[w0.z])) G w/\inI xc/\a_ w H (sl I J L) xh/\H.Nodup/\(∀k∈H,k∈S2_2∨G.z<=k)/\Blk w w0.z [vI x2.number,sl AA NA CA,sl I J L]) s) (fun s a w=>un2 (fun xc xh=>∃I J L H,Sat 45 [(3,vI xc),(5,pt w0.z),(8,pt wb.z)] a/\Chg (· ∈ (S2_2++[w0.z])) G w/\inI xc/\a_ w H (sl I J L) xh/\H.Nodup/\(∀k∈H,k∈S2_2∨G.z<=k)/\Blk w w0.z [vI x2.number,sl AA NA CA,sl I J L]) s) (rQ prog fn<|Q22 w0 B S2_1 S2_2) aP ?_ ?_ ?_ ?_ ?_
 ·exact fun _ q=>⟨AB,NB,CB,S2_2,q.k<|s7 z z z z z z z,cr (S2_2++[w0.z]) G,aO,(a0.e h2).e W,p2_2n,io sr,he.e W⟩
 ·rintro aj ⟨xc,xh⟩ _ ak _ ab ⟨I,J,L,H,aQ,s6,hi,hf,hl,hd,hn⟩ aR;refine Wu ?_ aQ;refine Ws<|Rl z z z<|Wn<|Wq<|Wc z (fun _=>?_) (fun hc=>(L_ ab hc).elim)
  refine Wk<|Wq<|Wb<|Ws ?_
  obtain ⟨_,aZ,aS⟩:=bdS<|b_a aR;have al:∀k∈[w0.z],¬B k:=or0 (f_ lr)<|t_ ae;have ht:=ai.c s6<|nmA (g_ p2_2g)<|g_ al
  refine RX z (at_ (α:=Int) z_ z_3 z z z (a1.g ht) aZ) ?_;rintro _ ⟨_,_,_,rfl,b0,b3,_⟩;obtain ⟨rfl,b4⟩:=a_5 b3;refine R z (l0 g_3 z<|b0.at0 z)<|Rw z<|Wm z<|RM z z ?_
  have hu:=lt_ (lt_ h2.s W.s) s6.s;obtain ⟨ro,b5,_,b6,ad⟩:=S_ aS;refine E z (fc call66 z<|aY.run b6 (zt' ae hu) (aL.g ht) (aM.g ht) (((hC1.e h2).e W).c s6<|(nmA (g_ p2_2g)<|g_ al) _ hC1b) hC1b b4 hi) ?_;rintro _ wm ⟨sa,ar,ns,cv,am,aw,nx,cy,an,b7,b8,rfl,b9,hp,hq,ba,ao,ap,hz,hj⟩;refine Rm z ?_
  iterate 3 refine Re z z z ?_
  refine E z (fa O_) ?_;rintro _ a4 ⟨rfl,aq⟩;have O:=aq.below;refine E0 (fs0 (cur':=[vI ro.number,sl ar ns cv,sl aw nx cy]) c_ z z (aq.blk:Blk a4 wm.z [vI 0,sl none 0 0,sl none 0 0]) z z z z) ?_;rintro _ a5 ⟨bb,bc⟩;have V:=bc.one;refine Ra z<|Rw z<|Wq<|Wm z ?_
  have au:=(ao.e O).c V<|ds<|mnr<|a_t.lt ao
  refine R z (c_V d_l z z au)<|Wx z (fun a2=>?_) (fun a2=>?_)
  ·refine Ws<|R z (bP (parts:=[]) (cs:=[vI 0,sl none 0 0,sl none 0 0]) E_ z z)<|RM z z ?_
   refine E0 (fs0 (cur':=[vI 0,sl none 0 0,sl none 0 0]) c_ z z ((((hk.c s6<|atp<|nmA (mno (a_.lt a0) h2.s)<|mmr he.lt).e sa).e O).c V<|djs<|mm1 hk.lt<|lt_ s6.s sa.s) z z z z) ?_;rintro _ be ⟨bf,bg⟩;have av:=bg.one;refine Ra z<|Rw z ?_
   exact Wr<|rtO<|qL (som<|ifT ad a2).symm<|w_ hr (y_ i_ c_ z bf z) z z ⟨(cM (cM (D_ (D_ (cM (D_ (D_ (cr (S2_1++S2_2) w0) h2:Chg (· ∈ (S2_1++S2_2)) w0 wb) W:Chg (· ∈ (S2_1++S2_2)) w0 G) s6 (aa_ (io<|b_n sr) (mor lr:∀k∈[w0.z],k∈(S2_1++S2_2)∨w0.z<=k)):Chg (· ∈ (S2_1++S2_2)) w0 ak) sa:Chg (· ∈ (S2_1++S2_2)) w0 wm) O:Chg (· ∈ (S2_1++S2_2)) w0 a4) V (mor (lt_ hu sa.s):∀k∈[wm.z],k∈(S2_1++S2_2)∨w0.z<=k):Chg (· ∈ (S2_1++S2_2)) w0 a5) av (mor h2.s:∀k∈[wb.z],k∈(S2_1++S2_2)∨w0.z<=k):Chg (· ∈ (S2_1++S2_2)) w0 be),none,0,0,[],none,0,0,[],b7,b8,z,ii z,onL,onL,hi,au.c av<|k_ ap hk.lt s6.s,m_ ap hu,nd0,al0⟩
  refine Wk<|Ws<|Rf z F_ z ?_
  have a6:=lt_ W.s s6.s;have ax:=lt_ a6 sa.s;have ay:=((hn.e sa).e O).c V<|djs<|mm1 he.lt ax
  refine R z (l0 I_ z<|ay.at z)<|R z (lN (vs:=[vI ro.number,sl ar ns cv,sl aw nx cy]) i_ c_ z z fid<|bb.row 0 3 z)<|E z (fS [(.tmp 37)] b_o z z z (b_b z) (lb z)<|lb z) ?_
  rintro _ az ⟨rfl,aA⟩;have hg:=aA.below;have bx:=(hp.e O).c V<|ds<|mnr<|a_.lt hp
  have bz:=(hq.e O).c V<|ds<|mnr<|a_.lt hq
  obtain ⟨bh,bi,aT⟩:=bdS<|ifF ad a2;refine E z (b_u (α:=Val) b_o bi z z ((((hf.e sa).e O).c V<|ds<|mno (a_.lt hf) sa.s).e hg) hl (aA.blk:Blk az a5.z [vI ro.number,sl ar ns cv,sl aw nx cy]) (h_e (x:=ro) (S1:=am) (S2:=an) b9 (((hp.e O).c V<|ds<|mnr<|a_.lt hp).e hg)<|((hq.e O).c V<|ds<|mnr<|a_.lt hq).e hg) (aa_ (a_x (al_ hj) (a_.lt hf) lr)<|a_x (ar_ hj) (a_.lt hf) lr)<|na_ (nl_ hz) (nr_ hz)<|nj hz) ?_;rintro _ bj ⟨a7,aB,aC,aD,rfl,aE,bk,bm,aF⟩;refine Rf z F_ z ?_;have aG:∀k∈H,k∉[w0.z]:=or1 hd (ds<|mnr<|a_.lt a0)<|a_9 (f_ he.lt) W.s;refine E0 (fs0 (cur':=[vI x2.number,sl AA NA CA,sl aB aC aD]) z_47 z z ((ay.e hg).c aE<|djs aG) z z z z) ?_;rintro _ bn ⟨bo,bp⟩;have aH:=bp.one;refine Wn<|Wg<|Rm z<|Rw z<|Wg<|R z (inc_ ab (lt_ (repS.len a1) v_) z z)<|Rm z<|Wl ?_
  have aI:=lt_ s6.s sa.s;exact fun _ q=>⟨(b5,bh),(som aT).symm,⟨aB,aC,aD,a7,q.k<|s7 z z z z z z z,(cM (cM (D_ (cM (D_ (D_ (cM (cr (S2_2++[w0.z]) G) s6 (aa_ (io<|b_Q sr)<|io<|b_n sr):Chg (· ∈ (S2_2++[w0.z])) G ak) sa:Chg (· ∈ (S2_2++[w0.z])) G wm) O:Chg (· ∈ (S2_2++[w0.z])) G a4) V (mor aI:∀k∈[wm.z],k∈(S2_2++[w0.z])∨G.z<=k):Chg (· ∈ (S2_2++[w0.z])) G a5) hg:Chg (· ∈ (S2_2++[w0.z])) G az) aE (or1 hd (io<|b_Q sr) (x_ lr):∀k∈H,k∈(S2_2++[w0.z])∨G.z<=k):Chg (· ∈ (S2_2++[w0.z])) G bj) aH (io<|b_n sr):Chg (· ∈ (S2_2++[w0.z])) G bn),ba,bk.c aH (or2 aF aG (aa_ (k_ (al_ hj) he.lt a6)<|k_ (ar_ hj) he.lt a6) (a_9 (f_ he.lt)<|lt_ (lt_ (lt_ ax O.s) V.s) hg.s):∀k∈a7,k∉[w0.z]),bm,(or2 aF (or1 hd (io sr) (x_ lr):∀k∈H,k∈S2_2∨G.z<=k) (aa_ (or0 (al_ hj) (x_ s6.s):∀k∈am,k∈S2_2∨G.z<=k) (or0 (ar_ hj) (x_ s6.s):∀k∈an,k∈S2_2∨G.z<=k)) (x_<|lt_ (lt_ (lt_ aI O.s) V.s) hg.s):∀k∈a7,k∈S2_2∨G.z<=k),bo⟩⟩
 ·rintro ⟨xc,xh⟩ _ bq ⟨I,J,L,H,aU,br,hi,hf,hl,hd,hn⟩;refine Wu ?_ aU;refine Ws<|Rl z z z<|Wn<|Wq<|Wc z (fun hc=>(M_ hc).elim) (fun _=>?_)
  exact We<|fun _ q=>⟨rfl,⟨I,J,L,H,q.k<|s3 z z z,(cM (cr (S2_2++[w0.z]) G) br (aa_ (io<|b_Q sr)<|io<|b_n sr):Chg (· ∈ (S2_2++[w0.z])) G bq),hi,hf,hl,(or1 hd (io sr) (x_ lr):∀k∈H,k∈S2_2∨G.z<=k),hn⟩⟩
 ·rintro ⟨xc,xh⟩ bs bt rfl ⟨I,J,L,H,_,a8,hi,hf,hl,hd,hn⟩;have aV:=elL aa;revert bs;refine Wo<|Ws<|R z (lN (vs:=[vI x2.number,sl AA NA CA,sl I J L]) i_ c_ z z fid<|hn.row 0 3 z)<|Rm z ?_
  have aJ:=mno (a_.lt a0) h2.s;refine E0 (fs0 (cur':=[vI x2.number,sl AA NA CA,sl I J L]) c_ z z (hk.c a8<|atp<|nmA aJ<|mmr he.lt) z z z z) ?_;rintro _ bu ⟨bv,bw⟩;have a9:=bw.one;refine Ra z<|Rw z ?_
  obtain rfl:=som<|b_a aV;have aK:=lt_ h2.s W.s;exact Wr<|w_ hr (y_ i_ c_ z bv z) z z ⟨(cM (cM (D_ (D_ (cr (S2_1++S2_2) w0) h2:Chg (· ∈ (S2_1++S2_2)) w0 wb) W:Chg (· ∈ (S2_1++S2_2)) w0 G) a8 (aa_ (io<|b_n sr) (mor lr:∀k∈[w0.z],k∈(S2_1++S2_2)∨w0.z<=k)):Chg (· ∈ (S2_1++S2_2)) w0 bt) a9 (mor h2.s:∀k∈[wb.z],k∈(S2_1++S2_2)∨w0.z<=k):Chg (· ∈ (S2_1++S2_2)) w0 bu),AA,NA,CA,S2_1,I,J,L,H,.nilIface,([]:List Nat),z,aN,(((Y.e h2).e W).c a8<|nmA (ds p2_2d1)<|ds<|mnr<|a_.lt Y).c a9<|ds<|mno (a_.lt Y) h2.s,hf.c a9 (or1 hd (ds aJ) (a_9 (f_ hk.lt) lr):∀k∈H,k∉[wb.z]),hi,d_C,an_,na_ p2_1n hl<|ds<|c_z hd p2_2d1 (a_.lt Y) aK,aa_ (io<|b_Q sr) (or1 hd (io<|b_n sr) (x_ aK):∀k∈H,k∈(S2_1++S2_2)∨w0.z<=k)⟩
 rintro _ _ _ _ rfl ⟨rfl,aW⟩;have aX:=elR aa;obtain rfl:=som aX;exact ⟨aW,z⟩
theorem T_w1n (ih:e_v n):k_r (h_0 n<|a_4 n):=by
 obtain ⟨_,_,ar,_,_,_⟩:=ih
 constructor
 intro A0 A8 A2 A3 A1 A4 N0 C0 N8 C8 b1 o1 N2 C2 N3 C3 N1 C1 N4 C4 B x1 x2 x3 res w0 hm Y a0 a1 hC1 hC1b b8 b9 ba bb bc J a2 L;unfold h_0 at hm
 refine goG func102 z z z fun fn hr=>Ws<|E z (fb z) ?_
 rintro _ H ⟨rfl,hk⟩;have h1:=hk.below;refine E z (fa O_) ?_;rintro _ au ⟨rfl,hl⟩;have h4:=hl.below;have h2:Blk au H.z [vI 0,sl none 0 0,sl none 0 0]:=hl.blk;refine Ra z<|Rw z<|Wm z<|Rf z Y_ z ?_
 have hn:=(hk.blk:Blk H w0.z (vR x2 A2 N2 C2 A3 N3 C3 A1 N1 C1 A4 N4 C4)).e h4;refine R z (l0 B_ z<|hn.at z) ?_;obtain ⟨_,av,af⟩:=bdS hm;have O:=(h1.ag B).e h4;refine RX z (at_ (α:=Int) z_ z_3 z z z (a2.g O) av) ?_;rintro _ ⟨_,_,_,rfl,aw,ax,_⟩;obtain ⟨rfl,az⟩:=a_5 ax;refine R z (l0 g_3 z<|aw.at0 z)<|Rm z ?_
 have ho:=(hC1.e h1).e h4;have V:=lt_ h1.s h4.s;obtain ⟨re,aA,_,aB,hmm⟩:=S_ af;refine E z (fc call97 z<|i_r aB (zt' Y V) (a0.g O) (a1.g O) ho hC1b az L) ?_;rintro _ I ⟨G,aC,aD,rfl,aE,aF,hp,hq⟩;refine Rm z ?_
 iterate 3 refine Re z z z ?_
 refine RA z z<|Rw z<|Wq<|Wm z<|R z (c_V d_l z z hp)<|Wx z (fun hcf=>?_) (fun hcf=>?_)
 ·refine Ws<|R z (bP (parts:=[]) (cs:=[vI 0,sl none 0 0,sl none 0 0]) E_ z z)<|RM z z<|E0 (fs0 (cur':=[vI 0,sl none 0 0,sl none 0 0]) c_ z z (h2.e G) z z z z) ?_
  rintro _ _ ⟨aG,aH⟩;have ht:=aH.one;refine Ra z<|Rw z ?_
  obtain rfl:=som<|ifT hmm hcf;exact Wr<|w_ hr (y_ i_ c_ z aG z) z z ⟨bM (bup (bup h1 h4) G) ht<|m1 h1.s,none,0,0,[],none,0,0,[],aC,aD,z,ii z,onL,onL,L,hp.c ht<|k_ hq h2.lt lr,m_ hq V,nd0,al0⟩
 refine Wk<|Wq<|Ws<|Rf z b_0 z ?_
 have hu:=hn.e G;refine R z (l0 B_ z<|hu.at z) ?_;have hv:=O.e G;refine R z (lnR z_ z<|J.g hv)<|Rm z<|Wn ?_
 obtain ⟨_,ah,hmr⟩:=bdS<|ifF hmm hcf;refine Wf (σ:=Unit) (ρ:=Val×Int×(Option<|Int×Int)) (fun (ks:Nat)(_:Unit) a w=>Sat 61 [(0,.pointer<|some ⟨b1,o1,none⟩),(2,vI x3),(4,pt w0.z),(6,pt H.z),(9,vI re),(10,vI aA),(31,sl A1 N1 C1),(32,vI (x2.tags.length:Int)),(33,vI ((ks:Nat):Int))] a/\Below I.z I w) (fun (_:Unit) a w=>Sat 61 [(2,vI x3),(6,pt H.z)] a/\Below I.z I w) (rQ prog fn<|Q21 w0 B) ah ?_ ?_ ?_ ?_ ?_
 ·exact fun _ q=>⟨q.k<|s9 z z z z z z z z z,br I⟩
 ·rintro ks _ _ _ _ hkg ⟨ai,s3⟩ aj;refine Wu ?_ ai;refine Ws<|Rl z z z<|Wn<|Wq<|Wc z (fun _=>?_) (fun hc=>(L_ hkg hc).elim)
  refine Wk<|Wq<|Wb<|Wm z ?_
  obtain ⟨_,aI,hmw⟩:=bdS aj;have W:=hv.e s3;refine RX z (at_ (α:=Int) z_ z_3 z z z (J.g W) aI) ?_;rintro _ ⟨_,_,_,rfl,aJ,aK,_⟩;obtain ⟨rfl,_⟩:=a_5 aK;refine R z (l0 g_3 z<|aJ.at0 z)<|Ra z<|Rw z<|Wm z<|Rm z<|Rq z z z<|Wx z (fun hch=>?_) (fun hch=>?_)
  ·refine Wm z<|Rm z<|R z (bP (parts:=[(0,.tmp 42)]) (cs:=[vI re,sl none 0 0,sl none 0 0]) E_ z z)<|Rf z Y_ z<|R z (l0 B_ z<|(hu.e s3).at z)<|Rm z<|R z (inc_ hkg (lt_ (repS.len J) v_) z z)<|Rm z<|R z (add_ z z) ?_
   obtain ⟨_,aL,ak⟩:=bdS<|ifT hmw hch;refine RX z (rX z_ z_3 z z (a2.g W) z z aL) ?_;rintro _ ⟨_,_,_,rfl,aM⟩;refine Rm z ?_;have ha:=lt_ (lt_ V G.s) s3.s;obtain ⟨aN,_,_,aO,al⟩:=S_ ak;refine E z (fc call101 z<|ar.run (B:=B) (x2:=(⟨re,([]:List UInt8),([]:List Val)⟩:Val)) aO (zt' Y ha) (a0.g W) (a1.g W) ((ho.e G).e s3) hC1b aE onL a_8 an_ onL a_8 an_ an_ aM aF) ?_;rintro _ _ ⟨sx,ay,nz,a3,a4,a5,a6,a7,a8,aP,aQ,rfl,aR,aS,aT,aU,aV,a9,hi,hb⟩
   iterate 3 refine Re z z z ?_
   refine E0 (fs0 (cur':=[vI aN.number,sl ay nz a3,sl a5 a6 a7]) c_ z z (((h2.e G).e s3).c sx<|atp<|nmA (nmN _)<|nmN _) z z z z) ?_;rintro _ _ ⟨aW,aX⟩;have hd:=aX.one;refine Ra z<|Rw z ?_
   have hj:=lt_ G.s s3.s;exact Wr<|rtO<|qL (som al).symm<|w_ hr (y_ i_ c_ z aW z) z z ⟨bM (bM (bup (bup (bup h1 h4) G) s3) sx al0) hd<|m1 h1.s,ay,nz,a3,a4,a5,a6,a7,a8,aP,aQ,z,aR,aS.c hd (or1 (al_ hb) al0 (a_9 (f_ h2.lt) hj):∀k∈a4,k∉[H.z]),aT.c hd (or1 (ar_ hb) al0 (a_9 (f_ h2.lt) hj):∀k∈a8,k∉[H.z]),aU,aV.c hd<|k_ a9 h2.lt hj,m_ a9 ha,na_ (nl_ hi) (nr_ hi)<|nj hi,aa_ (a_o (al_ hb) al0 ha)<|a_o (ar_ hb) al0 ha⟩
  exact Wk<|Wg<|R z (inc_ hkg (lt_ (repS.len J) v_) z z)<|Rm z<|Wl (fun _ q=>⟨(),(som<|ifF hmw hch).symm,⟨q.k<|s9 z z z z z z z z z,s3⟩⟩)
 ·rintro _ _ _ ⟨am,aY⟩;refine Wu ?_ am;refine Ws<|Rl z z z<|Wn<|Wq<|Wc z (fun hc=>(M_ hc).elim) (fun _=>?_)
  exact We<|fun _ q=>⟨rfl,⟨q.k<|s2 z z,aY⟩⟩
 ·rintro _ aZ _ rfl ⟨_,sc⟩;have an:=elL hmr;revert aZ;refine Wo<|Ws<|R z (bP (parts:=[]) (cs:=[vI 0,sl none 0 0,sl none 0 0]) E_ z z)<|RM z z ?_
  have aa:=lt_ (lt_ V G.s) sc.s;obtain ⟨_,b0,ao⟩:=bdS an;refine E z (fc call106 z<|d_S b0 (zt' Y aa) L<|ii z) ?_;rintro _ _ ⟨ab,b3,b4,rfl,b5,ad⟩;refine E0 (fs0 (cur':=[vI 0,sl none 0 0,sl none 0 0]) c_ z z (((h2.e G).e sc).e ab) z z z z) ?_;rintro _ _ ⟨b6,b7⟩;have ae:=b7.one;refine Ra z<|Rw z ?_
  obtain rfl:=som ao;exact Wr<|w_ hr (y_ i_ c_ z b6 z) z z ⟨bM (bup (bup (bup (bup h1 h4) G) sc) ab) ae<|m1 h1.s,none,0,0,[],none,0,0,[],b3,b4,z,ii z,onL,onL,L,b5.c ae<|k_ ad h2.lt<|lt_ G.s sc.s,m_ ad aa,nd0,al0⟩
 rintro _ _ _ _ rfl ⟨rfl,ap⟩;have aq:=elR hmr;obtain rfl:=som aq;exact ⟨ap,z⟩
theorem T_w1o (ih:e_v n):k_s (h_1 n<|a_4 n):=by
 obtain ⟨_,_,a6,_,_,_⟩:=ih
 constructor
 intro A0 A8 A2 A3 A1 A4 N0 C0 N8 C8 b1 o1 N2 C2 N3 C3 N1 C1 N4 C4 B x1 x2 x3 res w0 hm O W Y hC1 hC1b aI aJ aK aL aM aN a3 H;unfold h_1 at hm
 refine goG func103 z z z fun fn hr=>Ws<|E z (fb z) ?_
 rintro _ I ⟨rfl,hf⟩;have h1:=hf.below;refine E z (fa O_) ?_;rintro _ a7 ⟨rfl,hg⟩;have h3:=hg.below;have h2:Blk a7 I.z [vI 0,sl none 0 0,sl none 0 0]:=hg.blk;refine Ra z<|Rw z<|Wm z<|Rm z ?_
 have hh:=(hC1.e h1).e h3;have V:=(h1.ag B).e h3;have h5:=lt_ h1.s h3.s;obtain ⟨_,_,a8,hmi⟩:=c_1 hm;refine E z (fc call133 z<|i_q a8 (zt' O h5) (W.g V) (Y.g V) hh hC1b H<|ii z) ?_;rintro _ _ ⟨G,_,_,_,a9,aa,rfl,hj,hk,hl⟩;refine Rm z<|Re z z z<|Re z z z<|Ra z<|Rw z<|Wq<|Wb<|Wm z<|R z (c_V d_l z z hk)<|Rw z<|Wc z (fun hca=>?_) (fun hca=>?_)
 ·refine Ws<|R z (bP (parts:=[]) (cs:=[vI 0,sl none 0 0,sl none 0 0]) E_ z z)<|RM z z<|E0 (fs0 (cur':=[vI 0,sl none 0 0,sl none 0 0]) c_ z z (h2.e G) z z z z) ?_
  rintro _ _ ⟨ab,ad⟩;have hn:=ad.one;refine Ra z<|Rw z ?_
  obtain rfl:=som<|ifT hmi hca;exact Wr<|rtO<|w_ hr (y_ i_ c_ z ab z) z z ⟨bM (bup (bup h1 h3) G) hn<|m1 h1.s,none,0,0,[],none,0,0,[],a9,aa,z,ii z,onL,onL,H,hk.c hn<|k_ hl h2.lt lr,m_ hl h5,nd0,al0⟩
 refine Wm z ?_
 obtain ⟨_,ae,hmm⟩:=bdS<|ifF hmi hca;refine RX z (at_ (α:=UInt8) l_ z_5 z z z hj ae) ?_;rintro _ ⟨_,_,_,rfl,af,ah,_⟩;obtain rfl:=u8 ah;refine R z (l0 g_5 z<|af.at0 z)<|R z (a_q z z)<|Rw z<|Wc z (fun hcb=>?_) (fun hcb=>?_)
 ·refine Ws<|R z (bP (parts:=[]) (cs:=[vI 0,sl none 0 0,sl none 0 0]) E_ z z)<|RM z z ?_
  have ho:=lt_ h5 G.s;obtain ⟨_,ai,a4⟩:=bdS<|ifT hmm hcb;refine E z (fc call106 z<|d_S ai (zt' O ho) H<|ii z) ?_;rintro _ _ ⟨sp,aj,ak,rfl,al,hq⟩;refine E0 (fs0 (cur':=[vI 0,sl none 0 0,sl none 0 0]) c_ z z ((h2.e G).e sp) z z z z) ?_;rintro _ _ ⟨am,an⟩;have ht:=an.one;refine Ra z<|Rw z ?_
  obtain rfl:=som a4;exact Wr<|rtO<|w_ hr (y_ i_ c_ z am z) z z ⟨bM (bup (bup (bup h1 h3) G) sp) ht<|m1 h1.s,none,0,0,[],none,0,0,[],aj,ak,z,ii z,onL,onL,H,al.c ht<|k_ hq h2.lt G.s,m_ hq ho,nd0,al0⟩
 refine Wm z ?_
 obtain ⟨_,ao,hmr⟩:=bdS<|ifF hmm hcb;refine RX z (at_ (α:=UInt8) l_ z_5 z z z hj ao) ?_;rintro _ ⟨_,_,_,rfl,ap,aq,_⟩;obtain rfl:=u8 aq;refine R z (l0 g_5 z<|ap.at0 z)<|Rq z z z<|Rw z<|Wc z (fun hcc=>?_) (fun hcc=>?_)
 ·refine Ws<|R z (bP (parts:=[]) (cs:=[vI 0,sl none 0 0,sl none 0 0]) E_ z z)<|Rm z<|R z (add_ z z)<|E0 (fs0 (cur':=[vI 0,sl none 0 0,sl none 0 0]) c_ z z (h2.e G) z z z z) ?_
  rintro _ _ ⟨ar,av⟩;refine Ra z<|Rw z ?_
  obtain rfl:=som<|ifT hmr hcc;exact Wr<|rtO<|w_ hr (y_ i_ c_ z ar z) z z ⟨bM (bup (bup h1 h3) G) av.one<|m1 h1.s,none,0,0,[],none,0,0,[],.nilIface,([]:List Nat),z,ii z,onL,onL,iA _ _,d_C,an_,nd0,al0⟩
 refine Wk<|Wm z<|R z (bP (parts:=[]) (cs:=[vI 0,sl none 0 0,sl none 0 0]) E_ z z)<|Rf z Y_ z<|R z (l0 B_ z<|(((hf.blk:Blk I w0.z (vR x2 A2 N2 C2 A3 N3 C3 A1 N1 C1 A4 N4 C4)).e h3).e G).at z)<|Rm z<|R z (add_ z z) ?_
 have hd:=V.e G;have h6:=lt_ h5 G.s;obtain ⟨aw,_,_,ax,a5⟩:=S_<|ifF hmr hcc;refine E z (fc call101 z<|a6.run (B:=B) (x2:=(⟨0,([]:List UInt8),([]:List Val)⟩:Val)) ax (zt' O h6) (W.g hd) (Y.g hd) (hh.e G) hC1b (ii z) onL a_8 an_ onL a_8 an_ an_ (a3.g hd)<|iA _ _) ?_;rintro _ _ ⟨ss,au,nv,cw,Sx,ay,nz,a0,a1,az,aA,rfl,aB,aC,aD,aE,aF,a2,he,J⟩
 iterate 3 refine Re z z z ?_
 refine E0 (fs0 (cur':=[vI aw.number,sl au nv cw,sl ay nz a0]) c_ z z ((h2.e G).c ss<|atp<|nmA (nmN _)<|nmN _) z z z z) ?_;rintro _ _ ⟨aG,aH⟩;have L:=aH.one;refine Ra z<|Rw z ?_
 obtain rfl:=som a5;exact Wr<|w_ hr (y_ i_ c_ z aG z) z z ⟨bM (bM (bup (bup h1 h3) G) ss al0) L<|m1 h1.s,au,nv,cw,Sx,ay,nz,a0,a1,az,aA,z,aB,aC.c L (or1 (al_ J) al0 (a_9 (f_ h2.lt) G.s):∀k∈Sx,k∉[I.z]),aD.c L (or1 (ar_ J) al0 (a_9 (f_ h2.lt) G.s):∀k∈a1,k∉[I.z]),aE,aF.c L<|k_ a2 h2.lt G.s,m_ a2 h6,na_ (nl_ he) (nr_ he)<|nj he,aa_ (a_o (al_ J) al0 h6)<|a_o (ar_ J) al0 h6⟩
theorem T_w1p (ih:e_v n):k_t (h_2 n<|a_4 n):=by
 obtain ⟨_,_,ap,_,_,_⟩:=ih
 constructor
 intro A0 A8 A2 A3 A1 A4 N0 C0 N8 C8 b1 o1 N2 C2 N3 C3 N1 C1 N4 C4 B x1 x2 x3 res w0 hm J V O hC1 hC1b aW aX aY aZ b0 b3 al L;unfold h_2 at hm
 refine goG func104 z z z fun fn hr=>Ws<|E z (fb z) ?_
 rintro _ wb ⟨rfl,hu⟩;have h6:=hu.below;refine E z (fa O_) ?_;rintro _ aq ⟨rfl,hv⟩;have H:=hv.below;have h3:Blk aq wb.z [vI 0,sl none 0 0,sl none 0 0]:=hv.blk;refine Ra z<|Rw z<|Wm z<|R z (bP (parts:=[]) (cs:=[vI 0,sl none 0 0,sl none 0 0]) E_ z z)<|Rf z Y_ z<|R z (l0 B_ z<|((hu.blk:Blk wb w0.z (vR x2 A2 N2 C2 A3 N3 C3 A1 N1 C1 A4 N4 C4)).e H).at z)<|Rm z ?_
 have hw:=(hC1.e h6).e H;have hc:=(h6.ag B).e H;have I:=lt_ h6.s H.s;obtain ⟨rk,_,_,ar,hmr⟩:=S_ hm;refine E z (fc call101 z<|ap.run (B:=B) (x2:=(⟨0,([]:List UInt8),([]:List Val)⟩:Val)) ar (zt' J I) (V.g hc) (O.g hc) hw hC1b (ii z) onL a_8 an_ onL a_8 an_ an_ (al.g hc) L) ?_;rintro _ ws ⟨G,ad,ne,cf,Sx,ah,ng,ci,Sy,au,av,rfl,aw,hz,a0,a1,a2,a3,hl,hj⟩;refine Rm z ?_
 iterate 3 refine Re z z z ?_
 refine E z (fa O_) ?_;rintro _ ax ⟨rfl,a4⟩;have h1:=a4.below;refine E0 (fs0 (cur':=[vI rk.number,sl ad ne cf,sl ah ng ci]) c_ z z (a4.blk:Blk ax ws.z [vI 0,sl none 0 0,sl none 0 0]) z z z z) ?_;rintro _ _ ⟨ay,az⟩;have h2:=az.one;refine Ra z<|Rw z<|Wq<|Wm z ?_
 have a5:=(a2.e h1).c h2<|ds<|mnr<|a_t.lt a2
 refine R z (c_V d_l z z a5)<|Wx z (fun hcm=>?_) (fun hcm=>?_)
 ·refine Ws<|R z (bP (parts:=[]) (cs:=[vI 0,sl none 0 0,sl none 0 0]) E_ z z)<|RM z z<|E0 (fs0 (cur':=[vI 0,sl none 0 0,sl none 0 0]) c_ z z (((h3.c G<|atp<|nmA (nmN _)<|nmN _).e h1).c h2<|djs<|mm1 h3.lt G.s) z z z z) ?_
  rintro _ _ ⟨aA,aB⟩;have a6:=aB.one;refine Ra z<|Rw z ?_
  obtain rfl:=som<|ifT hmr hcm;exact Wr<|w_ hr (y_ i_ c_ z aA z) z z ⟨bM (bM (bup (bM (bup h6 H) G al0) h1) h2<|m1<|lt_ I G.s) a6<|m1 h6.s,none,0,0,[],none,0,0,[],au,av,z,ii z,onL,onL,L,a5.c a6<|k_ a3 h3.lt lr,m_ a3 I,nd0,al0⟩
 refine Wk<|Wm z<|Rm z ?_
 have ha:=lt_ I G.s;have a7:∀k∈[ws.z],¬B k:=or0 (f_ lr)<|t_<|zt' J ha;have a8:=((hw.c G<|(nmA (g_ an_)<|g_ an_) _ hC1b).e h1).c h2<|(g_ a7) _ hC1b
 have hn:=((hc.c G<|nmA (g_ an_)<|g_ an_).e h1).c h2<|g_ a7
 have ho:=lt_ (lt_ ha h1.s) h2.s;obtain ⟨_,_,aC,W⟩:=c_1<|ifF hmr hcm;refine E z (fc call133 z<|i_q aC (zt' J ho) (V.g hn) (O.g hn) a8 hC1b a1<|ii z) ?_;rintro _ _ ⟨s4,_,_,_,aD,aE,rfl,aF,a9,aa⟩;refine Rm z<|Re z z z<|Re z z z<|Ra z<|Rw z<|Wq<|Wm z<|R z (c_V d_l z z a9)<|Wx z (fun hcp=>?_) (fun hcp=>?_)
 ·refine Ws<|R z (bP (parts:=[]) (cs:=[vI 0,sl none 0 0,sl none 0 0]) E_ z z)<|RM z z<|E0 (fs0 (cur':=[vI 0,sl none 0 0,sl none 0 0]) c_ z z ((((h3.c G<|atp<|nmA (nmN _)<|nmN _).e h1).c h2<|djs<|mm1 h3.lt G.s).e s4) z z z z) ?_
  rintro _ _ ⟨aG,aH⟩;have ab:=aH.one;refine Ra z<|Rw z ?_
  obtain rfl:=som<|ifT W hcp;exact Wr<|w_ hr (y_ i_ c_ z aG z) z z ⟨bM (bup (bM (bup (bM (bup h6 H) G al0) h1) h2<|m1 ha) s4) ab<|m1 h6.s,none,0,0,[],none,0,0,[],aD,aE,z,ii z,onL,onL,L,a9.c ab<|k_ aa h3.lt<|lt_ (lt_ G.s h1.s) h2.s,m_ aa ho,nd0,al0⟩
 refine Wk<|Wq<|Wq (Wd (X:=noX) 0 (pl_ 13 [11]) mo (by kernel_rfl) fun b4 s5 _=>dM z z z ?_)
 obtain ⟨_,aI,am⟩:=bdS<|ifF W hcp;refine dRX z z (at_ (α:=UInt8) l_ z_5 z z z (aF.e s5) aI) ?_;rintro _ ⟨_,_,_,rfl,aJ,aK,_⟩;obtain rfl:=u8 aK;refine dR z z (l0 g_5 z<|aJ.at0 z)<|dR z z (c_2 d_5 d_3 z)<|dM z z z<|dR z z (H_ z)<|dR z z (fd f_l z)<|dR z z (l0 U_ z<|((a8.e s4).e s5).at (j:=1) z)<|dM z z z<|dM z z z ?_
 obtain ⟨_,aL,an⟩:=bdS am;refine dRX z z (rX l_ z_5 z z (O.g<|(hn.e s4).e s5) z z aL) ?_;rintro _ ⟨_,_,_,rfl,aM⟩;have ae:=lt_ (lt_ ho s4.s) s5.s;obtain ⟨_,aN,Y⟩:=bdS an;refine dE z z (fc call135 z<|W_w32 aN (zt' J ae) aM) (.inr fun _ _ h=>j_<|h.1) ?_;rintro _ _ ⟨s7,rfl,_⟩;refine dR z z (nq z z)<|pD<|Wo<|Wc z (fun hcq=>?_) (fun hcq=>?_)
 ·refine Ws<|R z (bP (parts:=[]) (cs:=[vI 0,sl none 0 0,sl none 0 0]) E_ z z)<|RM z z ?_
  have af:=lt_ ae s7.s;obtain ⟨_,aO,ao⟩:=bdS<|ifT Y hcq;refine E z (fc call106 z<|d_S aO (zt' J af) a1<|ii z) ?_;rintro _ _ ⟨ai,aP,aQ,rfl,aR,aj⟩;refine E0 (fs0 (cur':=[vI 0,sl none 0 0,sl none 0 0]) c_ z z (((((((h3.c G<|atp<|nmA (nmN _)<|nmN _).e h1).c h2<|djs<|mm1 h3.lt G.s).e s4).e s5).e s7).e ai) z z z z) ?_;rintro _ _ ⟨aS,aT⟩;have ak:=aT.one;refine Ra z<|Rw z ?_
  obtain rfl:=som ao;exact Wr<|w_ hr (y_ i_ c_ z aS z) z z ⟨bM (bup (bup (bup (bup (bM (bup (bM (bup h6 H) G al0) h1) h2<|m1 ha) s4) s5) s7) ai) ak<|m1 h6.s,none,0,0,[],none,0,0,[],aP,aQ,z,ii z,onL,onL,L,aR.c ak<|k_ aj h3.lt<|lt_ (lt_ (lt_ (lt_ (lt_ G.s h1.s) h2.s) s4.s) s5.s) s7.s,m_ aj af,nd0,al0⟩
 refine Wk<|Ws<|R z (lN (vs:=[vI rk.number,sl ad ne cf,sl ah ng ci]) i_ c_ z z fid<|(((ay.e s4).e s5).e s7).row 0 3 z)<|Rm z<|R z (add_ z z)<|E0 (fs0 (cur':=[vI rk.number,sl ad ne cf,sl ah ng ci]) c_ z z ((((((h3.c G<|atp<|nmA (nmN _)<|nmN _).e h1).c h2<|djs<|mm1 h3.lt G.s).e s4).e s5).e s7) z z z z) ?_
 rintro _ _ ⟨aU,aV⟩;have ht:=aV.one;refine Ra z<|Rw z ?_
 obtain rfl:=som<|ifF Y hcq;exact Wr<|w_ hr (y_ i_ c_ z aU z) z z ⟨bM (bup (bup (bup (bM (bup (bM (bup h6 H) G al0) h1) h2<|m1 ha) s4) s5) s7) ht<|m1 h6.s,ad,ne,cf,Sx,ah,ng,ci,Sy,.nilIface,([]:List Nat),z,aw,(((((hz.e h1).c h2<|ds<|mnr<|a_.lt hz).e s4).e s5).e s7).c ht (or1 (al_ hj) al0 (a_9 (f_ h3.lt) lr):∀k∈Sx,k∉[wb.z]),(((((a0.e h1).c h2<|ds<|mnr<|a_.lt a0).e s4).e s5).e s7).c ht (or1 (ar_ hj) al0 (a_9 (f_ h3.lt) lr):∀k∈Sy,k∉[wb.z]),iA _ _,d_C,an_,na_ (nl_ hl) (nr_ hl)<|nj hl,aa_ (a_o (al_ hj) al0 I)<|a_o (ar_ hj) al0 I⟩
theorem c_k:∀n,e_v n
  | 0=>⟨⟨fun hm=>by intros;exact nomatch (show none=some _ from hm)⟩,⟨fun hm=>by intros;exact nomatch (show none=some _ from hm)⟩,⟨fun hm=>by intros;exact nomatch (show none=some _ from hm)⟩,⟨fun hm=>by intros;exact nomatch (show none=some _ from hm)⟩,⟨fun hm=>by intros;exact nomatch (show none=some _ from hm)⟩,⟨fun hm=>by intros;exact nomatch (show none=some _ from hm)⟩⟩
  | n+1=>⟨T_w01<|c_k n,T_w1l<|c_k n,T_w1m<|c_k n,T_w1n<|c_k n,T_w1o<|c_k n,T_w1p<|c_k n⟩
theorem W_w01:k_o (a_4 n).impl_fileReader_value:=(c_k n).1
theorem W_w1l:k_p (a_4 n).impl_fileReader_array:=(c_k n).2.1
theorem W_w1m:k_q (a_4 n).impl_fileReader_items:=(c_k n).2.2.1
theorem W_w1n:k_r (a_4 n).impl_fileReader_choice:=(c_k n).2.2.2.1
theorem W_w1o:k_s (a_4 n).impl_fileReader_option:=(c_k n).2.2.2.2.1
theorem W_w1p:k_t (a_4 n).impl_fileReader_checked:=(c_k n).2.2.2.2.2
theorem k_u {x1:d_}{x2:Int}{x3:List UInt8}{x4:Int}{res:Val×Int×Int}(hm:h_3 n x1 x2 x3 x4=some res)(O:B<=w0.z)(hG:Gl w0 B)(V:repS w0 B (sl A0 N0 C0) x1.rules)(W:inI x2)(Y:repS w0 B (sl A9 N9 C9) x3)(aB:inI x4):h_ prog 41 [(.agg #[sl A0 N0 C0]),vI x2,sl A9 N9 C9,vI x4] w0 (Q9 w0 B res):=by
 unfold h_3 at hm
 refine goG func41 z z z fun fn hr=>Ws<|E z (fb z) ?_
 rintro _ wc ⟨rfl,a5⟩;have h1:=a5.below;have a6:Blk wc w0.z [sl A0 N0 C0]:=a5.blk;refine E z (fa O_) ?_;rintro _ wp ⟨rfl,a7⟩;have h4:=a7.below;have h5:Blk wp wc.z [vI 0,sl none 0 0,sl none 0 0]:=a7.blk;refine Ra z<|Rw z<|Wq<|Wq ?_
 obtain ⟨aE,aC,a0⟩:=bdS hm;refine Wt (fun a w=>∃(xq:Bool),xq=aE/\Sat 62 [(1,vI x2),(2,sl A9 N9 C9),(3,vI x4),(4,pt w0.z),(8,pt wc.z),(34,vB xq)] a/\Below wp.z wp w) ?_ ?_
 ·refine Wg<|R z (lN (vs:=[sl A0 N0 C0]) o_ n_ z z fid<|(a6.e h4).row 0 1 z)<|Rm z ?_
  have a8:=(h1.ag B).e h4;obtain ⟨aF,aG,a1⟩:=bdS aC;refine E z (fc call65 z<|i_p aG (zt' O<|lt_ h1.s h4.s) (V.g a8) W) ?_;rintro _ _ ⟨sd,rfl⟩;refine R z (not_ z)<|Rm z ?_
  rcases bs (!aF) with J | J
  ·exact Nh z J<|Nh z J<|R z (pT z J z)<|Rm z<|Nh z z<|Nh z z<|Nh z z<|Nh z z<|R z (pT z z z)<|Rm z<|Nh z z<|Nh z z<|Nh z z<|R z (pT z z z)<|Wl (fun _ q=>⟨true,som<|ifT a1 J,q.k<|s6 z z z z z z,sd⟩)
  have a2:=ifF a1 J;refine Rh z J (mv z)<|Rh z J (lss z z)<|R z (pF z J z)<|Rm z ?_
  rcases bs (decide<|x4<0) with H | H
  ·iterate 4 refine Nh z H ?_
   exact R z (pT z H z)<|Rm z<|Nh z z<|Nh z z<|Nh z z<|R z (pT z z z)<|Wl (fun _ q=>⟨true,som<|ifT a2 H,q.k<|s6 z z z z z z,sd⟩)
  have a3:=ifF a2 H;refine Rh z H (mv z)<|Rh z H (mv z) ?_
  have a9:=Y.g<|a8.e sd
  refine Rh z H (lnR l_ z a9)<|Rh z H (a_q z z)<|R z (pF z H z)<|Rm z ?_
  rcases bs (decide<|(x3.length:Int)<x4) with L | L
  ·iterate 3 refine Nh z L ?_
   exact R z (pT z L z)<|Wl (fun _ q=>⟨true,som<|ifT a3 L,q.k<|s6 z z z z z z,sd⟩)
  exact Rh z L (mv z)<|Rh z L (lnR l_ z a9)<|Rh z L (a_q z z)<|R z (pF z L z)<|Wl (fun _ q=>⟨decide<|400<(x3.length:Int),som<|ifF a3 L,q.k<|s6 z z z z z z,sd⟩)
 rintro aH aI ⟨xq,rfl,_,G⟩;revert aH;refine Wo<|Wc z (fun hcr=>?_) (fun hcr=>?_)
 ·refine Ws<|R z (bP (parts:=[]) (cs:=[vI 0,sl none 0 0,sl none 0 0]) E_ z z)<|E0 (fs0 (cur':=[vI 0,sl none 0 0,sl none 0 0]) c_ z z (h5.e G) z z z z) ?_
  rintro _ _ ⟨aJ,aK⟩;refine Ra z<|Rw z ?_
  obtain rfl:=som<|ifT a0 hcr;exact Wr<|w_ hr (y_ i_ c_ z aJ z) z z ⟨bM (bup (bup h1 h4) G) aK.one<|m1 h1.s,none,0,0,[],none,0,0,[],z,ii z,onL,onL,ii z,ii z,nd0,al0⟩
 refine Wk<|Ws<|R z (lN (vs:=[sl A0 N0 C0]) o_ n_ z z fid<|((a6.e h4).e G).row 0 1 z)<|Rm z<|R z (bP (parts:=[(0,.tmp 36),(1,.tmp 37)]) (cs:=[sl A0 N0 C0,sl A9 N9 C9]) r_i z z)<|E z (fb z) ?_
 rintro _ aa ⟨rfl,ab⟩;have ha:=ab.below;have ad:Blk aa aI.z [sl A0 N0 C0,sl A9 N9 C9]:=ab.blk;refine Rw z<|Wm z<|RM z z ?_
 have ae:=(((h1.ag B).e h4).e G).e ha;have he:=lt_ (lt_ (lt_ h1.s h4.s) G.s) ha.s;have af:=zt' O he;obtain ⟨rs,_,aL,aM,a4⟩:=S_<|ifF a0 hcr;refine E z (fc call66 z<|W_w01.run (B:=aa.z) aM zr (repS.mono (V.g ae) af) (repS.mono (Y.g ae) af) (ad.row 0 2 z) ad.lt W aB) ?_;rintro _ ai ⟨sb,ah,ng,ci,aN,aj,nk,cl,aO,_,_,rfl,aP,ak,al,aQ,ht,aR,hu,hn⟩;refine Rm z ?_
 iterate 3 refine Re z z z ?_
 refine E z (fa O_) ?_;rintro _ aS ⟨rfl,am⟩;have h2:=am.below;refine E0 (fs0 (cur':=[vI rs.number,sl ah ng ci,sl aj nk cl]) c_ z z (am.blk:Blk aS ai.z [vI 0,sl none 0 0,sl none 0 0]) z z z z) ?_;rintro _ an ⟨aT,aU⟩;have h3:=aU.one;refine Ra z<|Rw z<|Ws<|E z (fa r_w) ?_
 rintro _ aV ⟨rfl,ao⟩;have I:=ao.below;have ap:Blk aV an.z [(.pointer none)]:=ao.blk;refine Wn<|Wq<|Wm z<|R z (c_I d_108 (fun _ h=>by cases h) z) ?_
 have aq:=((ht.e h2).c h3<|ds<|mnr<|a_t.lt ht).e I
 rcases bs (aL.isSome) with hcm | hcm
 ·obtain ⟨_,_,aW,aD⟩:=c_1<|ifT a4 hcm;have hv:=lt_ he sb.s;refine E z (fc call67 z<|r_a ((((((((hG.e h1).e h4).e G).e ha).e sb).e h2).c h3<|g_ (or0 (f_ lr) (t_<|zt' O hv):∀k∈[ai.z],¬B k)).e I) aq aW ap) ?_;rintro _ _ ⟨ar,rfl,aX,aY,aZ,au,b0,b3⟩;have hw:=aX.one;refine Wx z (fun _=>?_) (fun hc=>(b_4 z hc).elim)
  refine Wq<|Wd (X:=(· ∈ [wc.z])) 0 (pl_ 12 [9]) mo (by kernel_rfl) fun b8 so _=>dR z z (bP (parts:=[]) (cs:=[vI 0,sl none 0 0,sl none 0 0]) E_ z z) ?_;have av:=aY.e so;have aw:=lt_ G.s ha.s;have ax:=lt_ aw sb.s;have ay:=lt_ (lt_ ax h2.s) h3.s;have hx:=mm1 h5.lt ay;refine dR z z (l1 g_106 z (atp hx)<|av.at z)<|dR z z (H_ z)<|dR z z (fd r_t z) ?_
  have az:=(aZ.c hw<|atp (or1 (f_<|.inl au) (ds<|mno (a_t.lt ht)<|lt_ h2.s h3.s) (a_9 (f_ ap.lt) lr):∀k∈[ar],k∉[an.z])).e so;have aA:∀k∈[ar],k∉[wc.z]:=or1 (f_<|.inl au) (k_ aR h5.lt aw)<|a_9 (f_ h5.lt)<|lt_ ay I.s;refine dR z z (l1 g_3 z (atp aA)<|az.at z)<|dR z z (l1 g_106 z (atp hx)<|av.at z)<|dR z z (H_ z)<|dR z z (fd r_u z)<|dR z z (l1 g_3 z (atp aA)<|az.at z)<|dE0 z (fs0 (cur':=[vI 0,sl none 0 0,sl none 0 0]) c_ z z ((((((((h5.e G).e ha).e sb).e h2).c h3<|djs<|mm1 h5.lt ax).e I).c hw<|djs hx).e so) z z z z) (.inr fun _ _ h=>chgIn (List.mem_singleton.2 z) h.2) ?_
  rintro _ _ ⟨b4,b5⟩;refine dQ z z z<|dQ z z z<|pD<|Wo ?_
  obtain rfl:=som aD;exact Wr<|w_ hr (y_ i_ c_ z b4 z) z z ⟨bM (bup (bM (bup (bM (bup (bup (bup (bup (bup h1 h4) G) ha) sb) h2) h3<|m1 hv) I) hw<|m1<|lt_ (lt_ hv h2.s) h3.s) so) b5.one<|m1 h1.s,none,0,0,[],none,0,0,[],z,ii z,onL,onL,b0,b3,nd0,al0⟩
 refine E z (fc call67 z<|r_9 aq hcm) ?_;rintro _ _ ⟨rfl,sf⟩;refine Wx z (fun hc=>(b_4 hc z).elim) (fun _=>?_)
 refine Wk<|Ws<|R z (lN (vs:=[vI rs.number,sl ah ng ci,sl aj nk cl]) i_ c_ z z fid<|((aT.e I).e sf).row 0 3 z)<|Rm z ?_
 have hy:=lt_ G.s ha.s;refine E0 (fs0 (cur':=[vI rs.number,sl ah ng ci,sl aj nk cl]) c_ z z (((((((h5.e G).e ha).e sb).e h2).c h3<|djs<|mm1 h5.lt<|lt_ hy sb.s).e I).e sf) z z z z) ?_;rintro _ _ ⟨b6,b7⟩;have hz:=b7.one;refine Ra z<|Rw z ?_
 obtain rfl:=som<|ifF a4 hcm;exact Wr<|w_ hr (y_ i_ c_ z b6 z) z z ⟨bM (bup (bup (bM (bup (bup (bup (bup (bup h1 h4) G) ha) sb) h2) h3<|m1<|lt_ he sb.s) I) sf) hz<|m1 h1.s,ah,ng,ci,aN,aj,nk,cl,aO,z,aP,((((ak.e h2).c h3<|ds<|mnr<|a_.lt ak).e I).e sf).c hz<|k_ (al_ hn) h5.lt hy,((((al.e h2).c h3<|ds<|mnr<|a_.lt al).e I).e sf).c hz<|k_ (ar_ hn) h5.lt hy,aQ,ii z,na_ (nl_ hu) (nr_ hu)<|nj hu,aa_ (m_ (al_ hn) he)<|m_ (ar_ hn) he⟩
theorem k_v {x1:d_}{x2:List UInt8}{res:Val×Int×Int}(hm:e_K n x1 x2=some res)(W:B<=w0.z)(hG:Gl w0 B)(V:repS w0 B (sl A0 N0 C0) x1.rules)(Y:repS w0 B (sl A7 N7 C7) x2):h_ prog 25 [(.agg #[sl A0 N0 C0]),sl A7 N7 C7] w0 (Q9 w0 B res):=by
 unfold e_K at hm
 refine goG func25 z z z fun fn hr=>Ws<|E z (fb z) ?_
 rintro _ wn ⟨rfl,ao⟩;have h2:=ao.below;have hv:Blk wn w0.z [sl A0 N0 C0]:=ao.blk;refine E z (fa O_) ?_;rintro _ I ⟨rfl,ap⟩;have h1:=ap.below;have ho:Blk I wn.z [vI 0,sl none 0 0,sl none 0 0]:=ap.blk;refine Ra z<|Rw z<|Wq ?_
 obtain ⟨bp,ak,bj⟩:=bdS hm;refine Wt (fun a w=>∃(xb:Int)(xw:List UInt8)(xx:List Val)(xc:Int)(xd:Int),(xb,xw,xx,xc,xd)=bp/\∃ae nf cg J ah ni cj L O,Sat 32 [(1,sl A7 N7 C7),(4,pt wn.z),(7,pt O),(8,vI xc),(9,vI xd)] a/\Below I.z I w/\inI xb/\a_ w J (sl ae nf cg) xw/\J.Nodup/\(∀k∈J,I.z<=k)/\a_ w L (sl ah ni cj) xx/\L.Nodup/\(∀k∈L,I.z<=k)/\(∀k∈L,k∉J)/\inI xc/\inI xd/\Blk w O [vI xb,sl ae nf cg,sl ah ni cj]/\I.z<=O/\(∀k∈J,k∉[O])/\(∀k∈L,k∉[O])) ?_ ?_
 ·refine Wd (X:=fun k=>k∈([]:List Nat)∨I.z<=k) 0 (.rd 0<|.rd 1<|.rd 3<|.br 2 (.br 4 (.rd 5<|.rd 6<|.rd 7<|.rd 8<|.ef 9<|.ef 10<|.rd 11<|.rd 12 .done) 9<|.ef 4<|.rd 5<|.rd 6<|.rd 7<|.rd 8<|.ef 10<|.rd 11<|.rd 12 .done) 9<|.ef 2<|.ef 4<|.rd 5<|.rd 6<|.rd 7<|.rd 8<|.ef 10<|.rd 11<|.rd 12 .done) mo (by kernel_rfl) fun aq G _=>?_
  have ar:=(hv.e h1).e G;refine dR z z (lN (vs:=[sl A0 N0 C0]) o_ n_ z z (c_o nm0<|Nat.lt_of_lt_of_le hv.lt h1.s)<|ar.row 0 1 z)<|dR z z (lN (vs:=[sl A0 N0 C0]) o_ n_ z z (c_o nm0<|Nat.lt_of_lt_of_le hv.lt h1.s)<|ar.row 0 1 z)<|dM z z z<|b_D ?_ ?_
  ·have hy:=((h2.ag B).e h1).e G;have hz:=lt_ (lt_ h2.s h1.s) G.s;obtain ⟨_,bq,al⟩:=bdS ak;refine dE z z (fc call42 z<|g_i bq (zt' W hz)<|V.g hy) (.inr fun _ _ h=>j_<|h.1) ?_;rintro _ au ⟨s3,rfl,av⟩;refine b_D ?_ ?_
   ·have aw:=hy.e s3;obtain ⟨rp,bt,bu,bv,bk⟩:=S_ al;refine dE z z (fc call41 z<|k_u bv (zt' W<|lt_ hz s3.s) ((((hG.e h2).e h1).e G).e s3) (V.g aw) av (Y.g aw)<|ii z) (.inr fun _ _ h=>j_<|h.1) ?_;rintro _ ax ⟨ay,az,aA,aB,bw,aC,aD,aE,bx,rfl,bz,aF,aG,bA,bB,a1,aH⟩;refine dM z z z ?_
    iterate 3 refine dR z z (ext_ z z) ?_
    refine dE z z (fa O_) (.inr fun _ _ h=>j_<|h.2.below) ?_;rintro _ bC ⟨rfl,aI⟩;have a2:=aI.below;have a3:=lt_ G.s s3.s;have a4:=m1<|lt_ a3 ay.s
    refine dE0 z (fs0 (cur':=[vI rp.number,sl az aA aB,sl aC aD aE]) c_ z z (aI.blk:Blk bC ax.z [vI 0,sl none 0 0,sl none 0 0]) z z z z) (.inr fun _ _ h=>a_O (atp a4) h.2) ?_;rintro _ _ ⟨bD,bE⟩;have a5:=bE.one;refine dQ z z z<|dQ z z z<|pD ?_
    have aJ:=mnr<|a_.lt aF
    have aK:=mnr<|a_.lt aG
    exact fun _ q=>⟨rp.number,rp.bytes,rp.items,bt,bu,som bk,az,aA,aB,bw,aC,aD,aE,bx,ax.z,q.k<|s5 z z z z z,bM (bup (bup (bup G s3) ay) a2) a5 a4,bz,(aF.e a2).c a5<|ds aJ,nl_ a1,m_ (al_ aH) a3,(aG.e a2).c a5<|ds aK,nr_ a1,m_ (ar_ aH) a3,ds<|nj a1,bA,bB,bD,atp a4,ds aJ,ds aK⟩
   refine dE z z (fa O_) (.inr fun _ _ h=>j_<|h.2.below) ?_;rintro _ bF ⟨rfl,aL⟩;have hk:=aL.below;have a6:Blk bF au.z [vI 0,sl none 0 0,sl none 0 0]:=aL.blk;have aM:=(hy.e s3).e hk;obtain ⟨rq,bG,bH,bI,bm⟩:=S_ al;refine dE z z (fc call41 z<|k_u bI (zt' W<|lt_ (lt_ hz s3.s) hk.s) (((((hG.e h2).e h1).e G).e s3).e hk) (V.g aM) av (Y.g aM)<|ii z) (.inr fun _ _ h=>j_<|h.1) ?_;rintro _ _ ⟨aN,aO,aP,aQ,bJ,aR,aS,aT,bK,rfl,bL,bN,bO,bQ,bR,a7,ht⟩;refine dM z z z ?_
   iterate 3 refine dR z z (ext_ z z) ?_
   have aU:=lt_ G.s s3.s;have a8:=m1 aU;refine dE0 z (fs0 (cur':=[vI rq.number,sl aO aP aQ,sl aR aS aT]) c_ z z (a6.e aN) z z z z) (.inr fun _ _ h=>a_O (atp a8) h.2) ?_;rintro _ _ ⟨bS,bT⟩;have a9:=bT.one;refine dQ z z z<|dQ z z z<|pD ?_
   have aV:=k_ (al_ ht) a6.lt lr;have aW:=lt_ aU hk.s;have aX:=k_ (ar_ ht) a6.lt lr;exact fun _ q=>⟨rq.number,rq.bytes,rq.items,bG,bH,som bm,aO,aP,aQ,bJ,aR,aS,aT,bK,au.z,q.k<|s5 z z z z z,bM (bup (bup (bup G s3) hk) aN) a9 a8,bL,bN.c a9 aV,nl_ a7,m_ (al_ ht) aW,bO.c a9 aX,nr_ a7,m_ (ar_ ht) aW,ds<|nj a7,bQ,bR,bS,atp a8,aV,aX⟩
  refine dE z z (fa O_) (.inr fun _ _ h=>j_<|h.2.below) ?_;rintro _ bU ⟨rfl,aY⟩;have hl:=aY.below;have aa:Blk bU aq.z [vI 0,sl none 0 0,sl none 0 0]:=aY.blk;have aZ:=(((h2.ag B).e h1).e G).e hl;have b0:=lt_ (lt_ (lt_ h2.s h1.s) G.s) hl.s;obtain ⟨_,bV,bn⟩:=bdS ak;refine dE z z (fc call42 z<|g_i bV (zt' W b0)<|V.g aZ) (.inr fun _ _ h=>j_<|h.1) ?_;rintro _ _ ⟨s6,rfl,bW⟩;have b3:=aZ.e s6;obtain ⟨rr,bX,bY,bZ,bo⟩:=S_ bn;refine dE z z (fc call41 z<|k_u bZ (zt' W<|lt_ b0 s6.s) (((((hG.e h2).e h1).e G).e hl).e s6) (V.g b3) bW (Y.g b3)<|ii z) (.inr fun _ _ h=>j_<|h.1) ?_;rintro _ _ ⟨b4,b5,b6,b7,c0,b8,b9,ba,c1,rfl,c2,c3,c4,c5,c6,ab,hu⟩;refine dM z z z ?_
  iterate 3 refine dR z z (ext_ z z) ?_
  have ad:=m1 G.s;refine dE0 z (fs0 (cur':=[vI rr.number,sl b5 b6 b7,sl b8 b9 ba]) c_ z z ((aa.e s6).e b4) z z z z) (.inr fun _ _ h=>a_O (atp ad) h.2) ?_;rintro _ _ ⟨c7,c8⟩;have af:=c8.one;refine dQ z z z<|dQ z z z<|pD ?_
  have bb:=k_ (al_ hu) aa.lt s6.s;have bc:=lt_ (lt_ G.s hl.s) s6.s;have be:=k_ (ar_ hu) aa.lt s6.s;exact fun _ q=>⟨rr.number,rr.bytes,rr.items,bX,bY,som bo,b5,b6,b7,c0,b8,b9,ba,c1,aq.z,q.k<|s5 z z z z z,bM (bup (bup (bup G hl) s6) b4) af ad,c2,c3.c af bb,nl_ ab,m_ (al_ hu) bc,c4.c af be,nr_ ab,m_ (ar_ hu) bc,ds<|nj ab,c5,c6,c7,atp ad,bb,be⟩
 rintro c9 ws ⟨xb,xw,xx,xc,xd,rfl,ae,nf,cg,J,ah,ni,cj,L,O,_,sm,ca,cb,cc,bf,cd,ce,bg,cf,bh,ch,ci,_,_,_⟩;revert c9;refine Wo<|Wq<|Wq ?_
 obtain ⟨ck,am,an⟩:=bdS<|un5S bj;refine Wt (fun a w=>∃(ai:Bool),ai=ck/\Sat 32 [(4,pt wn.z),(7,pt O),(8,vI xc),(9,vI xd),(26,vB ai)] a/\Below ws.z ws w) ?_ ?_
 ·refine Wg<|Rm z<|Rq z z z<|Rm z ?_
  rcases bs (xd==0) with H | H
  ·exact Rh z H (mv z)<|Rh z H (mv z)<|Rh z H (lnR l_ z<|Y.g<|((h2.ag B).e h1).e sm)<|Rh z H (lss z z)<|R z (pT z H z)<|Wl (fun _ q=>⟨decide<|xc<(x2.length:Int),som<|ifT am H,q.k<|s5 z z z z z,br ws⟩)
  iterate 4 refine Nh z H ?_
  exact R z (pF z H z)<|Wl (fun _ q=>⟨false,som<|ifF am H,q.k<|s5 z z z z z,br ws⟩)
 rintro cl _ ⟨ai,rfl,_,sa⟩;revert cl;refine Wo<|Wc z (fun a0=>?_) (fun a0=>?_)
 ·refine Ws<|R z (bP (parts:=[]) (cs:=[vI 0,sl none 0 0,sl none 0 0]) E_ z z)<|Rm z<|E0 (fs0 (cur':=[vI 0,sl none 0 0,sl none 0 0]) c_ z z ((ho.e sm).e sa) z z z z) ?_
  rintro _ _ ⟨cm,cn⟩;refine Ra z<|Rw z ?_
  obtain rfl:=som<|ifT an a0;exact Wr<|w_ hr (y_ i_ c_ z cm z) z z ⟨bM (bup (bup (bup h2 h1) sm) sa) cn.one<|m1 h2.s,none,0,0,[],none,0,0,[],z,ii z,onL,onL,bh,ii z,nd0,al0⟩
 refine Wk<|Ws<|R z (lN (vs:=[vI xb,sl ae nf cg,sl ah ni cj]) i_ c_ z z fid<|(ci.e sa).row 0 3 z)<|RM z z<|E0 (fs0 (cur':=[vI xb,sl ae nf cg,sl ah ni cj]) c_ z z ((ho.e sm).e sa) z z z z) ?_
 rintro _ _ ⟨co,cp⟩;have aj:=cp.one;refine Ra z<|Rw z ?_
 obtain rfl:=som<|ifF an a0;have bi:=lt_ h2.s h1.s;exact Wr<|w_ hr (y_ i_ c_ z co z) z z ⟨bM (bup (bup (bup h2 h1) sm) sa) aj<|m1 h2.s,ae,nf,cg,J,ah,ni,cj,L,z,ca,(cb.e sa).c aj<|k_ bf ho.lt lr,(cd.e sa).c aj<|k_ bg ho.lt lr,bh,ch,na_ cc ce<|ds cf,aa_ (m_ bf bi)<|m_ bg bi⟩
theorem W_w1q {x1:d_}{x2:List UInt8}{res:Bool}(hm:f_A n x1 x2=some res)(J:B<=w0.z)(hG:Gl w0 B)(H:repS w0 B (sl A0 N0 C0) x1.rules)(I:repS w0 B (sl A7 N7 C7) x2):h_ prog 16 [(.agg #[sl A0 N0 C0]),sl A7 N7 C7] w0 (Q7 w0 B res):=by
 unfold f_A at hm
 refine goG func16 z z z fun fn hr=>Ws<|E z (fb z) ?_
 rintro _ O ⟨rfl,h1⟩;have G:=h1.below;refine Rw z<|Ws<|R z (lN (vs:=[sl A0 N0 C0]) o_ n_ z z fid<|(h1.blk:Blk O w0.z [sl A0 N0 C0]).row 0 1 z)<|Rm z ?_
 obtain ⟨V,_,_,W,L⟩:=S_ hm;refine E z (fc call25 z<|k_v W (zt' J G.s) (hG.e G) (H.e G)<|I.e G) ?_;rintro _ Y ⟨s2,aa,nb,cc,_,ad,ne,cf,_,rfl,_,_,_,_,_,_,_⟩;refine Rm z ?_
 iterate 3 refine Re z z z ?_
 refine E z (fa O_) ?_;rintro _ wg ⟨rfl,h3⟩;refine E0 (fs0 (cur':=[vI V.number,sl aa nb cc,sl ad ne cf]) c_ z z (h3.blk:Blk wg Y.z [vI 0,sl none 0 0,sl none 0 0]) z z z z) ?_;rintro _ _ ⟨_,si⟩;refine Ra z<|Rw z<|Wm z<|Rq z z z<|Rw z ?_
 obtain rfl:=som L;exact Wr<|b_ hr z ⟨bM (bup (bup G s2) h3.below) si.one<|m1<|lt_ G.s s2.s,z⟩
theorem W_w34 {x1:Int}{x2:Int}{res:Bool}(hm:h_8 x1 x2=some res)(I:B<=w0.z)(G:inI x1)(H:inI x2):h_ prog 150 [vI x1,vI x2] w0 (Q7 w0 B res):=by
 unfold h_8 at hm
 refine goG func150 z z z fun fn hr=>Ws<|Rw z<|Wm z<|Rm z<|Rl z z z<|Rw z ?_
 obtain rfl:=som hm;exact Wr<|b_ hr z ⟨br w0,z⟩
theorem W_w35 {x2:Int}{x3:List Int}{res:Int}(hm:i_F x2 x3=some res)(W:B<=w0.z)(V:inI x2)(H:repS w0 B (sl A9 N9 C9) x3):h_ prog 149 [(.func (.func 150) #[] #[]),vI x2,sl A9 N9 C9] w0 (Q0 w0 B res):=by
 unfold i_F at hm
 refine goG func149 z z z fun fn hr=>Ws<|Rw z<|Wq<|Wm z<|R z (lnR z_ z H)<|Rm z<|Wn ?_
 obtain ⟨_,hub,J⟩:=bdS hm;refine Wf (σ:=Int) (ρ:=Int) (fun (k3:Nat)(x0:Int) a w=>Sat 22 [(0,.func (.func 150) #[] #[]),(1,vI x0),(9,sl A9 N9 C9),(10,vI (x3.length:Int)),(11,vI ((k3:Nat):Int))] a/\Below w0.z w0 w/\inI x0) (fun (x0:Int) a w=>Sat 22 [(1,vI x0)] a/\Below w0.z w0 w/\inI x0) (rQ prog fn<|Q0 w0 B) hub ?_ ?_ ?_ ?_ ?_
 ·exact fun _ q=>⟨q.k<|s5 z z z z z,br w0,V⟩
 ·rintro k3 x0 _ _ _ L ⟨hSc,s6,h1⟩ hmd;refine Wu ?_ hSc;refine Ws<|Rl z z z<|Wn<|Wq<|Wc z (fun _=>?_) (fun hc=>(L_ L hc).elim)
  refine Wk<|Wq<|Wb<|Ws ?_
  obtain ⟨xe,ef,hmg⟩:=bdS hmd;refine RX z (at_ (α:=Int) z_ z_3 z z z (H.e s6) ef) ?_;rintro _ ⟨_,_,_,rfl,hh,hi,_⟩;obtain ⟨rfl,O⟩:=a_5 hi;refine R z (l0 g_3 z<|hh.at0 z)<|Rw z<|Wm z<|RM z z ?_
  obtain ⟨_,ej,hmk⟩:=bdS hmg;refine E z (d_u call150 z z<|W_w34 ej (zt' W s6.s) O h1) ?_;rintro _ G ⟨sm,rfl⟩;refine Wn ?_;obtain ⟨ul,hua,hmn⟩:=bdS hmk;refine Wt (fun a w=>∃(x4:Int),x4=ul/\Sat 22 [(0,.func (.func 150) #[] #[]),(1,vI x4),(9,sl A9 N9 C9),(10,vI (x3.length:Int)),(11,vI ((k3:Nat):Int))] a/\Below G.z G w/\inI x4) ?_ ?_
  ·refine Wc z (fun I=>?_)<|fun I=>?_
   ·exact Wg<|Rm z<|Ra z<|Wl (fun _ q=>⟨xe,som<|ifT hua I,q.k<|s5 z z z z z,br G,O⟩)
   exact a_s<|fun _ q=>⟨x0,som<|ifF hua I,q.k<|s5 z z z z z,br G,h1⟩
  rintro ao _ ⟨x4,rfl,_,sp,hq⟩;revert ao;exact Wo<|Wg<|R z (inc_ L (lt_ (repS.len H) v_) z z)<|Rm z<|Wl (fun _ q=>⟨x4,(som hmn).symm,⟨q.k<|s5 z z z z z,bup (bup s6 sm) sp,hq⟩⟩)
 ·rintro x0 _ _ ⟨hSr,ss,h1⟩;refine Wu ?_ hSr;refine Ws<|Rl z z z<|Wn<|Wq<|Wc z (fun hc=>(M_ hc).elim) (fun _=>?_)
  exact We<|fun _ q=>⟨rfl,⟨q.k<|s1 z,ss,h1⟩⟩
 ·rintro x0 au _ rfl ⟨_,st,h1⟩;have hmv:=elL J;revert au;refine Wo<|Wm z<|Rw z ?_
  obtain rfl:=som hmv;exact Wr<|b_ hr z ⟨st,z,h1⟩
 rintro _ _ _ _ rfl ⟨rfl,hqw⟩;have hmx:=elR J;obtain rfl:=som hmx;exact ⟨hqw,z⟩
theorem W_w1r {x1:Int}{x2:Int}{res:Int}(hm:f_E x1 x2=some res)(V:B<=w0.z)(I:inI x1)(J:inI x2):h_ prog 140 [vI x1,vI x2] w0 (Q0 w0 B res):=by
 unfold f_E at hm
 refine goG func140 z z z fun fn hr=>Ws<|Rw z<|Wm z<|Rm z<|E z (fS [(.tmp 6)] k_0 z z z (b_b z) (lb z)<|lb z) ?_
 rintro _ H ⟨rfl,G⟩;have h6:Blk H w0.z [vI x2]:=G.blk;obtain ⟨_,O,L⟩:=bdS hm;refine E z (fc call149 z<|W_w35 (B:=H.z) O zr I<|a_.rep<|c_m G<|e_a J) ?_;rintro _ _ ⟨s4,rfl,h5⟩;refine Rw z ?_
 obtain rfl:=som L;exact Wr<|b_ hr z ⟨bup G.below s4,z,h5⟩
theorem W_w36 {x1:d_}{x2:Int}{x3:Val}{b3 o3:Nat}{res:Bool}(hm:h_i x1 x2 x3=some res)(a0:B<=w0.z)(a5:repS w0 B (sl A0 N0 C0) x1.rules)(aW:inI x2)(aX:inI x3.number)(ap:repS w0 B (sl A6 N6 C6) x3.bytes)(a7:repS w0 B (sl A5 N5 C5) x3.items)(hC3:C_ w0 b3 o3 [vI x3.number,sl A6 N6 C6,sl A5 N5 C5])(hC3b:B b3):h_ prog 111 [(.agg #[sl A0 N0 C0]),vI x2,(.pointer<|some ⟨b3,o3,none⟩)] w0 (Q7 w0 B res):=by
 unfold h_i at hm
 refine goG func111 z z z fun fn hr=>Ws<|E z (fb z) ?_
 rintro _ G ⟨rfl,aK⟩;have H:=aK.below;have hh:Blk G w0.z [sl A0 N0 C0]:=aK.blk;refine Rw z<|Ws<|Rf z a_c z<|R z (l0 a_e z<|hh.at z)<|Rm z ?_
 obtain ⟨xc,bt,aY⟩:=bdS hm;have aL:=a5.e H;refine RX z (at_ (α:=e_) a_1 p_ z z z aL bt) ?_;rintro _ ⟨W,Y,_,rfl,hb,bu,_⟩;obtain ⟨_,_,_,_,_,_,_,_,_,_,_,_,rfl,_,_,bv,_,_,_,hi⟩:=a_y bu;refine Rw z<|Ws<|RA z z<|Rw z<|Wq<|Wm z<|R z (H_ z)<|Rf z a_n z<|R z (l0 g_3 z<|hb.at (j:=1) z)<|Wn<|Wb<|Ws<|Rq z z z<|Rw z ?_
 obtain ⟨bw,aq,ar⟩:=bdS aY;refine Wt (fun a w=>∃(xj:Int)(xd:Int)(xa:Int),Sum.inl (xj,xd,xa)=bw/\Sat 136 [(2,.pointer<|some ⟨b3,o3,none⟩),(7,.pointer<|some ⟨W,Y,none⟩),(8,vI xj),(9,vI xd),(10,vI xa)] a/\Below G.z G w/\inI xj/\inI xd/\inI xa) ?_ ?_
 ·refine Wc z (fun a8=>?_)<|fun a8=>?_
  ·refine Wg<|R z (lN (vs:=[sl A0 N0 C0]) o_ n_ z z fid<|hh.row 0 1 z)<|Rm z ?_
   obtain ⟨bx,bz,aZ⟩:=bdS<|ifT aq a8;refine E z (fc call139 z<|e_u bz (zt' a0 H.s) aL aW) ?_;rintro _ _ ⟨bA,rfl,bB⟩;exact Ra z<|Wl (fun _ q=>⟨bx,0,0,som aZ,q.k<|s5 z z z z z,bA,bB,ii z,ii z⟩)
  refine Ws<|Rq z z z<|Rw z ?_
  obtain ⟨bC,au,av⟩:=bdS<|ifF aq a8;refine Wt (fun a w=>∃(xk:Int)(xl:Int)(xm:Int),Sum.inl (xk,xl,xm)=bC/\Sat 136 [(2,.pointer<|some ⟨b3,o3,none⟩),(7,.pointer<|some ⟨W,Y,none⟩),(8,vI xk),(9,vI xl),(10,vI xm)] a/\Below G.z G w/\inI xk/\inI xl/\inI xm) ?_ ?_
  ·refine Wc z (fun a9=>?_)<|fun a9=>?_
   ·have aw:=ifT au a9;refine Wq<|Wq (Wd (X:=noX) 0 (pl_ 10 []) mo (by kernel_rfl) fun cR sn _=>dM z z z<|dR z z (H_ z)<|dR z z (fd a_Q z)<|dR z z (l0 U_ z<|((hC3.e H).e sn).at (j:=1) z)<|dR z z (lnR l_ z<|ap.g<|(H.ag B).e sn)<|dM z z z<|dR z z (H_ z)<|dR z z (fd a_H z) ?_)
    have aM:=hb.e sn;refine dR z z (l0 g_3 z<|aM.at (j:=2) z)<|dR z z (nq z z)<|pD<|Wo<|Wc z (fun aa=>?_) (fun aa=>?_)
    ·refine Ws<|Rw z ?_
     obtain rfl:=som<|ifT aw aa;have b0:=elR av;obtain rfl:=som b0;have b4:=elR ar;obtain rfl:=som b4;exact Wr<|rtO<|b_ hr z ⟨bup H sn,z⟩
    exact Wk<|Wg<|Rm z<|R z (H_ z)<|Rf z a_H z<|R z (l0 g_3 z<|aM.at (j:=2) z)<|Ra z<|Wl (fun _ q=>⟨0,xc.size,0,som<|ifF aw aa,q.k<|s5 z z z z z,sn,ii z,bv,ii z⟩)
   refine Ws<|Rq z z z<|Rw z ?_
   obtain ⟨bD,ax,b5⟩:=bdS<|ifF au a9;refine Wt (fun a w=>∃(xo:Int)(xp:Int)(xq:Int),(xo,xp,xq)=bD/\Sat 136 [(2,.pointer<|some ⟨b3,o3,none⟩),(7,.pointer<|some ⟨W,Y,none⟩),(8,vI xo),(9,vI xp),(10,vI xq)] a/\Below G.z G w/\inI xo/\inI xp/\inI xq) ?_ ?_
   ·refine Wc z (fun ab=>?_)<|fun ab=>?_
    ·refine Wd (X:=noX) 0 (pl_ 10 [7,8]) mo (by kernel_rfl) fun cS se _=>dR z z (lN (vs:=[sl A0 N0 C0]) o_ n_ z z fid<|(hh.e se).row 0 1 z)<|dM z z z<|dR z z (H_ z)<|dR z z (fd Y_ z)<|dR z z (l0 B_ z<|(hb.e se).at (j:=7) z) ?_
     obtain ⟨_,bE,b6⟩:=bdS<|ifT ax ab;refine dRX z z (at_ (α:=Int) z_ z_3 z z z (hi.e se) bE) ?_;rintro _ ⟨_,_,_,rfl,bF,bG,_⟩;obtain ⟨rfl,bH⟩:=a_5 bG;refine dR z z (l0 g_3 z<|bF.at0 z) ?_;have aN:=lt_ H.s se.s;obtain ⟨_,bI,b7⟩:=bdS b6;refine dE z z (fc call139 z<|e_u bI (zt' a0 aN) (a5.g<|(H.ag B).e se) bH) (.inr fun _ _ h=>j_<|h.1) ?_;rintro _ _ ⟨aO,rfl,bJ⟩;obtain ⟨bK,bL,b9⟩:=bdS b7;refine dE z z (fc call140 z<|W_w1r bL (zt' a0<|lt_ aN aO.s) (ii z) bJ) (.inr fun _ _ h=>j_<|h.1) ?_;rintro _ _ ⟨bM,rfl,bN⟩;exact dQ z z z<|pD (fun _ q=>⟨0,bK,0,som b9,q.k<|s5 z z z z z,bup (bup se aO) bM,ii z,bN,ii z⟩)
    refine Ws<|Rq z z z<|Rw z ?_
    obtain ⟨bO,ay,ba⟩:=bdS<|ifF ax ab;refine Wt (fun a w=>∃(xr:Int)(xs:Int)(xt:Int),(xr,xs,xt)=bO/\Sat 136 [(2,.pointer<|some ⟨b3,o3,none⟩),(7,.pointer<|some ⟨W,Y,none⟩),(8,vI xr),(9,vI xs),(10,vI xt)] a/\Below G.z G w/\inI xr/\inI xs/\inI xt) ?_ ?_
    ·refine Wc z (fun ad=>?_)<|fun ad=>?_
     ·exact Wg<|Ra z<|Wl (fun _ q=>⟨0,400,0,som<|ifT ay ad,q.k<|s5 z z z z z,br G,ii z,ii z,ii z⟩)
     refine Ws<|Rq z z z<|Rw z ?_
     obtain ⟨bP,az,bb⟩:=bdS<|ifF ay ad;refine Wt (fun a w=>∃(xu:Int)(xv:Int),(xu,xv)=bP/\Sat 136 [(2,.pointer<|some ⟨b3,o3,none⟩),(7,.pointer<|some ⟨W,Y,none⟩),(8,vI xu),(9,vI 0),(10,vI xv)] a/\Below G.z G w/\inI xu/\inI xv) ?_ ?_
     ·refine Wc z (fun ae=>?_)<|fun ae=>?_
      ·refine Wd (X:=noX) 0 (pl_ 10 [7,8]) mo (by kernel_rfl) fun cT sf _=>dR z z (lN (vs:=[sl A0 N0 C0]) o_ n_ z z fid<|(hh.e sf).row 0 1 z)<|dM z z z<|dR z z (H_ z)<|dR z z (fd Y_ z)<|dR z z (l0 B_ z<|(hb.e sf).at (j:=7) z) ?_
       obtain ⟨_,bQ,bc⟩:=bdS<|ifT az ae;refine dRX z z (at_ (α:=Int) z_ z_3 z z z (hi.e sf) bQ) ?_;rintro _ ⟨_,_,_,rfl,bR,bS,_⟩;obtain ⟨rfl,bT⟩:=a_5 bS;refine dR z z (l0 g_3 z<|bR.at0 z) ?_;have aP:=lt_ H.s sf.s;obtain ⟨_,bU,be⟩:=bdS bc;refine dE z z (fc call139 z<|e_u bU (zt' a0 aP) (a5.g<|(H.ag B).e sf) bT) (.inr fun _ _ h=>j_<|h.1) ?_;rintro _ _ ⟨aQ,rfl,bV⟩;obtain ⟨bW,bX,bf⟩:=bdS be;refine dE z z (fc call140 z<|W_w1r bX (zt' a0<|lt_ aP aQ.s) (ii z) bV) (.inr fun _ _ h=>j_<|h.1) ?_;rintro _ _ ⟨bY,rfl,bZ⟩;exact dQ z z z<|pD (fun _ q=>⟨0,bW,som bf,q.k<|s5 z z z z z,bup (bup sf aQ) bY,ii z,bZ⟩)
      refine Ws<|Rq z z z<|Rw z ?_
      obtain ⟨c0,aA,bg⟩:=bdS<|ifF az ae;refine Wt (fun a w=>∃(xw:Int)(xx:Int),(xw,xx)=c0/\Sat 136 [(2,.pointer<|some ⟨b3,o3,none⟩),(7,.pointer<|some ⟨W,Y,none⟩),(8,vI xw),(9,vI 0),(10,vI xx)] a/\Below G.z G w/\inI xw/\inI xx) ?_ ?_
      ·refine Wc z (fun af=>?_)<|fun af=>?_
       ·exact Wg<|Rm z<|R z (H_ z)<|Rf z Y_ z<|R z (l0 B_ z<|hb.at (j:=7) z)<|R z (lnR z_ z hi)<|Ra z<|Wl (fun _ q=>⟨0,(xc.kids.length:Int),som<|ifT aA af,q.k<|s5 z z z z z,br G,ii z,b_F<|repS.len hi⟩)
       refine Ws<|Rq z z z<|Rw z ?_
       obtain ⟨c1,aB,bh⟩:=bdS<|ifF aA af;refine Wt (fun a w=>∃(xy:Int)(xz:Int),(xy,xz)=c1/\Sat 136 [(2,.pointer<|some ⟨b3,o3,none⟩),(7,.pointer<|some ⟨W,Y,none⟩),(8,vI xy),(9,vI 0),(10,vI xz)] a/\Below G.z G w/\inI xy/\inI xz) ?_ ?_
       ·refine Wc z (fun ah=>?_)<|fun ah=>?_
        ·refine Wd (X:=noX) 0 (pl_ 10 [7]) mo (by kernel_rfl) fun cU sg _=>dR z z (lN (vs:=[sl A0 N0 C0]) o_ n_ z z fid<|(hh.e sg).row 0 1 z)<|dM z z z<|dR z z (H_ z)<|dR z z (fd Y_ z)<|dR z z (l0 B_ z<|(hb.e sg).at (j:=7) z) ?_
         obtain ⟨_,c2,bi⟩:=bdS<|ifT aB ah;refine dRX z z (at_ (α:=Int) z_ z_3 z z z (hi.e sg) c2) ?_;rintro _ ⟨_,_,_,rfl,c3,c4,_⟩;obtain ⟨rfl,c5⟩:=a_5 c4;refine dR z z (l0 g_3 z<|c3.at0 z) ?_;obtain ⟨c6,c7,bj⟩:=bdS bi;refine dE z z (fc call139 z<|e_u c7 (zt' a0<|lt_ H.s sg.s) (a5.g<|(H.ag B).e sg) c5) (.inr fun _ _ h=>j_<|h.1) ?_;rintro _ _ ⟨c8,rfl,h40⟩;exact dQ z z z<|dQ z z z<|pD (fun _ q=>⟨c6,1,som bj,q.k<|s5 z z z z z,bup sg c8,h40,ii z⟩)
        refine Wq<|Ws<|Rq z z z<|Rw z ?_
        obtain ⟨c9,aC,bk⟩:=bdS<|ifF aB ah;refine Wt (fun a w=>∃(al:Bool),al=c9/\Sat 136 [(2,.pointer<|some ⟨b3,o3,none⟩),(7,.pointer<|some ⟨W,Y,none⟩),(8,vI 0),(9,vI 0),(10,vI 0),(81,vB al)] a/\Below G.z G w) ?_ ?_
        ·refine Wc z (fun ai=>?_)<|fun ai=>?_
         ·exact a_s<|fun _ q=>⟨xc.kind==8,som<|ifT aC ai,q.k<|s6 z z z z z z,br G⟩
         exact Wg<|Rq z z z<|Ra z<|Wl (fun _ q=>⟨xc.kind==9,som<|ifF aC ai,q.k<|s6 z z z z z z,br G⟩)
        rintro ca a6 ⟨al,rfl,_,cb⟩;revert ca;refine Wo ?_;obtain ⟨cc,aD,bm⟩:=bdS bk;refine Wt (fun a w=>∃(a1:Int),a1=cc/\Sat 136 [(2,.pointer<|some ⟨b3,o3,none⟩),(7,.pointer<|some ⟨W,Y,none⟩),(8,vI 0),(9,vI 0),(10,vI a1)] a/\Below a6.z a6 w/\inI a1) ?_ ?_
        ·refine Wc z (fun aj=>?_)<|fun aj=>?_
         ·exact Wg<|Ra z<|Wl (fun _ q=>⟨1,som<|ifT aD aj,q.k<|s5 z z z z z,br a6,ii z⟩)
         exact a_s<|fun _ q=>⟨0,som<|ifF aD aj,q.k<|s5 z z z z z,br a6,ii z⟩
        rintro cd _ ⟨a1,rfl,_,ce,cf⟩;revert cd;exact fun _ q=>⟨0,a1,som bm,q.k<|s5 z z z z z,bup cb ce,ii z,cf⟩
       rintro cg _ ⟨xy,xz,rfl,_,ch,ci,cj⟩;revert cg;exact fun _ q=>⟨xy,xz,som<|b_a bh,q.k<|s5 z z z z z,ch,ci,cj⟩
      rintro ck _ ⟨xw,xx,rfl,_,cl,cm,cn⟩;revert ck;exact fun _ q=>⟨xw,xx,som<|b_a bg,q.k<|s5 z z z z z,cl,cm,cn⟩
     rintro co _ ⟨xu,xv,rfl,_,cp,cq,cr⟩;revert co;exact fun _ q=>⟨xu,0,xv,som<|b_a bb,q.k<|s5 z z z z z,cp,cq,ii z,cr⟩
    rintro ct _ ⟨xr,xs,xt,rfl,_,cu,cv,cw,cx⟩;revert ct;exact fun _ q=>⟨xr,xs,xt,som<|d_z ba,q.k<|s5 z z z z z,cu,cv,cw,cx⟩
   rintro cy _ ⟨xo,xp,xq,rfl,_,cz,cA,cB,cC⟩;revert cy;exact fun _ q=>⟨xo,xp,xq,som<|d_z b5,q.k<|s5 z z z z z,cz,cA,cB,cC⟩
  rintro cD _ ⟨xk,xl,xm,rfl,_,cE,cF,cG,cH⟩;have bn:=elL av;revert cD;exact fun _ q=>⟨xk,xl,xm,som<|d_z bn,q.k<|s5 z z z z z,cE,cF,cG,cH⟩
 rintro cI a2 ⟨xj,xd,xa,rfl,_,s7,cJ,_,_⟩;have bo:=elL ar;revert cI;refine Wo<|Wq<|Wq ?_
 obtain ⟨cK,aE,aF⟩:=bdS<|d_z bo;refine Wt (fun a w=>∃(am:Bool),am=cK/\Sat 136 [(2,.pointer<|some ⟨b3,o3,none⟩),(8,vI xj),(9,vI xd),(10,vI xa),(111,vB am)] a/\Below a2.z a2 w) ?_ ?_
 ·refine Wg<|Rm z<|R z (H_ z)<|Rf z a_n z ?_
  have an:=hb.e s7;refine R z (l0 g_3 z<|an.at (j:=1) z)<|Rq z z z<|Rm z ?_
  rcases bs (xc.kind==6) with O | O
  ·iterate 5 refine Nh z O ?_
   exact R z (pT z O z)<|Rm z<|Nh z z<|Nh z z<|Nh z z<|Nh z z<|Nh z z<|R z (pT z z z)<|Rm z<|Rh z z (mv z)<|Rh z z (H_ z)<|Rh z z (fd F_ z)<|Rh z z (l0 I_ z<|((hC3.e H).e s7).at (j:=2) z)<|Rh z z (lnR K_ z<|a7.g<|(H.ag B).e s7)<|Rh z z (mv z)<|Rh z z (nq z z)<|R z (pT z z z)<|Wl (fun _ q=>⟨(x3.items.length:Int) != xa,som<|ifT aE O,q.k<|s5 z z z z z,br a2⟩)
  refine Rh z O (mv z)<|Rh z O (H_ z)<|Rh z O (fd a_n z)<|Rh z O (l0 g_3 z<|an.at (j:=1) z)<|Rh z O (eql z z)<|R z (pF z O z)<|Rm z ?_
  obtain ⟨aR,aG,aH⟩:=bdS<|ifF aE O;refine c_E 102 aR 6 ?_ ?_
  ·rcases bs (xc.kind==7) with V | V
   ·iterate 5 refine Nh z V ?_
    exact R z (pT z V z)<|WLq 6 (ifT aG V) z z z
   exact Rh z V (mv z)<|Rh z V (H_ z)<|Rh z V (fd a_n z)<|Rh z V (l0 g_3 z<|an.at (j:=1) z)<|Rh z V (eql z z)<|R z (pF z V z)<|WLq 6 (ifF aG V) z z z
  refine Rm z ?_
  rcases bs aR with I | I
  ·exact Rh z I (mv z)<|Rh z I (H_ z)<|Rh z I (fd F_ z)<|Rh z I (l0 I_ z<|((hC3.e H).e s7).at (j:=2) z)<|Rh z I (lnR K_ z<|a7.g<|(H.ag B).e s7)<|Rh z I (mv z)<|Rh z I (nq z z)<|R z (pT z I z)<|Wl (fun _ q=>⟨(x3.items.length:Int) != xa,som<|ifT aH I,q.k<|s5 z z z z z,br a2⟩)
  iterate 7 refine Nh z I ?_
  exact R z (pF z I z)<|Wl (fun _ q=>⟨false,som<|ifF aH I,q.k<|s5 z z z z z,br a2⟩)
 rintro cL aS ⟨am,rfl,_,a3⟩;revert cL;refine Wo<|Wc z (fun ak=>?_) (fun ak=>?_)
 ·refine Ws<|Rw z ?_
  obtain rfl:=som<|ifT aF ak;exact Wr<|b_ hr z ⟨bup (bup H s7) a3,z⟩
 refine Wk<|Wq ?_
 obtain ⟨cM,bp,bq⟩:=bdS<|ifF aF ak;refine Wt (fun a w=>∃(ao:Bool),ao=cM/\Sat 136 [(6,vB ao)] a/\Below aS.z aS w) ?_ ?_
 ·refine Wg<|Rm z<|R z (H_ z)<|Rf z a_v z ?_
  have aT:=((hC3.e H).e s7).e a3;refine R z (l0 g_3 z<|aT.at (j:=0) z)<|Rm z ?_
  obtain ⟨cN,cO,aI⟩:=bdS bp;refine E z (fc call131 z<|d_n cO (zt' a0<|lt_ (lt_ H.s s7.s) a3.s) aX (ii z) cJ) ?_;rintro _ _ ⟨a4,rfl⟩;refine Rm z ?_
  rcases bs cN with J | J
  ·have aJ:=ifT aI J;refine Rh z J (mv z)<|Rh z J (H_ z)<|Rh z J (fd a_Q z) ?_
   have aU:=aT.e a4;refine Rh z J (l0 U_ z<|aU.at (j:=1) z) ?_;have aV:=(((H.ag B).e s7).e a3).e a4;refine Rh z J (lnR l_ z<|ap.g aV)<|Rh z J (mv z)<|Rh z J (b_T z z)<|R z (pT z J z)<|Rm z ?_
   rcases bs (decide<|(x3.bytes.length:Int)<=xd) with L | L
   ·exact Rh z L (mv z)<|Rh z L (H_ z)<|Rh z L (fd F_ z)<|Rh z L (l0 I_ z<|aU.at (j:=2) z)<|Rh z L (lnR K_ z<|a7.g aV)<|Rh z L (mv z)<|Rh z L (b_T z z)<|R z (pT z L z)<|Ra z<|Wl (fun _ q=>⟨decide<|(x3.items.length:Int)<=xa,som<|ifT aJ L,q.k<|s1 z,a4⟩)
   iterate 7 refine Nh z L ?_
   exact R z (pF z L z)<|Ra z<|Wl (fun _ q=>⟨false,som<|ifF aJ L,q.k<|s1 z,a4⟩)
  iterate 7 refine Nh z J ?_
  exact R z (pF z J z)<|Rm z<|Nh z z<|Nh z z<|Nh z z<|Nh z z<|Nh z z<|Nh z z<|Nh z z<|R z (pF z z z)<|Ra z<|Wl (fun _ q=>⟨false,som<|ifF aI J,q.k<|s1 z,a4⟩)
 rintro cP _ ⟨ao,rfl,_,cQ⟩;revert cP;refine Wo ?_;obtain rfl:=som bq;exact Wr<|b_ hr z ⟨bup (bup (bup H s7) a3) cQ,z⟩
theorem i_s {x1:d_}{x2:Int}{x3:Val}{b3 o3:Nat}{x4:Int}{res:Int}(hm:c_C x1 x2 x3 x4=some res)(aU:B<=w0.z)(O:repS w0 B (sl A0 N0 C0) x1.rules)(aP:inI x2)(aQ:inI x3.number)(aR:repS w0 B (sl A6 N6 C6) x3.bytes)(aS:repS w0 B (sl A5 N5 C5) x3.items)(hC3:C_ w0 b3 o3 [vI x3.number,sl A6 N6 C6,sl A5 N5 C5])(hC3b:B b3)(aT:inI x4):h_ prog 72 [(.agg #[sl A0 N0 C0]),vI x2,.pointer<|some ⟨b3,o3,none⟩,vI x4] w0 (Q0 w0 B res):=by
 unfold c_C at hm
 refine goG func72 z z z fun fn hr=>Ws<|E z (fb z) ?_
 rintro _ G ⟨rfl,hj⟩;have H:=hj.below;refine Rw z<|Ws<|Rf z a_c z<|R z (l0 a_e z<|(hj.blk:Blk G w0.z [sl A0 N0 C0]).at z)<|Rm z ?_
 obtain ⟨L,ew,hmk⟩:=bdS hm;refine RX z (at_ (α:=e_) a_1 p_ z z z (O.e H) ew) ?_;rintro _ ⟨bl,om,_,rfl,h2,hx,_⟩;obtain ⟨_,_,_,_,_,_,ay,nz,ah,_,_,_,rfl,_,_,_,_,_,h5,h4⟩:=a_y hx;refine Rw z<|Wq<|Wm z<|R z (H_ z)<|Rf z a_n z<|R z (l0 g_3 z<|h2.at (j:=1) z)<|Wn<|Wb<|Ws<|Rq z z z<|Rw z<|Wc z (fun J=>?_) (fun J=>?_)
 ·refine Wm z<|R z (H_ z)<|Rf z Y_ z<|R z (l0 B_ z<|h2.at (j:=7) z) ?_
  obtain ⟨_,ai,V⟩:=bdS<|ifT hmk J;refine RX z (at_ (α:=Int) z_ z_3 z z z h4 ai) ?_;rintro _ ⟨_,_,_,rfl,aj,ak,_⟩;obtain ⟨rfl,al⟩:=a_5 ak;refine R z (l0 g_3 z<|aj.at0 z)<|Rw z ?_
  obtain rfl:=som V;exact Wr<|rtO<|b_ hr z ⟨H,z,al⟩
 refine Ws<|Rq z z z<|Rw z ?_
 obtain ⟨am,hun,I⟩:=bdS<|ifF hmk J;refine Wt (fun a w=>Sum.inl ()=am/\Sat 80 [] a/\Below G.z G w) ?_ ?_
 ·refine Wc z (fun hca=>?_)<|fun hca=>?_
  ·have hmo:=ifT hun hca;refine Wm z<|Rm z<|R z (H_ z)<|Rf z Y_ z<|R z (l0 B_ z<|h2.at (j:=7) z)<|R z (lnR z_ z h4)<|Rl z z z<|Wx z (fun hcb=>?_) (fun hcb=>?_)
   ·refine Wm z<|R z (H_ z)<|Rf z Y_ z<|R z (l0 B_ z<|h2.at (j:=7) z)<|Rm z ?_
    obtain ⟨_,an,W⟩:=bdS<|ifT hmo hcb;refine RX z (at_ (α:=Int) z_ z_3 z z z h4 an) ?_;rintro _ ⟨_,_,_,rfl,ao,ap,_⟩;obtain ⟨rfl,aq⟩:=a_5 ap;refine R z (l0 g_3 z<|ao.at0 z)<|Rw z ?_
    obtain rfl:=som W;have Y:=elR I;obtain rfl:=som Y;exact Wr<|rtO<|b_ hr z ⟨H,z,aq⟩
   exact a_s<|fun _ q=>⟨som<|ifF hmo hcb,q.k sn,br G⟩
  refine Ws<|Rq z z z<|Rw z ?_
  obtain ⟨ar,hup,hmc⟩:=bdS<|ifF hun hca;refine Wt (fun a w=>Sum.inl ()=ar/\Sat 80 [] a/\Below G.z G w) ?_ ?_
  ·refine Wc z (fun hcd=>?_)<|fun hcd=>?_
   ·refine Wm z<|R z (H_ z)<|Rf z b_0 z<|R z (l0 B_ z<|h2.at (j:=6) z)<|R z (lnR z_ z h5)<|Rm z<|Wn ?_
    obtain ⟨_,a0,hmq⟩:=bdS<|ifT hup hcd;refine Wf (σ:=Unit) (ρ:=Int) (fun (kr:Nat)(_:Unit) a w=>Sat 80 [(2,.pointer<|some ⟨b3,o3,none⟩),(9,.pointer<|some ⟨bl,om,none⟩),(49,sl ay nz ah),(50,vI (L.tags.length:Int)),(51,vI ((kr:Nat):Int))] a/\Below G.z G w) (fun (_:Unit) a w=>Sat 80 [] a/\Below G.z G w) (rQ prog fn<|Q0 w0 B) a0 ?_ ?_ ?_ ?_ ?_
    ·exact fun _ q=>⟨q.k<|s5 z z z z z,br G⟩
    ·rintro kr _ _ _ _ hke ⟨a1,s3⟩ a2;refine Wu ?_ a1;refine Ws<|Rl z z z<|Wn<|Wq<|Wc z (fun _=>?_) (fun hc=>(L_ hke hc).elim)
     refine Wk<|Wq<|Wb<|Wm z ?_
     obtain ⟨_,au,hms⟩:=bdS a2;refine RX z (at_ (α:=Int) z_ z_3 z z z (h5.e s3) au) ?_;rintro _ ⟨_,_,_,rfl,av,aw,_⟩;obtain ⟨rfl,_⟩:=a_5 aw;refine R z (l0 g_3 z<|av.at0 z)<|Ra z<|Rw z<|Wm z<|Rm z<|R z (H_ z)<|Rf z a_v z<|R z (l0 g_3 z<|((hC3.e H).e s3).at (j:=0) z)<|Rq z z z<|Wx z (fun hcf=>?_) (fun hcf=>?_)
     ·refine Wm z<|R z (H_ z)<|Rf z Y_ z<|R z (l0 B_ z<|(h2.e s3).at (j:=7) z)<|Rm z<|R z (inc_ hke (lt_ (repS.len h5) v_) z z) ?_
      obtain ⟨_,ax,a3⟩:=bdS<|ifT hms hcf;refine RX z (at_ (α:=Int) z_ z_3 z z z (h4.e s3) ax) ?_;rintro _ ⟨_,_,_,rfl,az,aA,_⟩;obtain ⟨rfl,aB⟩:=a_5 aA;exact R z (l0 g_3 z<|az.at0 z)<|Rw z<|Wr<|rtO<|qL (som a3).symm<|b_ hr z ⟨bup H s3,z,aB⟩
     exact Wk<|Wg<|R z (inc_ hke (lt_ (repS.len h5) v_) z z)<|Rm z<|Wl (fun _ q=>⟨(),(som<|ifF hms hcf).symm,⟨q.k<|s5 z z z z z,s3⟩⟩)
    ·rintro _ _ _ ⟨a4,aC⟩;refine Wu ?_ a4;refine Ws<|Rl z z z<|Wn<|Wq<|Wc z (fun hc=>(M_ hc).elim) (fun _=>?_)
     exact We<|fun _ q=>⟨rfl,⟨q.k sn,aC⟩⟩
    ·rintro _ aD _ rfl ⟨_,aE⟩;have a5:=elL hmq;revert aD;exact fun _ q=>⟨som a5,q.k sn,aE⟩
    rintro _ _ _ _ rfl ⟨rfl,a6⟩;have a7:=elR hmq;obtain rfl:=som a7;have a8:=elR hmc;obtain rfl:=som a8;have a9:=elR I;obtain rfl:=som a9;exact ⟨a6,z⟩
   refine Wq<|Ws<|Rq z z z<|Rw z ?_
   obtain ⟨aF,hut,hmu⟩:=bdS<|ifF hup hcd;refine Wt (fun a w=>∃(xg:Bool),xg=aF/\Sat 80 [(9,.pointer<|some ⟨bl,om,none⟩),(71,vB xg)] a/\Below G.z G w) ?_ ?_
   ·refine Wc z (fun hch=>?_)<|fun hch=>?_
    ·exact a_s<|fun _ q=>⟨L.kind==8,som<|ifT hut hch,q.k<|s2 z z,br G⟩
    exact Wg<|Rq z z z<|Ra z<|Wl (fun _ q=>⟨L.kind==9,som<|ifF hut hch,q.k<|s2 z z,br G⟩)
   rintro aG _ ⟨xg,rfl,_,s7⟩;revert aG;refine Wo<|Wc z (fun hci=>?_) (fun hci=>?_)
   ·refine Wm z<|R z (H_ z)<|Rf z Y_ z<|R z (l0 B_ z<|(h2.e s7).at (j:=7) z) ?_
    obtain ⟨_,aH,aa⟩:=bdS<|ifT hmu hci;refine RX z (at_ (α:=Int) z_ z_3 z z z (h4.e s7) aH) ?_;rintro _ ⟨_,_,_,rfl,aI,aJ,_⟩;obtain ⟨rfl,aK⟩:=a_5 aJ;refine R z (l0 g_3 z<|aI.at0 z)<|Rw z ?_
    obtain rfl:=som aa;have ab:=elR hmc;obtain rfl:=som ab;have ad:=elR I;obtain rfl:=som ad;exact Wr<|rtO<|b_ hr z ⟨bup H s7,z,aK⟩
   exact a_s<|fun _ q=>⟨som<|ifF hmu hci,q.k sn,s7⟩
  rintro aL _ ⟨rfl,_,aM⟩;have ae:=elL hmc;revert aL;exact fun _ q=>⟨som ae,q.k sn,aM⟩
 rintro aN _ ⟨rfl,_,aO⟩;have af:=elL I;revert aN;refine Wo<|Ws<|Rw z ?_
 obtain rfl:=som af;exact Wr<|b_ hr z ⟨bup H aO,z,ii z⟩
structure k_w (f:d_->Int->Val->Option Bool):Prop where
  run:∀{A0 A6 A5:Option Addr}{N0 C0 N6 C6 N5 C5 b3 o3:Nat}{B:Zone}{x1:d_}{x2:Int}{x3:Val}{res:Bool}{w0:World}(hm:f x1 x2 x3=some res)(hBw:B<=w0.z)(p1_0:repS w0 B (sl A0 N0 C0) x1.rules)(p2_0:inI x2)(p3_0:inI x3.number)(p3_1:repS w0 B (sl A6 N6 C6) x3.bytes)(p3_2:repS w0 B (sl A5 N5 C5) x3.items)(hC3:C_ w0 b3 o3 [vI x3.number,sl A6 N6 C6,sl A5 N5 C5])(hC3b:B b3),h_ prog 68 [(.agg #[sl A0 N0 C0]),vI x2,(.pointer<|some ⟨b3,o3,none⟩)] w0<|Q7 w0 B res
abbrev n_1 (n:Nat):Prop:=k_w (e_P n).impl_validValue
theorem T_w0h (a6:n_1 n):k_w (h_j n<|e_P n):=by
 constructor
 intro A0 A6 A5 N0 C0 N6 C6 N5 C5 b3 o3 B x1 x2 x3 res w0 hm L J V W Y H hC3 hC3b;unfold h_j at hm
 refine goG func68 z z z fun fn hr=>Ws<|E z (fb z) ?_
 rintro _ ws ⟨rfl,hd⟩;have h1:=hd.below;have he:Blk ws w0.z [sl A0 N0 C0]:=hd.blk;refine Rw z<|Wq<|Ws<|R z (lN (vs:=[sl A0 N0 C0]) o_ n_ z z fid<|he.row 0 1 z)<|RM z z ?_
 have hf:=hC3.e h1;obtain ⟨_,et,hmg⟩:=bdS hm;refine E z (fc call111 z<|W_w36 et (zt' L h1.s) (J.e h1) V W (Y.e h1) (H.e h1) hf hC3b) ?_;rintro _ I ⟨s2,rfl⟩;refine R z (not_ z)<|Wx z (fun O=>?_) (fun O=>?_)
 ·refine Ws<|Rw z ?_
  obtain rfl:=som<|ifT hmg O;exact Wr<|b_ hr z ⟨bup h1 s2,z⟩
 refine Wk<|Wq<|Wm z<|R z (H_ z)<|Rf z F_ z ?_
 have hh:=hf.e s2;refine R z (l0 I_ z<|hh.at (j:=2) z) ?_;have hi:=(h1.ag B).e s2;refine R z (lnR K_ z<|H.g hi)<|Rm z<|Wn ?_
 obtain ⟨_,huu,hmj⟩:=bdS<|ifF hmg O;refine Wf (σ:=Unit) (ρ:=Bool) (fun (k9:Nat)(_:Unit) a w=>Sat 42 [(1,vI x2),(2,.pointer<|some ⟨b3,o3,none⟩),(3,pt w0.z),(18,vI (x3.items.length:Int)),(19,vI ((k9:Nat):Int))] a/\Below I.z I w) (fun (_:Unit) a w=>Sat 42 [] a/\Below I.z I w) (rQ prog fn<|Q7 w0 B) huu ?_ ?_ ?_ ?_ ?_
 ·exact fun _ q=>⟨q.k<|s5 z z z z z,br I⟩
 ·rintro k9 _ _ _ _ hka ⟨hSv,s3⟩ hmw;refine Wu ?_ hSv;refine Ws<|Rl z z z<|Wn<|Wq<|Wc z (fun _=>?_) (fun hc=>(L_ hka hc).elim)
  refine Wk<|Wq<|Wb<|Wm z<|Rw z<|Ws ?_
  have hk:=(he.e s2).e s3;refine R z (lN (vs:=[sl A0 N0 C0]) o_ n_ z z fid<|hk.row 0 1 z)<|RM z z<|Rm z ?_
  have h6:=hi.e s3;have hl:=hh.e s3;have hn:=lt_ (lt_ h1.s s2.s) s3.s;obtain ⟨rx,ey,hmz⟩:=bdS hmw;refine E z (fc call72 z<|i_s ey (zt' L hn) (J.g h6) V W (Y.g h6) (H.g h6) hl hC3b<|ic (Nat.le_of_lt hka)<|lt_ (repS.len H) v_) ?_;rintro _ wm ⟨s4,rfl,a7⟩;refine Rw z<|Wq ?_
  obtain ⟨a8,huo,hmp⟩:=bdS hmz;refine Wt (fun a w=>∃(xb:Bool),xb=a8/\Sat 42 [(1,vI x2),(2,.pointer<|some ⟨b3,o3,none⟩),(3,pt w0.z),(18,vI (x3.items.length:Int)),(19,vI ((k9:Nat):Int)),(40,vB xb)] a/\Below wm.z wm w) ?_ ?_
  ·refine Wd (X:=noX) 0 (pl_ 14 [11]) mo (by kernel_rfl) fun ap s7 _=>dM z z z<|dR z z (lss z z)<|dM z z z ?_
   rcases bs (decide<|rx<0) with G | G
   ·iterate 8 refine dRn z z z G z ?_
    exact dEn z z z G z<|dRn z z z G z<|dR z z (pT z G z)<|pD (fun _ q=>⟨true,som<|ifT huo G,q.k<|s6 z z z z z z,s7⟩)
   refine dRg z z z G z (lN (vs:=[sl A0 N0 C0]) o_ n_ z z fid<|((hk.e s4).e s7).row 0 1 z)<|dRg z z z G z (mv z)<|dRg z z z G z (mv z)<|dRg z z z G z (H_ z)<|dRg z z z G z (fd F_ z)<|dRg z z z G z (l0 I_ z<|((hl.e s4).e s7).at (j:=2) z)<|dRg z z z G z (mv z) ?_
   obtain ⟨_,a9,a0⟩:=bdS<|ifF huo G;have hq:=(h6.e s4).e s7;refine c_n z z z G z (at_ (α:=Val) K_ c_ z z z (H.g hq) a9) ?_;rintro _ ⟨_,_,_,rfl,aa,ab,ad⟩;obtain ⟨_,_,_,_,_,_,rfl,ae,af,ah⟩:=b_1 ab;obtain ⟨ai,aj,a1⟩:=bdS a0;refine dEg z z z G z (fc call68 z<|a6.run aj (zt' L<|lt_ (lt_ hn s4.s) s7.s) (J.g hq) a7 ae af ah aa ad) (.inr fun _ _ h=>j_<|h.1) ?_;rintro _ _ ⟨ak,rfl⟩;exact dRg z z z G z (not_ z)<|dR z z (pF z G z)<|pD (fun _ q=>⟨!ai,som a1,q.k<|s6 z z z z z z,bup s7 ak⟩)
  rintro al _ ⟨xb,rfl,_,sr⟩;revert al;refine Wo<|Wc z (fun hcc=>?_) (fun hcc=>?_)
  ·exact Ws<|Rw z<|Wr<|rtO<|qL (som<|ifT hmp hcc).symm<|b_ hr z ⟨bup (bup (bup (bup h1 s2) s3) s4) sr,z⟩
  exact Wk<|Wg<|R z (inc_ hka (lt_ (repS.len H) v_) z z)<|Rm z<|Wl (fun _ q=>⟨(),(som<|ifF hmp hcc).symm,⟨q.k<|s5 z z z z z,bup (bup s3 s4) sr⟩⟩)
 ·rintro _ _ _ ⟨a2,am⟩;refine Wu ?_ a2;refine Ws<|Rl z z z<|Wn<|Wq<|Wc z (fun hc=>(M_ hc).elim) (fun _=>?_)
  exact We<|fun _ q=>⟨rfl,⟨q.k sn,am⟩⟩
 ·rintro _ an _ rfl ⟨_,ao⟩;have a3:=elL hmj;revert an;refine Wo<|Ws<|Rw z ?_
  obtain rfl:=som a3;exact Wr<|b_ hr z ⟨bup (bup h1 s2) ao,z⟩
 rintro _ _ _ _ rfl ⟨rfl,a4⟩;have a5:=elR hmj;obtain rfl:=som a5;exact ⟨a4,z⟩
theorem A_w0h:∀n,n_1 n
  | 0=>⟨fun hm=>by intros;exact nomatch (show none=some _ from hm)⟩
  | n+1=>T_w0h<|A_w0h n
theorem W_w0h:k_w (e_P n).impl_validValue:=A_w0h n
theorem i_t {x1:d_}{x2:Int}{x3:Val}{res:Bool}(hm:e_4 n x1 x2 x3=some res)(a1:B<=w0.z)(J:repS w0 B (sl A0 N0 C0) x1.rules)(L:inI x2)(W:inI x3.number)(Y:repS w0 B (sl A6 N6 C6) x3.bytes)(a0:repS w0 B (sl A5 N5 C5) x3.items):h_ prog 43 [(.agg #[sl A0 N0 C0]),vI x2,(.agg #[vI x3.number,sl A6 N6 C6,sl A5 N5 C5])] w0 (Q7 w0 B res):=by
 unfold e_4 at hm
 refine goG func43 z z z fun fn hr=>Ws<|E z (fb z) ?_
 rintro _ O ⟨rfl,V⟩;have h5:=V.below;refine E z (fb z) ?_;rintro _ H ⟨rfl,ha⟩;have h3:=ha.below;have hb:Blk H O.z [vI x3.number,sl A6 N6 C6,sl A5 N5 C5]:=ha.blk;refine Rw z<|Wq ?_
 obtain ⟨ug,huh,hmi⟩:=bdS hm;refine Wt (fun a w=>∃(x6:Bool),x6=ug/\Sat 15 [(6,vB x6)] a/\Below H.z H w) ?_ ?_
 ·refine Wg ?_;have hc:=(V.blk:Blk O w0.z [sl A0 N0 C0]).e h3;refine R z (lN (vs:=[sl A0 N0 C0]) o_ n_ z z fid<|hc.row 0 1 z)<|Rm z ?_
  have hd:=(h5.ag B).e h3;have h4:=zt' a1<|lt_ h5.s h3.s
  obtain ⟨rj,ek,hme⟩:=bdS huh;refine E z (fc call65 z<|i_p (B:=B) ek h4 (J.g hd) L) ?_;rintro _ _ ⟨s2,rfl⟩;refine Rm z ?_
  rcases bs rj with G | G
  ·refine Rh z G (lN (vs:=[sl A0 N0 C0]) o_ n_ z z fid<|(hc.e s2).row 0 1 z)<|Rh z G (mv z) ?_
   have I:=hd.e s2;obtain ⟨rl,em,hmn⟩:=bdS<|ifT hme G;refine Eg z z G z (fc call68 z<|W_w0h.run (B:=H.z) em (Z_ s2.s) (repS.mono (J.g I) h4) L W (repS.mono (Y.g I) h4) (repS.mono (a0.g I) h4) ((hb.e s2).row 0 3 z) hb.lt) ?_;rintro _ _ ⟨so,rfl⟩;exact R z (pT z G z)<|Ra z<|Wl (fun _ q=>⟨rl,som hmn,q.k<|s1 z,bup s2 so⟩)
  iterate 3 refine Nh z G ?_
  exact R z (pF z G z)<|Ra z<|Wl (fun _ q=>⟨false,som<|ifF hme G,q.k<|s1 z,s2⟩)
 rintro ap _ ⟨x6,rfl,_,sq⟩;revert ap;refine Wo ?_;obtain rfl:=som hmi;exact Wr<|b_ hr z ⟨bup (bup h5 h3) sq,z⟩
theorem W_w37 {x1:List UInt8}{x2:List UInt8}{res:Bool}(hm:k_P x1 x2=some res)(I:B<=w0.z)(G:repS w0 B (sl A0 N0 C0) x1)(H:repS w0 B (sl A7 N7 C7) x2):h_ prog 112 [sl A0 N0 C0,sl A7 N7 C7] w0 (Q7 w0 B res):=by
 unfold k_P at hm
 refine goG func112 z z z fun fn hr=>Ws<|Rw z<|Wm z<|R z (h_A l_ d_9 d_5 z_5 z G)<|Rm z<|R z (h_A l_ d_9 d_5 z_5 z H)<|R z (b_6 z z)<|Rw z ?_
 obtain rfl:=som hm;exact Wr<|b_ hr z ⟨br w0,z⟩
theorem W_w1s {x1:List UInt8}{x2:List UInt8}{res:Bool}(hm:h_4 x1 x2=some res)(I:B<=w0.z)(G:repS w0 B (sl A0 N0 C0) x1)(H:repS w0 B (sl A7 N7 C7) x2):h_ prog 70 [sl A0 N0 C0,sl A7 N7 C7] w0 (Q7 w0 B res):=by
 unfold h_4 at hm
 refine goG func70 z z z fun fn hr=>Ws<|Rw z<|Wm z<|Rm z ?_
 obtain ⟨_,L,J⟩:=bdS hm;refine E z (fc call112 z<|W_w37 (B:=B) L I G H) ?_;rintro _ _ ⟨s2,rfl⟩;refine Rw z ?_
 obtain rfl:=som J;exact Wr<|b_ hr z ⟨s2,z⟩
structure k_x (f:Val->Val->Option Bool):Prop where
  run:∀{A8 AG AA AB:Option Addr}{N8 C8 NG CG NA CA NB CB:Nat}{B:Zone}{x1:Val}{x2:Val}{res:Bool}{w0:World}(hm:f x1 x2=some res)(hBw:B<=w0.z)(p1_0:inI x1.number)(p1_1:repS w0 B (sl A8 N8 C8) x1.bytes)(p1_2:repS w0 B (sl AG NG CG) x1.items)(p2_0:inI x2.number)(p2_1:repS w0 B (sl AA NA CA) x2.bytes)(p2_2:repS w0 B (sl AB NB CB) x2.items),h_ prog 69 [(.agg #[vI x1.number,sl A8 N8 C8,sl AG NG CG]),(.agg #[vI x2.number,sl AA NA CA,sl AB NB CB])] w0<|Q7 w0 B res
abbrev n_2 (n:Nat):Prop:=k_x (d_1 n).impl_EqualValues
theorem T_w0i (a9:n_2 n):k_x (d_0 n<|d_1 n):=by
 constructor
 intro A8 AG AA AB N8 C8 NG CG NA CA NB CB B x1 x2 res w0 hm V aJ W J aK Y O;unfold d_0 at hm
 refine goG func69 z z z fun fn hr=>Ws<|E z (fb z) ?_
 rintro _ L ⟨rfl,hh⟩;have h3:=hh.below;have hi:Blk L w0.z [vI x1.number,sl A8 N8 C8,sl AG NG CG]:=hh.blk;refine E z (fb z) ?_;rintro _ wa ⟨rfl,hj⟩;have h2:=hj.below;have hb:Blk wa L.z [vI x2.number,sl AA NA CA,sl AB NB CB]:=hj.blk;refine Rw z<|Wq<|Wq ?_
 obtain ⟨uw,huk,hml⟩:=bdS hm;refine Wt (fun a w=>∃(xc:Bool),xc=uw/\Sat 47 [(2,pt w0.z),(3,pt L.z),(27,vB xc)] a/\Below wa.z wa w) ?_ ?_
 ·refine Wg<|Rf z a_v z ?_
  have hd:=hi.e h2;refine R z (l0 g_3 z<|hd.at z)<|Rf z a_v z<|R z (l0 g_3 z<|hb.at z)<|R z (nq z z)<|Rm z ?_
  rcases bs (x1.number != x2.number) with H | H
  ·iterate 6 refine Nh z H ?_
   exact R z (pT z H z)<|Rm z<|Nh z z<|Nh z z<|Nh z z<|Nh z z<|Nh z z<|Nh z z<|Nh z z<|R z (pT z z z)<|Wl (fun _ q=>⟨true,som<|ifT huk H,q.k<|s3 z z z,br wa⟩)
  refine Rh z H (fd a_Q z)<|Rh z H (l0 U_ z<|hd.at z)<|Rh z H (fd a_Q z)<|Rh z H (l0 U_ z<|hb.at z) ?_
  have he:=(h3.ag B).e h2;obtain ⟨rx,ey,hmm⟩:=bdS<|ifF huk H;refine Eg z z H z (fc call70 z<|W_w1s ey (zt' V<|lt_ h3.s h2.s) (W.g he)<|Y.g he) ?_;rintro _ _ ⟨s8,rfl⟩;refine Rh z H (not_ z)<|R z (pF z H z)<|Rm z ?_
  rcases bs (!rx) with G | G
  ·iterate 7 refine Nh z G ?_
   exact R z (pT z G z)<|Wl (fun _ q=>⟨true,som<|ifT hmm G,q.k<|s3 z z z,s8⟩)
  refine Rh z G (fd F_ z)<|Rh z G (l0 I_ z<|(hd.e s8).at z) ?_
  have hn:=he.e s8;exact Rh z G (lnR K_ z<|J.g hn)<|Rh z G (fd F_ z)<|Rh z G (l0 I_ z<|(hb.e s8).at z)<|Rh z G (lnR K_ z<|O.g hn)<|Rh z G (nq z z)<|R z (pF z G z)<|Wl (fun _ q=>⟨(x1.items.length:Int) != (x2.items.length:Int),som<|ifF hmm G,q.k<|s3 z z z,s8⟩)
 rintro az I ⟨xc,rfl,_,s5⟩;revert az;refine Wo<|Wc z (fun hcf=>?_) (fun hcf=>?_)
 ·refine Ws<|Rw z ?_
  obtain rfl:=som<|ifT hml hcf;exact Wr<|b_ hr z ⟨bup (bup h3 h2) s5,z⟩
 refine Wk<|Wq<|Ws<|Rf z F_ z ?_
 have ho:=(hi.e h2).e s5;refine R z (l0 I_ z<|ho.at z) ?_;have hp:=((h3.ag B).e h2).e s5;refine R z (lnR K_ z<|J.g hp)<|Rm z<|Wn ?_
 obtain ⟨_,a0,hmq⟩:=bdS<|ifF hml hcf;refine Wf (σ:=Unit) (ρ:=Bool) (fun (kr:Nat)(_:Unit) a w=>Sat 47 [(2,pt w0.z),(3,pt L.z),(30,vI (x1.items.length:Int)),(31,vI ((kr:Nat):Int))] a/\Below I.z I w) (fun (_:Unit) a w=>Sat 47 [] a/\Below I.z I w) (rQ prog fn<|Q7 w0 B) a0 ?_ ?_ ?_ ?_ ?_
 ·exact fun _ q=>⟨q.k<|s4 z z z z,br I⟩
 ·rintro kr _ _ _ _ hks ⟨a1,s6⟩ a2;refine Wu ?_ a1;refine Ws<|Rl z z z<|Wn<|Wq<|Wc z (fun _=>?_) (fun hc=>(L_ hks hc).elim)
  refine Wk<|Wq<|Wb<|Wm z<|Rw z<|Wq (Wd (X:=noX) 0 (pl_ 12 [10]) mo (by kernel_rfl) fun aL s7 _=>dR z z (fd F_ z)<|dR z z (l0 I_ z<|((ho.e s6).e s7).at z)<|dM z z z ?_)
  obtain ⟨aa,ab,a3⟩:=bdS a2;have ht:=(hp.e s6).e s7;refine dRX z z (at_ (α:=Val) K_ c_ z z z (J.g ht) ab) ?_;rintro _ ⟨_,_,_,rfl,ad,ae,_⟩;obtain ⟨af,ah,ai,aj,ak,al,rfl,am,an,ao⟩:=b_1 ae;refine dR z z (lN (vs:=[vI aa.number,sl af ah ai,sl aj ak al]) i_ c_ z z fid ad)<|dR z z (fd F_ z)<|dR z z (l0 I_ z<|(((hb.e s5).e s6).e s7).at z)<|dM z z z ?_
  obtain ⟨ap,aq,a4⟩:=bdS a3;refine dRX z z (at_ (α:=Val) K_ c_ z z z (O.g ht) aq) ?_;rintro _ ⟨_,_,_,rfl,ar,au,_⟩;obtain ⟨av,aw,ax,ay,aA,aB,rfl,aC,aD,aE⟩:=b_1 au;refine dR z z (lN (vs:=[vI ap.number,sl av aw ax,sl ay aA aB]) i_ c_ z z fid ar) ?_;obtain ⟨_,aF,hmu⟩:=bdS a4;refine dE z z (fc call69 z<|a9.run aF (zt' V<|lt_ (lt_ (lt_ (lt_ h3.s h2.s) s5.s) s6.s) s7.s) am an ao aC aD aE) (.inr fun _ _ h=>j_<|h.1) ?_;rintro _ _ ⟨sv,rfl⟩;refine dR z z (not_ z)<|pD<|Wo<|Wc z (fun hcg=>?_) (fun hcg=>?_)
  ·exact Ws<|Rw z<|Wr<|rtO<|qL (som<|ifT hmu hcg).symm<|b_ hr z ⟨bup (bup (bup (bup (bup h3 h2) s5) s6) s7) sv,z⟩
  exact Wk<|Wg<|R z (inc_ hks (lt_ (repS.len J) v_) z z)<|Rm z<|Wl (fun _ q=>⟨(),(som<|ifF hmu hcg).symm,⟨q.k<|s4 z z z z,bup (bup s6 s7) sv⟩⟩)
 ·rintro _ _ _ ⟨a5,aG⟩;refine Wu ?_ a5;refine Ws<|Rl z z z<|Wn<|Wq<|Wc z (fun hc=>(M_ hc).elim) (fun _=>?_)
  exact We<|fun _ q=>⟨rfl,⟨q.k sn,aG⟩⟩
 ·rintro _ aH _ rfl ⟨_,aI⟩;have a6:=elL hmq;revert aH;refine Wo<|Ws<|Rw z ?_
  obtain rfl:=som a6;exact Wr<|b_ hr z ⟨bup (bup (bup h3 h2) s5) aI,z⟩
 rintro _ _ _ _ rfl ⟨rfl,a7⟩;have a8:=elR hmq;obtain rfl:=som a8;exact ⟨a7,z⟩
theorem A_w0i:∀n,n_2 n
  | 0=>⟨fun hm=>by intros;exact nomatch (show none=some _ from hm)⟩
  | n+1=>T_w0i<|A_w0i n
theorem W_w0i:k_x (d_1 n).impl_EqualValues:=A_w0i n
structure k_y (f:Val->Option Val):Prop where
  run:∀{A8 AG:Option Addr}{N8 C8 NG CG:Nat}{B:Zone}{x1:Val}{res:Val}{w0:World}(hm:f x1=some res)(hBw:B<=w0.z)(p1_0:inI x1.number)(p1_1:repS w0 B (sl A8 N8 C8) x1.bytes)(p1_2:repS w0 B (sl AG NG CG) x1.items),h_ prog 71 [(.agg #[vI x1.number,sl A8 N8 C8,sl AG NG CG])] w0<|Q11 w0 B res
abbrev n_3 (n:Nat):Prop:=k_y (d_G n).impl_CopyValue
end Go.Vw
