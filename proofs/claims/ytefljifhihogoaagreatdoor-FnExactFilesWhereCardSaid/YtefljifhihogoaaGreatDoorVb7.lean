
import Derived.Test.YtefljifhihogoaaGreatDoorVb6
set_option linter.unusedVariables false
namespace Go.Vw
open Go.RowKit Dat Go.Proofs
set_option maxHeartbeats 4000000
set_option maxRecDepth 4000
open Go.Proofs.Tryz
open Go.Vw renaming a_a->Wq,a_B->Wg,WC.of_KC->Wo,a_d->Wl,c_b->Wc,c_F->Wr,f_9->Wu,g_Z->pT,h_0->pF,f_W->fd,b_J->l1,f_X->lN,b_8->mv,c_L->asg,f_3->lnR,e_y->lss,g_0->eql,f_Y->ext_,f_R->bP,f_Z->add_,f_1->inc_,d_f->not_,e_1->at_,d_X->fc,a_U->fs,d_x->fb,c_H->fa,c_u->sr,f_P->cr,f_Q->cM,c_d->bM,g_R->iS,g_Q->iA,f_0->br,b_1->oA,g_W->bs,f_J->lg,f_K->io,f_b->nq,h_8->lnT,h_9->sb_,g_Y->ar_,g_X->al_,b_N->ds,h_v->m1,f_N->nr_,f_M->nl_,e_0->aa_,all_nil->an_,c_S->Wb,f_I->u8,g_N->pD,e_X->We,g_T->Wt,e_Z->fS,e_o->or_,h_7->Wf,h_4->qL,g_M->Wd,f_S->fN,f_L->na_,f_O->nj,e_3->f0,f_4->rX,h_1->tl_,h_2->ic
variable {A0:Option Addr}{N0 C0:Nat}{B:Zone}{w0:World}{AB:Option Addr}{AA:Option Addr}{AC:Option Addr}{AD:Option Addr}{NB CB:Nat}{NA CA:Nat}{NC CC:Nat}{ND CD:Nat}{A1:Option Addr}{N1 C1:Nat}{n:Nat}{AG:Option Addr}{NG CG:Nat}{A2:Option Addr}{N2 C2:Nat}{AJ:Option Addr}{NJ CJ:Nat}{A4:Option Addr}{A5:Option Addr}{A3:Option Addr}{A6:Option Addr}{N4 C4:Nat}{N5 C5:Nat}{N3 C3:Nat}{N6 C6:Nat}{A7:Option Addr}{N7 C7:Nat}{A8:Option Addr}{A9:Option Addr}{N8 C8:Nat}{N9 C9:Nat}{AF:Option Addr}{NF CF:Nat}{AE:Option Addr}{NE CE:Nat}
theorem W_w3g {x1:d_}{x2:f_}{res:Bool}(hm:j_S x1 x2=some res)(ca:B<=w0.z)(c5:rp w0 B A0 N0 C0 x1.rules)(V:x2.name.b.length<=LEN)(W:inI x2.kind)(L:inI x2.size)(c6:rp w0 B A4 N4 C4 x2.bytes)(c7:rp w0 B A5 N5 C5 x2.names)(c8:rp w0 B A3 N3 C3 x2.tags)(c9:rp w0 B A6 N6 C6 x2.kids):g_ prog 135 [(.agg #[sl A0 N0 C0]),(.agg #[Str.v x2.name,vI x2.kind,vI x2.size,vB x2.little,sl A4 N4 C4,sl A5 N5 C5,sl A3 N3 C3,sl A6 N6 C6])] w0 (Q11 w0 B res):=by
 unfold j_S at hm;refine goG func135 z z z λfn hr=>Ws<|EvX [sl A0 N0 C0] z z z λwc _ _=>EvX (vR x2 A4 N4 C4 A5 N5 C5 A3 N3 C3 A6 N6 C6) z z z λG _ a4=>Rw z<|Wq<|Ws<|Rf z a_r z<|R z (l0 g_3 z<|a4.at z)<|Wn<|Wb<|Ws<|Rq z z z<|Rw z<|Wc z (λhcd=>?_) (λhcd=>?_)
 .refine Wq<|bdB (ifT hm hcd) λaU au av=>Wt (λa w=>∃xe,xe=aU/\Sat 114 [(4,vB xe)] a/\Below G.z G w) ?_ ?_
  .refine Wg<|R z (lN (vs:=vR x2 A4 N4 C4 A5 N5 C5 A3 N3 C3 A6 N6 C6) G_ l_ z z fid<|a4.row 0 8 z)<|bdB au λaV aW hmz=>EcA z (fc call185 z<|f_A (B:=B) aW kM V W L kR kR kR kR<|ii z) λ_ aX=>Rm z ?_;rcases bs aV with a1 | a1
   .refine Rh z a1 (fd a_V z)<|Rh z a1 (l0 g_3 z kBa)<|bdB (ifT hmz a1) λaY aZ a5=>Eg z z a1 z (fc call51 z<|b_k (B:=B) aZ kM L (ii z)<|ii z) ?_;rintro _ _ ⟨_,rfl⟩;refine R z (pT z a1 z)<|Rm z ?_;rcases bs aY with J | J
    .have a6:=ifT a5 J;refine Rh z J (fd e_k z)<|Rh z J (l0 g_4 z kBa)<|Rh z J (not_ z)<|Rh z J (mv z) ?_;rcases bs (!x2.little) with a2 | a2
     .iterate 3 refine Nh z a2 ?_
      exact Rh z J (pT z a2 z)<|R z (pT z J z)<|Ra z<|Wl (λ_ q=>⟨true,som<|ifT a6 a2,kaA q,kW⟩)
     exact Rh z a2 (fd a_V z)<|Rh z a2 (l0 g_3 z kBa)<|Rh z a2 (T_ z z)<|Rh z J (pF z a2 z)<|R z (pT z J z)<|Ra z<|Wl (λ_ q=>⟨decide<|1<x2.size,som<|ifF a6 a2,kaA q,kW⟩)
    iterate 4 refine Nh z J ?_
    exact Nv z<|Nv z<|Nv z<|Nh z J<|R z (pF z J z)<|Ra z<|Wl (λ_ q=>⟨false,som<|ifF a5 J,kaA q,kW⟩)
   iterate 3 refine Nh z a1 ?_
   exact R z (pF z a1 z)<|Rm z<|Nh z z<|Nh z z<|Nh z z<|Nh z z<|Nv z<|Nv z<|Nv z<|Nh z z<|R z (pF z z z)<|Ra z<|Wl (λ_ q=>⟨false,som<|ifF hmz a1,kaA q,aX⟩)
  rintro b0 _ ⟨xe,rfl,_,_⟩;revert b0;exact Wo<|Wr<|rtO<|rS1 av hr z ⟨kW,z⟩
 have a7:=ifF hm hcd;refine Ws<|Rq z z z<|Rw z<|Wc z (λhcf=>?_) (λhcf=>?_)
 .refine Wq<|bdB (ifT a7 hcf) λb1 aw ax=>Wt (λa w=>∃xg,xg=b1/\Sat 114 [(4,vB xg)] a/\Below G.z G w) ?_ ?_
  .refine Wg<|R z (lN (vs:=vR x2 A4 N4 C4 A5 N5 C5 A3 N3 C3 A6 N6 C6) G_ l_ z z fid<|a4.row 0 8 z)<|bdB aw λb2 b3 a8=>EcA z (fc call185 z<|f_A (B:=B) b3 kM V W L kR kR kR kR<|ii z) λ_ b4=>Rm z ?_;rcases bs b2 with Y | Y
   .refine Rh z Y (fd b_F z)<|Rh z Y (l0 B_ z kBa)<|Rh z Y (lnR h_ z kR)<|bdB (ifT a8 Y) λb5 b6 ay=>Eg z z Y z (fc call51 z<|b_k (B:=B) b6 kM (c_3<|repS.len kR) (ii z)<|ii z) ?_;rintro _ _ ⟨_,rfl⟩;exact R z (pT z Y z)<|Ra z<|Wl (λ_ q=>⟨b5,som ay,kaA q,kW⟩)
   iterate 4 refine Nh z Y ?_
   exact R z (pF z Y z)<|Ra z<|Wl (λ_ q=>⟨false,som<|ifF a8 Y,kaA q,b4⟩)
  rintro b7 _ ⟨xg,rfl,_,_⟩;revert b7;exact Wo<|Wr<|rtO<|rS1 ax hr z ⟨kW,z⟩
 have a9:=ifF a7 hcf;refine Ws<|Rq z z z<|Rw z<|Wc z (λhch=>?_) (λhch=>?_)
 .refine Wq<|bdB (ifT a9 hch) λb8 az aA=>Wt (λa w=>∃xi,xi=b8/\Sat 114 [(4,vB xi)] a/\Below G.z G w) ?_ ?_
  .refine Wg<|R z (lN (vs:=vR x2 A4 N4 C4 A5 N5 C5 A3 N3 C3 A6 N6 C6) G_ l_ z z fid<|a4.row 0 8 z)<|bdB az λb9 ba aa=>EcA z (fc call185 z<|f_A (B:=B) ba kM V W L kR kR kR kR<|ii z) λ_ bb=>Rm z ?_;rcases bs b9 with a3 | a3
   .refine Rh z a3 (fd a_V z)<|Rh z a3 (l0 g_3 z kBa)<|bdB (ifT aa a3) λbc be aB=>Eg z z a3 z (fc call51 z<|b_k (B:=B) be kM L (ii z)<|ii z) ?_;rintro _ _ ⟨_,rfl⟩;exact R z (pT z a3 z)<|Ra z<|Wl (λ_ q=>⟨bc,som aB,kaA q,kW⟩)
   iterate 3 refine Nh z a3 ?_
   exact R z (pF z a3 z)<|Ra z<|Wl (λ_ q=>⟨false,som<|ifF aa a3,kaA q,bb⟩)
  rintro bf _ ⟨xi,rfl,_,_⟩;revert bf;exact Wo<|Wr<|rtO<|rS1 aA hr z ⟨kW,z⟩
 have ab:=ifF a9 hch;refine Ws<|Rq z z z<|Rw z<|Wc z (λhcj=>?_) (λhcj=>?_)
 .refine Wq<|bdB (ifT ab hcj) λbg aC aD=>Wt (λa w=>∃xk,xk=bg/\Sat 114 [(4,vB xk)] a/\Below G.z G w) ?_ ?_
  .refine Wd (X:=noX) 0 (pl_ 12 [1,8]) mo (by kernel_rfl) λcb cc _=>dR z z (lN (vs:=vR x2 A4 N4 C4 A5 N5 C5 A3 N3 C3 A6 N6 C6) G_ l_ z z fid<|kBr 0 8)<|bdB aC λbh bi ad=>dE z z (fc call185 z<|f_A (B:=B) bi kM V W L kR kR kR kR<|ii z) iB ?_;rintro _ _ ⟨_,rfl⟩;refine dM z z z ?_;rcases bs bh with H | H
   .refine dRg z z z H z (lC [sl A0 N0 C0] s_ n_ z)<|dRg z z z H z (fd Q_ z)<|dRg z z z H z (l0 A_ z kBa)<|bdB (ifT ad H) λ_ bj aE=>a_G z z z H z (at_ (α:=Int) v_ z_3 z z z kR bj) ?_;rintro _ ⟨_,_,_,rfl,bk,bm,_⟩;obtain ⟨rfl,bn⟩:=a_z bm;refine dRg z z z H z (l0 g_3 z<|bk.at0 z)<|bdB aE λbo bp aF=>dEg z z z H z (fc call186 z<|l_6 (B:=B) bp kM kR bn) iB ?_;rintro _ _ ⟨_,rfl,_⟩;exact dRg z z z H z (T_ z z)<|dR z z (pT z H z)<|dQ z z z<|pD (λ_ q=>⟨decide<|0<bo,som aF,kaA q,kW⟩)
   iterate 5 refine dRn z z z H z ?_
   exact dEn z z z H z<|dRn z z z H z<|dR z z (pF z H z)<|dQ z z z<|pD (λ_ q=>⟨false,som<|ifF ad H,kaA q,kW⟩)
  rintro bq _ ⟨xk,rfl,_,_⟩;revert bq;exact Wo<|Wr<|rtO<|rS1 aD hr z ⟨kW,z⟩
 have ae:=ifF ab hcj;refine Ws<|Rq z z z<|Rw z<|Wc z (λhcl=>?_) (λhcl=>?_)
 .refine Wq<|bdB (ifT ae hcl) λbt aG aH=>Wt (λa w=>∃xm,xm=bt/\Sat 114 [(4,vB xm)] a/\Below G.z G w) ?_ ?_
  .refine Wd (X:=noX) 0 (pl_ 12 [1,8]) mo (by kernel_rfl) λcd ce _=>dR z z (lN (vs:=vR x2 A4 N4 C4 A5 N5 C5 A3 N3 C3 A6 N6 C6) G_ l_ z z fid<|kBr 0 8)<|bdB aG λbu bv af=>dE z z (fc call185 z<|f_A (B:=B) bv kM V W L kR kR kR kR<|ii z) iB ?_;rintro _ _ ⟨_,rfl⟩;refine dM z z z ?_;rcases bs bu with I | I
   .refine dRg z z z I z (lC [sl A0 N0 C0] s_ n_ z)<|dRg z z z I z (fd Q_ z)<|dRg z z z I z (l0 A_ z kBa)<|bdB (ifT af I) λ_ bw aI=>a_G z z z I z (at_ (α:=Int) v_ z_3 z z z kR bw) ?_;rintro _ ⟨_,_,_,rfl,bx,bz,_⟩;obtain ⟨rfl,bA⟩:=a_z bz;refine dRg z z z I z (l0 g_3 z<|bx.at0 z)<|bdB aI λbB bC aJ=>dEg z z z I z (fc call186 z<|l_6 (B:=B) bC kM kR bA) iB ?_;rintro _ _ ⟨_,rfl,_⟩;exact dRg z z z I z (T_ z z)<|dR z z (pT z I z)<|dQ z z z<|pD (λ_ q=>⟨decide<|0<bB,som aJ,kaA q,kW⟩)
   iterate 5 refine dRn z z z I z ?_
   exact dEn z z z I z<|dRn z z z I z<|dR z z (pF z I z)<|dQ z z z<|pD (λ_ q=>⟨false,som<|ifF af I,kaA q,kW⟩)
  rintro bD _ ⟨xm,rfl,_,_⟩;revert bD;exact Wo<|Wr<|rtO<|rS1 aH hr z ⟨kW,z⟩
 have ah:=ifF ae hcl;refine Ws<|Rq z z z<|Rw z<|Wc z (λhcn=>?_) (λhcn=>?_)
 .refine Wq<|bdB (ifT ah hcn) λbE aK aL=>Wt (λa w=>∃xo,xo=bE/\Sat 114 [(4,vB xo)] a/\Below G.z G w) ?_ ?_
  .refine Wg<|R z (lN (vs:=vR x2 A4 N4 C4 A5 N5 C5 A3 N3 C3 A6 N6 C6) G_ l_ z z fid<|a4.row 0 8 z)<|Rf z c_r z<|R z (l0 a_A z<|a4.at z)<|R z (lnR z_ z kR)<|bdB aK λbF bG ai=>EcA z (fc call185 z<|f_A (B:=B) bG kM V W L kR kR kR kR<|c_3<|repS.len kR) λ_ bH=>Rm z ?_;rcases bs bF with hca | hca
   .refine Rh z hca (fd c_r z)<|Rh z hca (l0 a_A z kBa)<|bdB (ifT ai hca) λbI bJ aM=>Eg z z hca z (fc call187 z<|W_w3e (B:=B) bJ kM kR) ?_;rintro _ _ ⟨_,rfl⟩;exact R z (pT z hca z)<|Ra z<|Wl (λ_ q=>⟨bI,som aM,kaA q,kW⟩)
   iterate 3 refine Nh z hca ?_
   exact R z (pF z hca z)<|Ra z<|Wl (λ_ q=>⟨false,som<|ifF ai hca,kaA q,bH⟩)
  rintro bK _ ⟨xo,rfl,_,_⟩;revert bK;exact Wo<|Wr<|rtO<|rS1 aL hr z ⟨kW,z⟩
 have aj:=ifF ah hcn;refine Ws<|Rq z z z<|Rw z<|Wc z (λhcp=>?_) (λhcp=>?_)
 .refine Wq<|bdB (ifT aj hcp) λbM aN aO=>Wt (λa w=>∃xq,xq=bM/\Sat 114 [(4,vB xq)] a/\Below G.z G w) ?_ ?_
  .refine Wg<|R z (lN (vs:=vR x2 A4 N4 C4 A5 N5 C5 A3 N3 C3 A6 N6 C6) G_ l_ z z fid<|a4.row 0 8 z)<|bdB aN λbN bO ak=>EcA z (fc call185 z<|f_A (B:=B) bO kM V W L kR kR kR kR<|ii z) λ_ bP=>Rm z ?_;rcases bs bN with hcb | hcb
   .refine Rh z hcb (lC [sl A0 N0 C0] s_ n_ z)<|Rh z hcb (lN (vs:=vR x2 A4 N4 C4 A5 N5 C5 A3 N3 C3 A6 N6 C6) G_ l_ z z fid<|kBr 0 8)<|bdB (ifT ak hcb) λbR bS aP=>Eg z z hcb z (fc call188 z<|W_w3f (B:=B) bS kM kR V W L kR kR kR kR) ?_;rintro _ _ ⟨_,rfl⟩;exact R z (pT z hcb z)<|Ra z<|Wl (λ_ q=>⟨bR,som aP,kaA q,kW⟩)
   iterate 3 refine Nh z hcb ?_
   exact R z (pF z hcb z)<|Ra z<|Wl (λ_ q=>⟨false,som<|ifF ak hcb,kaA q,bP⟩)
  rintro bT _ ⟨xq,rfl,_,_⟩;revert bT;exact Wo<|Wr<|rtO<|rS1 aO hr z ⟨kW,z⟩
 refine Wq<|Ws<|Rq z z z<|Rw z<|bdB (ifF aj hcp) λbU al am=>Wt (λa w=>∃xr,xr=bU/\Sat 114 [(3,pt wc.z),(6,vI x2.kind),(92,vB xr)] a/\Below G.z G w) ?_ ?_
 .refine Wc z (λhcs=>?_)<|λhcs=>?_
  .exact Z_<|λ_ q=>⟨x2.kind==8,som<|ifT al hcs,kaA q,br G⟩
  exact Wg<|Rq z z z<|Ra z<|Wl (λ_ q=>⟨x2.kind==9,som<|ifF al hcs,kaA q,br G⟩)
 rintro bV ar ⟨xr,rfl,_,_⟩;revert bV;refine Wo<|Wc z (λhct=>?_) (λhct=>?_)
 .exact Ws<|R z (lN (vs:=vR x2 A4 N4 C4 A5 N5 C5 A3 N3 C3 A6 N6 C6) G_ l_ z z fid<|kBr 0 8)<|bdB (ifT am hct) λ_ bW aQ=>EcA z (fc call185 z<|f_A (B:=B) bW kM V W L kR kR kR kR<|ii z) λ_ _=>Rw z<|Wr<|rtO<|rS1 aQ hr z ⟨kW,z⟩
 have an:=ifF am hct;refine Ws<|Rq z z z<|Rw z<|Wc z (λhcu=>?_) (λhcu=>?_)
 .refine Wq<|bdB (ifT an hcu) λbX aR aS=>Wt (λa w=>∃xv,xv=bX/\Sat 114 [(4,vB xv)] a/\Below ar.z ar w) ?_ ?_
  .refine Wg<|R z (lN (vs:=vR x2 A4 N4 C4 A5 N5 C5 A3 N3 C3 A6 N6 C6) G_ l_ z z fid<|kBr 0 8)<|bdB aR λbY bZ ap=>EcA z (fc call185 z<|f_A (B:=B) bZ kM V W L kR kR kR kR<|ii z) λ_ sw=>Rm z ?_;rcases bs bY with a0 | a0
   .have aq:=ifT ap a0;refine Rh z a0 (fd b_F z)<|Rh z a0 (l0 B_ z kBa)<|Rh z a0 (lnR h_ z kR)<|Rh z a0 (eql z z)<|R z (pT z a0 z)<|Rm z ?_;rcases bs ((x2.bytes.length:Int)==1) with O | O
    .refine Rh z O (fd b_F z)<|Rh z O (l0 B_ z kBa)<|bdB (ifT aq O) λc0 c1 aT=>RXg z z O z (at_ (α:=UInt8) h_ z_5 z z z kR c1) ?_;rintro _ ⟨_,_,_,rfl,c2,c3,_⟩;obtain rfl:=u8 c3;exact Rh z O (l0 g_5 z<|c2.at0 z)<|Rh z O (nq z z)<|R z (pT z O z)<|Ra z<|Wl (λ_ q=>⟨(b_ c0) != (b_ (92:UInt8)),som aT,kaA q,sw⟩)
    iterate 5 refine Nh z O ?_
    exact R z (pF z O z)<|Ra z<|Wl (λ_ q=>⟨false,som<|ifF aq O,kaA q,sw⟩)
   iterate 4 refine Nh z a0 ?_
   exact R z (pF z a0 z)<|Rm z<|Nh z z<|Nh z z<|Nh z z<|Nh z z<|Nh z z<|R z (pF z z z)<|Ra z<|Wl (λ_ q=>⟨false,som<|ifF ap a0,kaA q,sw⟩)
  rintro c4 _ ⟨xv,rfl,_,_⟩;revert c4;exact Wo<|Wr<|rtO<|rS1 aS hr z ⟨kW,z⟩
 exact Wk<|Ws<|Rw z<|Wr<|rS1 (ifF an hcu) hr z ⟨kW,z⟩
theorem W_w3h {x1:d_}{x2:Int}{res:Bool}(hm:j_T x1 x2=some res)(aU:B<=w0.z)(aT:rp w0 B A0 N0 C0 x1.rules)(a0:inI x2):g_ prog 80 [(.agg #[sl A0 N0 C0]),vI x2] w0 (Q11 w0 B res):=by
 unfold j_T at hm;refine goG func80 z z z λfn hr=>Ws<|EvX [sl A0 N0 C0] z z z λwz _ a1=>Rw z<|Wq<|Wm z<|Rf z a_l z<|R z (l0 a_p z<|a1.at z)<|R z (lnR Y_ z kR)<|R z (sb_ z z)<|bdB hm λ_ au hmm=>EcA z (fc call51 z<|b_k (B:=B) au kM a0 (ii z)<|iS _ _) λJ _=>R z (not_ z)<|Wx z (λL=>?_) (λL=>?_)
 .exact Ws<|Rw z<|Wr<|rS1 (ifT hmm L) hr z ⟨kW,z⟩
 refine Wk<|Ws<|Rf z a_l z<|R z (l0 a_p z kBa)<|Rm z<|bdB (ifF hmm L) λx5 av a2=>xA (α:=f_) z Y_ l_ z z z kR av λ_ _ _ aw ax _=>?_;obtain ⟨O,V,W,Y,na,cb,ac,nd,ce,af,ng,ch,rfl,hn,ay,az,_,_,_,aA⟩:=a_T ax;refine R z (lN (vs:=vR x5 O V W Y na cb ac nd ce af ng ch) G_ l_ z z fid aw)<|EvZ [(Str.v (⟨[]⟩:Str)),vI 0,vI 0,vB false,sN,sN,sN,sN] z c_t z λaV _ a3=>E0q (vR x5 O V W Y na cb ac nd ce af ng ch) l_ z z a3 z λH _ _=>Wn<|Wq<|Ws<|Rw z<|bdB a2 λ_ a4 hmp=>Wf (σ:=Unit) (ρ:=Bool) (λ(kq:Nat)(_:Unit) a w=>Sat 58 [(1,vI x2),(2,pt w0.z),(5,pt J.z),(6,vI ((kq:Nat):Int))] a/\Below H.z H w) (λ(_:Unit) a w=>Sat 58 [(1,vI x2),(2,pt w0.z),(5,pt J.z)] a/\Below H.z H w) (rQ prog fn<|Q11 w0 B) a4 ?_ ?_ ?_ ?_ ?_
 .exact λ_ q=>⟨kaA q,br H⟩
 .rintro kq _ _ _ _ hkr ⟨a5,_⟩ a7;refine Wu ?_ a5;refine Wq<|Wm z<|Rm z<|Rl z z z<|Wx z (λ_=>?_) (λhc=>(j_5 hkr hc).elim);refine Wk<|Wq<|Wb<|Wq (Wd (X:=noX) 0 (pl_ 9 []) mo (by kernel_rfl) λaW aX _=>dR z z (fd a_l z)<|dR z z (l0 a_p z kBa)<|dM z z z ?_);refine bdB a7 λ_ aB hms=>dxA (α:=f_) z z Y_ l_ z z z kR aB λ_ _ _ aC aD _=>?_;obtain ⟨_,_,_,_,_,_,_,_,_,_,_,_,rfl,_,_,_,_,_,_,_⟩:=a_T aD;refine dR z z (fd e_P z)<|dR z z (l0 g_9 z<|aC.at (j:=0) z)<|dR z z (fd e_P z)<|dR z z (l0 g_9 z kBa)<|dR z z (a_Q z z)<|pD<|Wo<|Wc z (λhci=>?_) (λhci=>?_)
  .exact Ws<|Rw z<|Wr<|rtO<|qL (som<|ifT hms hci).symm<|a_s hr z ⟨kW,z⟩
  exact Wk<|Wg<|Rm z<|R z (inc_ hkr (tl_ a0) z z)<|Ra z<|Wl (λ_ q=>⟨(),(som<|ifF hms hci).symm,⟨kaA q,kW⟩⟩)
 .rintro _ _ _ ⟨a8,aE⟩;refine Wu ?_ a8;refine Wq<|Wm z<|Rm z<|Rl z z z<|Wx z (λhc=>(j_6 hc).elim) (λ_=>?_);exact We<|λ_ q=>⟨rfl,⟨kaA q,aE⟩⟩
 .rintro _ aF I rfl ⟨_,_⟩;have aa:=elL hmp;revert aF;refine Wo<|Wq<|Ws<|Rw z<|bdB aa λ_ ab hmt=>Wf (σ:=Unit) (ρ:=Bool) (λ(ku:Nat)(_:Unit) a w=>Sat 58 [(1,vI x2),(2,pt w0.z),(5,pt J.z),(7,vI ((ku:Nat):Int))] a/\Below I.z I w) (λ(_:Unit) a w=>Sat 58 [(2,pt w0.z),(5,pt J.z)] a/\Below I.z I w) (rQ prog fn<|Q11 w0 B) ab ?_ ?_ ?_ ?_ ?_
  .exact λ_ q=>⟨kaA q,br I⟩
  .rintro ku _ _ _ _ hkv ⟨ad,_⟩ ae;refine Wu ?_ ad;refine Wq<|Wm z<|Rf z Q_ z<|R z (l0 A_ z kBa)<|R z (lnR v_ z kR)<|Rl z z z<|Wx z (λ_=>?_) (λhc=>(J_ hkv hc).elim);refine Wk<|Wq<|Wb<|Ws<|Rf z Q_ z<|R z (l0 A_ z kBa)<|Rm z<|bdB ae λ_ aG ah=>xI z v_ z_3 z z z kR aG λ_ _ aH aI=>R z (l0 g_3 z<|aH.at0 z)<|Rm z<|R z (sb_ z z)<|bdB ah λ_ aJ hmw=>EcA z (fc call51 z<|b_k (B:=B) aJ kM aI (ii z)<|iS _ _) λ_ _=>?_;refine R z (not_ z)<|Wx z (λhcj=>?_) (λhcj=>?_)
   .exact Ws<|Rw z<|Wr<|rtO<|qL (som<|ifT hmw hcj).symm<|a_s hr z ⟨kW,z⟩
   exact Wk<|Wg<|Rm z<|R z (inc_ hkv (lt_ (repS.len aA) u_) z z)<|Ra z<|Wl (λ_ q=>⟨(),(som<|ifF hmw hcj).symm,⟨kaA q,kW⟩⟩)
  .rintro _ _ _ ⟨ai,aK⟩;refine Wu ?_ ai;refine Wq<|Wm z<|Rf z Q_ z<|R z (l0 A_ z kBa)<|R z (lnR v_ z kR)<|Rl z z z<|Wx z (λhc=>(K_ hc).elim) (λ_=>?_);exact We<|λ_ q=>⟨rfl,⟨kaA q,aK⟩⟩
  .rintro _ aL wx rfl ⟨_,_⟩;have aj:=elL hmt;revert aL;refine Wo<|Wq<|bdB aj λaM ak al=>Wt (λa w=>∃xk,xk=aM/\Sat 58 [(4,vB xk)] a/\Below wx.z wx w) ?_ ?_
   .refine Wg<|Rf z e_P z<|R z (l0 g_9 z kBa)<|bdB ak λaN aO hmy=>EcA z (fc call134 z<|m_W (B:=B) aO kM hn) λ_ aP=>Rm z ?_;rcases bs aN with G | G
    .refine Rh z G (lC [sl A0 N0 C0] s_ n_ z)<|Rh z G (lN (vs:=vR x5 O V W Y na cb ac nd ce af ng ch) G_ l_ z z fid<|kBr 0 8)<|bdB (ifT hmy G) λaQ aR am=>Eg z z G z (fc call135 z<|W_w3g (B:=B) aR kM kR hn ay az kR kR kR kR) ?_;rintro _ _ ⟨_,rfl⟩;exact R z (pT z G z)<|Ra z<|Wl (λ_ q=>⟨aQ,som am,kaA q,kW⟩)
    iterate 3 refine Nh z G ?_
    exact R z (pF z G z)<|Ra z<|Wl (λ_ q=>⟨false,som<|ifF hmy G,kaA q,aP⟩)
   rintro aS _ ⟨xk,rfl,_,_⟩;revert aS;exact Wo<|Wr<|rS1 al hr z ⟨kW,z⟩
  exact lqA hmt λ_ _ h=>h.2
 exact lqA hmp λ_ _ h=>h.2
theorem o_U {x1:d_}{res:Bool}(hm:h_w x1=some res)(a0:B<=w0.z)(J:rp w0 B A0 N0 C0 x1.rules):g_ prog 53 [(.agg #[sl A0 N0 C0])] w0 (Q11 w0 B res):=by
 unfold h_w at hm;refine goG func53 z z z λfn hr=>Ws<|EvX [sl A0 N0 C0] z z z λG _ _=>Rw z<|Wq<|Ws<|Rw z<|bdB hm λ_ V L=>Wf (σ:=Unit) (ρ:=Bool) (λ(k5:Nat)(_:Unit) a w=>Sat 19 [(1,pt w0.z),(3,vI ((k5:Nat):Int))] a/\Below G.z G w) (λ(_:Unit) a w=>Sat 19 [(1,pt w0.z)] a/\Below G.z G w) (rQ prog fn<|Q11 w0 B) V ?_ ?_ ?_ ?_ ?_
 .exact λ_ q=>⟨kaA q,br G⟩
 .rintro k5 _ _ _ _ H ⟨W,_⟩ Y;refine Wu ?_ W;refine Wq<|Wm z<|Rf z a_l z<|R z (l0 a_p z kBa)<|R z (lnR Y_ z kR)<|Rl z z z<|Wx z (λ_=>?_) (λhc=>(J_ H hc).elim);refine Wk<|Wq<|Wb<|Ws<|R z (lC [sl A0 N0 C0] s_ n_ z)<|Rm z<|bdB Y λ_ ea O=>EcA z (fc call80 z<|W_w3h (B:=B) ea kM kR<|ic (QAO H)<|lt_ (repS.len J) u_) λ_ _=>R z (not_ z)<|Wx z (λI=>?_) (λI=>?_)
  .exact Ws<|Rw z<|Wr<|rtO<|qL (som<|ifT O I).symm<|a_s hr z ⟨kW,z⟩
  exact Wk<|Wg<|Rm z<|R z (inc_ H (lt_ (repS.len J) u_) z z)<|Ra z<|Wl (λ_ q=>⟨(),(som<|ifF O I).symm,⟨kaA q,kW⟩⟩)
 .rintro _ _ _ ⟨hSb,sc⟩;refine Wu ?_ hSb;refine Wq<|Wm z<|Rf z a_l z<|R z (l0 a_p z kBa)<|R z (lnR Y_ z kR)<|Rl z z z<|Wx z (λhc=>(K_ hc).elim) (λ_=>?_);exact We<|λ_ q=>⟨rfl,⟨kaA q,sc⟩⟩
 .rintro _ ad _ rfl ⟨_,_⟩;have hme:=elL L;revert ad;exact Wo<|Ws<|Rf z a_l z<|R z (l0 a_p z kBa)<|R z (lnR Y_ z kR)<|bdB hme λ_ ef hmg=>EcA z (fc call51 z<|b_k (B:=B) ef kM (c_3<|repS.len kR) (ii z)<|ii z) λ_ _=>Rw z<|Wr<|rS1 hmg hr z ⟨kW,z⟩
 exact lqA L λ_ _ h=>h.2
theorem W_w3i {x1:a_9}{res:Bool}(hm:k_M x1=some res)(a0:B<=w0.z)(O:rp w0 B A0 N0 C0 x1.versions):g_ prog 34 [(.agg #[sl A0 N0 C0])] w0 (Q11 w0 B res):=by
 unfold k_M at hm;refine goG func34 z z z λfn hr=>Ws<|EvX [sl A0 N0 C0] z z z λG _ _=>Rw z<|Wq<|Ws<|Rw z<|bdB hm λ_ V I=>Wf (σ:=Unit) (ρ:=Bool) (λ(k4:Nat)(_:Unit) a w=>Sat 22 [(1,pt w0.z),(3,vI ((k4:Nat):Int))] a/\Below G.z G w) (λ(_:Unit) a w=>Sat 22 [(1,pt w0.z)] a/\Below G.z G w) (rQ prog fn<|Q11 w0 B) V ?_ ?_ ?_ ?_ ?_
 .exact λ_ q=>⟨kaA q,br G⟩
 .rintro k4 _ _ _ _ J ⟨W,_⟩ Y;refine Wu ?_ W;refine Wq<|Wm z<|Rf z c_D z<|R z (l0 c_Q z kBa)<|R z (lnR b_M z kR)<|Rl z z z<|Wx z (λ_=>?_) (λhc=>(J_ J hc).elim);refine Wk<|Wq<|Wb<|Ws<|Rf z c_D z<|R z (l0 c_Q z kBa)<|Rm z<|bdB Y λ_ ea hmb=>xA (α:=d_) z b_M n_ z z z kR ea λ_ _ _ hd he _=>?_;obtain ⟨ac,nf,cg,rfl,hh⟩:=e_s he;refine R z (lN (vs:=[sl ac nf cg]) s_ n_ z z fid hd)<|bdB hmb λ_ ei L=>EcA z (fc call53 z<|o_U (B:=B) ei kM hh) λ_ _=>R z (not_ z)<|Wx z (λH=>?_) (λH=>?_)
  .exact Ws<|Rw z<|Wr<|rtO<|qL (som<|ifT L H).symm<|a_s hr z ⟨kW,z⟩
  exact Wk<|Wg<|Rm z<|R z (inc_ J (lt_ (repS.len O) u_) z z)<|Ra z<|Wl (λ_ q=>⟨(),(som<|ifF L H).symm,⟨kaA q,kW⟩⟩)
 .rintro _ _ _ ⟨hSj,sk⟩;refine Wu ?_ hSj;refine Wq<|Wm z<|Rf z c_D z<|R z (l0 c_Q z kBa)<|R z (lnR b_M z kR)<|Rl z z z<|Wx z (λhc=>(K_ hc).elim) (λ_=>?_);exact We<|λ_ q=>⟨rfl,⟨kaA q,sk⟩⟩
 .rintro _ al _ rfl ⟨_,_⟩;have hmm:=elL I;revert al;exact Wo<|Ws<|Rf z c_D z<|R z (l0 c_Q z kBa)<|R z (lnR b_M z kR)<|R z (c_5 z z)<|Rw z<|Wr<|rS1 hmm hr z ⟨kW,z⟩
 exact lqA I λ_ _ h=>h.2
theorem m_Y {x1:d_}{res:Int}(hm:h_x x1=some res)(J:B<=w0.z)(I:rp w0 B A0 N0 C0 x1.rules):g_ prog 86 [(.agg #[sl A0 N0 C0])] w0 (Q0 w0 B res):=by
 unfold h_x at hm;exact goG func86 z z z λfn hr=>Ws<|EvX [sl A0 N0 C0] z z z λL G H=>Rw z<|Ws<|Rf z a_l z<|R z (l0 a_p z<|H.at z)<|R z (lnR Y_ z kR)<|R z (sb_ z z)<|Rw z<|Wr<|rS1 hm hr z ⟨G,z,iS _ _⟩
theorem W_w1f {x1:d_}{x2:Int}{res:Bool}(hm:i_y x1 x2=some res)(a1:B<=w0.z)(a0:rp w0 B A0 N0 C0 x1.rules)(J:inI x2):g_ prog 140 [(.agg #[sl A0 N0 C0]),vI x2] w0 (Q11 w0 B res):=by
 unfold i_y at hm;refine goG func140 z z z λfn hr=>Ws<|EvX [sl A0 N0 C0] z z z λI _ L=>Rw z<|Wq<|bdB hm λW O V=>Wt (λa w=>∃x3,x3=W/\Sat 15 [(4,vB x3)] a/\Below I.z I w) ?_ ?_
 .refine Wg<|Rm z<|Rf z a_l z<|R z (l0 a_p z<|L.at z)<|R z (lnR Y_ z kR)<|R z (sb_ z z)<|bdB O λY e9 H=>EcA z (fc call51 z<|b_k (B:=B) e9 kM J (ii z)<|iS _ _) λ_ sa=>Rm z ?_;rcases bs Y with G | G
  .refine Rh z G (lC [sl A0 N0 C0] s_ n_ z)<|bdB (ifT H G) λrb ec hmd=>Eg z z G z (fc call53 z<|o_U (B:=B) ec kM kR) ?_;rintro _ _ ⟨_,rfl⟩;exact R z (pT z G z)<|Ra z<|Wl (λ_ q=>⟨rb,som hmd,kaA q,kW⟩)
  exact Nh z G<|Nh z G<|R z (pF z G z)<|Ra z<|Wl (λ_ q=>⟨false,som<|ifF H G,kaA q,sa⟩)
 rintro ae _ ⟨x3,rfl,_,_⟩;revert ae;exact Wo<|Wr<|rS1 V hr z ⟨kW,z⟩
def Q16 (w0:World)(B:Zone)(r:Int×Int×Bool)(v:Value)(w':World):Prop:=Bw w0 w'/\un3 (λr1 r2 r3=>v = .tuple #[vI r1,vI r2,vB r3]/\inI r1/\inI r2) r
theorem l_7 {x1:d_}{x2:Int}{x3:Bt}{x4:Int}{res:Int×Int×Bool}(hm:d_r x1 x2 x3 x4=some res)(a5:B<=w0.z)(a1:rp w0 B A0 N0 C0 x1.rules)(a2:inI x2)(a3:rp w0 B A7 N7 C7 x3)(W:inI x4):g_ prog 141 [(.agg #[sl A0 N0 C0]),vI x2,sl A7 N7 C7,vI x4] w0 (Q16 w0 B res):=by
 unfold d_r at hm;refine goG func141 z z z λfn hr=>Ws<|EvX [sl A0 N0 C0] z z z λw1 _ Y=>RA z z<|Rw z<|Ws<|Rf z a_l z<|R z (l0 a_p z<|Y.at z)<|Rm z<|bdB hm λx5 ei H=>xA (α:=f_) z Y_ l_ z z z kR ei λ_ _ _ hj hk _=>?_;obtain ⟨I,J,L,O,V,ca,ab,nc,cd,ae,nf,cg,rfl,_,_,_,_,_,_,_⟩:=a_T hk;refine R z (lN (vs:=vR x5 I J L O V ca ab nc cd ae nf cg) G_ l_ z z fid hj)<|EvZ [(Str.v (⟨[]⟩:Str)),vI 0,vI 0,vB false,sN,sN,sN,sN] z c_t z λwl _ a0=>E0q (vR x5 I J L O V ca ab nc cd ae nf cg) l_ z z a0 z λa6 hn _=>Wn<|Wq<|Wm z<|R z (lnR h_ z kR)<|Rm z<|R z (sb_ z z)<|Rf z a_V z<|R z (l0 g_3 z<|hn.at z)<|Rl z z z<|Wx z (λG=>?_) (λG=>?_)
 .exact Wm z<|RA z z<|Rw z<|Wr<|rS3 (ifT H G) hr z z z ⟨kW,z,ii z,W⟩
 refine Wk<|Wq (Wd (X:=noX) 0 (.rd 0<|.rd 1<|.rd 2<|.rd 3<|.rd 4<|.rd 5<|.rd 6<|.rd 7<|.rd 8<|.rd 10<|.rd 11<|.rd 12<|.rd 13<|.ef 9<|.rd 14<|.rd 15<|.rd 16 .done) mo (by kernel_rfl) λa7 a9 _=>?_);iterate 3 refine dM z z z ?_
 refine dR z z (fd a_V z)<|dR z z (l0 g_3 z kBa)<|dR z z (add_ z z)<|bdB (ifF H G) λ_ eo hmp=>dRX z z (rX h_ z_5 z z kR z z eo) ?_;rintro _ ⟨_,_,_,rfl,hq⟩;refine dR z z (fd e_k z)<|dR z z (l0 g_4 z kBa)<|dM z z z<|dR z z (fd a_V z)<|dR z z (l0 g_3 z kBa)<|dR z z (add_ z z)<|bdB hmp λ_ er hms=>dE z z (fc call81 z<|W_w1a (B:=B) er kM hq) iB ?_;rintro _ _ ⟨_,rfl,ht⟩;iterate 3 refine dQ z z z ?_
 exact pD<|Wo<|Wr<|rS3 hms hr z z z ⟨kW,z,ht,iA _ _⟩
def Q17 (w0:World)(B:Zone)(r:Val×Int×Int)(v:Value)(w':World):Prop:=Bw w0 w'/\un3 (λr1 r2 r3=>∃G H I S1 a2 J L S2,v = .tuple #[(.agg #[vI r1.number,sl G H I,sl a2 J L]),vI r2,vI r3]/\inI r1.number/\c_ w' S1 (sl G H I) r1.bytes/\c_ w' S2 (sl a2 J L) r1.items/\inI r2/\inI r3/\(S1++S2).Nodup/\(∀k∈(S1++S2),w0.z<=k)) r
theorem W_w3j {x1:f_}{x2:Bt}{x3:Int}{res:Val×Int×Int}(hm:j_U x1 x2 x3=some res)(a7:B<=w0.z)(a0:x1.name.b.length<=LEN)(a1:inI x1.kind)(a2:inI x1.size)(W:rp w0 B AB NB CB x1.bytes)(a3:rp w0 B AA NA CA x1.names)(a4:rp w0 B AC NC CC x1.tags)(a5:rp w0 B AD ND CD x1.kids)(a6:rp w0 B A2 N2 C2 x2)(Y:inI x3):g_ prog 148 [(.agg #[Str.v x1.name,vI x1.kind,vI x1.size,vB x1.little,sl AB NB CB,sl AA NA CA,sl AC NC CC,sl AD ND CD]),sl A2 N2 C2,vI x3] w0 (Q17 w0 B res):=by
 unfold j_U at hm;refine goG func148 z z z λfn hr=>Ws<|EvX (vR x1 AB NB CB AA NA CA AC NC CC AD ND CD) z z z λJ _ _=>EvZ [vI 0,sN,sN] z a_h z λG _ _=>Ra z<|Rw z<|Wq<|Ws<|Rw z<|bdB hm λ_ hub L=>Wf (σ:=Unit) (ρ:=Val×Int×Int) (λ(k7:Nat)(_:Unit) a w=>Sat 47 [(1,sl A2 N2 C2),(2,vI x3),(3,pt w0.z),(6,pt J.z),(9,vI ((k7:Nat):Int))] a/\Below G.z G w) (λ(_:Unit) a w=>Sat 47 [(2,vI x3),(3,pt w0.z),(6,pt J.z)] a/\Below G.z G w) (rQ prog fn<|Q17 w0 B) hub ?_ ?_ ?_ ?_ ?_
 .exact λ_ q=>⟨kaA q,br G⟩
 .rintro k7 _ _ _ _ O ⟨hSc,_⟩ V;refine Wu ?_ hSc;refine Wq<|Wm z<|Rf z b_F z<|R z (l0 B_ z kBa)<|R z (lnR h_ z kR)<|Rl z z z<|Wx z (λ_=>?_) (λhc=>(J_ O hc).elim);refine Wk<|Wq<|Wb<|Wq<|Wm z<|Rm z<|R z (add_ z z)<|Rm z<|R z (lnR h_ z kR)<|R z (b_u z z)<|Wx z (λH=>?_) (λH=>?_)
  .exact Ws<|R z (bQ [] [vI 0,sN,sN] a_4 z z)<|Rm z<|E0q [vI 0,sN,sN] i_ z z kB z λa8 hd _=>Ra z<|Rw z<|Wr<|rtO<|qL (som<|ifT V H).symm<|d_A hr (m_ x_ i_ z hd z) z z ⟨kW,none,0,0,[],none,0,0,[],z,ii z,onL,onL,Y,ii z,nd0,sQ⟩
  refine Wk<|Wq (Wd (X:=noX) 0 (pl_ 12 []) mo (by kernel_rfl) λa9 aa _=>?_);iterate 3 refine dM z z z ?_
  refine dR z z (add_ z z)<|bdB (ifF V H) λ_ eg hmf=>dxA (α:=UInt8) z z h_ z_5 z z z kR eg λ_ _ _ hh hi _=>?_;obtain rfl:=u8 hi;refine dR z z (l0 g_5 z<|hh.at0 z)<|dR z z (fd b_F z)<|dR z z (l0 B_ z kBa)<|dM z z z<|bdB hmf λ_ ej hma=>dxA (α:=UInt8) z z h_ z_5 z z z kR ej λ_ _ _ hk hl _=>?_;obtain rfl:=u8 hl;refine dR z z (l0 g_5 z<|hk.at0 z)<|dR z z (nq z z)<|pD<|Wo<|Wc z (λI=>?_) (λI=>?_)
  .exact Ws<|R z (bQ [] [vI 0,sN,sN] a_4 z z)<|RM z z<|R z (add_ z z)<|E0q [vI 0,sN,sN] i_ z z kB z λab hn _=>Ra z<|Rw z<|Wr<|rtO<|qL (som<|ifT hma I).symm<|d_A hr (m_ x_ i_ z hn z) z z ⟨kW,none,0,0,[],none,0,0,[],z,ii z,onL,onL,iA _ _,ii z,nd0,sQ⟩
  exact Wk<|Wg<|Rm z<|R z (inc_ O (lt_ (repS.len W) u_) z z)<|Ra z<|Wl (λ_ q=>⟨(),(som<|ifF hma I).symm,⟨kaA q,kW⟩⟩)
 .rintro _ _ _ ⟨hSo,sp⟩;refine Wu ?_ hSo;refine Wq<|Wm z<|Rf z b_F z<|R z (l0 B_ z kBa)<|R z (lnR h_ z kR)<|Rl z z z<|Wx z (λhc=>(K_ hc).elim) (λ_=>?_);exact We<|λ_ q=>⟨rfl,⟨kaA q,sp⟩⟩
 .rintro _ aq _ rfl ⟨_,_⟩;have hmr:=elL L;revert aq;refine Wo<|Wq (Wd (X:=(· ∈ [J.z])) 0 (pl_ 9 [6]) mo (by kernel_rfl) λad ae _=>dR z z (bQ [] [vI 0,sN,sN] a_4 z z)<|dM z z z<|dR z z (fd b_F z)<|dR z z (l1 B_ z sQ kBa)<|dR z z (lnR h_ z kR)<|dR z z (add_ z z)<|dE0 z (fs0 (cur':=[vI 0,sN,sN]) i_ z z kB z z z z) (.inr λ_ _ h=>chgIn (QA_.2 z) h.2) ?_);rintro _ _ ⟨ht,ss⟩;have:=ss.one;exact dQ z z z<|dQ z z z<|pD<|Wo<|Wr<|rS3 hmr hr (m_ x_ i_ z ht z) z z ⟨kW,none,0,0,[],none,0,0,[],z,ii z,onL,onL,iA _ _,ii z,nd0,sQ⟩
 exact lqA L λ_ _ h=>h.2
theorem W_w1g {x1:Bt}{x2:Int}{x3:Int}{res:Val×Int×Int}(hm:i_v x1 x2 x3=some res)(a2:B<=w0.z)(Y:rp w0 B A0 N0 C0 x1)(L:inI x2)(a0:inI x3):g_ prog 149 [sl A0 N0 C0,vI x2,vI x3] w0 (Q17 w0 B res):=by
 unfold i_v at hm;refine goG func149 z z z λfn hr=>Ws<|EvZ [vI 0,sN,sN] z a_h z λw5 _ O=>Ra z<|Rw z<|Wq<|Wm z<|R z (lnR h_ z kR)<|Rm z<|R z (sb_ z z)<|Rm z<|Rl z z z<|Wx z (λG=>?_) (λG=>?_)
 .exact Ws<|R z (bQ [] [vI 0,sN,sN] a_4 z z)<|Rm z<|E0q [vI 0,sN,sN] i_ z z O z λwj h6 _=>Ra z<|Rw z<|Wr<|rS3 (ifT hm G) hr (m_ x_ i_ z h6 z) z z ⟨kW,none,0,0,[],none,0,0,[],z,ii z,onL,onL,L,ii z,nd0,sQ⟩
 refine Wk<|Ws<|E z (f0 (α:=UInt8) M_) ?_;rintro _ _ ⟨_,_,_,rfl,_,V⟩;refine RM z z<|RM z z<|R z (add_ z z)<|bdB (ifF hm G) λ_ W hma=>RX z (rX h_ z_5 z z kR z z W) ?_;rintro _ ⟨_,_,_,rfl,hb⟩;refine bdB hma λxc ed hme=>E z (fN (α:=UInt8) M_ ed z z V S_ hb) ?_;rintro _ _ ⟨Sf,H,I,J,rfl,_,_,hg,_⟩;exact R z (bQ [(1,.tmp 24)] [vI 0,sl H I J,sN] a_4 z z)<|RM z z<|R z (add_ z z)<|E0q [vI 0,sl H I J,sN] i_ z z kB z λwx hh _=>Ra z<|Rw z<|Wr<|rS3 hme hr (m_ x_ i_ z hh z) z z ⟨kW,H,I,J,Sf,none,0,0,[],z,ii z,kO (l:=xc),onL,iA _ _,ii z,na_ hg E_ sQ,sQ⟩
def Q18 (w0:World)(B:Zone)(r:Bt×Int×Bool)(v:Value)(w':World):Prop:=Bw w0 w'/\un3 (λr1 r2 r3=>∃G H I S1,v = .tuple #[sl G H I,vI r2,vB r3]/\c_ w' S1 (sl G H I) r1/\inI r2/\S1.Nodup/\(∀k∈S1,w0.z<=k)) r
theorem W_w3k {x1:Bt}{x2:Int}{x3:UInt8}{res:Bt×Int×Bool}(hm:j_V n x1 x2 x3=some res)(aP:B<=w0.z)(aO:rp w0 B A0 N0 C0 x1)(a0:inI x2):g_ prog 150 [sl A0 N0 C0,vI x2,vU<|b_ x3] w0 (Q18 w0 B res):=by
 unfold j_V at hm;refine goG func150 z z z λfn hr=>Ws<|RA z z<|Rw z<|Ws<|E z (f0 (α:=UInt8) M_) ?_;rintro _ O ⟨ar,ns,ct,rfl,_,hu⟩;refine Rw z<|Wq<|Wm z<|Rw z ?_;obtain ⟨_,huv,hmi⟩:=bdS hm;refine b_6 (σ:=Bt×Int) (ρ:=Bt×Int×Bool) (λs a w=>un2 (λV x4=>∃H I J G,Sat 54 [(0,sl A0 N0 C0),(1,vI x2),(2,vU<|b_ x3),(9,sl H I J),(10,vI x4)] a/\Cg [w0.z] O w/\c_ w G (sl H I J) V/\G.Nodup/\(∀k∈G,k∈[w0.z]∨O.z<=k)/\inI x4) s) (λs a w=>un2 (λV x4=>∃H I J G,Sat 54 [(1,vI x2)] a/\Cg [w0.z] O w/\c_ w G (sl H I J) V/\G.Nodup/\(∀k∈G,k∈[w0.z]∨O.z<=k)/\inI x4) s) (rQ prog fn<|Q18 w0 B) huv ?_ ?_ ?_ ?_
 .exact λ_ q=>⟨ar,ns,ct,[w0.z],kaA q,cr [w0.z] O,hu,S_,sQ,a0⟩
 .rintro ⟨V,x4⟩ _ wj _ ⟨H,I,J,G,hSw,_,hx,W,hy,hb⟩ hmz;refine Wu ?_ hSw;refine Wq<|Wq<|bdB (a_0 hmz) λad a3 hmk=>Wt (λa w=>∃xc,xc=ad/\Sat 54 [(0,sl A0 N0 C0),(1,vI x2),(2,vU<|b_ x3),(9,sl H I J),(10,vI x4),(22,vB xc)] a/\Below wj.z wj w) ?_ ?_
  .refine Wg<|RM z z<|R z (lnR h_ z kR)<|bdB a3 λae af hml=>EcA z (fc call51 z<|b_k (B:=B) af kM a0 (ii z)<|c_3<|repS.len kR) λ_ sm=>Rm z ?_;rcases bs ae with L | L
   .exact Rh z L (mv z)<|Rh z L (mv z)<|Rh z L (lnR h_ z kR)<|Rh z L (lss z z)<|R z (pT z L z)<|Wl (λ_ q=>⟨decide<|x4<(x1.length:Int),som<|ifT hml L,kaA q,sm⟩)
   iterate 4 refine Nh z L ?_
   exact R z (pF z L z)<|Wl (λ_ q=>⟨false,som<|ifF hml L,kaA q,sm⟩)
  rintro ah wa ⟨xc,rfl,_,_⟩;revert ah;refine Wo<|Wc z (λhcd=>?_) (λhcd=>?_)
  .refine Wk<|Wq<|Wb<|Wq<|Wm z<|Rm z<|bdB (ifT hmk hcd) λ_ ai hmn=>xA (α:=UInt8) z h_ z_5 z z z kR ai λ_ _ _ aj ak _=>?_;obtain rfl:=u8 ak;refine R z (l0 g_5 z<|aj.at0 z)<|Rm z<|Rq z z z<|Wx z (λhce=>?_) (λhce=>?_)
   .exact Wm z<|Rm z<|R z (add_ z z)<|RA z z<|Rw z<|Wr<|rtO<|qL (som<|ifT hmn hce).symm<|d_A hr z z z ⟨kW,H,I,J,G,z,kO,iA _ _,W,sQ⟩
   refine Wk<|Wq<|Wm z<|Rm z<|bdB (ifF hmn hce) λ_ al a4=>xA (α:=UInt8) z h_ z_5 z z z kR al λ_ _ _ am an _=>?_;obtain rfl:=u8 an;refine R z (l0 g_5 z<|am.at0 z)<|Rq z z z<|Wn<|bdB a4 λap huo hmp=>Wt (λa w=>∃(Y:Int),Sum.inl Y=ap/\Sat 54 [(0,sl A0 N0 C0),(1,vI x2),(2,vU<|b_ x3),(9,sl H I J),(10,vI Y)] a/\Below wa.z wa w/\inI Y) ?_ ?_
   .refine Wc z (λhcf=>?_)<|λhcf=>?_
    .have hmq:=ifT huo hcf;refine Wm z<|R z (add_ z z)<|Rw z<|Wm z<|Rm z<|R z (lnR h_ z kR)<|Rq z z z<|Wx z (λhcg=>?_) (λhcg=>?_)
     .obtain rfl:=som<|ifT hmq hcg;have a5:=elR hmp;exact We<|exO z (λ_ q=>a_X (som a5).symm ⟨H,I,J,G,kaA q,kW,kO,W,sQ,iA _ _⟩)
     exact Z_<|λ_ q=>⟨e_ x4 1,som<|ifF hmq hcg,kaA q,br wa,iA _ _⟩
    exact Z_<|λ_ q=>⟨x4,som<|ifF huo hcf,kaA q,br wa,hb⟩
   rintro aq au ⟨Y,rfl,_,_,_⟩;have a6:=elL hmp;revert aq;refine Wo<|Wg<|RM z z<|Rm z<|bdB a6 λav aw a7=>xA (α:=UInt8) z h_ z_5 z z z kR aw λ_ _ _ ax ay _=>?_;obtain rfl:=u8 ay;refine R z (l0 g_5 z<|ax.at0 z)<|EvA z (fS [(.tmp 49)] M_ z z z (a_i z) (lb z)<|lb z) λaz hh=>have:=hh.below;have a2:Blk az au.z [vU (b_ av)]:=hh.blk;have:=b_d hh b_o;bdB a7 λaA aB a8=>E z (a_W (α:=UInt8) M_ aB z z kO W a2 b_o an_ E_) ?_;rintro _ _ ⟨aC,aD,aE,aF,rfl,_,aG,aH,_⟩;exact Rw z<|Wg<|Rm z<|R z (add_ z z)<|Ra z<|Wl (λ_ q=>⟨(aA,e_ Y 1),(som a8).symm,⟨aD,aE,aF,aC,kaA q,kW,aG,aH,sQ,iA _ _⟩⟩)
  exact We<|λ_ q=>a_X (som<|ifF hmk hcd).symm ⟨H,I,J,G,kaA q,kW,kO,W,sQ,hb⟩
 .rintro ⟨V,x4⟩ aI aJ rfl ⟨H,I,J,G,_,_,hx,W,hy,hb⟩;have a9:=elL hmi;revert aI;refine Wo<|Ws<|E z (f0 (α:=UInt8) M_) ?_;rintro _ _ ⟨aK,aL,aM,rfl,_,aN⟩;exact Rm z<|RA z z<|Rw z<|Wr<|rS3 (a_0 a9) hr z z z ⟨kW,aK,aL,aM,[aJ.z],z,aN,a0,S_,sQ⟩
 exact lqA hmi λ_ _ h=>h.2
theorem f_B {x1:f_}{x2:Int}{x3:Int}{res:Int}(hm:b_S x1 x2 x3=some res)(aL:B<=w0.z)(aD:x1.name.b.length<=LEN)(aE:inI x1.kind)(aF:inI x1.size)(aG:rp w0 B AB NB CB x1.bytes)(aH:rp w0 B AA NA CA x1.names)(a1:rp w0 B AC NC CC x1.tags)(aI:rp w0 B AD ND CD x1.kids)(aJ:inI x2)(aK:inI x3):g_ prog 142 [(.agg #[Str.v x1.name,vI x1.kind,vI x1.size,vB x1.little,sl AB NB CB,sl AA NA CA,sl AC NC CC,sl AD ND CD]),vI x2,vI x3] w0 (Q0 w0 B res):=by
 unfold b_S at hm;refine goG func142 z z z λfn hr=>Ws<|EvX (vR x1 AB NB CB AA NA CA AC NC CC AD ND CD) z z z λG a2 H=>Rw z<|Wq<|Ws<|Rf z a_r z<|R z (l0 g_3 z<|H.at z)<|Wn<|Wb<|Ws<|Rq z z z<|Rw z<|Wc z (λJ=>?_) (λJ=>?_)
 .exact Ws<|Rf z Q_ z<|R z (l0 A_ z<|H.at z)<|bdB (ifT hm J) λ_ el hmm=>xI z v_ z_3 z z z kR el λ_ _ hn hp=>R z (l0 g_3 z<|hn.at0 z)<|Rw z<|Wr<|rtO<|rS1 hmm hr z ⟨a2,z,hp⟩
 refine Ws<|Rq z z z<|Rw z<|bdB (ifF hm J) λuq huc I=>Wt (λa w=>Sum.inl ()=uq/\Sat 57 [] a/\Below G.z G w) ?_ ?_
 .refine Wc z (λL=>?_)<|λL=>?_
  .have hme:=ifT huc L;refine Wm z<|Rf z Q_ z<|R z (l0 A_ z<|H.at z)<|R z (lnR v_ z kR)<|Rl z z z<|Wx z (λO=>?_) (λO=>?_)
   .refine Ws<|Rf z Q_ z<|R z (l0 A_ z<|H.at z)<|Rm z<|bdB (ifT hme O) λ_ er hms=>xI z v_ z_3 z z z kR er λ_ _ ht hv=>R z (l0 g_3 z<|ht.at0 z)<|Rw z ?_;obtain rfl:=som hms;have hmw:=elR I;exact Wr<|rtO<|rS1 hmw hr z ⟨a2,z,hv⟩
   exact Z_<|λ_ q=>⟨som<|ifF hme O,q.k sn,br G⟩
  refine Ws<|Rq z z z<|Rw z<|bdB (ifF huc L) λux huf V=>Wt (λa w=>Sum.inl ()=ux/\Sat 57 [] a/\Below G.z G w) ?_ ?_
  .refine Wc z (λW=>?_)<|λW=>?_
   .refine Ws<|Rw z<|bdB (ifT huf W) λ_ huy hmg=>Wf (σ:=Unit) (ρ:=Int) (λ(kh:Nat)(_:Unit) a w=>Sat 57 [(1,vI x2),(3,pt w0.z),(7,vI ((kh:Nat):Int))] a/\Below G.z G w) (λ(_:Unit) a w=>Sat 57 [] a/\Below G.z G w) (rQ prog fn<|Q0 w0 B) huy ?_ ?_ ?_ ?_ ?_
    .exact λ_ q=>⟨kaA q,br G⟩
    .rintro kh _ _ _ _ Y ⟨hSz,ai⟩ a3;refine Wu ?_ hSz;refine Wq<|Wm z<|Rf z b_G z<|R z (l0 A_ z kBa)<|R z (lnR v_ z kR)<|Rl z z z<|Wx z (λ_=>?_) (λhc=>(J_ Y hc).elim);refine Wk<|Wq<|Wb<|Ws<|Rf z b_G z<|R z (l0 A_ z kBa)<|Rm z<|bdB a3 λ_ aj hmi=>xI z v_ z_3 z z z kR aj λ_ _ ak _=>R z (l0 g_3 z<|ak.at0 z)<|Rm z<|Rq z z z<|Wx z (λa0=>?_) (λa0=>?_)
     .exact Ws<|Rf z Q_ z<|R z (l0 A_ z kBa)<|Rm z<|R z (inc_ Y (lt_ (repS.len a1) u_) z z)<|bdB (ifT hmi a0) λ_ al a4=>xI z v_ z_3 z z z kR al λ_ _ am an=>R z (l0 g_3 z<|am.at0 z)<|Rw z<|Wr<|rtO<|qL (som a4).symm<|a_s hr z ⟨kW,z,an⟩
     exact Wk<|Wg<|Rm z<|R z (inc_ Y (lt_ (repS.len a1) u_) z z)<|Ra z<|Wl (λ_ q=>⟨(),(som<|ifF hmi a0).symm,⟨kaA q,ai⟩⟩)
    .rintro _ _ _ ⟨a5,ap⟩;refine Wu ?_ a5;refine Wq<|Wm z<|Rf z b_G z<|R z (l0 A_ z kBa)<|R z (lnR v_ z kR)<|Rl z z z<|Wx z (λhc=>(K_ hc).elim) (λ_=>?_);exact We<|λ_ q=>⟨rfl,⟨q.k sn,ap⟩⟩
    .rintro _ aq _ rfl ⟨_,ar⟩;have a6:=elL hmg;revert aq;exact λ_ q=>⟨som a6,q.k sn,ar⟩
    rintro _ _ _ _ rfl ⟨rfl,a7⟩;have a8:=elR hmg;obtain rfl:=som a8;have a9:=elR V;obtain rfl:=som a9;have aa:=elR I;obtain rfl:=som aa;exact ⟨a7,z⟩
   refine Wq<|Ws<|Rq z z z<|Rw z<|bdB (ifF huf W) λau huj hmk=>Wt (λa w=>∃x9,x9=au/\Sat 57 [(3,pt w0.z),(50,vB x9)] a/\Below G.z G w) ?_ ?_
   .refine Wc z (λhca=>?_)<|λhca=>?_
    .exact Z_<|λ_ q=>⟨x1.kind==8,som<|ifT huj hca,kaA q,br G⟩
    exact Wg<|Rq z z z<|Ra z<|Wl (λ_ q=>⟨x1.kind==9,som<|ifF huj hca,kaA q,br G⟩)
   rintro av _ ⟨x9,rfl,_,aw⟩;revert av;refine Wo<|Wc z (λhcb=>?_) (λhcb=>?_)
   .refine Ws<|Rf z Q_ z<|R z (l0 A_ z kBa)<|bdB (ifT hmk hcb) λ_ ax ab=>xI z v_ z_3 z z z kR ax λ_ _ ay az=>R z (l0 g_3 z<|ay.at0 z)<|Rw z ?_;obtain rfl:=som ab;have ad:=elR V;obtain rfl:=som ad;have ae:=elR I;exact Wr<|rtO<|rS1 ae hr z ⟨kW,z,az⟩
   exact Z_<|λ_ q=>⟨som<|ifF hmk hcb,q.k sn,aw⟩
  rintro aA _ ⟨rfl,_,aB⟩;have af:=elL V;revert aA;exact λ_ q=>⟨som af,q.k sn,aB⟩
 rintro aC _ ⟨rfl,_,_⟩;have ah:=elL I;revert aC;exact Wo<|Ws<|Rw z<|Wr<|rS1 ah hr z ⟨kW,z,ii z⟩
structure o_V (f:d_->Int->Bt->Int->Option (Val×Int×Int)):Prop where
  run:∀{A0 A7:Option Addr}{N0 C0 N7 C7:Nat}{B:Zone}{x1:d_}{x2:Int}{x3:Bt}{x4:Int}{res:Val×Int×Int}{w0:World}(hm:f x1 x2 x3 x4=some res)(hBw:B<=w0.z)(p1_0:rp w0 B A0 N0 C0 x1.rules)(p2_0:inI x2)(p3_0:rp w0 B A7 N7 C7 x3)(p4_0:inI x4),g_ prog 92 [(.agg #[sl A0 N0 C0]),vI x2,sl A7 N7 C7,vI x4] w0<|Q17 w0 B res
structure o_W (f:d_->f_->Int->Int->Bt->Int->Option (Val×Int×Int)):Prop where
  run:∀{A0 A4 A5 A3 A6 AH:Option Addr}{N0 C0 N4 C4 N5 C5 N3 C3 N6 C6 NH CH:Nat}{B:Zone}{x1:d_}{x2:f_}{x3:Int}{x4:Int}{x5:Bt}{x6:Int}{res:Val×Int×Int}{w0:World}(hm:f x1 x2 x3 x4 x5 x6=some res)(hBw:B<=w0.z)(p1_0:rp w0 B A0 N0 C0 x1.rules)(p2_0:x2.name.b.length<=LEN)(p2_1:inI x2.kind)(p2_2:inI x2.size)(p2_4:rp w0 B A4 N4 C4 x2.bytes)(p2_5:rp w0 B A5 N5 C5 x2.names)(p2_6:rp w0 B A3 N3 C3 x2.tags)(p2_7:rp w0 B A6 N6 C6 x2.kids)(p3_0:inI x3)(p4_0:inI x4)(p5_0:rp w0 B AH NH CH x5)(p6_0:inI x6),g_ prog 151 [(.agg #[sl A0 N0 C0]),.agg #[Str.v x2.name,vI x2.kind,vI x2.size,vB x2.little,sl A4 N4 C4,sl A5 N5 C5,sl A3 N3 C3,sl A6 N6 C6],vI x3,vI x4,sl AH NH CH,vI x6] w0<|Q17 w0 B res
structure o_X (f:d_->f_->Bt->Int->Option (Val×Int×Int)):Prop where
  run:∀{A0 A4 A5 A3 A6 A7:Option Addr}{N0 C0 N4 C4 N5 C5 N3 C3 N6 C6 N7 C7:Nat}{B:Zone}{x1:d_}{x2:f_}{x3:Bt}{x4:Int}{res:Val×Int×Int}{w0:World}(hm:f x1 x2 x3 x4=some res)(hBw:B<=w0.z)(p1_0:rp w0 B A0 N0 C0 x1.rules)(p2_0:x2.name.b.length<=LEN)(p2_1:inI x2.kind)(p2_2:inI x2.size)(p2_4:rp w0 B A4 N4 C4 x2.bytes)(p2_5:rp w0 B A5 N5 C5 x2.names)(p2_6:rp w0 B A3 N3 C3 x2.tags)(p2_7:rp w0 B A6 N6 C6 x2.kids)(p3_0:rp w0 B A7 N7 C7 x3)(p4_0:inI x4),g_ prog 152 [(.agg #[sl A0 N0 C0]),.agg #[Str.v x2.name,vI x2.kind,vI x2.size,vB x2.little,sl A4 N4 C4,sl A5 N5 C5,sl A3 N3 C3,sl A6 N6 C6],sl A7 N7 C7,vI x4] w0<|Q17 w0 B res
structure o_Y (f:d_->f_->Bt->Int->Option (Val×Int×Int)):Prop where
  run:∀{A0 A4 A5 A3 A6 A7:Option Addr}{N0 C0 N4 C4 N5 C5 N3 C3 N6 C6 N7 C7:Nat}{B:Zone}{x1:d_}{x2:f_}{x3:Bt}{x4:Int}{res:Val×Int×Int}{w0:World}(hm:f x1 x2 x3 x4=some res)(hBw:B<=w0.z)(p1_0:rp w0 B A0 N0 C0 x1.rules)(p2_0:x2.name.b.length<=LEN)(p2_1:inI x2.kind)(p2_2:inI x2.size)(p2_4:rp w0 B A4 N4 C4 x2.bytes)(p2_5:rp w0 B A5 N5 C5 x2.names)(p2_6:rp w0 B A3 N3 C3 x2.tags)(p2_7:rp w0 B A6 N6 C6 x2.kids)(p3_0:rp w0 B A7 N7 C7 x3)(p4_0:inI x4),g_ prog 153 [(.agg #[sl A0 N0 C0]),.agg #[Str.v x2.name,vI x2.kind,vI x2.size,vB x2.little,sl A4 N4 C4,sl A5 N5 C5,sl A3 N3 C3,sl A6 N6 C6],sl A7 N7 C7,vI x4] w0<|Q17 w0 B res
structure o_Z (f:d_->f_->Bt->Int->Option (Val×Int×Int)):Prop where
  run:∀{A0 A4 A5 A3 A6 A7:Option Addr}{N0 C0 N4 C4 N5 C5 N3 C3 N6 C6 N7 C7:Nat}{B:Zone}{x1:d_}{x2:f_}{x3:Bt}{x4:Int}{res:Val×Int×Int}{w0:World}(hm:f x1 x2 x3 x4=some res)(hBw:B<=w0.z)(p1_0:rp w0 B A0 N0 C0 x1.rules)(p2_0:x2.name.b.length<=LEN)(p2_1:inI x2.kind)(p2_2:inI x2.size)(p2_4:rp w0 B A4 N4 C4 x2.bytes)(p2_5:rp w0 B A5 N5 C5 x2.names)(p2_6:rp w0 B A3 N3 C3 x2.tags)(p2_7:rp w0 B A6 N6 C6 x2.kids)(p3_0:rp w0 B A7 N7 C7 x3)(p4_0:inI x4),g_ prog 154 [(.agg #[sl A0 N0 C0]),.agg #[Str.v x2.name,vI x2.kind,vI x2.size,vB x2.little,sl A4 N4 C4,sl A5 N5 C5,sl A3 N3 C3,sl A6 N6 C6],sl A7 N7 C7,vI x4] w0<|Q17 w0 B res
abbrev i_X (n:Nat):Prop:=o_V (a_w n).spec_l11Read/\o_W (a_w n).spec_l11Items/\o_X (a_w n).spec_l11Choice/\o_Y (a_w n).spec_l11Option/\o_Z (a_w n).spec_l11Checked
theorem T_w01 (ih:i_X n):o_V (j_W n<|a_w n):=by
 obtain ⟨_,ap,bN,bO,bP⟩:=ih;constructor;intro A0 A7 N0 C0 N7 C7 B x1 x2 x3 x4 res w0 hm dz dx bA dy G;unfold j_W at hm;refine goG func92 z z z λfn hr=>Ws<|EvX [sl A0 N0 C0] z z z λdA _ _=>EvZ [vI 0,sN,sN] z a_h z λdB _ _=>Ra z<|Rw z<|Ws<|Rf z a_l z<|R z (l0 a_p z kBa)<|Rm z<|bdB hm λx5 bR a7=>xA (α:=f_) z Y_ l_ z z z kR bR λ_ _ _ bS bT _=>?_;obtain ⟨I,J,L,O,V,W,Y,n9,ca,ab,nc,cd,rfl,hf,hg,he,_,_,_,_⟩:=a_T bT;refine R z (lN (vs:=vR x5 I J L O V W Y n9 ca ab nc cd) G_ l_ z z fid bS)<|EvZ [(Str.v (⟨[]⟩:Str)),vI 0,vI 0,vB false,sN,sN,sN,sN] z c_t z λdC _ bB=>E0q (vR x5 I J L O V W Y n9 ca ab nc cd) l_ z z bB z λdD H _=>Wn<|Wq<|Ws<|Rf z a_r z<|R z (l0 g_3 z<|H.at z)<|Wn<|Wb<|Ws<|Rq z z z<|Rw z<|Wc z (λhch=>?_) (λhch=>?_)
 .refine Ws<|R z (lC [sl A0 N0 C0] s_ n_ z)<|RM z z<|Rm z ?_;obtain ⟨aq,_,_,bU,a9⟩:=N_<|ifT a7 hch;refine E z (fc call141 z<|l_7 (B:=B) bU kM kR bA kR G) ?_;rintro _ _ ⟨_,rfl,bV,bW⟩;refine Rm z ?_;iterate 3 refine Re z z z ?_
  refine RA z z<|Rw z<|Wq<|Wm z<|R z (not_ z)<|Wx z (λhci=>?_) (λhci=>?_)
  .exact Ws<|R z (bQ [] [vI 0,sN,sN] a_4 z z)<|Rm z<|E0q [vI 0,sN,sN] i_ z z kB z λdF bX _=>Ra z<|Rw z<|Wr<|rtO<|rS3 (ifT a9 hci) hr (m_ x_ i_ z bX z) z z ⟨kW,none,0,0,[],none,0,0,[],z,ii z,onL,onL,G,ii z,nd0,sQ⟩
  exact Wk<|Wm z<|R z (bQ [(0,.tmp 43)] [vI aq,sN,sN] a_4 z z)<|Rm z<|E0q [vI aq,sN,sN] i_ z z kB z λdG bY _=>Ra z<|Rw z<|Wr<|rtO<|rS3 (ifF a9 hci) hr (m_ x_ i_ z bY z) z z ⟨kW,none,0,0,[],none,0,0,[],z,bV,onL,onL,bW,ii z,nd0,sQ⟩
 have aa:=ifF a7 hch;refine Ws<|Rq z z z<|Rw z<|Wc z (λhcj=>?_) (λhcj=>?_)
 .refine Ws<|R z (lN (vs:=vR x5 I J L O V W Y n9 ca ab nc cd) G_ l_ z z fid<|H.row 0 8 z)<|RM z z ?_;obtain ⟨rk,_,_,bZ,bC⟩:=N_<|ifT aa hcj;refine E z (fc call148 z<|W_w3j (B:=B) bZ kM hf hg he kR kR kR kR kR G) ?_;rintro _ _ ⟨_,ar,au,av,c0,aw,ax,ay,c1,rfl,c2,_,_,c4,c5,c6,c8⟩;obtain ⟨bi,bj,_,_,_⟩:=a_5 c6 c8;iterate 3 refine Re z z z ?_
  exact E0q [vI rk.number,sl ar au av,sl aw ax ay] i_ z z kB z λdH c9 _=>Ra z<|Rw z<|Wr<|rtO<|rS3 bC hr (m_ x_ i_ z c9 z) z z ⟨kW,ar,au,av,c0,aw,ax,ay,c1,z,c2,kO (l:=rk.bytes),kO (l:=rk.items),c4,c5,na_ bi bj sQ,sQ⟩
 have ad:=ifF aa hcj;refine Ws<|Rq z z z<|Rw z<|Wc z (λhcl=>?_) (λhcl=>?_)
 .refine Wm z<|Rm z<|Rf z a_V z<|R z (l0 g_3 z<|H.at z) ?_;obtain ⟨rm,_,_,cb,bD⟩:=N_<|ifT ad hcl;refine E z (fc call149 z<|W_w1g (B:=B) cb kM kR G he) ?_;rintro _ _ ⟨_,az,aA,aB,cc,aC,aD,aE,ce,rfl,cf,_,_,cg,ch,ci,cj⟩;obtain ⟨bk,bm,_,_,_⟩:=a_5 ci cj;iterate 3 refine Re z z z ?_
  exact E0q [vI rm.number,sl az aA aB,sl aC aD aE] i_ z z kB z λdI ck _=>Ra z<|Rw z<|Wr<|rtO<|rS3 bD hr (m_ x_ i_ z ck z) z z ⟨kW,az,aA,aB,cc,aC,aD,aE,ce,z,cf,kO (l:=rm.bytes),kO (l:=rm.items),cg,ch,na_ bk bm sQ,sQ⟩
 have ae:=ifF ad hcl;refine Ws<|Rq z z z<|Rw z<|Wc z (λhcn=>?_) (λhcn=>?_)
 .refine Wm z<|Rm z<|Rf z b_F z<|R z (l0 B_ z<|H.at z)<|bdB (ifT ae hcn) λ_ cl bE=>xA (α:=UInt8) z h_ z_5 z z z kR cl λ_ _ _ cm cn _=>?_;obtain rfl:=u8 cn;refine R z (l0 g_5 z<|cm.at0 z) ?_;obtain ⟨co,_,_,cp,af⟩:=N_ bE;refine E z (fc call150 z<|W_w3k (B:=B) cp kM kR G) ?_;rintro _ _ ⟨_,ao,np,cq,cr,rfl,_,ct,cu,_⟩;refine Rm z ?_;iterate 3 refine Re z z z ?_
  refine RA z z<|Rw z<|Wq<|Wm z<|R z (not_ z)<|Wx z (λhcr=>?_) (λhcr=>?_)
  .exact Ws<|R z (bQ [] [vI 0,sN,sN] a_4 z z)<|Rm z<|E0q [vI 0,sN,sN] i_ z z kB z λdJ cv _=>Ra z<|Rw z<|Wr<|rtO<|rS3 (ifT af hcr) hr (m_ x_ i_ z cv z) z z ⟨kW,none,0,0,[],none,0,0,[],z,ii z,onL,onL,G,ii z,nd0,sQ⟩
  exact Wk<|Wm z<|R z (bQ [(1,.tmp 82)] [vI 0,sl ao np cq,sN] a_4 z z)<|Rm z<|E0q [vI 0,sl ao np cq,sN] i_ z z kB z λdK cw _=>Ra z<|Rw z<|Wr<|rtO<|rS3 (ifF af hcr) hr (m_ x_ i_ z cw z) z z ⟨kW,ao,np,cq,cr,none,0,0,[],z,ii z,kO (l:=co),onL,ct,ii z,na_ cu E_ sQ,sQ⟩
 have ah:=ifF ae hcn;refine Ws<|Rq z z z<|Rw z<|Wc z (λhcs=>?_) (λhcs=>?_)
 .refine Ws<|R z (lC [sl A0 N0 C0] s_ n_ z)<|R z (lN (vs:=vR x5 I J L O V W Y n9 ca ab nc cd) G_ l_ z z fid<|H.row 0 8 z)<|Rf z Q_ z<|R z (l0 A_ z<|H.at z)<|R z (lnR v_ z kR)<|RM z z ?_;obtain ⟨rt,_,_,cx,bF⟩:=N_<|ifT ah hcs;refine E z (fc call151 z<|ap.run (B:=B) cx kM kR hf hg he kR kR kR kR (ii z) (c_3<|repS.len kR) kR G) ?_;rintro _ _ ⟨_,aF,aG,aH,cy,aI,aJ,aK,cz,rfl,cA,_,_,cB,cC,cD,cE⟩;obtain ⟨bn,bo,_,_,_⟩:=a_5 cD cE;iterate 3 refine Re z z z ?_
  exact E0q [vI rt.number,sl aF aG aH,sl aI aJ aK] i_ z z kB z λdL cF _=>Ra z<|Rw z<|Wr<|rtO<|rS3 bF hr (m_ x_ i_ z cF z) z z ⟨kW,aF,aG,aH,cy,aI,aJ,aK,cz,z,cA,kO (l:=rt.bytes),kO (l:=rt.items),cB,cC,na_ bn bo sQ,sQ⟩
 have ai:=ifF ah hcs;refine Ws<|Rq z z z<|Rw z<|Wc z (λhcu=>?_) (λhcu=>?_)
 .refine Ws<|R z (lC [sl A0 N0 C0] s_ n_ z)<|R z (lN (vs:=vR x5 I J L O V W Y n9 ca ab nc cd) G_ l_ z z fid<|H.row 0 8 z)<|RM z z ?_;obtain ⟨rv,_,_,cG,bG⟩:=N_<|ifT ai hcu;refine E z (fc call152 z<|bN.run (B:=B) cG kM kR hf hg he kR kR kR kR kR G) ?_;rintro _ _ ⟨_,aL,aM,aN,cH,aO,aP,aQ,cI,rfl,cJ,_,_,cK,cL,cM,cN⟩;obtain ⟨bp,bq,_,_,_⟩:=a_5 cM cN;iterate 3 refine Re z z z ?_
  exact E0q [vI rv.number,sl aL aM aN,sl aO aP aQ] i_ z z kB z λdN cO _=>Ra z<|Rw z<|Wr<|rtO<|rS3 bG hr (m_ x_ i_ z cO z) z z ⟨kW,aL,aM,aN,cH,aO,aP,aQ,cI,z,cJ,kO (l:=rv.bytes),kO (l:=rv.items),cK,cL,na_ bp bq sQ,sQ⟩
 have aj:=ifF ai hcu;refine Ws<|Rq z z z<|Rw z<|Wc z (λhcw=>?_) (λhcw=>?_)
 .refine Ws<|R z (lC [sl A0 N0 C0] s_ n_ z)<|R z (lN (vs:=vR x5 I J L O V W Y n9 ca ab nc cd) G_ l_ z z fid<|H.row 0 8 z)<|RM z z ?_;obtain ⟨rx,_,_,cP,bH⟩:=N_<|ifT aj hcw;refine E z (fc call153 z<|bO.run (B:=B) cP kM kR hf hg he kR kR kR kR kR G) ?_;rintro _ _ ⟨_,aR,aS,aT,cQ,aU,aV,aW,cR,rfl,cS,_,_,cT,cU,cV,cW⟩;obtain ⟨br,bs,_,_,_⟩:=a_5 cV cW;iterate 3 refine Re z z z ?_
  exact E0q [vI rx.number,sl aR aS aT,sl aU aV aW] i_ z z kB z λdO cX _=>Ra z<|Rw z<|Wr<|rtO<|rS3 bH hr (m_ x_ i_ z cX z) z z ⟨kW,aR,aS,aT,cQ,aU,aV,aW,cR,z,cS,kO (l:=rx.bytes),kO (l:=rx.items),cT,cU,na_ br bs sQ,sQ⟩
 have ak:=ifF aj hcw;refine Ws<|Rq z z z<|Rw z<|Wc z (λhcy=>?_) (λhcy=>?_)
 .refine Ws<|R z (lC [sl A0 N0 C0] s_ n_ z)<|R z (lN (vs:=vR x5 I J L O V W Y n9 ca ab nc cd) G_ l_ z z fid<|H.row 0 8 z)<|RM z z ?_;obtain ⟨rz,_,_,cY,bI⟩:=N_<|ifT ak hcy;refine E z (fc call154 z<|bP.run (B:=B) cY kM kR hf hg he kR kR kR kR kR G) ?_;rintro _ _ ⟨_,aX,aY,aZ,cZ,b0,b1,b2,d0,rfl,d1,_,_,d2,d3,d4,d5⟩;obtain ⟨bt,bu,_,_,_⟩:=a_5 d4 d5;iterate 3 refine Re z z z ?_
  exact E0q [vI rz.number,sl aX aY aZ,sl b0 b1 b2] i_ z z kB z λdP d6 _=>Ra z<|Rw z<|Wr<|rtO<|rS3 bI hr (m_ x_ i_ z d6 z) z z ⟨kW,aX,aY,aZ,cZ,b0,b1,b2,d0,z,d1,kO (l:=rz.bytes),kO (l:=rz.items),d2,d3,na_ bt bu sQ,sQ⟩
 refine Wk<|Wq (Wd (X:=noX) 0 (pl_ 15 [7]) mo (by kernel_rfl) λdT dU _=>dR z z (lC [sl A0 N0 C0] s_ n_ z)<|dR z z (fd Q_ z)<|dR z z (l0 A_ z kBa) ?_);refine bdB (ifF ak hcy) λ_ d7 bJ=>dxA (α:=Int) z z v_ z_3 z z z kR d7 λ_ _ _ d8 d9 _=>?_;obtain ⟨rfl,da⟩:=a_z d9;refine dR z z (l0 g_3 z<|d8.at0 z)<|dM z z z<|dM z z z ?_;obtain ⟨_,_,_,db,al⟩:=N_ bJ;refine dE z z (fc call141 z<|l_7 (B:=B) db kM kR da kR G) iB ?_;rintro _ _ ⟨_,rfl,b3,b4⟩;refine dM z z z ?_;iterate 3 refine dR z z (ext_ z z) ?_
 iterate 3 refine dQ z z z ?_
 refine pD<|Wo<|Wq<|Wb<|Wm z<|R z (not_ z)<|Rw z<|Wc z (λa0=>?_) (λa0=>?_)
 .exact Ws<|R z (bQ [] [vI 0,sN,sN] a_4 z z)<|Rm z<|E0q [vI 0,sN,sN] i_ z z kB z λdV dc _=>Ra z<|Rw z<|Wr<|rtO<|rS3 (ifT al a0) hr (m_ x_ i_ z dc z) z z ⟨kW,none,0,0,[],none,0,0,[],z,ii z,onL,onL,G,ii z,nd0,sQ⟩
 have am:=ifF al a0;refine Ws<|Rf z a_r z<|R z (l0 g_3 z kBa)<|Rq z z z<|Rw z<|Wc z (λa2=>?_) (λa2=>?_)
 .refine Wm z<|RM z z ?_;obtain ⟨a5,_,_,dd,bK⟩:=N_<|ifT am a2;refine E z (fc call149 z<|W_w1g (B:=B) dd kM kR b4 b3) ?_;rintro _ _ ⟨_,b5,b6,b7,de,b8,b9,ba,df,rfl,dg,_,_,dh,di,dj,dk⟩;obtain ⟨bv,bw,_,_,_⟩:=a_5 dj dk;iterate 3 refine Re z z z ?_
  exact E0q [vI a5.number,sl b5 b6 b7,sl b8 b9 ba] i_ z z kB z λdW dl _=>Ra z<|Rw z<|Wr<|rtO<|rS3 bK hr (m_ x_ i_ z dl z) z z ⟨kW,b5,b6,b7,de,b8,b9,ba,df,z,dg,kO (l:=a5.bytes),kO (l:=a5.items),dh,di,na_ bv bw sQ,sQ⟩
 have an:=ifF am a2;refine Wm z<|R z (T_ z z)<|Rw z<|Wc z (λa3=>?_) (λa3=>?_)
 .exact Ws<|R z (bQ [] [vI 0,sN,sN] a_4 z z)<|Rm z<|E0q [vI 0,sN,sN] i_ z z kB z λdX dm _=>Ra z<|Rw z<|Wr<|rtO<|rS3 (ifT an a3) hr (m_ x_ i_ z dm z) z z ⟨kW,none,0,0,[],none,0,0,[],z,ii z,onL,onL,G,ii z,nd0,sQ⟩
 refine Wk<|Ws<|R z (lC [sl A0 N0 C0] s_ n_ z)<|R z (lN (vs:=vR x5 I J L O V W Y n9 ca ab nc cd) G_ l_ z z fid<|kBr 0 8)<|RM z z<|Rm z ?_;obtain ⟨a6,_,_,dn,bM⟩:=N_<|ifF an a3;refine E z (fc call151 z<|ap.run (B:=B) dn kM kR hf hg he kR kR kR kR (ii z) b3 kR b4) ?_;rintro _ _ ⟨_,bb,bc,be,dp,bf,bg,bh,dq,rfl,dr,_,_,ds,dt,du,dv⟩;obtain ⟨bx,bz,_,_,_⟩:=a_5 du dv;iterate 3 refine Re z z z ?_
 exact E0q [vI a6.number,sl bb bc be,sl bf bg bh] i_ z z kB z λdY dw _=>Ra z<|Rw z<|Wr<|rS3 bM hr (m_ x_ i_ z dw z) z z ⟨kW,bb,bc,be,dp,bf,bg,bh,dq,z,dr,kO (l:=a6.bytes),kO (l:=a6.items),ds,dt,na_ bx bz sQ,sQ⟩
theorem T_w1h (ih:i_X n):o_W (j_X n<|a_w n):=by
 obtain ⟨a1,_,_,_,_⟩:=ih;constructor;intro A0 A4 A5 A3 A6 AH N0 C0 N4 C4 N5 C5 N3 C3 N6 C6 NH CH B x1 x2 x3 x4 x5 x6 res w0 hm cc c6 a2 a3 a4 c7 c8 c9 ca a5 Y cb aN;unfold j_X at hm;refine goG func151 z z z λfn hr=>Ws<|EvX [sl A0 N0 C0] z z z λwn _ aO=>EvX (vR x2 A4 N4 C4 A5 N5 C5 A3 N3 C3 A6 N6 C6) z z z λwd _ aP=>EvZ [vI 0,sN,sN] z a_h z λJ _ _=>Ra z<|Rw z<|Ws<|R z (bQ [] [vI 0,sN,sN] a_4 z z)<|EvZ [vI 0,sN,sN] z a_h z λcd _ aQ=>E0q [vI 0,sN,sN] i_ z z aQ z λwe b4 _=>Wn<|Wq<|Ws<|Rw z ?_;obtain ⟨_,aR,a6⟩:=bdS hm;refine Wf (σ:=Int×(List Val)) (ρ:=Val×Int×Int) (λ(kw:Nat) s a w=>un2 (λL O=>∃G H I S3,Sat 52 [(2,vI x3),(3,vI x4),(4,sl AH NH CH),(5,vI L),(6,pt w0.z),(7,pt wn.z),(12,pt wd.z),(15,pt J.z),(16,vI ((kw:Nat):Int))] a/\Cg [J.z] we w/\inI L/\c_ w S3 (sl G H I) O/\S3.Nodup/\(∀k∈S3,we.z<=k)/\Blk w J.z [vI 0,sN,sl G H I]) s) (λs a w=>un2 (λL O=>∃G H I S3,Sat 52 [(5,vI L),(12,pt wd.z),(15,pt J.z)] a/\Cg [J.z] we w/\inI L/\c_ w S3 (sl G H I) O/\S3.Nodup/\(∀k∈S3,we.z<=k)/\Blk w J.z [vI 0,sN,sl G H I]) s) (rQ prog fn<|Q17 w0 B) aR ?_ ?_ ?_ ?_ ?_
 .exact λ_ q=>⟨none,0,0,[],kaA q,cr [J.z] we,aN,onL,E_,an_,b4⟩
 .rintro kw ⟨L,O⟩ _ wb _ hko ⟨G,H,I,S3,aS,_,h5,hx,hf,hy,hp⟩ aT;refine Wu ?_ aS;refine Wq<|Wm z<|Rm z<|Rl z z z<|Wx z (λ_=>?_) (λhc=>(j_5 hko hc).elim);refine Wk<|Wq<|Wb<|Wq<|bdB (a_0 aT) λb5 a7 aU=>Wt (λa w=>∃V xq xr xg xs,(V,xq,xr,xg,xs)=b5/\∃ah ni cj W ak nl cm Sa gc,Sat 52 [(2,vI x3),(3,vI x4),(4,sl AH NH CH),(6,pt w0.z),(7,pt wn.z),(12,pt wd.z),(15,pt J.z),(16,vI ((kw:Nat):Int)),(17,pt gc),(18,vI xg),(19,vI xs)] a/\Below wb.z wb w/\inI V/\c_ w W (sl ah ni cj) xq/\W.Nodup/\(∀k∈W,wb.z<=k)/\c_ w Sa (sl ak nl cm) xr/\Sa.Nodup/\(∀k∈Sa,wb.z<=k)/\(∀k∈Sa,k∉W)/\inI xg/\inI xs/\Blk w gc [vI V,sl ah ni cj,sl ak nl cm]/\wb.z<=gc/\(∀k∈W,k∉[gc])/\(∀k∈Sa,k∉[gc])) ?_ ?_
  .refine Wd (X:=λk=>k∈([]:List Nat)∨wb.z<=k) 0 (.rd 0<|.rd 1<|.rd 2<|.rd 3<|.rd 5<|.rd 6<|.br 4 (.br 7 (.rd 8<|.rd 9<|.rd 10<|.rd 11<|.ef 12<|.ef 13<|.rd 14<|.rd 15 .done) 12<|.ef 7<|.rd 8<|.rd 9<|.rd 10<|.rd 11<|.ef 13<|.rd 14<|.rd 15 .done) 12<|.ef 4<|.ef 7<|.rd 8<|.rd 9<|.rd 10<|.rd 11<|.ef 13<|.rd 14<|.rd 15 .done) mo (by kernel_rfl) λb6 ce _=>dR z z (lN (vs:=[sl A0 N0 C0]) s_ n_ z z (f_6 nm0<|QAC aO.lt kM)<|kBr 0 1)<|dR z z (lN (vs:=vR x2 A4 N4 C4 A5 N5 C5 A3 N3 C3 A6 N6 C6) G_ l_ z z (f_6 nm0<|QAC aP.lt kM)<|kBr 0 8) ?_;iterate 4 refine dM z z z ?_
   refine f_F ?_ ?_
   .refine bdB a7 λ_ b7 a8=>dE z z (fc call142 z<|f_B (B:=B) b7 kM a2 a3 a4 kR kR kR kR a5<|ic (QAO hko)<|tl_ Y) iB ?_;rintro _ b8 ⟨_,rfl,aa⟩;refine f_F ?_ ?_
    .obtain ⟨rt,b9,ba,bb,aV⟩:=N_ a8;refine dE z z (fc call92 z<|a1.run (B:=B) bb kM kR aa kR h5) iB ?_;rintro _ bc ⟨_,ab,ad,ae,be,af,ai,aj,bf,rfl,bg,_,_,bh,bi,bj,bk⟩;obtain ⟨aF,aG,_,_,_⟩:=a_5 bj bk;refine dM z z z ?_;iterate 3 refine dR z z (ext_ z z) ?_
     exact dNb [vI 0,sN,sN] z z a_h z λcf _ aH=>dS [vI rt.number,sl ab ad ae,sl af ai aj] z i_ z z aH z sQ λcg bm _=>dQ z z z<|dQ z z z<|pD (λ_ q=>⟨rt.number,rt.bytes,rt.items,b9,ba,som aV,ab,ad,ae,be,af,ai,aj,bf,bc.z,q.k<|sc z<|sc z<|sc z<|sc z<|sc z<|sc z<|sc z<|sc z<|sc z<|sc z<|sc z sn,kW,bg,kO,aF,sQ,kO,aG,sQ,sQ,bh,bi,bm,sQ,sQ,sQ⟩)
    refine dNb [vI 0,sN,sN] z z a_h z λch _ _=>?_;obtain ⟨ru,bn,bo,bp,aW⟩:=N_ a8;refine dE z z (fc call92 z<|a1.run (B:=B) bp kM kR aa kR h5) iB ?_;rintro _ _ ⟨_,al,am,an,bq,ap,aq,ar,bs,rfl,bt,_,_,bu,bv,bw,bx⟩;obtain ⟨aI,aJ,_,_,_⟩:=a_5 bw bx;refine dM z z z ?_;iterate 3 refine dR z z (ext_ z z) ?_
    exact dS [vI ru.number,sl al am an,sl ap aq ar] z i_ z z kB z sQ λci bz _=>dQ z z z<|dQ z z z<|pD (λ_ q=>⟨ru.number,ru.bytes,ru.items,bn,bo,som aW,al,am,an,bq,ap,aq,ar,bs,b8.z,q.k<|sc z<|sc z<|sc z<|sc z<|sc z<|sc z<|sc z<|sc z<|sc z<|sc z<|sc z sn,kW,bt,kO,aI,sQ,kO,aJ,sQ,sQ,bu,bv,bz,sQ,sQ,sQ⟩)
   refine dNb [vI 0,sN,sN] z z a_h z λck _ _=>bdB a7 λ_ bA aX=>dE z z (fc call142 z<|f_B (B:=B) bA kM a2 a3 a4 kR kR kR kR a5<|ic (QAO hko)<|tl_ Y) iB ?_;rintro _ _ ⟨_,rfl,bB⟩;obtain ⟨rv,bC,bD,bE,aY⟩:=N_ aX;refine dE z z (fc call92 z<|a1.run (B:=B) bE kM kR bB kR h5) iB ?_;rintro _ _ ⟨_,au,av,aw,bF,ax,ay,az,bG,rfl,bH,_,_,bI,bJ,bK,bM⟩;obtain ⟨aK,aL,_,_,_⟩:=a_5 bK bM;refine dM z z z ?_;iterate 3 refine dR z z (ext_ z z) ?_
   exact dS [vI rv.number,sl au av aw,sl ax ay az] z i_ z z kB z sQ λcl bN _=>dQ z z z<|dQ z z z<|pD (λ_ q=>⟨rv.number,rv.bytes,rv.items,bC,bD,som aY,au,av,aw,bF,ax,ay,az,bG,b6.z,q.k<|sc z<|sc z<|sc z<|sc z<|sc z<|sc z<|sc z<|sc z<|sc z<|sc z<|sc z sn,kW,bH,kO,aK,sQ,kO,aL,sQ,sQ,bI,bJ,bN,sQ,sQ,sQ⟩)
  rintro bO bP ⟨V,xq,xr,xg,xs,rfl,ah,ni,cj,W,ak,nl,cm,Sa,gc,_,_,bR,_,bS,_,_,bT,_,_,aA,bU,bV,_,_,_⟩;have a9:=un5S aU;revert bO;refine Wo<|Wq<|Wm z<|R z (nq z z)<|Wx z (λhcz=>?_) (λhcz=>?_)
  .exact Ws<|R z (bQ [] [vI 0,sN,sN] a_4 z z)<|RM z z<|E0q [vI 0,sN,sN] i_ z z kB z λcn bW _=>Ra z<|Rw z<|Wr<|rtO<|qL (som<|ifT a9 hcz).symm<|d_A hr (m_ x_ i_ z bW z) z z ⟨kW,none,0,0,[],none,0,0,[],z,ii z,onL,onL,aA,bU,nd0,sQ⟩
  refine Wk<|Ws<|Rf z a_O z<|R z (l0 a_S z kBa)<|R z (lN (vs:=[vI V,sl ah ni cj,sl ak nl cm]) x_ i_ z z fid<|bV.row 0 3 z)<|EvA z (fS [(.tmp 45)] m_M z z z (a_i z) (lb z)<|lb z) λbX aB=>have:=aB.below;have aM:Blk bX bP.z [vI V,sl ah ni cj,sl ak nl cm]:=aB.blk;bdB (ifF a9 hcz) λbY bZ aZ=>E z (a_W (α:=Val) m_M bZ z z kO hf aM (p_t (x:=(⟨V,xq,xr⟩:Val)) (S1:=W) (S2:=Sa) bR kO kO) sQ<|na_ bS bT sQ) ?_;rintro _ _ ⟨c0,aC,aD,aE,rfl,_,_,c1,_⟩;exact Rf z a_O z<|E0q [vI 0,sN,sl aC aD aE] z_84 z z kB z λco c3 _=>Wn<|Wg<|Rm z<|Rw z<|Wg<|Rm z<|R z (inc_ hko (tl_ Y) z z)<|Ra z<|Wl (λ_ q=>⟨(xg,bY),(som aZ).symm,⟨aC,aD,aE,c0,kaA q,kW,aA,kO,c1,sQ,c3⟩⟩)
 .rintro ⟨L,O⟩ _ _ ⟨G,H,I,S3,b0,_,h5,hx,hf,hy,hp⟩;refine Wu ?_ b0;refine Wq<|Wm z<|Rm z<|Rl z z z<|Wx z (λhc=>(j_6 hc).elim) (λ_=>?_);exact We<|λ_ q=>⟨rfl,⟨G,H,I,S3,kaA q,kW,h5,hx,hf,hy,hp⟩⟩
 .rintro ⟨L,O⟩ c4 _ rfl ⟨G,H,I,S3,_,_,h5,hx,hf,hy,hp⟩;have b1:=elL a6;revert c4;refine Wo<|Ws<|R z (lC [vI 0,sN,sl G H I] x_ i_ z)<|Rm z<|E0q [vI 0,sN,sl G H I] i_ z z kB z λcp c5 _=>?_;exact Ra z<|Rw z<|Wr<|rS3 (a_0 b1) hr (m_ x_ i_ z c5 z) z z ⟨kW,none,0,0,[],G,H,I,S3,z,ii z,onL,kO (l:=O),h5,ii z,na_ E_ hf an_,sQ⟩
 exact lqA a6 λ_ _ h=>h.2
theorem T_w1i (ih:i_X n):o_X (j_Y n<|a_w n):=by
 obtain ⟨_,aa,_,_,_⟩:=ih;constructor;intro A0 A4 A5 A3 A6 A7 N0 C0 N4 C4 N5 C5 N3 C3 N6 C6 N7 C7 B x1 x2 x3 x4 res w0 hm aC aw a1 a2 a4 ax ay az aA aB Y;unfold j_Y at hm;refine goG func152 z z z λfn hr=>Ws<|EvX [sl A0 N0 C0] z z z λwe _ _=>EvX (vR x2 A4 N4 C4 A5 N5 C5 A3 N3 C3 A6 N6 C6) z z z λw9 _ _=>EvZ [vI 0,sN,sN] z a_h z λwp _ _=>Ra z<|Rw z<|Wq (Wd (X:=noX) 0 (pl_ 15 [7]) mo (by kernel_rfl) λaD aE _=>dR z z (lC [sl A0 N0 C0] s_ n_ z)<|dR z z (fd Q_ z)<|dR z z (l0 A_ z kBa) ?_);refine bdB hm λ_ eq hmr=>dxA (α:=Int) z z v_ z_3 z z z kR eq λ_ _ _ ht hu _=>?_;obtain ⟨rfl,hv⟩:=a_z hu;refine dR z z (l0 g_3 z<|ht.at0 z)<|dM z z z<|dM z z z ?_;obtain ⟨ri,_,_,es,hmj⟩:=N_ hmr;refine dE z z (fc call141 z<|l_7 (B:=B) es kM kR hv kR Y) iB ?_;rintro _ _ ⟨_,rfl,ha,hw⟩;refine dM z z z ?_;iterate 3 refine dR z z (ext_ z z) ?_
 iterate 3 refine dQ z z z ?_
 refine pD<|Wo<|Wq<|Wm z<|R z (not_ z)<|Wx z (λhcb=>?_) (λhcb=>?_)
 .exact Ws<|R z (bQ [] [vI 0,sN,sN] a_4 z z)<|Rm z<|E0q [vI 0,sN,sN] i_ z z kB z λaF hx _=>Ra z<|Rw z<|Wr<|rS3 (ifT hmj hcb) hr (m_ x_ i_ z hx z) z z ⟨kW,none,0,0,[],none,0,0,[],z,ii z,onL,onL,Y,ii z,nd0,sQ⟩
 refine Wk<|Wq<|Ws<|R z (lN (vs:=vR x2 A4 N4 C4 A5 N5 C5 A3 N3 C3 A6 N6 C6) G_ l_ z z fid<|kBr 0 8)<|Rm z<|bdB (ifF hmj hcb) λ_ ez hmk=>E z (fc call142 z<|f_B (B:=B) ez kM a1 a2 a4 kR kR kR kR ha<|ii z) ?_;rintro _ _ ⟨_,rfl,_⟩;refine Rl z z z<|Wx z (λhcc=>?_) (λhcc=>?_)
 .exact Ws<|R z (bQ [] [vI 0,sN,sN] a_4 z z)<|Rm z<|E0q [vI 0,sN,sN] i_ z z kB z λaG ab _=>Ra z<|Rw z<|Wr<|rS3 (ifT hmk hcc) hr (m_ x_ i_ z ab z) z z ⟨kW,none,0,0,[],none,0,0,[],z,ii z,onL,onL,Y,ii z,nd0,sQ⟩
 refine Wk<|Ws<|R z (lC [sl A0 N0 C0] s_ n_ z)<|R z (lN (vs:=vR x2 A4 N4 C4 A5 N5 C5 A3 N3 C3 A6 N6 C6) G_ l_ z z fid<|kBr 0 8)<|RM z z<|Rm z ?_;obtain ⟨V,ad,ae,af,a8⟩:=N_<|ifF hmk hcc;refine E z (fc call151 z<|aa.run (B:=B) af kM kR a1 a2 a4 kR kR kR kR ha (ii z) kR hw) ?_;rintro _ W ⟨_,G,H,I,ah,J,L,O,ai,rfl,aj,_,_,ak,al,am,an⟩;obtain ⟨a5,a6,_,_,_⟩:=a_5 am an;refine Rm z ?_;iterate 3 refine Re z z z ?_
 refine EvZ [vI 0,sN,sN] z a_h z λaH _ a7=>E0q [vI V.number,sl G H I,sl J L O] i_ z z a7 z λwm hn _=>Ra z<|Rw z<|Wq<|Wm z<|Rq z z z<|Wn<|bdB a8 λap huo a9=>Wt (λa w=>∃x6,x6=ap/\Sat 56 [(8,pt w9.z),(14,pt W.z),(15,vI ad),(16,vI ae)] a/\Cg [W.z] wm w/\inI x6/\Blk w W.z [vI x6,sl G H I,sl J L O]) ?_ ?_
 .refine Wc z (λhcd=>?_)<|λhcd=>?_
  .exact Wg<|Rm z<|Rf z c_0 z<|E0q [vI ri,sl G H I,sl J L O] z_3 z z hn z λaI aq _=>Wl<|λ_ q=>⟨ri,som<|ifT huo hcd,kaA q,kW,ha,aq⟩
  exact Z_<|λ_ q=>⟨V.number,som<|ifF huo hcd,kaA q,cr [W.z] wm,aj,hn⟩
 rintro ar _ ⟨x6,rfl,_,_,au,_⟩;revert ar;exact Wo<|Ws<|R z (lC [vI x6,sl G H I,sl J L O] x_ i_ z)<|RM z z<|E0q [vI x6,sl G H I,sl J L O] i_ z z kB z λaJ av _=>Ra z<|Rw z<|Wr<|rS3 a9 hr (m_ x_ i_ z av z) z z ⟨kW,G,H,I,ah,J,L,O,ai,z,au,kO (l:=V.bytes),kO (l:=V.items),ak,al,na_ a5 a6 sQ,sQ⟩
theorem T_w1j (ih:i_X n):o_Y (j_Z n<|a_w n):=by
 obtain ⟨_,a2,_,_,_⟩:=ih;constructor;intro A0 A4 A5 A3 A6 A7 N0 C0 N4 C4 N5 C5 N3 C3 N6 C6 N7 C7 B x1 x2 x3 x4 res w0 hm ad a5 Y a0 a1 a6 a7 a8 aa ab I;unfold j_Z at hm;refine goG func153 z z z λfn hr=>Ws<|EvX [sl A0 N0 C0] z z z λw3 _ _=>EvX (vR x2 A4 N4 C4 A5 N5 C5 A3 N3 C3 A6 N6 C6) z z z λw5 _ _=>EvZ [vI 0,sN,sN] z a_h z λwf _ J=>Ra z<|Rw z<|Wq<|Wb<|Wm z<|Rm z<|R z (lnR h_ z kR)<|R z (b_u z z)<|Rw z<|Wc z (λG=>?_) (λG=>?_)
 .exact Ws<|R z (bQ [] [vI 0,sN,sN] a_4 z z)<|Rm z<|E0q [vI 0,sN,sN] i_ z z J z λae hg _=>Ra z<|Rw z<|Wr<|rtO<|rS3 (ifT hm G) hr (m_ x_ i_ z hg z) z z ⟨kW,none,0,0,[],none,0,0,[],z,ii z,onL,onL,I,ii z,nd0,sQ⟩
 refine Wm z<|Rm z<|bdB (ifF hm G) λ_ ei L=>xA (α:=UInt8) z h_ z_5 z z z kR ei λ_ _ _ hj hk _=>?_;obtain rfl:=u8 hk;refine R z (l0 g_5 z<|hj.at0 z)<|R z (T_ z z)<|Rw z<|Wc z (λH=>?_) (λH=>?_)
 .exact Ws<|R z (bQ [] [vI 0,sN,sN] a_4 z z)<|Rm z<|E0q [vI 0,sN,sN] i_ z z J z λaf hl _=>Ra z<|Rw z<|Wr<|rtO<|rS3 (ifT L H) hr (m_ x_ i_ z hl z) z z ⟨kW,none,0,0,[],none,0,0,[],z,ii z,onL,onL,I,ii z,nd0,sQ⟩
 refine Wk<|Wq (Wd (X:=noX) 16384 (pl_ 17 [10,14]) mo (by kernel_rfl) λah ai _=>dR z z (lC [sl A0 N0 C0] s_ n_ z)<|dR z z (lN (vs:=vR x2 A4 N4 C4 A5 N5 C5 A3 N3 C3 A6 N6 C6) G_ l_ z z fid<|kBr 0 8)<|dM z z z<|dM z z z ?_);refine bdB (ifF L H) λ_ en hmo=>dxA (α:=UInt8) z z h_ z_5 z z z kR en λ_ _ _ hp hq _=>?_;obtain rfl:=u8 hq;refine dR z z (l0 g_5 z<|hp.at0 z)<|dR z z (b_n d_5 d_3 z)<|dM z z z<|dM z z z<|dR z z (add_ z z) ?_;obtain ⟨r2,_,_,er,hms⟩:=N_ hmo;refine dE z z (fc call151 z<|a2.run (B:=B) er kM kR Y a0 a1 kR kR kR kR (ii z) (d_z _) kR<|iA _ _) iB ?_;rintro _ _ ⟨_,O,na,cb,St,ac,nd,ce,Su,rfl,hv,_,_,hw,hx,hy,hz⟩;obtain ⟨V,W,_,_,_⟩:=a_5 hy hz;iterate 3 refine dR z z (ext_ z z) ?_
 refine dE0 z (fs0 (cur':=[vI r2.number,sl O na cb,sl ac nd ce]) i_ z z kB z z z z) (.inl z) ?_;rintro _ _ ⟨a3,a4⟩;have:=a4.one;exact dQ z z z<|dQ z z z<|pD<|Wo<|Wr<|rS3 hms hr (m_ x_ i_ z a3 z) z z ⟨kW,O,na,cb,St,ac,nd,ce,Su,z,hv,kO (l:=r2.bytes),kO (l:=r2.items),hw,hx,na_ V W sQ,sQ⟩
theorem T_w1k (ih:i_X n):o_Z (k_0 n<|a_w n):=by
 obtain ⟨_,ab,_,_,_⟩:=ih;constructor;intro A0 A4 A5 A3 A6 A7 N0 C0 N4 C4 N5 C5 N3 C3 N6 C6 N7 C7 B x1 x2 x3 x4 res w0 hm av am a3 a5 a6 an ap aq ar au a7;unfold k_0 at hm;refine goG func154 z z z λfn hr=>Ws<|EvX [sl A0 N0 C0] z z z λwb _ _=>EvX (vR x2 A4 N4 C4 A5 N5 C5 A3 N3 C3 A6 N6 C6) z z z λwd _ _=>EvZ [vI 0,sN,sN] z a_h z λwn _ _=>Ra z<|Rw z<|Ws<|R z (lC [sl A0 N0 C0] s_ n_ z)<|R z (lN (vs:=vR x2 A4 N4 C4 A5 N5 C5 A3 N3 C3 A6 N6 C6) G_ l_ z z fid<|kBr 0 8)<|RM z z ?_;obtain ⟨G,_,_,eo,hmg⟩:=N_ hm;refine E z (fc call151 z<|ab.run (B:=B) eo kM kR a3 a5 a6 kR kR kR kR (ii z) (ii z) kR a7) ?_;rintro _ _ ⟨_,H,I,J,Sh,L,O,V,Si,rfl,hj,_,_,h7,hq,ht,hu⟩;obtain ⟨a0,a2,_,_,_⟩:=a_5 ht hu;refine Rm z ?_;iterate 3 refine Re z z z ?_
 refine EvZ [vI 0,sN,sN] z a_h z λwr _ a8=>E0q [vI G.number,sl H I J,sl L O V] i_ z z a8 z λaw hv _=>Ra z<|Rw z<|Wq<|Wb<|Wm z<|R z (nq z z)<|Rw z<|Wc z (λW=>?_) (λW=>?_)
 .exact Ws<|R z (lC [vI G.number,sl H I J,sl L O V] x_ i_ z)<|RM z z<|E0q [vI G.number,sl H I J,sl L O V] i_ z z kB z λax hw _=>Ra z<|Rw z<|Wr<|rtO<|rS3 (ifT hmg W) hr (m_ x_ i_ z hw z) z z ⟨kW,H,I,J,Sh,L,O,V,Si,z,hj,kO (l:=G.bytes),kO (l:=G.items),h7,hq,na_ a0 a2 sQ,sQ⟩
 have hml:=ifF hmg W;refine Wm z<|Rm z<|R z (lnR h_ z kR)<|R z (b_u z z)<|Rw z<|Wc z (λY=>?_) (λY=>?_)
 .exact Ws<|R z (bQ [] [vI 0,sN,sN] a_4 z z)<|Rm z<|E0q [vI 0,sN,sN] i_ z z kB z λay hy _=>Ra z<|Rw z<|Wr<|rtO<|rS3 (ifT hml Y) hr (m_ x_ i_ z hy z) z z ⟨kW,none,0,0,[],none,0,0,[],z,ii z,onL,onL,h7,ii z,nd0,sQ⟩
 refine Wq (Wd (X:=noX) 0 (pl_ 12 [9]) mo (by kernel_rfl) λaz aA _=>dM z z z<|dM z z z ?_);refine bdB (ifF hml Y) λ_ ad a9=>dxA (α:=UInt8) z z h_ z_5 z z z kR ad λ_ _ _ ae af _=>?_;obtain rfl:=u8 af;refine dR z z (l0 g_5 z<|ae.at0 z)<|dR z z (b_n d_5 d_3 z) ?_;iterate 3 refine dM z z z ?_
 refine bdB a9 λ_ ah aa=>dRX z z (rX h_ z_5 z z kR z z ah) ?_;rintro _ ⟨_,_,_,rfl,ai⟩;refine bdB aa λ_ aj hmm=>dE z z (fc call139 z<|W_w1c (B:=B) aj kM ai) iB ?_;rintro _ _ ⟨_,rfl,_⟩;refine dR z z (nq z z)<|dQ z z z<|pD<|Wo<|Wc z (λhca=>?_) (λhca=>?_)
 .exact Ws<|R z (bQ [] [vI 0,sN,sN] a_4 z z)<|Rm z<|E0q [vI 0,sN,sN] i_ z z kB z λaB ak _=>Ra z<|Rw z<|Wr<|rtO<|rS3 (ifT hmm hca) hr (m_ x_ i_ z ak z) z z ⟨kW,none,0,0,[],none,0,0,[],z,ii z,onL,onL,h7,ii z,nd0,sQ⟩
 exact Wk<|Ws<|R z (lC [vI G.number,sl H I J,sl L O V] x_ i_ z)<|Rm z<|R z (add_ z z)<|E0q [vI G.number,sl H I J,sl L O V] i_ z z kB z λaC al _=>Ra z<|Rw z<|Wr<|rS3 (ifF hmm hca) hr (m_ x_ i_ z al z) z z ⟨kW,H,I,J,Sh,L,O,V,Si,z,hj,kO (l:=G.bytes),kO (l:=G.items),iA _ _,ii z,na_ a0 a2 sQ,sQ⟩
theorem e_U:∀n,i_X n
  | 0=>⟨⟨λhm=>by intros;exact nomatch (show none=some _ from hm)⟩,⟨λhm=>by intros;exact nomatch (show none=some _ from hm)⟩,⟨λhm=>by intros;exact nomatch (show none=some _ from hm)⟩,⟨λhm=>by intros;exact nomatch (show none=some _ from hm)⟩,⟨λhm=>by intros;exact nomatch (show none=some _ from hm)⟩⟩
  | n+1=>⟨T_w01<|e_U n,T_w1h<|e_U n,T_w1i<|e_U n,T_w1j<|e_U n,T_w1k<|e_U n⟩
theorem l_8:o_V (a_w n).spec_l11Read:=(e_U n).1
theorem W_w1h:o_W (a_w n).spec_l11Items:=(e_U n).2.1
theorem W_w1i:o_X (a_w n).spec_l11Choice:=(e_U n).2.2.1
theorem W_w1j:o_Y (a_w n).spec_l11Option:=(e_U n).2.2.2.1
theorem W_w1k:o_Z (a_w n).spec_l11Checked:=(e_U n).2.2.2.2
theorem p_0 {x1:d_}{x2:Int}{x3:Bt}{x4:Int}{res:Val×Int×Int}(hm:k_1 n x1 x2 x3 x4=some res)(a5:B<=w0.z)(a3:rp w0 B A0 N0 C0 x1.rules)(L:inI x2)(a4:rp w0 B A7 N7 C7 x3)(O:inI x4):g_ prog 85 [(.agg #[sl A0 N0 C0]),vI x2,sl A7 N7 C7,vI x4] w0 (Q17 w0 B res):=by
 unfold k_1 at hm;refine goG func85 z z z λfn hr=>Ws<|EvX [sl A0 N0 C0] z z z λw2 _ _=>EvZ [vI 0,sN,sN] z a_h z λW _ _=>Ra z<|Rw z<|Wq<|Wq<|bdB hm λui huj V=>Wt (λa w=>∃x5,x5=ui/\Sat 36 [(1,vI x2),(2,sl A7 N7 C7),(3,vI x4),(4,pt w0.z),(8,pt w2.z),(26,vB x5)] a/\Below W.z W w) ?_ ?_
 .refine Wg<|R z (lC [sl A0 N0 C0] s_ n_ z)<|Rm z<|bdB huj λrk el hma=>EcA z (fc call140 z<|W_w1f (B:=B) el kM kR L) λ_ sm=>R z (not_ z)<|Rm z ?_;rcases bs (!rk) with G | G
  .iterate 5 refine Nh z G ?_
   exact R z (pT z G z)<|Rm z<|Nh z z<|Nh z z<|Nh z z<|R z (pT z z z)<|Wl (λ_ q=>⟨true,som<|ifT hma G,kaA q,sm⟩)
  refine Rh z G (mv z)<|Rh z G (mv z)<|Rh z G (lnR h_ z kR)<|bdB (ifF hma G) λrn eo hmb=>Eg z z G z (fc call51 z<|b_k (B:=B) eo kM O (ii z)<|c_3<|repS.len kR) ?_;rintro _ _ ⟨_,rfl⟩;refine Rh z G (not_ z)<|R z (pF z G z)<|Rm z ?_;rcases bs (!rn) with H | H
  .iterate 3 refine Nh z H ?_
   exact R z (pT z H z)<|Wl (λ_ q=>⟨true,som<|ifT hmb H,kaA q,kW⟩)
  exact Rh z H (mv z)<|Rh z H (lnR h_ z kR)<|Rh z H (T_ z z)<|R z (pF z H z)<|Wl (λ_ q=>⟨decide<|400<(x3.length:Int),som<|ifF hmb H,kaA q,kW⟩)
 rintro ap _ ⟨x5,rfl,_,_⟩;revert ap;refine Wo<|Wc z (λI=>?_) (λI=>?_)
 .exact Ws<|R z (bQ [] [vI 0,sN,sN] a_4 z z)<|E0q [vI 0,sN,sN] i_ z z kB z λa6 hq _=>Ra z<|Rw z<|Wr<|rS3 (ifT V I) hr (m_ x_ i_ z hq z) z z ⟨kW,none,0,0,[],none,0,0,[],z,ii z,onL,onL,ii z,ii z,nd0,sQ⟩
 refine Wk<|Ws<|R z (lC [sl A0 N0 C0] s_ n_ z)<|RM z z<|Rm z ?_;obtain ⟨J,_,_,es,hmt⟩:=N_<|ifF V I;refine E z (fc call92 z<|l_8.run (B:=B) es kM kR L kR O) ?_;rintro _ _ ⟨_,ac,nd,ce,Su,af,ng,ch,Sv,rfl,hw,_,_,hx,hy,hz,a1⟩;obtain ⟨Y,a0,_,_,_⟩:=a_5 hz a1;iterate 3 refine Re z z z ?_
 exact E0q [vI J.number,sl ac nd ce,sl af ng ch] i_ z z kB z λa7 a2 _=>Ra z<|Rw z<|Wr<|rS3 hmt hr (m_ x_ i_ z a2 z) z z ⟨kW,ac,nd,ce,Su,af,ng,ch,Sv,z,hw,kO (l:=J.bytes),kO (l:=J.items),hx,hy,na_ Y a0 sQ,sQ⟩
theorem W_w3l {x1:d_}{x2:Bt}{res:Val×Int×Int}(hm:k_2 n x1 x2=some res)(bn:B<=w0.z)(bk:rp w0 B A0 N0 C0 x1.rules)(bm:rp w0 B A2 N2 C2 x2):g_ prog 55 [(.agg #[sl A0 N0 C0]),sl A2 N2 C2] w0 (Q17 w0 B res):=by
 unfold k_2 at hm;refine goG func55 z z z λfn hr=>Ws<|EvX [sl A0 N0 C0] z z z λwe _ V=>EvZ [vI 0,sN,sN] z a_h z λI _ _=>Ra z<|Rw z<|Wq<|bdB hm λaz hup aq=>Wt (λa w=>∃x5 xf xg x6 J,(x5,xf,xg,x6,J)=az/\∃L O ca S2 ab nc cd S3 H,Sat 32 [(1,sl A2 N2 C2),(4,pt we.z),(7,pt H),(8,vI x6),(9,vI J)] a/\Below I.z I w/\inI x5/\c_ w S2 (sl L O ca) xf/\S2.Nodup/\(∀k∈S2,I.z<=k)/\c_ w S3 (sl ab nc cd) xg/\S3.Nodup/\(∀k∈S3,I.z<=k)/\(∀k∈S3,k∉S2)/\inI x6/\inI J/\Blk w H [vI x5,sl L O ca,sl ab nc cd]/\I.z<=H/\(∀k∈S2,k∉[H])/\(∀k∈S3,k∉[H])) ?_ ?_
 .refine Wd (X:=λk=>k∈([]:List Nat)∨I.z<=k) 0 (.rd 0<|.rd 1<|.rd 3<|.br 2 (.br 4 (.rd 5<|.rd 6<|.rd 7<|.rd 8<|.ef 9<|.ef 10<|.rd 11<|.rd 12 .done) 9<|.ef 4<|.rd 5<|.rd 6<|.rd 7<|.rd 8<|.ef 10<|.rd 11<|.rd 12 .done) 9<|.ef 2<|.ef 4<|.rd 5<|.rd 6<|.rd 7<|.rd 8<|.ef 10<|.rd 11<|.rd 12 .done) mo (by kernel_rfl) λwq bo _=>dR z z (lN (vs:=[sl A0 N0 C0]) s_ n_ z z (f_6 nm0<|QAC V.lt kM)<|kBr 0 1)<|dR z z (lN (vs:=[sl A0 N0 C0]) s_ n_ z z (f_6 nm0<|QAC V.lt kM)<|kBr 0 1)<|dM z z z<|f_F ?_ ?_
  .refine bdB hup λ_ aA hmr=>dE z z (fc call86 z<|m_Y (B:=B) aA kM kR) iB ?_;rintro _ ws ⟨_,rfl,ht⟩;refine f_F ?_ ?_
   .obtain ⟨rh,aB,aC,aD,ar⟩:=N_ hmr;refine dE z z (fc call85 z<|p_0 (B:=B) aD kM kR ht kR<|ii z) iB ?_;rintro _ wu ⟨_,av,nw,cx,aE,ay,nz,a0,aF,rfl,aG,_,_,aH,aI,aJ,aK⟩;obtain ⟨ai,aj,_,_,_⟩:=a_5 aJ aK;refine dM z z z ?_;iterate 3 refine dR z z (ext_ z z) ?_
    exact dNb [vI 0,sN,sN] z z a_h z λbp _ ak=>dS [vI rh.number,sl av nw cx,sl ay nz a0] z i_ z z ak z sQ λbq aL _=>dQ z z z<|dQ z z z<|pD (λ_ q=>⟨rh.number,rh.bytes,rh.items,aB,aC,som ar,av,nw,cx,aE,ay,nz,a0,aF,wu.z,kaA q,kW,aG,kO,ai,sQ,kO,aj,sQ,sQ,aH,aI,aL,sQ,sQ,sQ⟩)
   refine dNb [vI 0,sN,sN] z z a_h z λbt _ _=>?_;obtain ⟨ri,aM,aN,aO,au⟩:=N_ hmr;refine dE z z (fc call85 z<|p_0 (B:=B) aO kM kR ht kR<|ii z) iB ?_;rintro _ _ ⟨_,a1,a2,a3,aP,a4,a5,a6,aQ,rfl,aR,_,_,aS,aT,aU,aV⟩;obtain ⟨al,am,_,_,_⟩:=a_5 aU aV;refine dM z z z ?_;iterate 3 refine dR z z (ext_ z z) ?_
   exact dS [vI ri.number,sl a1 a2 a3,sl a4 a5 a6] z i_ z z kB z sQ λbu aW _=>dQ z z z<|dQ z z z<|pD (λ_ q=>⟨ri.number,ri.bytes,ri.items,aM,aN,som au,a1,a2,a3,aP,a4,a5,a6,aQ,ws.z,kaA q,kW,aR,kO,al,sQ,kO,am,sQ,sQ,aS,aT,aW,sQ,sQ,sQ⟩)
  refine dNb [vI 0,sN,sN] z z a_h z λbv _ _=>bdB hup λ_ aX aw=>dE z z (fc call86 z<|m_Y (B:=B) aX kM kR) iB ?_;rintro _ _ ⟨_,rfl,aY⟩;obtain ⟨rj,aZ,b0,b1,ax⟩:=N_ aw;refine dE z z (fc call85 z<|p_0 (B:=B) b1 kM kR aY kR<|ii z) iB ?_;rintro _ _ ⟨_,a7,a9,aa,b2,ad,ae,af,b3,rfl,b4,_,_,b5,b6,b7,b8⟩;obtain ⟨an,ap,_,_,_⟩:=a_5 b7 b8;refine dM z z z ?_;iterate 3 refine dR z z (ext_ z z) ?_
  exact dS [vI rj.number,sl a7 a9 aa,sl ad ae af] z i_ z z kB z sQ λbw b9 _=>dQ z z z<|dQ z z z<|pD (λ_ q=>⟨rj.number,rj.bytes,rj.items,aZ,b0,som ax,a7,a9,aa,b2,ad,ae,af,b3,wq.z,kaA q,kW,b4,kO,an,sQ,kO,ap,sQ,sQ,b5,b6,b9,sQ,sQ,sQ⟩)
 rintro ba wk ⟨x5,xf,xg,x6,J,rfl,L,O,ca,S2,ab,nc,cd,S3,H,_,_,bb,_,bc,_,_,be,_,_,ah,bf,_,_,_,_⟩;revert ba;refine Wo<|Wq<|Wq<|bdB (un5S aq) λbg W Y=>Wt (λa w=>∃xl,xl=bg/\Sat 32 [(4,pt we.z),(7,pt H),(8,vI x6),(9,vI J),(26,vB xl)] a/\Below wk.z wk w) ?_ ?_
 .refine Wg<|Rm z<|Rq z z z<|Rm z ?_;rcases bs (J==0) with G | G
  .exact Rh z G (mv z)<|Rh z G (mv z)<|Rh z G (lnR h_ z kR)<|Rh z G (lss z z)<|R z (pT z G z)<|Wl (λ_ q=>⟨decide<|x6<(x2.length:Int),som<|ifT W G,kaA q,br wk⟩)
  iterate 4 refine Nh z G ?_
  exact R z (pF z G z)<|Wl (λ_ q=>⟨false,som<|ifF W G,kaA q,br wk⟩)
 rintro bh _ ⟨xl,rfl,_,_⟩;revert bh;refine Wo<|Wc z (λhcm=>?_) (λhcm=>?_)
 .exact Ws<|R z (bQ [] [vI 0,sN,sN] a_4 z z)<|Rm z<|E0q [vI 0,sN,sN] i_ z z kB z λbx bi _=>Ra z<|Rw z<|Wr<|rS3 (ifT Y hcm) hr (m_ x_ i_ z bi z) z z ⟨kW,none,0,0,[],none,0,0,[],z,ii z,onL,onL,ah,ii z,nd0,sQ⟩
 exact Wk<|Ws<|R z (lC [vI x5,sl L O ca,sl ab nc cd] x_ i_ z)<|RM z z<|E0q [vI x5,sl L O ca,sl ab nc cd] i_ z z kB z λbz bj _=>Ra z<|Rw z<|Wr<|rS3 (ifF Y hcm) hr (m_ x_ i_ z bj z) z z ⟨kW,L,O,ca,S2,ab,nc,cd,S3,z,bb,kO (l:=xf),kO (l:=xg),ah,bf,na_ bc be sQ,sQ⟩
theorem W_w1l {x1:d_}{x2:Bt}{res:Bool}(hm:i_z n x1 x2=some res)(a0:B<=w0.z)(V:rp w0 B A0 N0 C0 x1.rules)(W:rp w0 B A2 N2 C2 x2):g_ prog 36 [(.agg #[sl A0 N0 C0]),sl A2 N2 C2] w0 (Q11 w0 B res):=by
 unfold i_z at hm;refine goG func36 z z z λfn hr=>Ws<|EvX [sl A0 N0 C0] z z z λw2 _ Y=>Rw z<|Ws<|R z (lC [sl A0 N0 C0] s_ n_ z)<|Rm z ?_;obtain ⟨r3,_,_,I,H⟩:=N_ hm;refine E z (fc call55 z<|W_w3l (B:=B) I kM kR kR) ?_;rintro _ _ ⟨_,J,L,O,_,aa,nb,cc,_,rfl,_,_,_,_,_,hd,he⟩;obtain ⟨_,_,_,_,_⟩:=a_5 hd he;refine Rm z ?_;iterate 3 refine Re z z z ?_
 exact EvZ [vI 0,sN,sN] z a_h z λwf _ G=>E0q [vI r3.number,sl J L O,sl aa nb cc] i_ z z G z λwm _ _=>Ra z<|Rw z<|Wm z<|Rq z z z<|Rw z<|Wr<|rS1 H hr z ⟨kW,z⟩
theorem W_w3m {x1:H_}{res:Bool}(hm:k_N n x1=some res)(aQ:B<=w0.z)(aO:rp w0 B A0 N0 C0 x1.registry.versions)(aP:rp w0 B A1 N1 C1 x1.log.bytes)(Y:inI x1.log.stored):g_ prog 16 [(.agg #[sl A0 N0 C0,sl A1 N1 C1,vI x1.log.stored])] w0 (Q11 w0 B res):=by
 unfold k_N at hm;refine goG func16 z z z λfn hr=>Ws<|EvX [sl A0 N0 C0,sl A1 N1 C1,vI x1.log.stored] z z z λW _ a0=>Rw z<|Wq<|Wq<|bdB hm λuq hur hmc=>Wt (λa w=>∃V,V=uq/\Sat 74 [(1,pt w0.z),(23,vB V)] a/\Below W.z W w) ?_ ?_
 .refine Wg<|Rf z d_R z<|R z (lN (vs:=[sl A0 N0 C0]) g_F e_T z z fid<|a0.row 0 1 z)<|bdB hur λrs et hme=>EcA z (fc call34 z<|W_w3i (B:=B) (x1:=(⟨x1.registry.versions⟩:a_9)) et kM kR) λ_ su=>R z (not_ z)<|Rm z ?_;rcases bs (!rs) with J | J
  .iterate 4 refine Nh z J ?_
   exact R z (pT z J z)<|Rm z<|Nh z z<|Nh z z<|Nh z z<|Nh z z<|Nh z z<|Nh z z<|R z (pT z z z)<|Wl (λ_ q=>⟨true,som<|ifT hme J,kaA q,su⟩)
  refine Rh z J (fd d_u z)<|Rh z J (lN (vs:=[sl A1 N1 C1,vI x1.log.stored]) f_u e_m z z fid<|kBr 1 2)<|bdB (ifF hme J) λrv ew hmf=>Eg z z J z (fc call32 z<|W_w1d (B:=B) (x1:=(⟨x1.log.bytes,x1.log.stored⟩:Log)) ew kM kR Y) ?_;rintro _ _ ⟨_,rfl⟩;refine Rh z J (not_ z)<|R z (pF z J z)<|Rm z ?_;rcases bs (!rv) with I | I
  .iterate 6 refine Nh z I ?_
   exact R z (pT z I z)<|Wl (λ_ q=>⟨true,som<|ifT hmf I,kaA q,kW⟩)
  refine Rh z I (fd d_u z)<|Rh z I (fd c_E z)<|Rh z I (l0 B_ z kBa)<|bdB (ifF hmf I) λrx ey hmz=>Eg z z I z (fc call33 z<|W_w1e (B:=B) ey kM kR) ?_;rintro _ _ ⟨_,_,_,_,rfl,af⟩;exact Rh z I (lnR c_s z af)<|Rh z I (T_ z z)<|R z (pF z I z)<|Wl (λ_ q=>⟨decide<|20<(rx.length:Int),som hmz,kaA q,kW⟩)
 rintro ah _ ⟨V,rfl,_,_⟩;revert ah;refine Wo<|Wc z (λO=>?_) (λO=>?_)
 .exact Ws<|Rw z<|Wr<|rS1 (ifT hmc O) hr z ⟨kW,z⟩
 refine Wk<|Ws<|Rf z d_u z<|Rf z c_E z<|R z (l0 B_ z kBa) ?_;obtain ⟨_,_,ai,a1⟩:=V_<|ifF hmc O;refine E z (fc call35 z<|m_X (B:=B) ai kM kR) ?_;rintro _ L ⟨_,ag,nh,ci,_,rfl,h5,_,_,_⟩;refine Rm z<|Re z z z<|Re z z z<|Ra z<|Rw z<|Wq<|Ws<|Rw z<|bdB a1 λ_ a2 hmj=>Wf (σ:=Unit) (ρ:=Bool) (λ(k9:Nat)(_:Unit) a w=>Sat 74 [(1,pt w0.z),(3,sl ag nh ci),(5,vI ((k9:Nat):Int))] a/\Below L.z L w) (λ(_:Unit) a w=>Sat 74 [] a/\Below L.z L w) (rQ prog fn<|Q11 w0 B) a2 ?_ ?_ ?_ ?_ ?_
 .exact λ_ q=>⟨kaA q,br L⟩
 .rintro k9 _ _ wk _ hkl ⟨a3,_⟩ a4;refine Wu ?_ a3;refine Wq<|Wm z<|Rm z<|R z (lnR d_w z<|or_ kO<|c_.lt h5)<|Rl z z z<|Wx z (λ_=>?_) (λhc=>(J_ hkl hc).elim);refine Wk<|Wq<|Wb<|Wq<|bdB a4 λaj a5 hmm=>Wt (λa w=>∃xa,xa=aj/\Sat 74 [(1,pt w0.z),(3,sl ag nh ci),(5,vI ((k9:Nat):Int)),(73,vB xa)] a/\Below wk.z wk w) ?_ ?_
  .refine Wd (X:=noX) 0 (pl_ 37 [33]) mo (by kernel_rfl) λaR so _=>dM z z z<|dM z z z<|bdB a5 λak al hmn=>dxA (α:=q_) z z d_w a_8 z z z (or_ (B:=bl L.z) kO<|c_.lt h5) al λ_ _ _ am an _=>?_;obtain ⟨_,_,_,rfl,_,_,_,_⟩:=g_P an;refine dR z z (fd d_S z)<|dR z z (l0 g_3 z<|am.at (j:=0) z)<|dR z z (eql z z)<|dM z z z ?_;rcases bs (ak.kind==1) with H | H
   .refine dRg z z z H z (mv z)<|dRg z z z H z (mv z)<|bdB (ifT hmn H) λap aq hmp=>a_G z z z H z (at_ (α:=q_) d_w a_8 z z z (or_ (B:=bl L.z) kO<|c_.lt h5) aq) ?_;rintro _ ⟨_,_,_,rfl,ar,au,_⟩;obtain ⟨_,_,_,rfl,_,_,_,_⟩:=g_P au;refine dRg z z z H z (fd d_T z)<|dRg z z z H z (l0 g_3 z<|ar.at (j:=2) z)<|dRg z z z H z (fd d_R z)<|dRg z z z H z (fd c_D z)<|dRg z z z H z (l0 c_Q z kBa)<|dRg z z z H z (lnR b_M z kR)<|dRg z z z H z (b_u z z)<|dRg z z z H z (mv z) ?_;rcases bs (decide<|(x1.registry.versions.length:Int)<=ap.version) with G | G
    .iterate 15 refine dRn z z z G z ?_
     exact dEn z z z G z<|dRn z z z G z<|dRg z z z H z (pT z G z)<|dR z z (pT z H z)<|pD (λ_ q=>⟨true,som<|ifT hmp G,kaA q,so⟩)
    refine dRg z z z G z (fd d_R z)<|dRg z z z G z (fd c_D z)<|dRg z z z G z (l0 c_Q z kBa)<|dRg z z z G z (mv z)<|dRg z z z G z (mv z)<|bdB (ifF hmp G) λ_ av a6=>a_G z z z G z (at_ (α:=q_) d_w a_8 z z z (or_ (B:=bl L.z) kO<|c_.lt h5) av) ?_;rintro _ ⟨_,_,_,rfl,aw,ax,_⟩;obtain ⟨_,_,_,rfl,_,_,_,_⟩:=g_P ax;refine dRg z z z G z (fd d_T z)<|dRg z z z G z (l0 g_3 z<|aw.at (j:=2) z)<|bdB a6 λ_ ay a7=>a_G z z z G z (at_ (α:=d_) b_M n_ z z z kR ay) ?_;rintro _ ⟨_,_,_,rfl,az,aA,_⟩;obtain ⟨aB,aC,aD,rfl,aE⟩:=e_s aA;refine dRg z z z G z (lN (vs:=[sl aB aC aD]) s_ n_ z z fid az)<|dRg z z z G z (mv z)<|dRg z z z G z (mv z)<|bdB a7 λ_ aF a8=>a_G z z z G z (at_ (α:=q_) d_w a_8 z z z (or_ (B:=bl L.z) kO<|c_.lt h5) aF) ?_;rintro _ ⟨_,_,_,rfl,aG,aH,_⟩;obtain ⟨_,_,_,rfl,_,_,_,aI⟩:=g_P aH;refine dRg z z z G z (fd e_S z)<|dRg z z z G z (l0 B_ z<|aG.at (j:=3) z)<|bdB a8 λaJ aK a9=>dEg z z z G z (fc call36 z<|W_w1l (B:=L.z) aK (O_ kM) (repS.mono aE kM) aI) iB ?_;rintro _ _ ⟨_,rfl⟩;exact dRg z z z G z (not_ z)<|dRg z z z H z (pF z G z)<|dR z z (pT z H z)<|pD (λ_ q=>⟨!aJ,som a9,kaA q,kW⟩)
   iterate 11 refine dRn z z z H z ?_
   iterate 15 refine dRu z z z z ?_
   exact dEu z z z z<|dRu z z z z<|dRn z z z H z<|dR z z (pF z H z)<|pD (λ_ q=>⟨false,som<|ifF hmn H,kaA q,so⟩)
  rintro aL _ ⟨xa,rfl,_,_⟩;revert aL;refine Wo<|Wc z (λhcb=>?_) (λhcb=>?_)
  .exact Ws<|Rw z<|Wr<|rtO<|qL (som<|ifT hmm hcb).symm<|a_s hr z ⟨kW,z⟩
  exact Wk<|Wg<|Rm z<|R z (inc_ hkl (lt_ (c_.len h5) u_) z z)<|Ra z<|Wl (λ_ q=>⟨(),(som<|ifF hmm hcb).symm,⟨kaA q,kW⟩⟩)
 .rintro _ _ _ ⟨aa,aM⟩;refine Wu ?_ aa;refine Wq<|Wm z<|Rm z<|R z (lnR d_w z<|or_ kO<|c_.lt h5)<|Rl z z z<|Wx z (λhc=>(K_ hc).elim) (λ_=>?_);exact We<|λ_ q=>⟨rfl,⟨q.k sn,aM⟩⟩
 .rintro _ aN _ rfl ⟨_,_⟩;have ab:=elL hmj;revert aN;exact Wo<|Ws<|Rw z<|Wr<|rS1 ab hr z ⟨kW,z⟩
 exact lqA hmj λ_ _ h=>h.2
def Q19 (w0:World)(B:Zone)(r:Str)(v:Value)(w':World):Prop:=Bw w0 w'/\(λr1=>(Str.v r1)=v/\r1.b.length<=LEN) r
theorem l_9 {x1:Int}{res:Str}(hm:d_p n x1=some res)(W:B<=w0.z)(V:inI x1):g_ prog 157 [vI x1] w0 (Q19 w0 B res):=by
 unfold d_p at hm;refine goG func157 z z z λfn hr=>Ws<|Rw z<|Wq<|Wm z<|Rq z z z<|Wx z (λH=>?_) (λH=>?_)
 .exact Ws<|Rw z<|Wr<|rS1 (ifT hm H) hr z ⟨br w0,z,lb z⟩
 refine Wk<|Ws<|Rw z<|Wq<|Wm z<|Rw z ?_;obtain ⟨_,hui,hmb⟩:=bdS<|ifF hm H;refine b_6 (σ:=Str×Int) (ρ:=Str) (λs a w=>un2 (λx2 x0=>Sat 31 [(0,vI x1),(3,Str.v x2),(4,vI x0)] a/\Below w0.z w0 w/\x2.b.length<=LEN/\inI x0) s) (λs a w=>un2 (λx2 x0=>Sat 31 [(0,vI x1),(3,Str.v x2)] a/\Below w0.z w0 w/\x2.b.length<=LEN/\inI x0) s) (rQ prog fn<|Q19 w0 B) hui ?_ ?_ ?_ ?_
 .exact λ_ q=>⟨kaA q,br w0,lb z,V⟩
 .rintro ⟨x2,x0⟩ _ G _ ⟨hSj,sk,h5,h6⟩ hml;have hmc:=a_0 hml;refine Wu ?_ hSj;refine Wq<|Wm z<|R z (nq z z)<|Wx z (λI=>?_) (λI=>?_)
  .refine Wk<|Wq<|Wb<|Wm z<|R z (i_2 z z (by decide))<|Rw z<|Wq<|Wm z<|Rl z z z<|Wn<|bdB (ifT hmc I) λum hud hmn=>Wt (λa w=>∃x3,x3=um/\Sat 31 [(0,vI x1),(3,Str.v x2),(4,vI x0),(5,vI x3)] a/\Below G.z G w/\inI x3) ?_ ?_
   .refine Wc z (λJ=>?_)<|λJ=>?_
    .exact Wg<|Rm z<|R z (rd_neg z)<|Ra z<|Wl (λ_ q=>⟨i_1<|b_7 x0 10,som<|ifT hud J,kaA q,br G,u_u _⟩)
    exact Z_<|λ_ q=>⟨b_7 x0 10,som<|ifF hud J,kaA q,br G,n_k h6⟩
   rintro ao wp ⟨x3,rfl,_,_,_⟩;revert ao;exact Wo<|Wg<|Rm z<|R z (add_ z z)<|R z (c_c d_3 d_5 z)<|EvA z (fS [(.tmp 21)] M_ z z z (a_i z) (lb z)<|lb z) λwq L=>have:=L.below;have:Blk wq wp.z [(vU<|b_<|mkB<|e_ 48 x3)]:=L.blk;have O:=b_d L b_o;R z (h_5 h_ d_9 d_5 z_5 z<|c_.rep O)<|Rm z<|bdB hmn λxr ee hms=>R z (a_u z z ee)<|Rw z<|Wg<|Rm z<|R z (n_p z z (by decide))<|Ra z<|Wl (λ_ q=>⟨(xr,c_V x0 10),(som hms).symm,⟨kaA q,kW,b_p ee,p_P _ _⟩⟩)
  exact We<|λ_ q=>a_X (som<|ifF hmc I).symm ⟨kaA q,sk,h5,h6⟩
 .rintro ⟨x2,x0⟩ au _ rfl ⟨_,sf,h5,h6⟩;have hmt:=elL hmb;have hmg:=a_0 hmt;revert au;refine Wo<|Wq<|Wm z<|Rl z z z<|Wx z (λhca=>?_) (λhca=>?_)
  .exact Wm z<|bdB (ifT hmg hca) λ_ eh hmv=>R z (a_u z z eh)<|Rw z<|Wr<|rS1 hmv hr z ⟨sf,z,b_p eh⟩
  exact Wk<|Wm z<|Rw z<|Wr<|rS1 (ifF hmg hca) hr z ⟨sf,z,h5⟩
 exact lqA hmb λ_ _ h=>h.2
theorem W_w1m {x1:f_}{x2:Int}{res:Str}(hm:g_q n x1 x2=some res)(ah:B<=w0.z)(a8:x1.name.b.length<=LEN)(a9:inI x1.kind)(aa:inI x1.size)(ab:rp w0 B AB NB CB x1.bytes)(ad:rp w0 B AA NA CA x1.names)(ae:rp w0 B AC NC CC x1.tags)(af:rp w0 B AD ND CD x1.kids)(a1:inI x2):g_ prog 143 [(.agg #[Str.v x1.name,vI x1.kind,vI x1.size,vB x1.little,sl AB NB CB,sl AA NA CA,sl AC NC CC,sl AD ND CD]),vI x2] w0 (Q19 w0 B res):=by
 unfold g_q at hm;refine goG func143 z z z λfn hr=>Ws<|EvX (vR x1 AB NB CB AA NA CA AC NC CC AD ND CD) z z z λL _ Y=>Rw z<|Wq<|Wb<|Ws<|Rf z a_r z<|R z (l0 g_3 z<|Y.at z)<|Rq z z z<|Rw z<|Wc z (λa0=>?_) (λa0=>?_)
 .refine Wm z<|bdB (ifT hm a0) λ_ eq hmr=>E z (fc call157 z<|l_9 (B:=B) eq kM a1) ?_;rintro _ _ ⟨_,rfl,ht⟩;exact Rw z<|Wr<|rtO<|rS1 hmr hr z ⟨kW,z,ht⟩
 refine Wq<|bdB (ifF hm a0) λus hui hmj=>Wt (λa w=>∃x9,x9=us/\Sat 51 [(1,vI x2),(2,pt w0.z),(11,vB x9)] a/\Below L.z L w) ?_ ?_
 .refine Wg<|Rf z a_r z<|R z (l0 g_3 z<|Y.at z)<|Rq z z z<|Rm z ?_;rcases bs (x1.kind==6) with G | G
  .exact Rh z G (mv z)<|Rh z G (fd c_r z)<|Rh z G (l0 a_A z<|Y.at z)<|Rh z G (lnR z_ z kR)<|Rh z G (lss z z)<|R z (pT z G z)<|Ra z<|Wl (λ_ q=>⟨decide<|x2<(x1.names.length:Int),som<|ifT hui G,kaA q,br L⟩)
  iterate 5 refine Nh z G ?_
  exact R z (pF z G z)<|Ra z<|Wl (λ_ q=>⟨false,som<|ifF hui G,kaA q,br L⟩)
 rintro au O ⟨x9,rfl,_,_⟩;revert au;refine Wo<|Wc z (λhca=>?_) (λhca=>?_)
 .refine Ws<|Rf z c_r z<|R z (l0 a_A z kBa)<|Rm z<|bdB (ifT hmj hca) λ_ ev hmw=>xA (α:=Str) z z_ z_9 z z z kR ev λ_ _ _ hx hy _=>?_;obtain ⟨rfl,hz⟩:=a_e hy;exact R z (l0 g_9 z<|hx.at0 z)<|Rw z<|Wr<|rtO<|rS1 hmw hr z ⟨kW,z,hz⟩
 refine Wq<|bdB (ifF hmj hca) λa2 huk hml=>Wt (λa w=>∃xb,xb=a2/\Sat 51 [(1,vI x2),(2,pt w0.z),(27,vB xb)] a/\Below O.z O w) ?_ ?_
 .refine Wg<|Rf z a_r z<|R z (l0 g_3 z kBa)<|Rq z z z<|Rm z ?_;rcases bs (x1.kind==7) with H | H
  .exact Rh z H (mv z)<|Rh z H (eql z z)<|R z (pT z H z)<|Ra z<|Wl (λ_ q=>⟨x2==0,som<|ifT huk H,kaA q,br O⟩)
  exact Nh z H<|Nh z H<|R z (pF z H z)<|Ra z<|Wl (λ_ q=>⟨false,som<|ifF huk H,kaA q,br O⟩)
 rintro a3 V ⟨xb,rfl,_,_⟩;revert a3;refine Wo<|Wc z (λhcc=>?_) (λhcc=>?_)
 .exact Ws<|Rw z<|Wr<|rtO<|rS1 (ifT hml hcc) hr z ⟨kW,z,lb z⟩
 refine Wq<|bdB (ifF hml hcc) λa4 hum hmn=>Wt (λa w=>∃xd,xd=a4/\Sat 51 [(1,vI x2),(2,pt w0.z),(35,vB xd)] a/\Below V.z V w) ?_ ?_
 .refine Wg<|Rf z a_r z<|R z (l0 g_3 z kBa)<|Rq z z z<|Rm z ?_;rcases bs (x1.kind==8) with I | I
  .exact Rh z I (mv z)<|Rh z I (eql z z)<|R z (pT z I z)<|Ra z<|Wl (λ_ q=>⟨x2==0,som<|ifT hum I,kaA q,br V⟩)
  exact Nh z I<|Nh z I<|R z (pF z I z)<|Ra z<|Wl (λ_ q=>⟨false,som<|ifF hum I,kaA q,br V⟩)
 rintro a5 W ⟨xd,rfl,_,_⟩;revert a5;refine Wo<|Wc z (λhce=>?_) (λhce=>?_)
 .exact Ws<|Rw z<|Wr<|rtO<|rS1 (ifT hmn hce) hr z ⟨kW,z,lb z⟩
 refine Wq<|bdB (ifF hmn hce) λa6 huo hmp=>Wt (λa w=>∃xf,xf=a6/\Sat 51 [(43,vB xf)] a/\Below W.z W w) ?_ ?_
 .refine Wg<|Rf z a_r z<|R z (l0 g_3 z kBa)<|Rq z z z<|Rm z ?_;rcases bs (x1.kind==9) with J | J
  .exact Rh z J (mv z)<|Rh z J (eql z z)<|R z (pT z J z)<|Ra z<|Wl (λ_ q=>⟨x2==0,som<|ifT huo J,kaA q,br W⟩)
  exact Nh z J<|Nh z J<|R z (pF z J z)<|Ra z<|Wl (λ_ q=>⟨false,som<|ifF huo J,kaA q,br W⟩)
 rintro a7 _ ⟨xf,rfl,_,_⟩;revert a7;refine Wo<|Wc z (λhcg=>?_) (λhcg=>?_)
 .exact Ws<|Rw z<|Wr<|rtO<|rS1 (ifT hmp hcg) hr z ⟨kW,z,lb z⟩
 exact Wk<|Ws<|Rw z<|Wr<|rS1 (ifF hmp hcg) hr z ⟨kW,z,lb z⟩
def Q20 (w0:World)(B:Zone)(r:(List j_)×Int)(v:Value)(w':World):Prop:=Bw w0 w'/\un2 (λr1 r2=>∃G H I S1,v = .tuple #[sl G H I,vI r2]/\c_ w' S1 (sl G H I) r1/\inI r2/\S1.Nodup/\(∀k∈S1,w0.z<=k)) r
structure p_1 (f:d_->Int->Bt->Int->Str->Option ((List j_)×Int)):Prop where
  run:∀{A0 A7:Option Addr}{N0 C0 N7 C7:Nat}{B:Zone}{x1:d_}{x2:Int}{x3:Bt}{x4:Int}{x5:Str}{res:(List j_)×Int}{w0:World}(hm:f x1 x2 x3 x4 x5=some res)(hBw:B<=w0.z)(p1_0:rp w0 B A0 N0 C0 x1.rules)(p2_0:inI x2)(p3_0:rp w0 B A7 N7 C7 x3)(p4_0:inI x4)(p5_0:x5.b.length<=LEN),g_ prog 87 [(.agg #[sl A0 N0 C0]),vI x2,sl A7 N7 C7,vI x4,Str.v x5] w0<|Q20 w0 B res
abbrev t_I (n:Nat):Prop:=p_1 (g_A n).spec_l19Build
theorem T_w0c (aM:t_I n):p_1 (k_p n<|g_A n):=by
 constructor;intro A0 A7 N0 C0 N7 C7 B x1 x2 x3 x4 x5 res w0 hm bE bC a3 bD W ai;unfold k_p at hm;refine goG func87 z z z λfn hr=>Ws<|EvX [sl A0 N0 C0] z z z λY _ aj=>Ra z<|Rw z<|Ws<|Rf z a_l z<|R z (l0 a_p z<|aj.at z)<|Rm z<|bdB hm λx6 aN al=>xA (α:=f_) z Y_ l_ z z z kR aN λ_ _ _ aO aP _=>?_;obtain ⟨ah,ni,cj,ak,nl,cm,an,no,cp,aq,nr,ct,rfl,a8,a9,aa,_,_,_,_⟩:=a_T aP;refine R z (lN (vs:=vR x6 ah ni cj ak nl cm an no cp aq nr ct) G_ l_ z z fid aO)<|EvZ [(Str.v (⟨[]⟩:Str)),vI 0,vI 0,vB false,sN,sN,sN,sN] z c_t z λbF _ am=>E0q (vR x6 ah ni cj ak nl cm an no cp aq nr ct) l_ z z am z λbG _ _=>Wn<|Ws<|R z (lC [sl A0 N0 C0] s_ n_ z)<|RM z z<|Rm z ?_;obtain ⟨aQ,L,_,aR,ap⟩:=N_ al;refine E z (fc call92 z<|l_8.run (B:=B) aR kM kR a3 kR W) ?_;rintro _ wb ⟨_,aS,aT,aU,_,aV,aW,aX,_,rfl,aY,_,hd,ab,_,aZ,b0⟩;obtain ⟨_,_,_,_,_⟩:=a_5 aZ b0;refine Rm z ?_;iterate 3 refine Re z z z ?_
 refine EvZ [vI 0,sN,sN] z a_h z λbH _ ar=>E0q [vI aQ.number,sl aS aT aU,sl aV aW aX] i_ z z ar z λH _ _=>Ra z<|Rw z<|Wm z<|RM z z<|Rm z<|R z (bQ [(0,.tmp 38),(1,.tmp 39),(2,.tmp 40),(3,.tmp 41)] [Str.v x5,vI x2,vI x4,vI L] i_T z z)<|E z (fS [(.tmp 42)] d_t z z z (a_i z) (lb z)<|lb z) ?_;rintro _ wc ⟨rfl,hx⟩;have:=hx.below;have:Blk wc H.z [Str.v x5,vI x2,vI x4,vI L]:=hx.blk;have:=b_d hx<|f_H (x:=(⟨x5,x2,x4,L⟩:j_)) ai a3 W ab;refine Rw z<|Wm z<|Rw z<|Wq<|Ws<|Rf z a_r z<|R z (l0 g_3 z kBa)<|Wn<|Wb<|Wq<|Ws<|Rq z z z<|Rw z<|bdB ap λb1 a4 au=>?_;refine Wt (λa w=>∃xy,xy=b1/\Sat 98 [(2,sl A7 N7 C7),(3,vI x4),(4,Str.v x5),(5,pt w0.z),(12,pt Y.z),(13,pt wb.z),(14,vI L),(16,sl (some ⟨H.z,0,none⟩) 1 1),(17,vI x4),(46,vI x6.kind),(47,vB xy)] a/\Below wc.z wc w) ?_ ?_
 .refine Wc z (λhcz=>?_)<|λhcz=>?_
  .exact Z_<|λ_ q=>⟨x6.kind==5,som<|ifT a4 hcz,q.k<|sc z<|sc z<|sc z<|sc z<|sc z<|sc z<|sc z<|sc z<|sc z<|sc z<|sc z sn,br wc⟩
  exact Wg<|Rq z z z<|Ra z<|Wl (λ_ q=>⟨x6.kind==7,som<|ifF a4 hcz,q.k<|sc z<|sc z<|sc z<|sc z<|sc z<|sc z<|sc z<|sc z<|sc z<|sc z<|sc z sn,br wc⟩)
 rintro b2 V ⟨xy,rfl,_,_⟩;revert b2;refine Wo<|bdB au λb3 a5 av=>Wt (λa w=>∃xs,xs=b3/\Sat 98 [(2,sl A7 N7 C7),(4,Str.v x5),(5,pt w0.z),(12,pt Y.z),(13,pt wb.z),(14,vI L),(16,sl (some ⟨H.z,0,none⟩) 1 1),(17,vI xs)] a/\Below V.z V w/\inI xs) ?_ ?_
 .refine Wc z (λa0=>?_)<|λa0=>?_
  .refine Wq (Wd (X:=noX) 0 (pl_ 15 [7]) mo (by kernel_rfl) λbI bJ _=>dR z z (lC [sl A0 N0 C0] s_ n_ z)<|dR z z (fd Q_ z)<|dR z z (l0 A_ z kBa) ?_);refine bdB (ifT a5 a0) λ_ b4 aw=>dxA (α:=Int) z z v_ z_3 z z z kR b4 λ_ _ _ b5 b6 _=>?_;obtain ⟨rfl,b7⟩:=a_z b6;refine dR z z (l0 g_3 z<|b5.at0 z)<|dM z z z<|dM z z z ?_;obtain ⟨_,b8,_,b9,ax⟩:=N_ aw;refine dE z z (fc call141 z<|l_7 (B:=B) b9 kM kR b7 kR W) iB ?_;rintro _ _ ⟨_,rfl,_,ba⟩;refine dM z z z ?_;iterate 3 refine dR z z (ext_ z z) ?_
   iterate 3 refine dQ z z z ?_
   exact pD<|Wo<|Wg<|Rm z<|Ra z<|Wl (λ_ q=>⟨b8,som ax,kaA q,kW,ba⟩)
  refine Ws<|Rq z z z<|Rw z<|bdB (ifF a5 a0) λbb a6 ay=>Wt (λa w=>∃xe,xe=bb/\Sat 98 [(2,sl A7 N7 C7),(4,Str.v x5),(5,pt w0.z),(12,pt Y.z),(13,pt wb.z),(14,vI L),(16,sl (some ⟨H.z,0,none⟩) 1 1),(17,vI xe)] a/\Below V.z V w/\inI xe) ?_ ?_
  .refine Wc z (λa1=>?_)<|λa1=>?_
   .exact Wg<|Rm z<|R z (add_ z z)<|Ra z<|Wl (λ_ q=>⟨e_ x4 1,som<|ifT a6 a1,kaA q,br V,iA _ _⟩)
   exact Z_<|λ_ q=>⟨x4,som<|ifF a6 a1,kaA q,br V,W⟩
  rintro bc _ ⟨xe,rfl,_,be,bf⟩;revert bc;exact λ_ q=>⟨xe,som ay,kaA q,be,bf⟩
 rintro bg wf ⟨xs,rfl,_,_,bh⟩;revert bg;refine Wo<|Wq<|Ws<|Rw z ?_;obtain ⟨_,az,a7⟩:=bdS av;refine Wf (σ:=(List j_)×Int) (ρ:=(List j_)×Int) (λ(ad:Nat) s a w=>un2 (λxa O=>∃a2 I J G,Sat 98 [(2,sl A7 N7 C7),(4,Str.v x5),(5,pt w0.z),(12,pt Y.z),(13,pt wb.z),(14,vI L),(16,sl a2 I J),(17,vI O),(21,vI ((ad:Nat):Int))] a/\Cg [H.z] wf w/\c_ w G (sl a2 I J) xa/\G.Nodup/\(∀k∈G,k∈[H.z]∨wf.z<=k)/\inI O) s) (λs a w=>un2 (λxa O=>∃a2 I J G,Sat 98 [(14,vI L),(16,sl a2 I J)] a/\Cg [H.z] wf w/\c_ w G (sl a2 I J) xa/\G.Nodup/\(∀k∈G,k∈[H.z]∨wf.z<=k)/\inI O) s) (rQ prog fn<|Q20 w0 B) az ?_ ?_ ?_ ?_ ?_
 .exact λ_ q=>⟨some ⟨H.z,0,none⟩,1,1,[H.z],kaA q,cr [H.z] wf,kO,S_,sQ,bh⟩
 .rintro ad ⟨xa,O⟩ _ _ _ hku ⟨a2,I,J,G,aA,_,hv,hg,ae,hw⟩ aB;refine Wu ?_ aA;refine Wq<|Wm z<|Rf z a_O z<|R z (l0 a_S z kBa)<|R z (lnR b_0 z<|or_ kO<|c_.lt hd)<|Rl z z z<|Wx z (λ_=>?_) (λhc=>(J_ hku hc).elim);refine Wk<|Wq<|Wb<|Wq (Wd (X:=noX) 0 (.rd 0<|.rd 1<|.rd 2<|.rd 3<|.rd 4<|.rd 6<|.rd 7<|.rd 8<|.rd 9<|.rd 10<|.rd 11<|.ef 5<|.ef 12<|.rd 13<|.ef 14<|.rd 15<|.rd 16<|.rd 17<|.rd 18<|.rd 19 .done) mo (by kernel_rfl) λbK bM _=>dR z z (lC [sl A0 N0 C0] s_ n_ z)<|dR z z (lN (vs:=vR x6 ah ni cj ak nl cm an no cp aq nr ct) G_ l_ z z fid<|kBr 0 8)<|dR z z (fd c_0 z)<|dR z z (l0 g_3 z kBa) ?_);iterate 4 refine dM z z z ?_
  refine bdB (a_0 aB) λ_ bi aC=>dR z z (a_u z z bi)<|dR z z (lN (vs:=vR x6 ah ni cj ak nl cm an no cp aq nr ct) G_ l_ z z fid<|kBr 0 8)<|dM z z z<|bdB aC λ_ bj aD=>dE z z (fc call142 z<|f_B (B:=B) bj kM a8 a9 aa kR kR kR kR aY<|ic (QAO hku)<|lt_ (c_.len hd) u_) iB ?_;rintro _ _ ⟨_,rfl,bk⟩;refine bdB aD λ_ bm aE=>dE z z (fc call143 z<|W_w1m (B:=B) bm kM a8 a9 aa kR kR kR kR<|ic (QAO hku)<|lt_ (c_.len hd) u_) iB ?_;rintro _ _ ⟨_,rfl,_⟩;refine bdB aE λ_ af aF=>dR z z (a_u z z af) ?_;obtain ⟨_,bn,bo,aG⟩:=V_ aF;refine dE z z (fc call87 z<|aM.run (B:=B) bo kM kR bk kR hw<|b_p af) iB ?_;rintro _ _ ⟨_,_,_,_,_,rfl,bp,bq,_,_⟩;refine dM z z z<|dR z z (ext_ z z)<|dR z z (ext_ z z)<|dQ z z z<|dQ z z z<|pD<|Wo<|Wm z<|Rm z<|bdB aG λbs bt aH=>E z (fN (α:=j_) d_t bt z z kO hg<|c_.rep bp) ?_;rintro _ _ ⟨bu,bv,bw,bx,rfl,_,bz,bA,_⟩;exact Rw z<|Wg<|Rm z<|Rw z<|Wg<|Rm z<|R z (inc_ hku (lt_ (c_.len hd) u_) z z)<|Ra z<|Wl (λ_ q=>⟨(bs,bn),(som aH).symm,⟨bv,bw,bx,bu,kaA q,kW,bz,bA,sQ,bq⟩⟩)
 .rintro ⟨xa,O⟩ _ _ ⟨a2,I,J,G,aI,_,hv,hg,ae,hw⟩;refine Wu ?_ aI;refine Wq<|Wm z<|Rf z a_O z<|R z (l0 a_S z kBa)<|R z (lnR b_0 z<|or_ kO<|c_.lt hd)<|Rl z z z<|Wx z (λhc=>(K_ hc).elim) (λ_=>?_);exact We<|λ_ q=>⟨rfl,⟨a2,I,J,G,kaA q,kW,hv,hg,sQ,hw⟩⟩
 .rintro ⟨xa,O⟩ bB _ rfl ⟨a2,I,J,G,_,_,hv,hg,ae,hw⟩;have aJ:=elL a7;revert bB;refine Wo<|Wm z<|Rm z<|Ra z<|Rw z ?_;exact Wr<|rS2 (a_0 aJ) hr z z ⟨kW,a2,I,J,G,z,hv,ab,hg,sQ⟩
 exact lqA a7 λ_ _ h=>h.2
theorem A_w0c:∀n,t_I n
  | 0=>⟨λhm=>by intros;exact nomatch (show none=some _ from hm)⟩
  | n+1=>T_w0c<|A_w0c n
theorem W_w0c:p_1 (g_A n).spec_l19Build:=A_w0c n
def Q21 (w0:World)(B:Zone)(r:(List j_)×Bool)(v:Value)(w':World):Prop:=Bw w0 w'/\un2 (λr1 r2=>∃G H I S1,v = .tuple #[sl G H I,vB r2]/\c_ w' S1 (sl G H I) r1/\S1.Nodup/\(∀k∈S1,w0.z<=k)) r
theorem W_w3n {x1:d_}{x2:Bt}{res:(List j_)×Bool}(hm:k_q n x1 x2=some res)(a2:B<=w0.z)(Y:rp w0 B A0 N0 C0 x1.rules)(a0:rp w0 B A2 N2 C2 x2):g_ prog 56 [(.agg #[sl A0 N0 C0]),sl A2 N2 C2] w0 (Q21 w0 B res):=by
 unfold k_q at hm;refine goG func56 z z z λfn hr=>Ws<|EvX [sl A0 N0 C0] z z z λw3 _ a1=>Ra z<|Rw z<|Wq<|Ws<|R z (lC [sl A0 N0 C0] s_ n_ z)<|Rm z<|bdB hm λ_ I H=>EcA z (fc call36 z<|W_w1l (B:=B) I kM kR kR) λJ _=>R z (not_ z)<|Wx z (λG=>?_) (λG=>?_)
 .refine Ws<|E z (f0 (α:=j_) d_t) ?_;rintro _ _ ⟨L,O,V,rfl,_,W⟩;exact Ra z<|Rw z<|Wr<|rS2 (ifT H G) hr z z ⟨kW,L,O,V,[J.z],z,W,S_,sQ⟩
 refine Wk<|Wq (Wd (X:=noX) 0 (.rd 0<|.rd 1<|.rd 3<|.ef 2<|.ef 4<|.rd 5<|.rd 6<|.rd 7<|.rd 8<|.rd 9 .done) mo (by kernel_rfl) λwp sq _=>dR z z (lC [sl A0 N0 C0] s_ n_ z)<|dR z z (lC [sl A0 N0 C0] s_ n_ z)<|dM z z z ?_);refine bdB (ifF H G) λ_ ea hmb=>dE z z (fc call86 z<|m_Y (B:=B) ea kM kR) iB ?_;rintro _ _ ⟨_,rfl,hc⟩;obtain ⟨_,_,ed,hme⟩:=V_ hmb;refine dE z z (fc call87 z<|W_w0c.run (B:=B) ed kM kR hc kR (ii z)<|lb z) iB ?_;rintro _ _ ⟨_,af,ng,ch,Si,rfl,hj,_,hk,_⟩;exact dM z z z<|dR z z (ext_ z z)<|dR z z (ext_ z z)<|dQ z z z<|dQ z z z<|pD<|Wo<|Wm z<|Ra z<|Rw z<|Wr<|rS2 hme hr z z ⟨kW,af,ng,ch,Si,z,hj,hk,sQ⟩
theorem W_w1n {x1:Str}{x2:UInt8}{res:(List Str)}(hm:i_r n x1 x2=some res)(aD:B<=w0.z)(Y:x1.b.length<=LEN):g_ prog 144 [Str.v x1,vU<|b_ x2] w0 (Q2 w0 B res):=by
 unfold i_r at hm;refine goG func144 z z z λfn hr=>Ws<|Rw z<|Ws<|E z (f0 (α:=Str) a_q) ?_;rintro _ V ⟨av,nw,cx,rfl,_,hy⟩;refine Rw z<|Ws<|Rw z<|Wq<|Ws<|Rw z ?_;obtain ⟨_,huz,hmp⟩:=bdS hm;refine b_6 (σ:=(List Str)×Int×Int) (ρ:=List Str) (λs a w=>un3 (λO x6 x3=>∃I J L G,Sat 36 [(0,Str.v x1),(1,vU<|b_ x2),(5,sl I J L),(6,vI x6),(7,vI x3)] a/\Cg [w0.z] V w/\c_ w G (sl I J L) O/\G.Nodup/\(∀k∈G,k∈[w0.z]∨V.z<=k)/\inI x6/\inI x3) s) (λs a w=>un3 (λO x6 x3=>∃I J L G,Sat 36 [(5,sl I J L)] a/\Cg [w0.z] V w/\c_ w G (sl I J L) O/\G.Nodup/\(∀k∈G,k∈[w0.z]∨V.z<=k)/\inI x6/\inI x3) s) (rQ prog fn<|Q2 w0 B) huz ?_ ?_ ?_ ?_
 .exact λ_ q=>⟨av,nw,cx,[w0.z],kaA q,cr [w0.z] V,hy,S_,sQ,ii z,ii z⟩
 .rintro ⟨O,x6,x3⟩ _ wc _ ⟨I,J,L,G,a2,_,hi,W,ad,hj,hq⟩ a3;have hmr:=c_4 a3;refine Wu ?_ a2;refine Wq<|Wm z<|Rm z<|R z (lnT d_9 z)<|R z (c_5 z z)<|Wx z (λhck=>?_) (λhck=>?_)
  .refine Wk<|Wq<|Wb<|Wq<|bdB (ifT hmr hck) λae hus a4=>Wt (λa w=>∃xl,xl=ae/\Sat 36 [(0,Str.v x1),(1,vU<|b_ x2),(5,sl I J L),(6,vI x6),(7,vI x3),(25,vB xl)] a/\Below wc.z wc w) ?_ ?_
   .refine Wg<|RM z z<|R z (lnT d_9 z)<|Rq z z z<|Rm z ?_;rcases bs (x3==(x1.b.length:Int)) with H | H
    .iterate 5 refine Nh z H ?_
     exact R z (pT z H z)<|Wl (λ_ q=>⟨true,som<|ifT hus H,kaA q,br wc⟩)
    exact Rh z H (mv z)<|Rh z H (mv z)<|bdB (ifF hus H) λah et a5=>Rh z H (c_y d_9 z z (a_k et).1 (a_k et).2.1)<|Rh z H (mv z)<|Rh z H (eql z z)<|R z (pF z H z)<|Wl (λ_ q=>⟨(b_ ah)==(b_ x2),som a5,kaA q,br wc⟩)
   rintro ai wd ⟨xl,rfl,_,_⟩;revert ai;refine Wo<|bdB a4 λaj huu a6=>Wt (λa w=>∃xe xa,(xe,xa)=aj/\∃af ng ch Sb,Sat 36 [(0,Str.v x1),(1,vU<|b_ x2),(5,sl af ng ch),(6,vI xa),(7,vI x3)] a/\Cg G wd w/\c_ w Sb (sl af ng ch) xe/\Sb.Nodup/\(∀k∈Sb,k∈G∨wd.z<=k)/\inI xa) ?_ ?_
   .refine Wc z (λhcm=>?_)<|λhcm=>?_
    .refine Wm z<|RM z z<|Rm z<|bdB (ifT huu hcm) λak en a7=>R z (j_h d_9 z z z Y en)<|E z (fS [(.tmp 30)] a_q z z z (a_i z) (lb z)<|lb z) ?_;rintro _ al ⟨rfl,ho⟩;have:=ho.below;have a0:Blk al wd.z [Str.v ak]:=ho.blk;have:=b_d ho<|b_c<|h_Y en Y;refine bdB a7 λam an a8=>E z (a_W (α:=Str) a_q an z z kO W a0 (b_c<|h_Y en Y) an_ E_) ?_;rintro _ _ ⟨ap,aq,ar,au,rfl,_,aw,ax,_⟩;exact Rw z<|Wg<|Rm z<|R z (add_ z z)<|Ra z<|Wl (λ_ q=>⟨am,e_ x3 1,som a8,aq,ar,au,ap,kaA q,kW,aw,ax,sQ,iA _ _⟩)
    exact Z_<|λ_ q=>⟨O,x6,som<|ifF huu hcm,I,J,L,G,kaA q,cr G wd,kO,W,sQ,hj⟩
   rintro ay _ ⟨xe,xa,rfl,af,ng,ch,Sb,_,_,az,aA,_,aB⟩;revert ay;exact Wo<|Wg<|Rm z<|R z (add_ z z)<|Ra z<|Wl (λ_ q=>⟨(xe,xa,e_ x3 1),(som<|a_0 a6).symm,⟨af,ng,ch,Sb,kaA q,kW,az,aA,sQ,aB,iA _ _⟩⟩)
  exact We<|λ_ q=>a_X (som<|ifF hmr hck).symm ⟨I,J,L,G,kaA q,kW,hi,W,sQ,hj,hq⟩
 .rintro ⟨O,x6,x3⟩ aC _ rfl ⟨I,J,L,G,_,_,hi,W,ad,hj,hq⟩;have a9:=elL hmp;revert aC;refine Wo<|Wm z<|Rw z ?_;exact Wr<|rS1 (c_4 a9) hr z ⟨kW,I,J,L,G,z,hi,W,sQ⟩
 exact lqA hmp λ_ _ h=>h.2
def Q22 (w0:World)(B:Zone)(r:Int×Bool)(v:Value)(w':World):Prop:=Bw w0 w'/\un2 (λr1 r2=>v = .tuple #[vI r1,vB r2]/\inI r1) r
theorem W_w1o {x1:Str}{res:Int×Bool}(hm:i_s n x1=some res)(a2:B<=w0.z)(W:x1.b.length<=LEN):g_ prog 146 [Str.v x1] w0 (Q22 w0 B res):=by
 unfold i_s at hm;refine goG func146 z z z λfn hr=>Ws<|Ra z<|Rw z<|Wq<|Wm z<|R z (lnT d_9 z)<|bdB hm λ_ ei Y=>EcA z (fc call51 z<|b_k (B:=B) ei a2 (c_3 W) (ii z)<|ii z) λH sj=>R z (not_ z)<|Wx z (λI=>?_) (λI=>?_)
 .exact Ws<|Ra z<|Rw z<|Wr<|rS2 (ifT Y I) hr z z ⟨sj,z,ii z⟩
 refine Wk<|Ws<|Rw z<|Wq<|Ws<|Rw z<|bdB (ifF Y I) λ_ huk hma=>Wf (σ:=Int) (ρ:=Int×Bool) (λ(kb:Nat)(x0:Int) a w=>Sat 39 [(0,Str.v x1),(4,vI x0),(5,vI ((kb:Nat):Int))] a/\Below H.z H w/\inI x0) (λ(x0:Int) a w=>Sat 39 [(0,Str.v x1),(4,vI x0)] a/\Below H.z H w/\inI x0) (rQ prog fn<|Q22 w0 B) huk ?_ ?_ ?_ ?_ ?_
 .exact λ_ q=>⟨kaA q,br H,ii z⟩
 .rintro kb x0 _ _ _ hkc ⟨hSl,_,h3⟩ hmm;refine Wu ?_ hSl;refine Wq<|Wm z<|Rm z<|R z (lnT d_9 z)<|Rl z z z<|Wx z (λ_=>?_) (λhc=>(J_ hkc hc).elim);refine Wk<|Wq<|Wb<|Wq<|Wm z<|Rm z<|bdB hmm λ_ ed hmn=>R z (c_y d_9 z z (a_k ed).1 (a_k ed).2.1)<|R z (b_n d_5 d_3 z)<|bdB hmn λ_ eo hme=>EcA z (fc call51 z<|b_k (B:=B) eo kM (d_z _) (ii z)<|ii z) λ_ _=>R z (not_ z)<|Wx z (λJ=>?_) (λJ=>?_)
  .exact Ws<|Ra z<|Rw z<|Wr<|rtO<|qL (som<|ifT hme J).symm<|b_r hr z z ⟨kW,z,ii z⟩
  exact Wk<|Wg<|Rm z<|R z (h_a z z)<|RM z z<|bdB (ifF hme J) λxp ef hmq=>R z (c_y d_9 z z (a_k ef).1 (a_k ef).2.1)<|R z (p_Q z z)<|R z (b_n d_5 d_3 z)<|R z (add_ z z)<|Rw z<|Wg<|Rm z<|R z (inc_ hkc (lt_ W u_) z z)<|Ra z<|Wl (λ_ q=>⟨e_ (b_t 10 x0)<|b_<|mkB (b_ xp - b_ (48:UInt8)),(som hmq).symm,⟨kaA q,kW,iA _ _⟩⟩)
 .rintro x0 _ _ ⟨hSr,ss,h3⟩;refine Wu ?_ hSr;refine Wq<|Wm z<|Rm z<|R z (lnT d_9 z)<|Rl z z z<|Wx z (λhc=>(K_ hc).elim) (λ_=>?_);exact We<|λ_ q=>⟨rfl,⟨kaA q,ss,h3⟩⟩
 .rintro x0 au O rfl ⟨_,_,h3⟩;have hmt:=elL hma;revert au;refine Wo<|Wq<|Wq<|bdB hmt λuv hug hmh=>Wt (λa w=>∃V,V=uv/\Sat 39 [(4,vI x0),(37,vB V)] a/\Below O.z O w) ?_ ?_
  .refine Wg<|Rm z<|R z (T_ z z)<|Rm z ?_;rcases bs (decide<|1000000000000<x0) with G | G
   .iterate 4 refine Nh z G ?_
    exact R z (pT z G z)<|Wl (λ_ q=>⟨true,som<|ifT hug G,kaA q,br O⟩)
   refine Rh z G (mv z)<|bdB (ifF hug G) λrx ew hmy=>Eg z z G z (fc call157 z<|l_9 (B:=B) ew kM h3) ?_;rintro _ _ ⟨sz,rfl,_⟩;exact Rh z G (mv z)<|Rh z G (e_z z z)<|R z (pF z G z)<|Wl (λ_ q=>⟨rx.b != x1.b,som hmy,kaA q,sz⟩)
  rintro a3 _ ⟨V,rfl,_,_⟩;revert a3;refine Wo<|Wc z (λL=>?_) (λL=>?_)
  .exact Ws<|Ra z<|Rw z<|Wr<|rS2 (ifT hmh L) hr z z ⟨kW,z,ii z⟩
  exact Wk<|Wm z<|Ra z<|Rw z<|Wr<|rS2 (ifF hmh L) hr z z ⟨kW,z,h3⟩
 exact lqA hma λ_ _ h=>h.2
theorem W_w1p {x1:Str}{res:Bool}(hm:f_k n x1=some res)(a0:B<=w0.z)(W:x1.b.length<=LEN):g_ prog 145 [Str.v x1] w0 (Q11 w0 B res):=by
 unfold f_k at hm;refine goG func145 z z z λfn hr=>Ws<|Rw z<|Wq<|Wq<|bdB hm λue huf Y=>Wt (λa w=>∃x5,x5=ue/\Sat 31 [(0,Str.v x1),(18,vB x5)] a/\Below w0.z w0 w) ?_ ?_
 .refine Wg<|Rm z<|bdB huf λrg eh hma=>EcA z (fc call134 z<|m_W (B:=B) eh a0 W) λ_ s4=>Rm z ?_;rcases bs rg with H | H
  .exact Nh z H<|Nh z H<|R z (pT z H z)<|Rm z<|Nh z z<|Nh z z<|R z (pT z z z)<|Rm z<|Nh z z<|Nh z z<|R z (pT z z z)<|Wl (λ_ q=>⟨true,som<|ifT hma H,kaA q,s4⟩)
  have hmb:=ifF hma H;refine Rh z H (mv z)<|Rh z H (a_Q z z)<|R z (pF z H z)<|Rm z ?_;rcases bs (x1.b==(⟨[42]⟩:Str).b) with I | I
  .exact Nh z I<|Nh z I<|R z (pT z I z)<|Rm z<|Nh z z<|Nh z z<|R z (pT z z z)<|Wl (λ_ q=>⟨true,som<|ifT hmb I,kaA q,s4⟩)
  have hmc:=ifF hmb I;refine Rh z I (mv z)<|Rh z I (a_Q z z)<|R z (pF z I z)<|Rm z ?_;rcases bs (x1.b==(⟨[63]⟩:Str).b) with J | J
  .exact Nh z J<|Nh z J<|R z (pT z J z)<|Wl (λ_ q=>⟨true,som<|ifT hmc J,kaA q,s4⟩)
  exact Rh z J (mv z)<|Rh z J (a_Q z z)<|R z (pF z J z)<|Wl (λ_ q=>⟨x1.b==(⟨[43]⟩:Str).b,som<|ifF hmc J,kaA q,s4⟩)
 rintro ai _ ⟨x5,rfl,_,sj⟩;revert ai;refine Wo<|Wc z (λL=>?_) (λL=>?_)
 .exact Ws<|Rw z<|Wr<|rS1 (ifT Y L) hr z ⟨sj,z⟩
 refine Wk<|Wm z ?_;obtain ⟨_,rk,el,hmm⟩:=V_<|ifF Y L;refine E z (fc call146 z<|W_w1o (B:=B) el kM W) ?_;rintro _ O ⟨_,rfl,hn⟩;refine Rm z<|Re z z z<|Re z z z<|Ra z<|Rw z<|Wq<|bdB hmm λuo hud hmp=>Wt (λa w=>∃V,V=uo/\Sat 31 [(2,vB V)] a/\Below O.z O w) ?_ ?_
 .refine Wg<|RM z z ?_;rcases bs rk with G | G
  .refine Rh z G (mv z)<|bdB (ifT hud G) λrq er hms=>Eg z z G z (fc call157 z<|l_9 (B:=B) er kM hn) ?_;rintro _ _ ⟨st,rfl,_⟩;exact Rh z G (mv z)<|Rh z G (a_Q z z)<|R z (pT z G z)<|Ra z<|Wl (λ_ q=>⟨rq.b==x1.b,som hms,kaA q,st⟩)
  iterate 4 refine Nh z G ?_
  exact R z (pF z G z)<|Ra z<|Wl (λ_ q=>⟨false,som<|ifF hud G,kaA q,br O⟩)
 rintro au _ ⟨V,rfl,_,_⟩;revert au;exact Wo<|Wr<|rS1 hmp hr z ⟨kW,z⟩
def Q23 (w0:World)(B:Zone)(r:(List Str)×Bool)(v:Value)(w':World):Prop:=Bw w0 w'/\un2 (λr1 r2=>∃G H I,v = .tuple #[sl G H I,vB r2]/\repS w' w'.z (sl G H I) r1) r
theorem W_w3o {x1:Str}{res:(List Str)×Bool}(hm:k_t n x1=some res)(af:B<=w0.z)(Y:x1.b.length<=LEN):g_ prog 88 [Str.v x1] w0 (Q23 w0 B res):=by
 unfold k_t at hm;refine goG func88 z z z λfn hr=>Ws<|Ra z<|Rw z<|Wq<|Wm z<|R z (a_Q z z)<|Wx z (λW=>?_) (λW=>?_)
 .refine Ws<|E z (f0 (α:=Str) a_q) ?_;rintro _ _ ⟨ay,nz,ah,rfl,ai,aj⟩;exact Ra z<|Rw z<|Wr<|rS2 (ifT hm W) hr z z ⟨ai,ay,nz,ah,z,c_.rep aj⟩
 refine Wk<|Wm z<|bdB (ifF hm W) λak al a0=>E z (fc call144 z<|W_w1n (B:=B) al af Y) ?_;rintro _ I ⟨_,aa,nb,cc,_,rfl,h5,_,_⟩;refine Rw z<|Wq<|Ws<|Rw z<|bdB a0 λ_ a1 hmj=>b_6 (σ:=Int) (ρ:=(List Str)×Bool) (λ(x4:Int) a w=>Sat 49 [(4,sl aa nb cc),(5,vI x4)] a/\Below I.z I w/\inI x4) (λ(x4:Int) a w=>Sat 49 [(4,sl aa nb cc)] a/\Below I.z I w/\inI x4) (rQ prog fn<|Q23 w0 B) a1 ?_ ?_ ?_ ?_
 .exact λ_ q=>⟨kaA q,br I,ii z⟩
 .rintro x4 _ wk _ ⟨a2,am,hl⟩ hmm;refine Wu ?_ a2;refine Wq<|Wm z<|Rm z<|R z (lnR z_ z<|or_ kO<|c_.lt h5)<|Rl z z z<|Wx z (λhcd=>?_) (λhcd=>?_)
  .refine Wk<|Wq<|Wb<|Wq<|bdB (ifT hmm hcd) λan a3 hmn=>Wt (λa w=>∃xe,xe=an/\Sat 49 [(4,sl aa nb cc),(5,vI x4),(36,vB xe)] a/\Below wk.z wk w) ?_ ?_
   .refine Wg<|RM z z<|bdB a3 λ_ ap a4=>xA (α:=Str) z z_ z_9 z z z (or_ (B:=bl I.z) kO<|c_.lt h5) ap λ_ _ _ aq ar _=>?_;obtain ⟨rfl,av⟩:=a_e ar;refine R z (l0 g_9 z<|aq.at0 z)<|bdB a4 λaw ax hmo=>EcA z (fc call145 z<|W_w1p (B:=B) ax kM av) λ_ sf=>R z (not_ z)<|Rm z ?_;rcases bs (!aw) with G | G
    .refine Rh z G (mv z)<|Rh z G (mv z)<|bdB (ifT hmo G) λaz aA hmp=>RXg z z G z (at_ (α:=Str) z_ z_9 z z z (or_ (B:=bl I.z) kO<|c_.lt h5) aA) ?_;rintro _ ⟨_,_,_,rfl,aB,aC,_⟩;obtain ⟨rfl,_⟩:=a_e aC;refine Rh z G (l0 g_9 z<|aB.at0 z)<|Rh z G (e_z z z)<|R z (pT z G z)<|Rm z ?_;rcases bs (az.b != (⟨[35]⟩:Str).b) with H | H
     .refine Rh z H (mv z)<|Rh z H (mv z)<|bdB (ifT hmp H) λaD aE a5=>RXg z z H z (at_ (α:=Str) z_ z_9 z z z (or_ (B:=bl I.z) kO<|c_.lt h5) aE) ?_;rintro _ ⟨_,_,_,rfl,aF,aG,_⟩;obtain ⟨rfl,_⟩:=a_e aG;exact Rh z H (l0 g_9 z<|aF.at0 z)<|Rh z H (e_z z z)<|R z (pT z H z)<|Wl (λ_ q=>⟨aD.b != (⟨[46,46]⟩:Str).b,som a5,kaA q,sf⟩)
     iterate 5 refine Nh z H ?_
     exact R z (pF z H z)<|Wl (λ_ q=>⟨false,som<|ifF hmp H,kaA q,sf⟩)
    iterate 5 refine Nh z G ?_
    exact R z (pF z G z)<|Rm z<|Nh z z<|Nh z z<|Nh z z<|Nh z z<|Nh z z<|R z (pF z z z)<|Wl (λ_ q=>⟨false,som<|ifF hmo G,kaA q,sf⟩)
   rintro aH _ ⟨xe,rfl,_,_⟩;revert aH;refine Wo<|Wc z (λhcg=>?_) (λhcg=>?_)
   .refine Ws<|E z (f0 (α:=Str) a_q) ?_;rintro _ _ ⟨aI,aJ,aK,rfl,_,aL⟩;exact Ra z<|Rw z<|Wr<|rtO<|qL (som<|ifT hmn hcg).symm<|b_r hr z z ⟨kW,aI,aJ,aK,z,c_.rep aL⟩
   exact Wk<|Wg<|Rm z<|R z (add_ z z)<|Ra z<|Wl (λ_ q=>⟨e_ x4 1,(som<|ifF hmn hcg).symm,⟨kaA q,kW,iA _ _⟩⟩)
  exact We<|λ_ q=>a_X (som<|ifF hmm hcd).symm ⟨kaA q,am,hl⟩
 .rintro x4 aM wq rfl ⟨_,_,hl⟩;have a7:=elL hmj;revert aM;refine Wo<|Wq<|bdB a7 λaN a8 a9=>Wt (λa w=>∃xh xi,(xh,xi)=aN/\∃L O V,Sat 49 [(2,sl L O V),(3,vB xi)] a/\Below wq.z wq w/\repS w I.z (sl L O V) xh) ?_ ?_
  .refine Wd (X:=noX) 0 (pl_ 13 []) mo (by kernel_rfl) λaV sr _=>dM z z z<|bdB a8 λxs aO ab=>dRX z z (rX z_ z_9 z z (or_ kO<|c_.lt h5) z z aO) ?_;rintro _ ⟨au,nt,cv,rfl,hw⟩;refine dM z z z<|bdB ab λaP aQ hmx=>dxA (α:=Str) z z z_ z_9 z z z (or_ (B:=bl I.z) kO<|c_.lt h5) aQ λ_ _ _ aR aS _=>?_;obtain ⟨rfl,_⟩:=a_e aS;refine dR z z (l0 g_9 z<|aR.at0 z)<|dR z z (a_Q z z)<|dM z z z ?_;rcases bs (aP.b==(⟨[]⟩:Str).b) with J | J
   .exact dRg z z z J z (mv z)<|dRg z z z J z (lnR z_ z<|or_ kO<|c_.lt h5)<|dRg z z z J z (T_ z z)<|dR z z (pT z J z)<|dQ z z z<|dQ z z z<|pD (λ_ q=>⟨xs,decide<|1<(ak.length:Int),som<|ifT hmx J,au,nt,cv,kaA q,sr,hw⟩)
   iterate 3 refine dRn z z z J z ?_
   exact dR z z (pF z J z)<|dQ z z z<|dQ z z z<|pD (λ_ q=>⟨xs,false,som<|ifF hmx J,au,nt,cv,kaA q,sr,hw⟩)
  rintro aT _ ⟨xh,xi,rfl,L,O,V,_,_,aU⟩;revert aT;exact Wo<|Wr<|rS2 (a_0 a9) hr z z ⟨kW,L,O,V,z,repS.mono aU<|O_ kM⟩
 exact lqA hmj λ_ _ h=>h.2
def Q24 (w0:World)(B:Zone)(r:(List Str)×Bool)(v:Value)(w':World):Prop:=Bw w0 w'/\un2 (λr1 r2=>∃G H I,v = .tuple #[sl G H I,vB r2]/\repS w' (zn B w0.z w'.z) (sl G H I) r1) r
end Go.Vw
