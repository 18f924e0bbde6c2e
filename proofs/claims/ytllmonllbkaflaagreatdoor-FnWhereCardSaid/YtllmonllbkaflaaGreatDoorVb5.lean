
import Derived.Test.YtllmonllbkaflaaGreatDoorVb4
set_option linter.unusedVariables false
namespace Go.Vw
open Go.RowKit Dat Go.Proofs
set_option maxHeartbeats 1000000
open Go.Proofs.Tryz
open Go.Vw renaming a_c->Wq,a_E->Wg,WC.of_KC->Wo,a_f->Wl,b_Z->Wc,c_r->Wr,e_X->Wu,g_S->pT,g_T->pF,f_T->fd,b_w->l1,f_U->lN,b_8->mv,c_A->asg,e_T->lnR,e_n->lss,f_Y->eql,f_V->ext_,f_J->bP,f_W->add_,e_R->inc_,d_4->not_,d_O->at_,d_J->fc,a_O->fs,d_i->fb,c_u->fa,c_j->sr,f_H->cr,f_I->cM,c_1->bM,g_K->iS,g_J->iA,e_Q->br,b_0->oA,g_P->bs,f_B->lg,f_C->io,f_1->nq,h_6->lnT,h_7->sb_,g_R->ar_,g_Q->al_,b_B->ds,h_n->m1,f_F->nr_,f_E->nl_,d_N->aa_,c_w->an_,c_V->Wb,f_z->u8,g_y->pD,e_H->We,g_M->Wt,e_P->fS,e_G->or_,h_0->Wf,g_Y->qL,g_x->Wd,g_V->fN,f_D->na_,f_G->nj,d_P->f0,g_U->rX,g_W->tl_,g_X->ic
variable {A0:Option Addr}{N0 C0:Nat}{B:Zone}{w0:World}{n:Nat}{A5:Option Addr}{N5 C5:Nat}{AB:Option Addr}{AA:Option Addr}{AC:Option Addr}{AD:Option Addr}{NB CB:Nat}{NA CA:Nat}{NC CC:Nat}{ND CD:Nat}{A7:Option Addr}{A8:Option Addr}{N7 C7:Nat}{N8 C8:Nat}{A2:Option Addr}{A3:Option Addr}{A1:Option Addr}{A4:Option Addr}{N2 C2:Nat}{N3 C3:Nat}{N1 C1:Nat}{N4 C4:Nat}{A9:Option Addr}{N9 C9:Nat}{A6:Option Addr}{N6 C6:Nat}
theorem W_w2r {x1:Bt}{x2:Int}{x3:UInt8}{res:Bt×Int×Bool}(hm:i_F n x1 x2 x3=some res)(aP:B<=w0.z)(aO:rp w0 B A0 N0 C0 x1)(a0:inI x2):f_ prog 101 [sl A0 N0 C0,vI x2,vU<|byteI x3] w0 (Q19 w0 B res):=by
 unfold i_F at hm;refine goG func101 z z z λfn hr=>Ws<|RA z z<|Rw z<|Ws<|E z (f0 (α:=UInt8) Y_) ?_;rintro _ O ⟨ar,ns,ct,rfl,_,hu⟩;refine Rw z<|Wq<|Wm z<|Rw z ?_;obtain ⟨_,huv,hmi⟩:=bdS hm;refine c_a (σ:=Bt×Int) (ρ:=Bt×Int×Bool) (λs a w=>un2 (λV x4=>∃H I J G,Sat 54 [(0,sl A0 N0 C0),(1,vI x2),(2,vU<|byteI x3),(9,sl H I J),(10,vI x4)] a/\Cg [w0.z] O w/\a_ w G (sl H I J) V/\G.Nodup/\(∀k∈G,k∈[w0.z]∨O.z<=k)/\inI x4) s) (λs a w=>un2 (λV x4=>∃H I J G,Sat 54 [(1,vI x2)] a/\Cg [w0.z] O w/\a_ w G (sl H I J) V/\G.Nodup/\(∀k∈G,k∈[w0.z]∨O.z<=k)/\inI x4) s) (rQ prog fn<|Q19 w0 B) huv ?_ ?_ ?_ ?_
 .exact λ_ q=>⟨ar,ns,ct,[w0.z],kaA q,cr [w0.z] O,hu,a_j,sQ,a0⟩
 .rintro ⟨V,x4⟩ _ wj _ ⟨H,I,J,G,hSw,_,hx,W,hy,hb⟩ hmz;refine Wu ?_ hSw;refine Wq<|Wq<|bdB (a_F hmz) λad a3 hmk=>Wt (λa w=>∃(xc:Bool),xc=ad/\Sat 54 [(0,sl A0 N0 C0),(1,vI x2),(2,vU<|byteI x3),(9,sl H I J),(10,vI x4),(22,vB xc)] a/\Below wj.z wj w) ?_ ?_
  .refine Wg<|RM z z<|R z (lnR k_ z kR)<|bdB a3 λae af hml=>EcA z (fc call97 z<|b_F (B:=B) af kM a0 (ii z)<|a_S<|repS.len kR) λ_ sm=>Rm z ?_;rcases bs ae with L | L
   .exact Rh z L (mv z)<|Rh z L (mv z)<|Rh z L (lnR k_ z kR)<|Rh z L (lss z z)<|R z (pT z L z)<|Wl (λ_ q=>⟨decide<|x4<(x1.length:Int),som<|ifT hml L,kaA q,sm⟩)
   iterate 4 refine Nh z L ?_
   exact R z (pF z L z)<|Wl (λ_ q=>⟨false,som<|ifF hml L,kaA q,sm⟩)
  rintro ah wa ⟨xc,rfl,_,_⟩;revert ah;refine Wo<|Wc z (λhcd=>?_) (λhcd=>?_)
  .refine Wk<|Wq<|Wb<|Wq<|Wm z<|Rm z<|bdB (ifT hmk hcd) λ_ ai hmn=>xA (α:=UInt8) z k_ z_5 z z z kR ai λ_ _ _ aj ak _=>?_;obtain rfl:=u8 ak;refine R z (l0 g_5 z<|aj.at0 z)<|Rm z<|Rq z z z<|Wx z (λhce=>?_) (λhce=>?_)
   .exact Wm z<|Rm z<|R z (add_ z z)<|RA z z<|Rw z<|Wr<|rtO<|qL (som<|ifT hmn hce).symm<|c_X hr z z z ⟨kW,H,I,J,G,z,kO,iA _ _,W,sQ⟩
   refine Wk<|Wq<|Wm z<|Rm z<|bdB (ifF hmn hce) λ_ al a4=>xA (α:=UInt8) z k_ z_5 z z z kR al λ_ _ _ am an _=>?_;obtain rfl:=u8 an;refine R z (l0 g_5 z<|am.at0 z)<|Rq z z z<|Wn<|bdB a4 λap huo hmp=>Wt (λa w=>∃(Y:Int),Sum.inl Y=ap/\Sat 54 [(0,sl A0 N0 C0),(1,vI x2),(2,vU<|byteI x3),(9,sl H I J),(10,vI Y)] a/\Below wa.z wa w/\inI Y) ?_ ?_
   .refine Wc z (λhcf=>?_)<|λhcf=>?_
    .have hmq:=ifT huo hcf;refine Wm z<|R z (add_ z z)<|Rw z<|Wm z<|Rm z<|R z (lnR k_ z kR)<|Rq z z z<|Wx z (λhcg=>?_) (λhcg=>?_)
     .obtain rfl:=som<|ifT hmq hcg;have a5:=elR hmp;exact We<|exO z (λ_ q=>b_I (som a5).symm ⟨H,I,J,G,kaA q,kW,kO,W,sQ,iA _ _⟩)
     exact M_<|λ_ q=>⟨d_ x4 1,som<|ifF hmq hcg,kaA q,br wa,iA _ _⟩
    exact M_<|λ_ q=>⟨x4,som<|ifF huo hcf,kaA q,br wa,hb⟩
   rintro aq au ⟨Y,rfl,_,_,_⟩;have a6:=elL hmp;revert aq;refine Wo<|Wg<|RM z z<|Rm z<|bdB a6 λav aw a7=>xA (α:=UInt8) z k_ z_5 z z z kR aw λ_ _ _ ax ay _=>?_;obtain rfl:=u8 ay;refine R z (l0 g_5 z<|ax.at0 z)<|EvA z (fS [(.tmp 49)] Y_ z z z (G_ z) (lb z)<|lb z) λaz hh=>have:=hh.below;have a2:Blk az au.z [vU (byteI av)]:=hh.blk;have:=a_a hh b_3;bdB a7 λaA aB a8=>E z (a_o (α:=UInt8) Y_ aB z z kO W a2 b_3 an_ q_) ?_;rintro _ _ ⟨aC,aD,aE,aF,rfl,_,aG,aH,_⟩;exact Rw z<|Wg<|Rm z<|R z (add_ z z)<|Ra z<|Wl (λ_ q=>⟨(aA,d_ Y 1),(som a8).symm,⟨aD,aE,aF,aC,kaA q,kW,aG,aH,sQ,iA _ _⟩⟩)
  exact We<|λ_ q=>b_I (som<|ifF hmk hcd).symm ⟨H,I,J,G,kaA q,kW,kO,W,sQ,hb⟩
 .rintro ⟨V,x4⟩ aI aJ rfl ⟨H,I,J,G,_,_,hx,W,hy,hb⟩;have a9:=elL hmi;revert aI;refine Wo<|Ws<|E z (f0 (α:=UInt8) Y_) ?_;rintro _ _ ⟨aK,aL,aM,rfl,_,aN⟩;exact Rm z<|RA z z<|Rw z<|Wr<|rS3 (a_F a9) hr z z z ⟨kW,aK,aL,aM,[aJ.z],z,aN,a0,a_j,sQ⟩
 exact lqA hmi λ_ _ h=>h.2
structure l_p (f:c_->Int->Bt->Int->Option (Val×Int×Int)):Prop where
  run:∀{A0 A9:Option Addr}{N0 C0 N9 C9:Nat}{B:Zone}{x1:c_}{x2:Int}{x3:Bt}{x4:Int}{res:Val×Int×Int}{w0:World}(hm:f x1 x2 x3 x4=some res)(hBw:B<=w0.z)(p1_0:rp w0 B A0 N0 C0 x1.rules)(p2_0:inI x2)(p3_0:rp w0 B A9 N9 C9 x3)(p4_0:inI x4),f_ prog 47 [(.agg #[sl A0 N0 C0]),vI x2,sl A9 N9 C9,vI x4] w0<|Q18 w0 B res
structure l_q (f:c_->b_->Int->Int->Bt->Int->Option (Val×Int×Int)):Prop where
  run:∀{A0 A2 A3 A1 A4 AF:Option Addr}{N0 C0 N2 C2 N3 C3 N1 C1 N4 C4 NF CF:Nat}{B:Zone}{x1:c_}{x2:b_}{x3:Int}{x4:Int}{x5:Bt}{x6:Int}{res:Val×Int×Int}{w0:World}(hm:f x1 x2 x3 x4 x5 x6=some res)(hBw:B<=w0.z)(p1_0:rp w0 B A0 N0 C0 x1.rules)(p2_0:x2.name.b.length<=LEN)(p2_1:inI x2.kind)(p2_2:inI x2.size)(p2_4:rp w0 B A2 N2 C2 x2.bytes)(p2_5:rp w0 B A3 N3 C3 x2.names)(p2_6:rp w0 B A1 N1 C1 x2.tags)(p2_7:rp w0 B A4 N4 C4 x2.kids)(p3_0:inI x3)(p4_0:inI x4)(p5_0:rp w0 B AF NF CF x5)(p6_0:inI x6),f_ prog 102 [(.agg #[sl A0 N0 C0]),.agg #[Str.v x2.name,vI x2.kind,vI x2.size,vB x2.little,sl A2 N2 C2,sl A3 N3 C3,sl A1 N1 C1,sl A4 N4 C4],vI x3,vI x4,sl AF NF CF,vI x6] w0<|Q18 w0 B res
structure l_r (f:c_->b_->Bt->Int->Option (Val×Int×Int)):Prop where
  run:∀{A0 A2 A3 A1 A4 A9:Option Addr}{N0 C0 N2 C2 N3 C3 N1 C1 N4 C4 N9 C9:Nat}{B:Zone}{x1:c_}{x2:b_}{x3:Bt}{x4:Int}{res:Val×Int×Int}{w0:World}(hm:f x1 x2 x3 x4=some res)(hBw:B<=w0.z)(p1_0:rp w0 B A0 N0 C0 x1.rules)(p2_0:x2.name.b.length<=LEN)(p2_1:inI x2.kind)(p2_2:inI x2.size)(p2_4:rp w0 B A2 N2 C2 x2.bytes)(p2_5:rp w0 B A3 N3 C3 x2.names)(p2_6:rp w0 B A1 N1 C1 x2.tags)(p2_7:rp w0 B A4 N4 C4 x2.kids)(p3_0:rp w0 B A9 N9 C9 x3)(p4_0:inI x4),f_ prog 103 [(.agg #[sl A0 N0 C0]),.agg #[Str.v x2.name,vI x2.kind,vI x2.size,vB x2.little,sl A2 N2 C2,sl A3 N3 C3,sl A1 N1 C1,sl A4 N4 C4],sl A9 N9 C9,vI x4] w0<|Q18 w0 B res
structure l_s (f:c_->b_->Bt->Int->Option (Val×Int×Int)):Prop where
  run:∀{A0 A2 A3 A1 A4 A9:Option Addr}{N0 C0 N2 C2 N3 C3 N1 C1 N4 C4 N9 C9:Nat}{B:Zone}{x1:c_}{x2:b_}{x3:Bt}{x4:Int}{res:Val×Int×Int}{w0:World}(hm:f x1 x2 x3 x4=some res)(hBw:B<=w0.z)(p1_0:rp w0 B A0 N0 C0 x1.rules)(p2_0:x2.name.b.length<=LEN)(p2_1:inI x2.kind)(p2_2:inI x2.size)(p2_4:rp w0 B A2 N2 C2 x2.bytes)(p2_5:rp w0 B A3 N3 C3 x2.names)(p2_6:rp w0 B A1 N1 C1 x2.tags)(p2_7:rp w0 B A4 N4 C4 x2.kids)(p3_0:rp w0 B A9 N9 C9 x3)(p4_0:inI x4),f_ prog 104 [(.agg #[sl A0 N0 C0]),.agg #[Str.v x2.name,vI x2.kind,vI x2.size,vB x2.little,sl A2 N2 C2,sl A3 N3 C3,sl A1 N1 C1,sl A4 N4 C4],sl A9 N9 C9,vI x4] w0<|Q18 w0 B res
structure l_t (f:c_->b_->Bt->Int->Option (Val×Int×Int)):Prop where
  run:∀{A0 A2 A3 A1 A4 A9:Option Addr}{N0 C0 N2 C2 N3 C3 N1 C1 N4 C4 N9 C9:Nat}{B:Zone}{x1:c_}{x2:b_}{x3:Bt}{x4:Int}{res:Val×Int×Int}{w0:World}(hm:f x1 x2 x3 x4=some res)(hBw:B<=w0.z)(p1_0:rp w0 B A0 N0 C0 x1.rules)(p2_0:x2.name.b.length<=LEN)(p2_1:inI x2.kind)(p2_2:inI x2.size)(p2_4:rp w0 B A2 N2 C2 x2.bytes)(p2_5:rp w0 B A3 N3 C3 x2.names)(p2_6:rp w0 B A1 N1 C1 x2.tags)(p2_7:rp w0 B A4 N4 C4 x2.kids)(p3_0:rp w0 B A9 N9 C9 x3)(p4_0:inI x4),f_ prog 105 [(.agg #[sl A0 N0 C0]),.agg #[Str.v x2.name,vI x2.kind,vI x2.size,vB x2.little,sl A2 N2 C2,sl A3 N3 C3,sl A1 N1 C1,sl A4 N4 C4],sl A9 N9 C9,vI x4] w0<|Q18 w0 B res
abbrev h_3 (n:Nat):Prop:=l_p (a_w n).spec_l11Read/\l_q (a_w n).spec_l11Items/\l_r (a_w n).spec_l11Choice/\l_s (a_w n).spec_l11Option/\l_t (a_w n).spec_l11Checked
theorem T_w02 (ih:h_3 n):l_p (i_G n<|a_w n):=by
 obtain ⟨_,ap,bM,bN,bO⟩:=ih;constructor;intro A0 A9 N0 C0 N9 C9 B x1 x2 x3 x4 res w0 hm dy dw bA dx G;unfold i_G at hm;refine goG func47 z z z λfn hr=>Ws<|EvX [sl A0 N0 C0] z z z λdz _ _=>EvZ [vI 0,sN,sN] z a_9 z λdA _ _=>Ra z<|Rw z<|Ws<|Rf z H_ z<|R z (l0 I_ z kBa)<|Rm z<|bdB hm λx5 bP a7=>xA (α:=b_) z J_ h_ z z z kR bP λ_ _ _ bR bS _=>?_;obtain ⟨I,J,L,O,V,W,Y,n9,ca,ab,nc,cd,rfl,hf,hg,he,_,_,_,_⟩:=a_x bS;refine R z (lN (vs:=vR x5 I J L O V W Y n9 ca ab nc cd) z_ h_ z z fid bR)<|EvZ [(Str.v (⟨[]⟩:Str)),vI 0,vI 0,vB false,sN,sN,sN,sN] z b_E z λdB _ bB=>E0q (vR x5 I J L O V W Y n9 ca ab nc cd) h_ z z bB z λdC H _=>Wn<|Wq<|Ws<|Rf z a_l z<|R z (l0 g_3 z<|H.at z)<|Wn<|Wb<|Ws<|Rq z z z<|Rw z<|Wc z (λhch=>?_) (λhch=>?_)
 .refine Ws<|R z (lC [sl A0 N0 C0] l_ j_ z)<|RM z z<|Rm z ?_;obtain ⟨aq,_,_,bT,a9⟩:=i_<|ifT a7 hch;refine E z (fc call93 z<|i_7 (B:=B) bT kM kR bA kR G) ?_;rintro _ _ ⟨_,rfl,bU,bV⟩;refine Rm z ?_;iterate 3 refine Re z z z ?_
  refine RA z z<|Rw z<|Wq<|Wm z<|R z (not_ z)<|Wx z (λhci=>?_) (λhci=>?_)
  .exact Ws<|R z (bQ [] [vI 0,sN,sN] a_1 z z)<|Rm z<|E0q [vI 0,sN,sN] e_ z z kB z λdD bW _=>Ra z<|Rw z<|Wr<|rtO<|rS3 (ifT a9 hci) hr (o_ s_ e_ z bW z) z z ⟨kW,none,0,0,[],none,0,0,[],z,ii z,onL,onL,G,ii z,nd0,sQ⟩
  exact Wk<|Wm z<|R z (bQ [(0,.tmp 43)] [vI aq,sN,sN] a_1 z z)<|Rm z<|E0q [vI aq,sN,sN] e_ z z kB z λdF bX _=>Ra z<|Rw z<|Wr<|rtO<|rS3 (ifF a9 hci) hr (o_ s_ e_ z bX z) z z ⟨kW,none,0,0,[],none,0,0,[],z,bU,onL,onL,bV,ii z,nd0,sQ⟩
 have aa:=ifF a7 hch;refine Ws<|Rq z z z<|Rw z<|Wc z (λhcj=>?_) (λhcj=>?_)
 .refine Ws<|R z (lN (vs:=vR x5 I J L O V W Y n9 ca ab nc cd) z_ h_ z z fid<|H.row 0 8 z)<|RM z z ?_;obtain ⟨rk,_,_,bY,bC⟩:=i_<|ifT aa hcj;refine E z (fc call99 z<|W_w2q (B:=B) bY kM hf hg he kR kR kR kR kR G) ?_;rintro _ _ ⟨_,ar,au,av,bZ,aw,ax,ay,c0,rfl,c1,_,_,c2,c4,c5,c6⟩;obtain ⟨bi,bj,_,_,_⟩:=U_ c5 c6;iterate 3 refine Re z z z ?_
  exact E0q [vI rk.number,sl ar au av,sl aw ax ay] e_ z z kB z λdG c8 _=>Ra z<|Rw z<|Wr<|rtO<|rS3 bC hr (o_ s_ e_ z c8 z) z z ⟨kW,ar,au,av,bZ,aw,ax,ay,c0,z,c1,kO (l:=rk.bytes),kO (l:=rk.items),c2,c4,na_ bi bj sQ,sQ⟩
 have ad:=ifF aa hcj;refine Ws<|Rq z z z<|Rw z<|Wc z (λhcl=>?_) (λhcl=>?_)
 .refine Wm z<|Rm z<|Rf z a_B z<|R z (l0 g_3 z<|H.at z) ?_;obtain ⟨rm,_,_,c9,bD⟩:=i_<|ifT ad hcl;refine E z (fc call100 z<|W_w1l (B:=B) c9 kM kR G he) ?_;rintro _ _ ⟨_,az,aA,aB,cb,aC,aD,aE,cc,rfl,ce,_,_,cf,cg,ch,ci⟩;obtain ⟨bk,bm,_,_,_⟩:=U_ ch ci;iterate 3 refine Re z z z ?_
  exact E0q [vI rm.number,sl az aA aB,sl aC aD aE] e_ z z kB z λdH cj _=>Ra z<|Rw z<|Wr<|rtO<|rS3 bD hr (o_ s_ e_ z cj z) z z ⟨kW,az,aA,aB,cb,aC,aD,aE,cc,z,ce,kO (l:=rm.bytes),kO (l:=rm.items),cf,cg,na_ bk bm sQ,sQ⟩
 have ae:=ifF ad hcl;refine Ws<|Rq z z z<|Rw z<|Wc z (λhcn=>?_) (λhcn=>?_)
 .refine Wm z<|Rm z<|Rf z b_2 z<|R z (l0 K_ z<|H.at z)<|bdB (ifT ae hcn) λ_ ck bE=>xA (α:=UInt8) z k_ z_5 z z z kR ck λ_ _ _ cl cm _=>?_;obtain rfl:=u8 cm;refine R z (l0 g_5 z<|cl.at0 z) ?_;obtain ⟨cn,_,_,co,af⟩:=i_ bE;refine E z (fc call101 z<|W_w2r (B:=B) co kM kR G) ?_;rintro _ _ ⟨_,ao,np,cq,cp,rfl,_,cr,ct,_⟩;refine Rm z ?_;iterate 3 refine Re z z z ?_
  refine RA z z<|Rw z<|Wq<|Wm z<|R z (not_ z)<|Wx z (λhcr=>?_) (λhcr=>?_)
  .exact Ws<|R z (bQ [] [vI 0,sN,sN] a_1 z z)<|Rm z<|E0q [vI 0,sN,sN] e_ z z kB z λdI cu _=>Ra z<|Rw z<|Wr<|rtO<|rS3 (ifT af hcr) hr (o_ s_ e_ z cu z) z z ⟨kW,none,0,0,[],none,0,0,[],z,ii z,onL,onL,G,ii z,nd0,sQ⟩
  exact Wk<|Wm z<|R z (bQ [(1,.tmp 82)] [vI 0,sl ao np cq,sN] a_1 z z)<|Rm z<|E0q [vI 0,sl ao np cq,sN] e_ z z kB z λdJ cv _=>Ra z<|Rw z<|Wr<|rtO<|rS3 (ifF af hcr) hr (o_ s_ e_ z cv z) z z ⟨kW,ao,np,cq,cp,none,0,0,[],z,ii z,kO (l:=cn),onL,cr,ii z,na_ ct q_ sQ,sQ⟩
 have ah:=ifF ae hcn;refine Ws<|Rq z z z<|Rw z<|Wc z (λhcs=>?_) (λhcs=>?_)
 .refine Ws<|R z (lC [sl A0 N0 C0] l_ j_ z)<|R z (lN (vs:=vR x5 I J L O V W Y n9 ca ab nc cd) z_ h_ z z fid<|H.row 0 8 z)<|Rf z E_ z<|R z (l0 v_ z<|H.at z)<|R z (lnR u_ z kR)<|RM z z ?_;obtain ⟨rt,_,_,cw,bF⟩:=i_<|ifT ah hcs;refine E z (fc call102 z<|ap.run (B:=B) cw kM kR hf hg he kR kR kR kR (ii z) (a_S<|repS.len kR) kR G) ?_;rintro _ _ ⟨_,aF,aG,aH,cx,aI,aJ,aK,cy,rfl,cz,_,_,cA,cB,cC,cD⟩;obtain ⟨bn,bo,_,_,_⟩:=U_ cC cD;iterate 3 refine Re z z z ?_
  exact E0q [vI rt.number,sl aF aG aH,sl aI aJ aK] e_ z z kB z λdK cE _=>Ra z<|Rw z<|Wr<|rtO<|rS3 bF hr (o_ s_ e_ z cE z) z z ⟨kW,aF,aG,aH,cx,aI,aJ,aK,cy,z,cz,kO (l:=rt.bytes),kO (l:=rt.items),cA,cB,na_ bn bo sQ,sQ⟩
 have ai:=ifF ah hcs;refine Ws<|Rq z z z<|Rw z<|Wc z (λhcu=>?_) (λhcu=>?_)
 .refine Ws<|R z (lC [sl A0 N0 C0] l_ j_ z)<|R z (lN (vs:=vR x5 I J L O V W Y n9 ca ab nc cd) z_ h_ z z fid<|H.row 0 8 z)<|RM z z ?_;obtain ⟨rv,_,_,cF,bG⟩:=i_<|ifT ai hcu;refine E z (fc call103 z<|bM.run (B:=B) cF kM kR hf hg he kR kR kR kR kR G) ?_;rintro _ _ ⟨_,aL,aM,aN,cG,aO,aP,aQ,cH,rfl,cI,_,_,cJ,cK,cL,cM⟩;obtain ⟨bp,bq,_,_,_⟩:=U_ cL cM;iterate 3 refine Re z z z ?_
  exact E0q [vI rv.number,sl aL aM aN,sl aO aP aQ] e_ z z kB z λdL cN _=>Ra z<|Rw z<|Wr<|rtO<|rS3 bG hr (o_ s_ e_ z cN z) z z ⟨kW,aL,aM,aN,cG,aO,aP,aQ,cH,z,cI,kO (l:=rv.bytes),kO (l:=rv.items),cJ,cK,na_ bp bq sQ,sQ⟩
 have aj:=ifF ai hcu;refine Ws<|Rq z z z<|Rw z<|Wc z (λhcw=>?_) (λhcw=>?_)
 .refine Ws<|R z (lC [sl A0 N0 C0] l_ j_ z)<|R z (lN (vs:=vR x5 I J L O V W Y n9 ca ab nc cd) z_ h_ z z fid<|H.row 0 8 z)<|RM z z ?_;obtain ⟨rx,_,_,cO,bH⟩:=i_<|ifT aj hcw;refine E z (fc call104 z<|bN.run (B:=B) cO kM kR hf hg he kR kR kR kR kR G) ?_;rintro _ _ ⟨_,aR,aS,aT,cP,aU,aV,aW,cQ,rfl,cR,_,_,cS,cT,cU,cV⟩;obtain ⟨br,bs,_,_,_⟩:=U_ cU cV;iterate 3 refine Re z z z ?_
  exact E0q [vI rx.number,sl aR aS aT,sl aU aV aW] e_ z z kB z λdN cW _=>Ra z<|Rw z<|Wr<|rtO<|rS3 bH hr (o_ s_ e_ z cW z) z z ⟨kW,aR,aS,aT,cP,aU,aV,aW,cQ,z,cR,kO (l:=rx.bytes),kO (l:=rx.items),cS,cT,na_ br bs sQ,sQ⟩
 have ak:=ifF aj hcw;refine Ws<|Rq z z z<|Rw z<|Wc z (λhcy=>?_) (λhcy=>?_)
 .refine Ws<|R z (lC [sl A0 N0 C0] l_ j_ z)<|R z (lN (vs:=vR x5 I J L O V W Y n9 ca ab nc cd) z_ h_ z z fid<|H.row 0 8 z)<|RM z z ?_;obtain ⟨rz,_,_,cX,bI⟩:=i_<|ifT ak hcy;refine E z (fc call105 z<|bO.run (B:=B) cX kM kR hf hg he kR kR kR kR kR G) ?_;rintro _ _ ⟨_,aX,aY,aZ,cY,b0,b1,b2,cZ,rfl,d0,_,_,d1,d2,d3,d4⟩;obtain ⟨bt,bu,_,_,_⟩:=U_ d3 d4;iterate 3 refine Re z z z ?_
  exact E0q [vI rz.number,sl aX aY aZ,sl b0 b1 b2] e_ z z kB z λdO d5 _=>Ra z<|Rw z<|Wr<|rtO<|rS3 bI hr (o_ s_ e_ z d5 z) z z ⟨kW,aX,aY,aZ,cY,b0,b1,b2,cZ,z,d0,kO (l:=rz.bytes),kO (l:=rz.items),d1,d2,na_ bt bu sQ,sQ⟩
 refine Wk<|Wq (Wd (X:=noX) 0 (pl_ 15 [7]) mo (by kernel_rfl) λdP dT _=>dR z z (lC [sl A0 N0 C0] l_ j_ z)<|dR z z (fd E_ z)<|dR z z (l0 v_ z kBa) ?_);refine bdB (ifF ak hcy) λ_ d6 bJ=>dxA (α:=Int) z z u_ z_3 z z z kR d6 λ_ _ _ d7 d8 _=>?_;obtain ⟨rfl,d9⟩:=a_u d8;refine dR z z (l0 g_3 z<|d7.at0 z)<|dM z z z<|dM z z z ?_;obtain ⟨_,_,_,da,al⟩:=i_ bJ;refine dE z z (fc call93 z<|i_7 (B:=B) da kM kR d9 kR G) iB ?_;rintro _ _ ⟨_,rfl,b3,b4⟩;refine dM z z z ?_;iterate 3 refine dR z z (ext_ z z) ?_
 iterate 3 refine dQ z z z ?_
 refine pD<|Wo<|Wq<|Wb<|Wm z<|R z (not_ z)<|Rw z<|Wc z (λa0=>?_) (λa0=>?_)
 .exact Ws<|R z (bQ [] [vI 0,sN,sN] a_1 z z)<|Rm z<|E0q [vI 0,sN,sN] e_ z z kB z λdU db _=>Ra z<|Rw z<|Wr<|rtO<|rS3 (ifT al a0) hr (o_ s_ e_ z db z) z z ⟨kW,none,0,0,[],none,0,0,[],z,ii z,onL,onL,G,ii z,nd0,sQ⟩
 have am:=ifF al a0;refine Ws<|Rf z a_l z<|R z (l0 g_3 z kBa)<|Rq z z z<|Rw z<|Wc z (λa2=>?_) (λa2=>?_)
 .refine Wm z<|RM z z ?_;obtain ⟨a5,_,_,dc,bK⟩:=i_<|ifT am a2;refine E z (fc call100 z<|W_w1l (B:=B) dc kM kR b4 b3) ?_;rintro _ _ ⟨_,b5,b6,b7,dd,b8,b9,ba,de,rfl,df,_,_,dg,dh,di,dj⟩;obtain ⟨bv,bw,_,_,_⟩:=U_ di dj;iterate 3 refine Re z z z ?_
  exact E0q [vI a5.number,sl b5 b6 b7,sl b8 b9 ba] e_ z z kB z λdV dk _=>Ra z<|Rw z<|Wr<|rtO<|rS3 bK hr (o_ s_ e_ z dk z) z z ⟨kW,b5,b6,b7,dd,b8,b9,ba,de,z,df,kO (l:=a5.bytes),kO (l:=a5.items),dg,dh,na_ bv bw sQ,sQ⟩
 have an:=ifF am a2;refine Wm z<|R z (a_2 z z)<|Rw z<|Wc z (λa3=>?_) (λa3=>?_)
 .exact Ws<|R z (bQ [] [vI 0,sN,sN] a_1 z z)<|Rm z<|E0q [vI 0,sN,sN] e_ z z kB z λdW dl _=>Ra z<|Rw z<|Wr<|rtO<|rS3 (ifT an a3) hr (o_ s_ e_ z dl z) z z ⟨kW,none,0,0,[],none,0,0,[],z,ii z,onL,onL,G,ii z,nd0,sQ⟩
 refine Wk<|Ws<|R z (lC [sl A0 N0 C0] l_ j_ z)<|R z (lN (vs:=vR x5 I J L O V W Y n9 ca ab nc cd) z_ h_ z z fid<|kBr 0 8)<|RM z z<|Rm z ?_;obtain ⟨a6,_,_,dm,bL⟩:=i_<|ifF an a3;refine E z (fc call102 z<|ap.run (B:=B) dm kM kR hf hg he kR kR kR kR (ii z) b3 kR b4) ?_;rintro _ _ ⟨_,bb,bc,be,dn,bf,bg,bh,dp,rfl,dq,_,_,dr,ds,dt,du⟩;obtain ⟨bx,bz,_,_,_⟩:=U_ dt du;iterate 3 refine Re z z z ?_
 exact E0q [vI a6.number,sl bb bc be,sl bf bg bh] e_ z z kB z λdX dv _=>Ra z<|Rw z<|Wr<|rS3 bL hr (o_ s_ e_ z dv z) z z ⟨kW,bb,bc,be,dn,bf,bg,bh,dp,z,dq,kO (l:=a6.bytes),kO (l:=a6.items),dr,ds,na_ bx bz sQ,sQ⟩
theorem T_w1m (ih:h_3 n):l_q (i_H n<|a_w n):=by
 obtain ⟨a1,_,_,_,_⟩:=ih;constructor;intro A0 A2 A3 A1 A4 AF N0 C0 N2 C2 N3 C3 N1 C1 N4 C4 NF CF B x1 x2 x3 x4 x5 x6 res w0 hm cb c5 a2 a3 a4 c6 c7 c8 c9 a5 Y ca aN;unfold i_H at hm;refine goG func102 z z z λfn hr=>Ws<|EvX [sl A0 N0 C0] z z z λwn _ aO=>EvX (vR x2 A2 N2 C2 A3 N3 C3 A1 N1 C1 A4 N4 C4) z z z λwd _ aP=>EvZ [vI 0,sN,sN] z a_9 z λJ _ _=>Ra z<|Rw z<|Ws<|R z (bQ [] [vI 0,sN,sN] a_1 z z)<|EvZ [vI 0,sN,sN] z a_9 z λcc _ aQ=>E0q [vI 0,sN,sN] e_ z z aQ z λwe b4 _=>Wn<|Wq<|Ws<|Rw z ?_;obtain ⟨_,aR,a6⟩:=bdS hm;refine Wf (σ:=Int×(List Val)) (ρ:=Val×Int×Int) (λ(kw:Nat) s a w=>un2 (λL O=>∃G H I S3,Sat 52 [(2,vI x3),(3,vI x4),(4,sl AF NF CF),(5,vI L),(6,pt w0.z),(7,pt wn.z),(12,pt wd.z),(15,pt J.z),(16,vI ((kw:Nat):Int))] a/\Cg [J.z] we w/\inI L/\a_ w S3 (sl G H I) O/\S3.Nodup/\(∀k∈S3,we.z<=k)/\Blk w J.z [vI 0,sN,sl G H I]) s) (λs a w=>un2 (λL O=>∃G H I S3,Sat 52 [(5,vI L),(12,pt wd.z),(15,pt J.z)] a/\Cg [J.z] we w/\inI L/\a_ w S3 (sl G H I) O/\S3.Nodup/\(∀k∈S3,we.z<=k)/\Blk w J.z [vI 0,sN,sl G H I]) s) (rQ prog fn<|Q18 w0 B) aR ?_ ?_ ?_ ?_ ?_
 .exact λ_ q=>⟨none,0,0,[],kaA q,cr [J.z] we,aN,onL,q_,an_,b4⟩
 .rintro kw ⟨L,O⟩ _ wb _ hko ⟨G,H,I,S3,aS,_,h5,hx,hf,hy,hp⟩ aT;refine Wu ?_ aS;refine Wq<|Wm z<|Rm z<|Rl z z z<|Wx z (λ_=>?_) (λhc=>(j_C hko hc).elim);refine Wk<|Wq<|Wb<|Wq<|bdB (a_F aT) λb5 a7 aU=>Wt (λa w=>∃(V:Int)(xq:Bt)(xr:List Val)(xg:Int)(xs:Int),(V,xq,xr,xg,xs)=b5/\∃ah ni cj W ak nl cm Sa gc,Sat 52 [(2,vI x3),(3,vI x4),(4,sl AF NF CF),(6,pt w0.z),(7,pt wn.z),(12,pt wd.z),(15,pt J.z),(16,vI ((kw:Nat):Int)),(17,pt gc),(18,vI xg),(19,vI xs)] a/\Below wb.z wb w/\inI V/\a_ w W (sl ah ni cj) xq/\W.Nodup/\(∀k∈W,wb.z<=k)/\a_ w Sa (sl ak nl cm) xr/\Sa.Nodup/\(∀k∈Sa,wb.z<=k)/\(∀k∈Sa,k∉W)/\inI xg/\inI xs/\Blk w gc [vI V,sl ah ni cj,sl ak nl cm]/\wb.z<=gc/\(∀k∈W,k∉[gc])/\(∀k∈Sa,k∉[gc])) ?_ ?_
  .refine Wd (X:=λk=>k∈([]:List Nat)∨wb.z<=k) 0 (.rd 0<|.rd 1<|.rd 2<|.rd 3<|.rd 5<|.rd 6<|.br 4 (.br 7 (.rd 8<|.rd 9<|.rd 10<|.rd 11<|.ef 12<|.ef 13<|.rd 14<|.rd 15 .done) 12<|.ef 7<|.rd 8<|.rd 9<|.rd 10<|.rd 11<|.ef 13<|.rd 14<|.rd 15 .done) 12<|.ef 4<|.ef 7<|.rd 8<|.rd 9<|.rd 10<|.rd 11<|.ef 13<|.rd 14<|.rd 15 .done) mo (by kernel_rfl) λb6 cd _=>dR z z (lN (vs:=[sl A0 N0 C0]) l_ j_ z z (a_H nm0<|Nat.lt_of_lt_of_le aO.lt kM)<|kBr 0 1)<|dR z z (lN (vs:=vR x2 A2 N2 C2 A3 N3 C3 A1 N1 C1 A4 N4 C4) z_ h_ z z (a_H nm0<|Nat.lt_of_lt_of_le aP.lt kM)<|kBr 0 8) ?_;iterate 4 refine dM z z z ?_
   refine g_z ?_ ?_
   .refine bdB a7 λ_ b7 a8=>dE z z (fc call55 z<|d_n (B:=B) b7 kM a2 a3 a4 kR kR kR kR a5<|ic (Nat.le_of_lt hko)<|tl_ Y) iB ?_;rintro _ b8 ⟨_,rfl,aa⟩;refine g_z ?_ ?_
    .obtain ⟨rt,b9,ba,bb,aV⟩:=i_ a8;refine dE z z (fc call47 z<|a1.run (B:=B) bb kM kR aa kR h5) iB ?_;rintro _ bc ⟨_,ab,ad,ae,be,af,ai,aj,bf,rfl,bg,_,_,bh,bi,bj,bk⟩;obtain ⟨aF,aG,_,_,_⟩:=U_ bj bk;refine dM z z z ?_;iterate 3 refine dR z z (ext_ z z) ?_
     exact dNb [vI 0,sN,sN] z z a_9 z λce _ aH=>dS [vI rt.number,sl ab ad ae,sl af ai aj] z e_ z z aH z sQ λcf bm _=>dQ z z z<|dQ z z z<|pD (λ_ q=>⟨rt.number,rt.bytes,rt.items,b9,ba,som aV,ab,ad,ae,be,af,ai,aj,bf,bc.z,q.k<|sc z<|sc z<|sc z<|sc z<|sc z<|sc z<|sc z<|sc z<|sc z<|sc z<|sc z sn,kW,bg,kO,aF,sQ,kO,aG,sQ,sQ,bh,bi,bm,sQ,sQ,sQ⟩)
    refine dNb [vI 0,sN,sN] z z a_9 z λcg _ _=>?_;obtain ⟨ru,bn,bo,bp,aW⟩:=i_ a8;refine dE z z (fc call47 z<|a1.run (B:=B) bp kM kR aa kR h5) iB ?_;rintro _ _ ⟨_,al,am,an,bq,ap,aq,ar,bs,rfl,bt,_,_,bu,bv,bw,bx⟩;obtain ⟨aI,aJ,_,_,_⟩:=U_ bw bx;refine dM z z z ?_;iterate 3 refine dR z z (ext_ z z) ?_
    exact dS [vI ru.number,sl al am an,sl ap aq ar] z e_ z z kB z sQ λch bz _=>dQ z z z<|dQ z z z<|pD (λ_ q=>⟨ru.number,ru.bytes,ru.items,bn,bo,som aW,al,am,an,bq,ap,aq,ar,bs,b8.z,q.k<|sc z<|sc z<|sc z<|sc z<|sc z<|sc z<|sc z<|sc z<|sc z<|sc z<|sc z sn,kW,bt,kO,aI,sQ,kO,aJ,sQ,sQ,bu,bv,bz,sQ,sQ,sQ⟩)
   refine dNb [vI 0,sN,sN] z z a_9 z λci _ _=>bdB a7 λ_ bA aX=>dE z z (fc call55 z<|d_n (B:=B) bA kM a2 a3 a4 kR kR kR kR a5<|ic (Nat.le_of_lt hko)<|tl_ Y) iB ?_;rintro _ _ ⟨_,rfl,bB⟩;obtain ⟨rv,bC,bD,bE,aY⟩:=i_ aX;refine dE z z (fc call47 z<|a1.run (B:=B) bE kM kR bB kR h5) iB ?_;rintro _ _ ⟨_,au,av,aw,bF,ax,ay,az,bG,rfl,bH,_,_,bI,bJ,bK,bL⟩;obtain ⟨aK,aL,_,_,_⟩:=U_ bK bL;refine dM z z z ?_;iterate 3 refine dR z z (ext_ z z) ?_
   exact dS [vI rv.number,sl au av aw,sl ax ay az] z e_ z z kB z sQ λck bM _=>dQ z z z<|dQ z z z<|pD (λ_ q=>⟨rv.number,rv.bytes,rv.items,bC,bD,som aY,au,av,aw,bF,ax,ay,az,bG,b6.z,q.k<|sc z<|sc z<|sc z<|sc z<|sc z<|sc z<|sc z<|sc z<|sc z<|sc z<|sc z sn,kW,bH,kO,aK,sQ,kO,aL,sQ,sQ,bI,bJ,bM,sQ,sQ,sQ⟩)
  rintro bN bO ⟨V,xq,xr,xg,xs,rfl,ah,ni,cj,W,ak,nl,cm,Sa,gc,_,_,bP,_,bR,_,_,bS,_,_,aA,bT,bU,_,_,_⟩;have a9:=d_j aU;revert bN;refine Wo<|Wq<|Wm z<|R z (nq z z)<|Wx z (λhcz=>?_) (λhcz=>?_)
  .exact Ws<|R z (bQ [] [vI 0,sN,sN] a_1 z z)<|RM z z<|E0q [vI 0,sN,sN] e_ z z kB z λcl bV _=>Ra z<|Rw z<|Wr<|rtO<|qL (som<|ifT a9 hcz).symm<|c_X hr (o_ s_ e_ z bV z) z z ⟨kW,none,0,0,[],none,0,0,[],z,ii z,onL,onL,aA,bT,nd0,sQ⟩
  refine Wk<|Ws<|Rf z a_4 z<|R z (l0 a_k z kBa)<|R z (lN (vs:=[vI V,sl ah ni cj,sl ak nl cm]) s_ e_ z z fid<|bU.row 0 3 z)<|EvA z (fS [(.tmp 45)] d_l z z z (G_ z) (lb z)<|lb z) λbW aB=>have:=aB.below;have aM:Blk bW bO.z [vI V,sl ah ni cj,sl ak nl cm]:=aB.blk;bdB (ifF a9 hcz) λbX bY aZ=>E z (a_o (α:=Val) d_l bY z z kO hf aM (f_r (x:=(⟨V,xq,xr⟩:Val)) (S1:=W) (S2:=Sa) bP kO kO) sQ<|na_ bR bS sQ) ?_;rintro _ _ ⟨bZ,aC,aD,aE,rfl,_,_,c0,_⟩;exact Rf z a_4 z<|E0q [vI 0,sN,sl aC aD aE] f_N z z kB z λcn c1 _=>Wn<|Wg<|Rm z<|Rw z<|Wg<|Rm z<|R z (inc_ hko (tl_ Y) z z)<|Ra z<|Wl (λ_ q=>⟨(xg,bX),(som aZ).symm,⟨aC,aD,aE,bZ,kaA q,kW,aA,kO,c0,sQ,c1⟩⟩)
 .rintro ⟨L,O⟩ _ _ ⟨G,H,I,S3,b0,_,h5,hx,hf,hy,hp⟩;refine Wu ?_ b0;refine Wq<|Wm z<|Rm z<|Rl z z z<|Wx z (λhc=>(j_D hc).elim) (λ_=>?_);exact We<|λ_ q=>⟨rfl,⟨G,H,I,S3,kaA q,kW,h5,hx,hf,hy,hp⟩⟩
 .rintro ⟨L,O⟩ c3 _ rfl ⟨G,H,I,S3,_,_,h5,hx,hf,hy,hp⟩;have b1:=elL a6;revert c3;refine Wo<|Ws<|R z (lC [vI 0,sN,sl G H I] s_ e_ z)<|Rm z<|E0q [vI 0,sN,sl G H I] e_ z z kB z λco c4 _=>?_;exact Ra z<|Rw z<|Wr<|rS3 (a_F b1) hr (o_ s_ e_ z c4 z) z z ⟨kW,none,0,0,[],G,H,I,S3,z,ii z,onL,kO (l:=O),h5,ii z,na_ q_ hf an_,sQ⟩
 exact lqA a6 λ_ _ h=>h.2
theorem T_w1n (ih:h_3 n):l_r (i_I n<|a_w n):=by
 obtain ⟨_,aa,_,_,_⟩:=ih;constructor;intro A0 A2 A3 A1 A4 A9 N0 C0 N2 C2 N3 C3 N1 C1 N4 C4 N9 C9 B x1 x2 x3 x4 res w0 hm aC aw a1 a2 a4 ax ay az aA aB Y;unfold i_I at hm;refine goG func103 z z z λfn hr=>Ws<|EvX [sl A0 N0 C0] z z z λwe _ _=>EvX (vR x2 A2 N2 C2 A3 N3 C3 A1 N1 C1 A4 N4 C4) z z z λw9 _ _=>EvZ [vI 0,sN,sN] z a_9 z λwp _ _=>Ra z<|Rw z<|Wq (Wd (X:=noX) 0 (pl_ 15 [7]) mo (by kernel_rfl) λaD aE _=>dR z z (lC [sl A0 N0 C0] l_ j_ z)<|dR z z (fd E_ z)<|dR z z (l0 v_ z kBa) ?_);refine bdB hm λ_ eq hmr=>dxA (α:=Int) z z u_ z_3 z z z kR eq λ_ _ _ ht hu _=>?_;obtain ⟨rfl,hv⟩:=a_u hu;refine dR z z (l0 g_3 z<|ht.at0 z)<|dM z z z<|dM z z z ?_;obtain ⟨ri,_,_,es,hmj⟩:=i_ hmr;refine dE z z (fc call93 z<|i_7 (B:=B) es kM kR hv kR Y) iB ?_;rintro _ _ ⟨_,rfl,ha,hw⟩;refine dM z z z ?_;iterate 3 refine dR z z (ext_ z z) ?_
 iterate 3 refine dQ z z z ?_
 refine pD<|Wo<|Wq<|Wm z<|R z (not_ z)<|Wx z (λhcb=>?_) (λhcb=>?_)
 .exact Ws<|R z (bQ [] [vI 0,sN,sN] a_1 z z)<|Rm z<|E0q [vI 0,sN,sN] e_ z z kB z λaF hx _=>Ra z<|Rw z<|Wr<|rS3 (ifT hmj hcb) hr (o_ s_ e_ z hx z) z z ⟨kW,none,0,0,[],none,0,0,[],z,ii z,onL,onL,Y,ii z,nd0,sQ⟩
 refine Wk<|Wq<|Ws<|R z (lN (vs:=vR x2 A2 N2 C2 A3 N3 C3 A1 N1 C1 A4 N4 C4) z_ h_ z z fid<|kBr 0 8)<|Rm z<|bdB (ifF hmj hcb) λ_ ez hmk=>E z (fc call55 z<|d_n (B:=B) ez kM a1 a2 a4 kR kR kR kR ha<|ii z) ?_;rintro _ _ ⟨_,rfl,_⟩;refine Rl z z z<|Wx z (λhcc=>?_) (λhcc=>?_)
 .exact Ws<|R z (bQ [] [vI 0,sN,sN] a_1 z z)<|Rm z<|E0q [vI 0,sN,sN] e_ z z kB z λaG ab _=>Ra z<|Rw z<|Wr<|rS3 (ifT hmk hcc) hr (o_ s_ e_ z ab z) z z ⟨kW,none,0,0,[],none,0,0,[],z,ii z,onL,onL,Y,ii z,nd0,sQ⟩
 refine Wk<|Ws<|R z (lC [sl A0 N0 C0] l_ j_ z)<|R z (lN (vs:=vR x2 A2 N2 C2 A3 N3 C3 A1 N1 C1 A4 N4 C4) z_ h_ z z fid<|kBr 0 8)<|RM z z<|Rm z ?_;obtain ⟨V,ad,ae,af,a8⟩:=i_<|ifF hmk hcc;refine E z (fc call102 z<|aa.run (B:=B) af kM kR a1 a2 a4 kR kR kR kR ha (ii z) kR hw) ?_;rintro _ W ⟨_,G,H,I,ah,J,L,O,ai,rfl,aj,_,_,ak,al,am,an⟩;obtain ⟨a5,a6,_,_,_⟩:=U_ am an;refine Rm z ?_;iterate 3 refine Re z z z ?_
 refine EvZ [vI 0,sN,sN] z a_9 z λaH _ a7=>E0q [vI V.number,sl G H I,sl J L O] e_ z z a7 z λwm hn _=>Ra z<|Rw z<|Wq<|Wm z<|Rq z z z<|Wn<|bdB a8 λap huo a9=>Wt (λa w=>∃(x6:Int),x6=ap/\Sat 56 [(8,pt w9.z),(14,pt W.z),(15,vI ad),(16,vI ae)] a/\Cg [W.z] wm w/\inI x6/\Blk w W.z [vI x6,sl G H I,sl J L O]) ?_ ?_
 .refine Wc z (λhcd=>?_)<|λhcd=>?_
  .exact Wg<|Rm z<|Rf z b_4 z<|E0q [vI ri,sl G H I,sl J L O] z_3 z z hn z λaI aq _=>Wl<|λ_ q=>⟨ri,som<|ifT huo hcd,kaA q,kW,ha,aq⟩
  exact M_<|λ_ q=>⟨V.number,som<|ifF huo hcd,kaA q,cr [W.z] wm,aj,hn⟩
 rintro ar _ ⟨x6,rfl,_,_,au,_⟩;revert ar;exact Wo<|Ws<|R z (lC [vI x6,sl G H I,sl J L O] s_ e_ z)<|RM z z<|E0q [vI x6,sl G H I,sl J L O] e_ z z kB z λaJ av _=>Ra z<|Rw z<|Wr<|rS3 a9 hr (o_ s_ e_ z av z) z z ⟨kW,G,H,I,ah,J,L,O,ai,z,au,kO (l:=V.bytes),kO (l:=V.items),ak,al,na_ a5 a6 sQ,sQ⟩
theorem T_w1o (ih:h_3 n):l_s (i_J n<|a_w n):=by
 obtain ⟨_,a2,_,_,_⟩:=ih;constructor;intro A0 A2 A3 A1 A4 A9 N0 C0 N2 C2 N3 C3 N1 C1 N4 C4 N9 C9 B x1 x2 x3 x4 res w0 hm ad a5 Y a0 a1 a6 a7 a8 aa ab I;unfold i_J at hm;refine goG func104 z z z λfn hr=>Ws<|EvX [sl A0 N0 C0] z z z λw3 _ _=>EvX (vR x2 A2 N2 C2 A3 N3 C3 A1 N1 C1 A4 N4 C4) z z z λw5 _ _=>EvZ [vI 0,sN,sN] z a_9 z λwf _ J=>Ra z<|Rw z<|Wq<|Wb<|Wm z<|Rm z<|R z (lnR k_ z kR)<|R z (b_T z z)<|Rw z<|Wc z (λG=>?_) (λG=>?_)
 .exact Ws<|R z (bQ [] [vI 0,sN,sN] a_1 z z)<|Rm z<|E0q [vI 0,sN,sN] e_ z z J z λae hg _=>Ra z<|Rw z<|Wr<|rtO<|rS3 (ifT hm G) hr (o_ s_ e_ z hg z) z z ⟨kW,none,0,0,[],none,0,0,[],z,ii z,onL,onL,I,ii z,nd0,sQ⟩
 refine Wm z<|Rm z<|bdB (ifF hm G) λ_ ei L=>xA (α:=UInt8) z k_ z_5 z z z kR ei λ_ _ _ hj hk _=>?_;obtain rfl:=u8 hk;refine R z (l0 g_5 z<|hj.at0 z)<|R z (a_2 z z)<|Rw z<|Wc z (λH=>?_) (λH=>?_)
 .exact Ws<|R z (bQ [] [vI 0,sN,sN] a_1 z z)<|Rm z<|E0q [vI 0,sN,sN] e_ z z J z λaf hl _=>Ra z<|Rw z<|Wr<|rtO<|rS3 (ifT L H) hr (o_ s_ e_ z hl z) z z ⟨kW,none,0,0,[],none,0,0,[],z,ii z,onL,onL,I,ii z,nd0,sQ⟩
 refine Wk<|Wq (Wd (X:=noX) 16384 (pl_ 17 [10,14]) mo (by kernel_rfl) λah ai _=>dR z z (lC [sl A0 N0 C0] l_ j_ z)<|dR z z (lN (vs:=vR x2 A2 N2 C2 A3 N3 C3 A1 N1 C1 A4 N4 C4) z_ h_ z z fid<|kBr 0 8)<|dM z z z<|dM z z z ?_);refine bdB (ifF L H) λ_ en hmo=>dxA (α:=UInt8) z z k_ z_5 z z z kR en λ_ _ _ hp hq _=>?_;obtain rfl:=u8 hq;refine dR z z (l0 g_5 z<|hp.at0 z)<|dR z z (c_0 d_5 d_3 z)<|dM z z z<|dM z z z<|dR z z (add_ z z) ?_;obtain ⟨r2,_,_,er,hms⟩:=i_ hmo;refine dE z z (fc call102 z<|a2.run (B:=B) er kM kR Y a0 a1 kR kR kR kR (ii z) (l_7 _) kR<|iA _ _) iB ?_;rintro _ _ ⟨_,O,na,cb,St,ac,nd,ce,Su,rfl,hv,_,_,hw,hx,hy,hz⟩;obtain ⟨V,W,_,_,_⟩:=U_ hy hz;iterate 3 refine dR z z (ext_ z z) ?_
 refine dE0 z (fs0 (cur':=[vI r2.number,sl O na cb,sl ac nd ce]) e_ z z kB z z z z) (.inl z) ?_;rintro _ _ ⟨a3,a4⟩;have:=a4.one;exact dQ z z z<|dQ z z z<|pD<|Wo<|Wr<|rS3 hms hr (o_ s_ e_ z a3 z) z z ⟨kW,O,na,cb,St,ac,nd,ce,Su,z,hv,kO (l:=r2.bytes),kO (l:=r2.items),hw,hx,na_ V W sQ,sQ⟩
theorem T_w1p (ih:h_3 n):l_t (i_K n<|a_w n):=by
 obtain ⟨_,ab,_,_,_⟩:=ih;constructor;intro A0 A2 A3 A1 A4 A9 N0 C0 N2 C2 N3 C3 N1 C1 N4 C4 N9 C9 B x1 x2 x3 x4 res w0 hm av am a3 a5 a6 an ap aq ar au a7;unfold i_K at hm;refine goG func105 z z z λfn hr=>Ws<|EvX [sl A0 N0 C0] z z z λwb _ _=>EvX (vR x2 A2 N2 C2 A3 N3 C3 A1 N1 C1 A4 N4 C4) z z z λwd _ _=>EvZ [vI 0,sN,sN] z a_9 z λwn _ _=>Ra z<|Rw z<|Ws<|R z (lC [sl A0 N0 C0] l_ j_ z)<|R z (lN (vs:=vR x2 A2 N2 C2 A3 N3 C3 A1 N1 C1 A4 N4 C4) z_ h_ z z fid<|kBr 0 8)<|RM z z ?_;obtain ⟨G,_,_,eo,hmg⟩:=i_ hm;refine E z (fc call102 z<|ab.run (B:=B) eo kM kR a3 a5 a6 kR kR kR kR (ii z) (ii z) kR a7) ?_;rintro _ _ ⟨_,H,I,J,Sh,L,O,V,Si,rfl,hj,_,_,h7,hq,ht,hu⟩;obtain ⟨a0,a2,_,_,_⟩:=U_ ht hu;refine Rm z ?_;iterate 3 refine Re z z z ?_
 refine EvZ [vI 0,sN,sN] z a_9 z λwr _ a8=>E0q [vI G.number,sl H I J,sl L O V] e_ z z a8 z λaw hv _=>Ra z<|Rw z<|Wq<|Wb<|Wm z<|R z (nq z z)<|Rw z<|Wc z (λW=>?_) (λW=>?_)
 .exact Ws<|R z (lC [vI G.number,sl H I J,sl L O V] s_ e_ z)<|RM z z<|E0q [vI G.number,sl H I J,sl L O V] e_ z z kB z λax hw _=>Ra z<|Rw z<|Wr<|rtO<|rS3 (ifT hmg W) hr (o_ s_ e_ z hw z) z z ⟨kW,H,I,J,Sh,L,O,V,Si,z,hj,kO (l:=G.bytes),kO (l:=G.items),h7,hq,na_ a0 a2 sQ,sQ⟩
 have hml:=ifF hmg W;refine Wm z<|Rm z<|R z (lnR k_ z kR)<|R z (b_T z z)<|Rw z<|Wc z (λY=>?_) (λY=>?_)
 .exact Ws<|R z (bQ [] [vI 0,sN,sN] a_1 z z)<|Rm z<|E0q [vI 0,sN,sN] e_ z z kB z λay hy _=>Ra z<|Rw z<|Wr<|rtO<|rS3 (ifT hml Y) hr (o_ s_ e_ z hy z) z z ⟨kW,none,0,0,[],none,0,0,[],z,ii z,onL,onL,h7,ii z,nd0,sQ⟩
 refine Wq (Wd (X:=noX) 0 (pl_ 12 [9]) mo (by kernel_rfl) λaz aA _=>dM z z z<|dM z z z ?_);refine bdB (ifF hml Y) λ_ ad a9=>dxA (α:=UInt8) z z k_ z_5 z z z kR ad λ_ _ _ ae af _=>?_;obtain rfl:=u8 af;refine dR z z (l0 g_5 z<|ae.at0 z)<|dR z z (c_0 d_5 d_3 z) ?_;iterate 3 refine dM z z z ?_
 refine bdB a9 λ_ ah aa=>dRX z z (rX k_ z_5 z z kR z z ah) ?_;rintro _ ⟨_,_,_,rfl,ai⟩;refine bdB aa λ_ aj hmm=>dE z z (fc call57 z<|W_w1g (B:=B) aj kM ai) iB ?_;rintro _ _ ⟨_,rfl,_⟩;refine dR z z (nq z z)<|dQ z z z<|pD<|Wo<|Wc z (λhca=>?_) (λhca=>?_)
 .exact Ws<|R z (bQ [] [vI 0,sN,sN] a_1 z z)<|Rm z<|E0q [vI 0,sN,sN] e_ z z kB z λaB ak _=>Ra z<|Rw z<|Wr<|rtO<|rS3 (ifT hmm hca) hr (o_ s_ e_ z ak z) z z ⟨kW,none,0,0,[],none,0,0,[],z,ii z,onL,onL,h7,ii z,nd0,sQ⟩
 exact Wk<|Ws<|R z (lC [vI G.number,sl H I J,sl L O V] s_ e_ z)<|Rm z<|R z (add_ z z)<|E0q [vI G.number,sl H I J,sl L O V] e_ z z kB z λaC al _=>Ra z<|Rw z<|Wr<|rS3 (ifF hmm hca) hr (o_ s_ e_ z al z) z z ⟨kW,H,I,J,Sh,L,O,V,Si,z,hj,kO (l:=G.bytes),kO (l:=G.items),iA _ _,ii z,na_ a0 a2 sQ,sQ⟩
theorem d_S:∀n,h_3 n
  | 0=>⟨⟨λhm=>by intros;exact nomatch (show none=some _ from hm)⟩,⟨λhm=>by intros;exact nomatch (show none=some _ from hm)⟩,⟨λhm=>by intros;exact nomatch (show none=some _ from hm)⟩,⟨λhm=>by intros;exact nomatch (show none=some _ from hm)⟩,⟨λhm=>by intros;exact nomatch (show none=some _ from hm)⟩⟩
  | n+1=>⟨T_w02<|d_S n,T_w1m<|d_S n,T_w1n<|d_S n,T_w1o<|d_S n,T_w1p<|d_S n⟩
theorem i_8:l_p (a_w n).spec_l11Read:=(d_S n).1
theorem W_w1m:l_q (a_w n).spec_l11Items:=(d_S n).2.1
theorem W_w1n:l_r (a_w n).spec_l11Choice:=(d_S n).2.2.1
theorem W_w1o:l_s (a_w n).spec_l11Option:=(d_S n).2.2.2.1
theorem W_w1p:l_t (a_w n).spec_l11Checked:=(d_S n).2.2.2.2
theorem W_w2s {x1:c_}{x2:Int}{x3:Bt}{x4:Int}{x5:Str}{res:Int×Int×Bool}(hm:d_g n x1 x2 x3 x4 x5=some res)(aL:B<=w0.z)(aH:rp w0 B A0 N0 C0 x1.rules)(aI:inI x2)(aJ:rp w0 B A9 N9 C9 x3)(a0:inI x4)(aK:x5.b.length<=LEN):f_ prog 46 [(.agg #[sl A0 N0 C0]),vI x2,sl A9 N9 C9,vI x4,Str.v x5] w0 (Q16 w0 B res):=by
 unfold d_g at hm;refine goG func46 z z z λfn hr=>Ws<|EvX [sl A0 N0 C0] z z z λwh _ a2=>RA z z<|Rw z<|Ws<|Rf z H_ z<|R z (l0 I_ z<|a2.at z)<|Rm z<|bdB hm λx6 ew hmx=>xA (α:=b_) z J_ h_ z z z kR ew λ_ _ _ hy hz _=>?_;obtain ⟨G,H,I,J,L,O,V,W,ca,ab,nc,cd,rfl,hi,hj,hk,_,_,_,_⟩:=a_x hz;refine R z (lN (vs:=vR x6 G H I J L O V W ca ab nc cd) z_ h_ z z fid hy)<|EvZ [(Str.v (⟨[]⟩:Str)),vI 0,vI 0,vB false,sN,sN,sN,sN] z b_E z λaM _ a3=>E0q (vR x6 G H I J L O V W ca ab nc cd) h_ z z a3 z λaN ai _=>Wn<|Ws<|R z (lC [sl A0 N0 C0] l_ j_ z)<|R z (lN (vs:=vR x6 G H I J L O V W ca ab nc cd) z_ h_ z z fid<|ai.row 0 8 z)<|RM z z ?_;obtain ⟨_,aj,ak,al,a5⟩:=i_ hmx;refine E z (fc call98 z<|W_w2p (B:=B) al kM kR hi hj hk kR kR kR kR kR a0) ?_;rintro _ we ⟨_,rfl,am,hl,an⟩;refine Rm z ?_;iterate 3 refine Re z z z ?_
 refine RA z z<|Rw z<|Wq<|Ws<|Rw z<|bdB a5 λ_ a6 hmq=>Wf (σ:=Int) (ρ:=Int×Int×Bool) (λ(kr:Nat)(x0:Int) a w=>Sat 64 [(2,sl A9 N9 C9),(4,Str.v x5),(5,pt w0.z),(13,pt wh.z),(14,vI x0),(15,vI aj),(16,vI ak),(17,vI ((kr:Nat):Int))] a/\Below we.z we w/\inI x0) (λ(x0:Int) a w=>Sat 64 [] a/\Below we.z we w/\inI x0) (rQ prog fn<|Q16 w0 B) a6 ?_ ?_ ?_ ?_ ?_
 .exact λ_ q=>⟨kaA q,br we,am⟩
 .rintro kr x0 _ _ _ hkg ⟨a7,_,hf⟩ a9;refine Wu ?_ a7;refine Wq<|Wm z<|Rm z<|Rl z z z<|Wx z (λ_=>?_) (λhc=>(j_C hkg hc).elim);refine Wk<|Wq<|Wb<|Ws<|R z (lN (vs:=vR x6 G H I J L O V W ca ab nc cd) z_ h_ z z fid<|kBr 0 8)<|RM z z<|bdB a9 λ_ ap aa=>E z (fc call55 z<|d_n (B:=B) ap kM hi hj hk kR kR kR kR an<|ic (Nat.le_of_lt hkg)<|tl_ hl) ?_;rintro _ _ ⟨_,rfl,ht⟩;refine Rw z<|Wq<|Ws<|R z (lN (vs:=vR x6 G H I J L O V W ca ab nc cd) z_ h_ z z fid<|kBr 0 8)<|Rm z<|bdB aa λ_ aq hms=>E z (fc call94 z<|l_l (B:=B) aq kM hi hj hk kR kR kR kR<|ic (Nat.le_of_lt hkg)<|tl_ hl) ?_;rintro _ _ ⟨_,rfl,_⟩;refine Rm z<|R z (a_U z z)<|Wx z (λhcm=>?_) (λhcm=>?_)
  .exact Wm z<|Rm z<|RA z z<|Rw z<|Wr<|rtO<|qL (som<|ifT hms hcm).symm<|c_X hr z z z ⟨kW,z,ht,hf⟩
  refine Wk<|Ws<|R z (lC [sl A0 N0 C0] l_ j_ z)<|RM z z<|Rm z ?_;obtain ⟨ar,au,_,av,hmu⟩:=i_<|ifF hms hcm;refine E z (fc call47 z<|i_8.run (B:=B) av kM kR ht kR hf) ?_;rintro _ _ ⟨_,aw,ax,ay,_,az,aA,aB,_,rfl,_,_,_,aC,_,aD,aE⟩;obtain ⟨_,_,_,_,_⟩:=U_ aD aE;refine Rm z ?_;iterate 3 refine Re z z z ?_
  refine EvZ [vI 0,sN,sN] z a_9 z λaO _ Y=>E0q [vI ar.number,sl aw ax ay,sl az aA aB] e_ z z Y z λaP _ _=>Ra z<|Rw z<|Wq<|Wm z<|R z (nq z z)<|Wx z (λhcn=>?_) (λhcn=>?_)
  .exact Ws<|RA z z<|Rw z<|Wr<|rtO<|qL (som<|ifT hmu hcn).symm<|c_X hr z z z ⟨kW,z,ii z,ii z⟩
  exact Wk<|Wg<|Rm z<|Rw z<|Wg<|Rm z<|R z (inc_ hkg (tl_ hl) z z)<|Ra z<|Wl (λ_ q=>⟨au,(som<|ifF hmu hcn).symm,⟨kaA q,kW,aC⟩⟩)
 .rintro x0 _ _ ⟨ad,aF,hf⟩;refine Wu ?_ ad;refine Wq<|Wm z<|Rm z<|Rl z z z<|Wx z (λhc=>(j_D hc).elim) (λ_=>?_);exact We<|λ_ q=>⟨rfl,⟨q.k sn,aF,hf⟩⟩
 .rintro x0 aG _ rfl ⟨_,_,hf⟩;have ae:=elL hmq;revert aG;exact Wo<|Ws<|RA z z<|Rw z<|Wr<|rS3 ae hr z z z ⟨kW,z,ii z,ii z⟩
 exact lqA hmq λ_ _ h=>h.2
def Q20 (w0:World)(B:Zone)(r:g_×Bool)(v:Value)(w':World):Prop:=Bw w0 w'/\un2 (λr1 r2=>v = .tuple #[(.agg #[Str.v r1.path,vI r1.rule,vI r1.start,vI r1.end_]),vB r2]/\r1.path.b.length<=LEN/\inI r1.rule/\inI r1.start/\inI r1.end_) r
theorem W_w1q {x1:c_}{x2:Bt}{x3:Str}{res:g_×Bool}(hm:f_g n x1 x2 x3=some res)(aK:B<=w0.z)(aI:rp w0 B A0 N0 C0 x1.rules)(aJ:rp w0 B A5 N5 C5 x2)(V:x3.b.length<=LEN):f_ prog 19 [(.agg #[sl A0 N0 C0]),sl A5 N5 C5,Str.v x3] w0 (Q20 w0 B res):=by
 unfold f_g at hm;refine goG func19 z z z λfn hr=>Ws<|EvX [sl A0 N0 C0] z z z λJ _ _=>EvZ [(Str.v (⟨[]⟩:Str)),vI 0,vI 0,vI 0] z i_3 z λws _ _=>Rw z<|Wm z ?_;obtain ⟨_,ru,ev,hmw⟩:=a_t hm;refine E z (fc call29 z<|l_o (B:=B) ev kM V) ?_;rintro _ L ⟨_,af,ng,ch,rfl,hx⟩;refine Rm z<|Re z z z<|Re z z z<|Ra z<|Rw z<|Wq<|Wq<|bdB hmw λuy hui hmj=>Wt (λa w=>∃(O:Bool),O=uy/\Sat 80 [(1,sl A5 N5 C5),(2,Str.v x3),(3,pt w0.z),(6,pt J.z),(8,sl af ng ch),(35,vB O)] a/\Below L.z L w) ?_ ?_
 .refine Wg<|Rm z<|R z (not_ z)<|Rm z ?_;rcases bs (!ru) with G | G
  .iterate 3 refine Nh z G ?_
   exact R z (pT z G z)<|Rm z<|Nh z z<|Nh z z<|Nh z z<|R z (pT z z z)<|Wl (λ_ q=>⟨true,som<|ifT hui G,kaA q,br L⟩)
  refine Rh z G (lC [sl A0 N0 C0] l_ j_ z)<|bdB (ifF hui G) λrz a8 hmk=>Eg z z G z (fc call45 z<|W_w1k (B:=B) a8 kM kR) ?_;rintro _ _ ⟨sm,rfl⟩;refine Rh z G (not_ z)<|R z (pF z G z)<|Rm z ?_;rcases bs (!rz) with H | H
  .iterate 3 refine Nh z H ?_
   exact R z (pT z H z)<|Wl (λ_ q=>⟨true,som<|ifT hmk H,kaA q,sm⟩)
  exact Rh z H (mv z)<|Rh z H (lnR k_ z kR)<|Rh z H (a_2 z z)<|R z (pF z H z)<|Wl (λ_ q=>⟨decide<|400<(x2.length:Int),som<|ifF hmk H,kaA q,sm⟩)
 rintro a9 _ ⟨O,rfl,_,_⟩;revert a9;refine Wo<|Wc z (λhca=>?_) (λhca=>?_)
 .exact Ws<|R z (bQ [] [(Str.v (⟨[]⟩:Str)),vI 0,vI 0,vI 0] h_1 z z)<|E0q [(Str.v (⟨[]⟩:Str)),vI 0,vI 0,vI 0] b_i z z kB z λaL aa _=>Rw z<|Wr<|rS2 (ifT hmj hca) hr (o_ e_f b_i z aa z) z ⟨kW,z,lb z,ii z,ii z,ii z⟩
 refine Wk<|Ws<|R z (lC [sl A0 N0 C0] l_ j_ z)<|bdB (ifF hmj hca) λ_ ab Y=>E z (fc call42 z<|j_V (B:=B) ab kM kR) ?_;rintro _ I ⟨_,rfl,ad⟩;refine Rw z<|Ws<|Rw z<|Wq<|Ws<|Rw z ?_;obtain ⟨_,a0,hml⟩:=bdS Y;refine Wf (σ:=Int×Int) (ρ:=g_×Bool) (λ(kn:Nat) s a w=>un2 (λx0 x4=>Sat 80 [(1,sl A5 N5 C5),(2,Str.v x3),(3,pt w0.z),(6,pt J.z),(8,sl af ng ch),(10,vI x0),(11,vI x4),(12,vI ((kn:Nat):Int))] a/\Below I.z I w/\inI x0/\inI x4) s) (λs a w=>un2 (λx0 x4=>Sat 80 [(1,sl A5 N5 C5),(2,Str.v x3),(3,pt w0.z),(6,pt J.z),(10,vI x0),(11,vI x4)] a/\Below I.z I w/\inI x0/\inI x4) s) (rQ prog fn<|Q20 w0 B) a0 ?_ ?_ ?_ ?_ ?_
 .exact λ_ q=>⟨kaA q,br I,ad,ii z⟩
 .rintro kn ⟨x0,x4⟩ _ _ _ hko ⟨a1,_,h3,h5⟩ a2;refine Wu ?_ a1;refine Wq<|Wm z<|Rm z<|R z (lnR C_ z kR)<|Rl z z z<|Wx z (λ_=>?_) (λhc=>(R_ hko hc).elim);refine Wk<|Wq<|Wb<|Wq (Wd (X:=noX) 0 (pl_ 16 [8]) mo (by kernel_rfl) λaM aN _=>dR z z (lC [sl A0 N0 C0] l_ j_ z) ?_);iterate 5 refine dM z z z ?_
  refine bdB (a_F a2) λ_ ae a3=>dxA (α:=Str) z z C_ z_9 z z z kR ae λ_ _ _ ah ai _=>?_;obtain ⟨rfl,aj⟩:=a_n ai;refine dR z z (l0 g_9 z<|ah.at0 z) ?_;obtain ⟨ak,al,_,am,hmp⟩:=i_ a3;refine dE z z (fc call46 z<|W_w2s (B:=B) am kM kR h3 kR h5 aj) iB ?_;rintro _ _ ⟨_,rfl,an,ap⟩;refine dM z z z ?_;iterate 3 refine dR z z (ext_ z z) ?_
  iterate 3 refine dQ z z z ?_
  refine pD<|Wo<|Wq<|Wm z<|R z (not_ z)<|Wx z (λhcb=>?_) (λhcb=>?_)
  .exact Ws<|R z (bQ [] [(Str.v (⟨[]⟩:Str)),vI 0,vI 0,vI 0] h_1 z z)<|E0q [(Str.v (⟨[]⟩:Str)),vI 0,vI 0,vI 0] b_i z z kB z λaO aq _=>Rw z<|Wr<|rtO<|qL (som<|ifT hmp hcb).symm<|c_9 hr (o_ e_f b_i z aq z) z ⟨kW,z,lb z,ii z,ii z,ii z⟩
  exact Wk<|Wm z<|Rw z<|Wg<|Rm z<|Rw z<|Wg<|Rm z<|R z (inc_ hko (lt_ (repS.len hx) x_) z z)<|Ra z<|Wl (λ_ q=>⟨(ak,al),(som<|ifF hmp hcb).symm,⟨kaA q,kW,an,ap⟩⟩)
 .rintro ⟨x0,x4⟩ _ _ ⟨a4,ar,h3,h5⟩;refine Wu ?_ a4;refine Wq<|Wm z<|Rm z<|R z (lnR C_ z kR)<|Rl z z z<|Wx z (λhc=>(S_ hc).elim) (λ_=>?_);exact We<|λ_ q=>⟨rfl,⟨kaA q,ar,h3,h5⟩⟩
 .rintro ⟨x0,x4⟩ au _ rfl ⟨_,_,h3,h5⟩;have a5:=elL hml;revert au;refine Wo<|Ws<|R z (lC [sl A0 N0 C0] l_ j_ z)<|RM z z<|Rm z ?_;obtain ⟨av,rq,_,aw,hmr⟩:=i_<|a_F a5;refine E z (fc call47 z<|i_8.run (B:=B) aw kM kR h3 kR h5) ?_;rintro _ _ ⟨_,ax,ay,az,_,aA,aB,aC,_,rfl,_,_,_,aD,_,aE,aF⟩;obtain ⟨_,_,_,_,_⟩:=U_ aE aF;refine Rm z ?_;iterate 3 refine Re z z z ?_
  refine EvZ [vI 0,sN,sN] z a_9 z λaP _ W=>E0q [vI av.number,sl ax ay az,sl aA aB aC] e_ z z W z λaQ _ _=>Ra z<|Rw z<|Wq<|Wm z<|R z (nq z z)<|Wx z (λhcc=>?_) (λhcc=>?_)
  .exact Ws<|R z (bQ [] [(Str.v (⟨[]⟩:Str)),vI 0,vI 0,vI 0] h_1 z z)<|E0q [(Str.v (⟨[]⟩:Str)),vI 0,vI 0,vI 0] b_i z z kB z λaR aG _=>Rw z<|Wr<|rS2 (ifT hmr hcc) hr (o_ e_f b_i z aG z) z ⟨kW,z,lb z,ii z,ii z,ii z⟩
  exact Wk<|Wm z<|RM z z<|Rm z<|R z (bQ [(0,.tmp 75),(1,.tmp 76),(2,.tmp 77),(3,.tmp 78)] [Str.v x3,vI x0,vI x4,vI rq] h_1 z z)<|E0q [Str.v x3,vI x0,vI x4,vI rq] b_i z z kB z λaS aH _=>Rw z<|Wr<|rS2 (ifF hmr hcc) hr (o_ e_f b_i z aH z) z ⟨kW,z,V,h3,h5,aD⟩
 exact lqA hml λ_ _ h=>h.2
def Q21 (w0:World)(B:Zone)(r:Val×Bool)(v:Value)(w':World):Prop:=Bw w0 w'/\un2 (λr1 r2=>∃G H I S1 a2 J L S2,v = .tuple #[(.agg #[vI r1.number,sl G H I,sl a2 J L]),vB r2]/\inI r1.number/\a_ w' S1 (sl G H I) r1.bytes/\a_ w' S2 (sl a2 J L) r1.items/\(S1++S2).Nodup/\(∀k∈(S1++S2),w0.z<=k)) r
theorem W_w2t {x1:c_}{x2:Bt}{x3:Str}{res:Val×Bool}(hm:j_6 n x1 x2 x3=some res)(a8:B<=w0.z)(a6:rp w0 B A0 N0 C0 x1.rules)(a7:rp w0 B A5 N5 C5 x2)(Y:x3.b.length<=LEN):f_ prog 20 [(.agg #[sl A0 N0 C0]),sl A5 N5 C5,Str.v x3] w0 (Q21 w0 B res):=by
 unfold j_6 at hm;refine goG func20 z z z λfn hr=>Ws<|EvX [sl A0 N0 C0] z z z λw9 _ _=>EvZ [vI 0,sN,sN] z a_9 z λwg _ _=>Rw z<|Ws<|R z (lC [sl A0 N0 C0] l_ j_ z)<|RM z z ?_;obtain ⟨r1,_,eh,hmc⟩:=a_t hm;refine E z (fc call19 z<|W_w1q (B:=B) eh kM kR kR Y) ?_;rintro _ _ ⟨_,rfl,_,hj,hk,_⟩;refine Rm z<|Re z z z<|Re z z z<|EvZ [(Str.v (⟨[]⟩:Str)),vI 0,vI 0,vI 0] z i_3 z λwl _ a0=>E0q [Str.v r1.path,vI r1.rule,vI r1.start,vI r1.end_] b_i z z a0 z λa9 he _=>Rw z<|Wq<|Wm z<|R z (not_ z)<|Wx z (λV=>?_) (λV=>?_)
 .exact Ws<|R z (bQ [] [vI 0,sN,sN] a_1 z z)<|E0q [vI 0,sN,sN] e_ z z kB z λaa hn _=>Rw z<|Wr<|rS2 (ifT hmc V) hr (o_ s_ e_ z hn z) z ⟨kW,none,0,0,[],none,0,0,[],z,ii z,onL,onL,nd0,sQ⟩
 refine Wk<|Ws<|R z (lC [sl A0 N0 C0] l_ j_ z)<|Rf z j_O z<|R z (l0 g_3 z<|he.at z)<|Rm z<|Rf z n_z z<|R z (l0 g_3 z<|he.at z) ?_;obtain ⟨G,_,_,ep,hmq⟩:=i_<|ifF hmc V;refine E z (fc call47 z<|i_8.run (B:=B) ep kM kR hj kR hk) ?_;rintro _ _ ⟨_,a2,H,I,Ss,J,L,O,St,rfl,hu,_,_,_,_,hv,hw⟩;obtain ⟨a1,a3,_,_,_⟩:=U_ hv hw;refine Rm z ?_;iterate 3 refine Re z z z ?_
 exact EvZ [vI 0,sN,sN] z a_9 z λwx _ W=>E0q [vI G.number,sl a2 H I,sl J L O] e_ z z W z λab hy _=>Ra z<|Rw z<|Ws<|R z (lC [vI G.number,sl a2 H I,sl J L O] s_ e_ z)<|E0q [vI G.number,sl a2 H I,sl J L O] e_ z z kB z λad a4 _=>Rw z<|Wr<|rS2 hmq hr (o_ s_ e_ z a4 z) z ⟨kW,a2,H,I,Ss,J,L,O,St,z,hu,kO (l:=G.bytes),kO (l:=G.items),na_ a1 a3 sQ,sQ⟩
theorem W_w1r {x1:c_}{x2:Int}{res:Bool}(hm:h_u x1 x2=some res)(a1:B<=w0.z)(a0:rp w0 B A0 N0 C0 x1.rules)(J:inI x2):f_ prog 106 [(.agg #[sl A0 N0 C0]),vI x2] w0 (Q0 w0 B res):=by
 unfold h_u at hm;refine goG func106 z z z λfn hr=>Ws<|EvX [sl A0 N0 C0] z z z λI _ L=>Rw z<|Wq<|bdB hm λW O V=>Wt (λa w=>∃(x3:Bool),x3=W/\Sat 15 [(4,vB x3)] a/\Below I.z I w) ?_ ?_
 .refine Wg<|Rm z<|Rf z H_ z<|R z (l0 I_ z<|L.at z)<|R z (lnR J_ z kR)<|R z (sb_ z z)<|bdB O λY e9 H=>EcA z (fc call97 z<|b_F (B:=B) e9 kM J (ii z)<|iS _ _) λ_ sa=>Rm z ?_;rcases bs Y with G | G
  .refine Rh z G (lC [sl A0 N0 C0] l_ j_ z)<|bdB (ifT H G) λrb ec hmd=>Eg z z G z (fc call45 z<|W_w1k (B:=B) ec kM kR) ?_;rintro _ _ ⟨_,rfl⟩;exact R z (pT z G z)<|Ra z<|Wl (λ_ q=>⟨rb,som hmd,kaA q,kW⟩)
  exact Nh z G<|Nh z G<|R z (pF z G z)<|Ra z<|Wl (λ_ q=>⟨false,som<|ifF H G,kaA q,sa⟩)
 rintro ae _ ⟨x3,rfl,_,_⟩;revert ae;exact Wo<|Wr<|rS1 V hr z ⟨kW,z⟩
theorem W_w2u {x1:c_}{x2:b_}{x3:Val}{res:Bool}(hm:i_t x1 x2 x3=some res)(bU:B<=w0.z)(bM:rp w0 B A0 N0 C0 x1.rules)(aG:x2.name.b.length<=LEN)(aH:inI x2.kind)(a6:inI x2.size)(bN:rp w0 B A2 N2 C2 x2.bytes)(bO:rp w0 B A3 N3 C3 x2.names)(bP:rp w0 B A1 N1 C1 x2.tags)(bR:rp w0 B A4 N4 C4 x2.kids)(a7:inI x3.number)(bS:rp w0 B A7 N7 C7 x3.bytes)(bT:rp w0 B A8 N8 C8 x3.items):f_ prog 136 [(.agg #[sl A0 N0 C0]),.agg #[Str.v x2.name,vI x2.kind,vI x2.size,vB x2.little,sl A2 N2 C2,sl A3 N3 C3,sl A1 N1 C1,sl A4 N4 C4],(.agg #[vI x3.number,sl A7 N7 C7,sl A8 N8 C8])] w0 (Q0 w0 B res):=by
 unfold i_t at hm;refine goG func136 z z z λfn hr=>Ws<|EvX [sl A0 N0 C0] z z z λbV _ _=>EvX (vR x2 A2 N2 C2 A3 N3 C3 A1 N1 C1 A4 N4 C4) z z z λbW _ _=>EvX [vI x3.number,sl A7 N7 C7,sl A8 N8 C8] z z z λG _ H=>Rw z<|Wq<|Ws<|Rf z a_l z<|R z (l0 g_3 z kBa)<|Wn<|Wb<|Ws<|Rq z z z<|Rw z<|Wc z (λhcl=>?_) (λhcl=>?_)
 .refine Wq<|bdB (ifT hm hcl) λb0 aI aJ=>Wt (λa w=>∃(xm:Bool),xm=b0/\Sat 202 [(6,vB xm)] a/\Below G.z G w) ?_ ?_
  .refine Wd (X:=noX) 0 (pl_ 20 [4,6]) mo (by kernel_rfl) λbX bY _=>dR z z (fd b_4 z)<|dR z z (l0 g_3 z kBa)<|dR z z (fd a_B z)<|dR z z (l0 g_3 z kBa)<|bdB aI λ_ b1 aK=>dE z z (fc call52 z<|j_T (B:=B) b1 kM a6) iB ?_;rintro _ _ ⟨_,rfl,_⟩;refine dR z z (sb_ z z)<|bdB aK λb2 b3 a8=>dE z z (fc call97 z<|b_F (B:=B) b3 kM a7 (ii z)<|iS _ _) iB ?_;rintro _ _ ⟨_,rfl⟩;refine dM z z z ?_;rcases bs b2 with W | W
   .have a9:=ifT a8 W;refine dRg z z z W z (fd b_5 z)<|dRg z z z W z (l0 K_ z kBa)<|dRg z z z W z (lnR k_ z kR)<|dRg z z z W z (eql z z)<|dR z z (pT z W z)<|dM z z z ?_;rcases bs ((x3.bytes.length:Int)==0) with Y | Y
    .exact dRg z z z Y z (fd a_4 z)<|dRg z z z Y z (l0 a_k z kBa)<|dRg z z z Y z (lnR a_v z kR)<|dRg z z z Y z (eql z z)<|dR z z (pT z Y z)<|dQ z z z<|pD (λ_ q=>⟨(x3.items.length:Int)==0,som<|ifT a9 Y,kaA q,kW⟩)
    iterate 4 refine dRn z z z Y z ?_
    exact dR z z (pF z Y z)<|dQ z z z<|pD (λ_ q=>⟨false,som<|ifF a9 Y,kaA q,kW⟩)
   iterate 4 refine dRn z z z W z ?_
   refine dR z z (pF z W z)<|dM z z z ?_;iterate 4 refine dRn z z z z z ?_
   exact dR z z (pF z z z)<|dQ z z z<|pD (λ_ q=>⟨false,som<|ifF a8 W,kaA q,kW⟩)
  rintro b4 _ ⟨xm,rfl,_,_⟩;revert b4;exact Wo<|Wr<|rtO<|rS1 aJ hr z ⟨kW,z⟩
 have aa:=ifF hm hcl;refine Ws<|Rq z z z<|Rw z<|Wc z (λhcn=>?_) (λhcn=>?_)
 .refine Wq<|bdB (ifT aa hcn) λb5 ab aL=>Wt (λa w=>∃(xo:Bool),xo=b5/\Sat 202 [(6,vB xo)] a/\Below G.z G w) ?_ ?_
  .refine Wg<|Rf z b_4 z<|R z (l0 g_3 z<|H.at z)<|Rq z z z<|Rm z ?_;rcases bs (x3.number==0) with a0 | a0
   .have ad:=ifT ab a0;refine Rh z a0 (fd b_5 z)<|Rh z a0 (l0 K_ z<|H.at z)<|Rh z a0 (lnR k_ z kR)<|Rh z a0 (eql z z)<|R z (pT z a0 z)<|Rm z ?_;rcases bs ((x3.bytes.length:Int)==0) with a1 | a1
    .exact Rh z a1 (fd a_4 z)<|Rh z a1 (l0 a_k z<|H.at z)<|Rh z a1 (lnR a_v z kR)<|Rh z a1 (eql z z)<|R z (pT z a1 z)<|Ra z<|Wl (λ_ q=>⟨(x3.items.length:Int)==0,som<|ifT ad a1,kaA q,br G⟩)
    iterate 4 refine Nh z a1 ?_
    exact R z (pF z a1 z)<|Ra z<|Wl (λ_ q=>⟨false,som<|ifF ad a1,kaA q,br G⟩)
   iterate 4 refine Nh z a0 ?_
   exact R z (pF z a0 z)<|Rm z<|Nh z z<|Nh z z<|Nh z z<|Nh z z<|R z (pF z z z)<|Ra z<|Wl (λ_ q=>⟨false,som<|ifF ab a0,kaA q,br G⟩)
  rintro b6 _ ⟨xo,rfl,_,_⟩;revert b6;exact Wo<|Wr<|rtO<|rS1 aL hr z ⟨kW,z⟩
 have ae:=ifF aa hcn;refine Ws<|Rq z z z<|Rw z<|Wc z (λhcp=>?_) (λhcp=>?_)
 .refine Wq<|bdB (ifT ae hcp) λb7 af aM=>Wt (λa w=>∃(xq:Bool),xq=b7/\Sat 202 [(6,vB xq)] a/\Below G.z G w) ?_ ?_
  .refine Wg<|Rf z b_4 z<|R z (l0 g_3 z<|H.at z)<|Rq z z z<|Rm z ?_;rcases bs (x3.number==0) with O | O
   .have ah:=ifT af O;refine Rh z O (fd b_5 z)<|Rh z O (l0 K_ z<|H.at z)<|Rh z O (lnR k_ z kR)<|Rh z O (fd a_B z)<|Rh z O (l0 g_3 z kBa)<|Rh z O (eql z z)<|R z (pT z O z)<|Rm z ?_;rcases bs ((x3.bytes.length:Int)==x2.size) with hca | hca
    .exact Rh z hca (fd a_4 z)<|Rh z hca (l0 a_k z<|H.at z)<|Rh z hca (lnR a_v z kR)<|Rh z hca (eql z z)<|R z (pT z hca z)<|Ra z<|Wl (λ_ q=>⟨(x3.items.length:Int)==0,som<|ifT ah hca,kaA q,br G⟩)
    iterate 4 refine Nh z hca ?_
    exact R z (pF z hca z)<|Ra z<|Wl (λ_ q=>⟨false,som<|ifF ah hca,kaA q,br G⟩)
   iterate 6 refine Nh z O ?_
   exact R z (pF z O z)<|Rm z<|Nh z z<|Nh z z<|Nh z z<|Nh z z<|R z (pF z z z)<|Ra z<|Wl (λ_ q=>⟨false,som<|ifF af O,kaA q,br G⟩)
  rintro b8 _ ⟨xq,rfl,_,_⟩;revert b8;exact Wo<|Wr<|rtO<|rS1 aM hr z ⟨kW,z⟩
 have ai:=ifF ae hcp;refine Ws<|Rq z z z<|Rw z<|Wc z (λhcr=>?_) (λhcr=>?_)
 .refine Wq<|bdB (ifT ai hcr) λb9 aj aN=>Wt (λa w=>∃(xs:Bool),xs=b9/\Sat 202 [(6,vB xs)] a/\Below G.z G w) ?_ ?_
  .refine Wd (X:=noX) 0 (pl_ 23 [12,13]) mo (by kernel_rfl) λbZ ba _=>dR z z (fd b_4 z)<|dR z z (l0 g_3 z kBa)<|dR z z (eql z z)<|dM z z z ?_;rcases bs (x3.number==0) with I | I
   .refine dRg z z z I z (fd b_5 z)<|dRg z z z I z (l0 K_ z kBa)<|dRg z z z I z (lnR k_ z kR)<|dRg z z z I z (lC [sl A0 N0 C0] l_ j_ z)<|dRg z z z I z (fd E_ z)<|dRg z z z I z (l0 v_ z kBa)<|bdB (ifT aj I) λ_ bb aO=>b_s z z z I z (at_ (α:=Int) u_ z_3 z z z kR bb) ?_;rintro _ ⟨_,_,_,rfl,bc,be,_⟩;obtain ⟨rfl,bf⟩:=a_u be;refine dRg z z z I z (l0 g_3 z<|bc.at0 z)<|bdB aO λ_ bg aP=>dEg z z z I z (fc call150 z<|i_6 (B:=B) bg kM kR bf) iB ?_;rintro _ _ ⟨_,rfl,bh⟩;refine bdB aP λbi bj ak=>dEg z z z I z (fc call51 z<|i_5 (B:=B) bj kM (ii z) bh) iB ?_;rintro _ _ ⟨_,rfl,_⟩;refine dRg z z z I z (b_S z z)<|dR z z (pT z I z)<|dM z z z ?_;rcases bs (decide<|(x3.bytes.length:Int)<=bi) with hcb | hcb
    .exact dRg z z z hcb z (fd a_4 z)<|dRg z z z hcb z (l0 a_k z kBa)<|dRg z z z hcb z (lnR a_v z kR)<|dRg z z z hcb z (eql z z)<|dR z z (pT z hcb z)<|dQ z z z<|pD (λ_ q=>⟨(x3.items.length:Int)==0,som<|ifT ak hcb,kaA q,kW⟩)
    iterate 4 refine dRn z z z hcb z ?_
    exact dR z z (pF z hcb z)<|dQ z z z<|pD (λ_ q=>⟨false,som<|ifF ak hcb,kaA q,kW⟩)
   iterate 8 refine dRn z z z I z ?_
   refine dEn z z z I z<|dEn z z z I z<|dRn z z z I z<|dR z z (pF z I z)<|dM z z z ?_;iterate 4 refine dRn z z z z z ?_
   exact dR z z (pF z z z)<|dQ z z z<|pD (λ_ q=>⟨false,som<|ifF aj I,kaA q,ba⟩)
  rintro bk _ ⟨xs,rfl,_,_⟩;revert bk;exact Wo<|Wr<|rtO<|rS1 aN hr z ⟨kW,z⟩
 have al:=ifF ai hcr;refine Ws<|Rq z z z<|Rw z<|Wc z (λhct=>?_) (λhct=>?_)
 .refine Wq<|bdB (ifT al hct) λbm am aQ=>Wt (λa w=>∃(xu:Bool),xu=bm/\Sat 202 [(6,vB xu)] a/\Below G.z G w) ?_ ?_
  .refine Wg<|Rf z b_4 z<|R z (l0 g_3 z<|H.at z)<|Rq z z z<|Rm z ?_;rcases bs (x3.number==0) with hcc | hcc
   .have an:=ifT am hcc;refine Rh z hcc (fd b_5 z)<|Rh z hcc (l0 K_ z<|H.at z)<|Rh z hcc (lnR k_ z kR)<|Rh z hcc (b_S z z)<|R z (pT z hcc z)<|Rm z ?_;rcases bs (decide<|(x3.bytes.length:Int)<=400) with hcd | hcd
    .exact Rh z hcd (fd a_4 z)<|Rh z hcd (l0 a_k z<|H.at z)<|Rh z hcd (lnR a_v z kR)<|Rh z hcd (eql z z)<|R z (pT z hcd z)<|Ra z<|Wl (λ_ q=>⟨(x3.items.length:Int)==0,som<|ifT an hcd,kaA q,br G⟩)
    iterate 4 refine Nh z hcd ?_
    exact R z (pF z hcd z)<|Ra z<|Wl (λ_ q=>⟨false,som<|ifF an hcd,kaA q,br G⟩)
   iterate 4 refine Nh z hcc ?_
   exact R z (pF z hcc z)<|Rm z<|Nh z z<|Nh z z<|Nh z z<|Nh z z<|R z (pF z z z)<|Ra z<|Wl (λ_ q=>⟨false,som<|ifF am hcc,kaA q,br G⟩)
  rintro bn _ ⟨xu,rfl,_,_⟩;revert bn;exact Wo<|Wr<|rtO<|rS1 aQ hr z ⟨kW,z⟩
 have ap:=ifF al hct;refine Ws<|Rq z z z<|Rw z<|Wc z (λhcv=>?_) (λhcv=>?_)
 .refine Wq<|bdB (ifT ap hcv) λbo aq aR=>Wt (λa w=>∃(xw:Bool),xw=bo/\Sat 202 [(6,vB xw)] a/\Below G.z G w) ?_ ?_
  .refine Wd (X:=noX) 0 (pl_ 23 [18,19]) mo (by kernel_rfl) λc0 aF _=>dR z z (fd b_4 z)<|dR z z (l0 g_3 z kBa)<|dR z z (eql z z)<|dM z z z ?_;rcases bs (x3.number==0) with hce | hce
   .have ar:=ifT aq hce;refine dRg z z z hce z (fd b_5 z)<|dRg z z z hce z (l0 K_ z kBa)<|dRg z z z hce z (lnR k_ z kR)<|dRg z z z hce z (eql z z)<|dR z z (pT z hce z)<|dM z z z ?_;rcases bs ((x3.bytes.length:Int)==0) with J | J
    .refine dRg z z z J z (fd a_4 z)<|dRg z z z J z (l0 a_k z kBa)<|dRg z z z J z (lnR a_v z kR)<|dRg z z z J z (lC [sl A0 N0 C0] l_ j_ z)<|dRg z z z J z (fd E_ z)<|dRg z z z J z (l0 v_ z kBa)<|bdB (ifT ar J) λ_ bp aS=>b_s z z z J z (at_ (α:=Int) u_ z_3 z z z kR bp) ?_;rintro _ ⟨_,_,_,rfl,bq,bt,_⟩;obtain ⟨rfl,bu⟩:=a_u bt;refine dRg z z z J z (l0 g_3 z<|bq.at0 z)<|bdB aS λ_ bv aT=>dEg z z z J z (fc call150 z<|i_6 (B:=B) bv kM kR bu) iB ?_;rintro _ _ ⟨_,rfl,bw⟩;refine bdB aT λbx bz aU=>dEg z z z J z (fc call51 z<|i_5 (B:=B) bz kM (ii z) bw) iB ?_;rintro _ _ ⟨_,rfl,_⟩;exact dRg z z z J z (b_S z z)<|dR z z (pT z J z)<|dQ z z z<|pD (λ_ q=>⟨decide<|(x3.items.length:Int)<=bx,som aU,kaA q,kW⟩)
    iterate 8 refine dRn z z z J z ?_
    exact dEn z z z J z<|dEn z z z J z<|dRn z z z J z<|dR z z (pF z J z)<|dQ z z z<|pD (λ_ q=>⟨false,som<|ifF ar J,kaA q,aF⟩)
   iterate 4 refine dRn z z z hce z ?_
   refine dR z z (pF z hce z)<|dM z z z ?_;iterate 8 refine dRn z z z z z ?_
   exact dEn z z z z z<|dEn z z z z z<|dRn z z z z z<|dR z z (pF z z z)<|dQ z z z<|pD (λ_ q=>⟨false,som<|ifF aq hce,kaA q,aF⟩)
  rintro bA _ ⟨xw,rfl,_,_⟩;revert bA;exact Wo<|Wr<|rtO<|rS1 aR hr z ⟨kW,z⟩
 have au:=ifF ap hcv;refine Ws<|Rq z z z<|Rw z<|Wc z (λhcx=>?_) (λhcx=>?_)
 .refine Wq<|bdB (ifT au hcx) λbB av aV=>Wt (λa w=>∃(xy:Bool),xy=bB/\Sat 202 [(6,vB xy)] a/\Below G.z G w) ?_ ?_
  .refine Wg<|Rf z b_4 z<|R z (l0 g_3 z<|H.at z)<|Rq z z z<|Rm z ?_;rcases bs (x3.number==0) with hcf | hcf
   .have aw:=ifT av hcf;refine Rh z hcf (fd b_5 z)<|Rh z hcf (l0 K_ z<|H.at z)<|Rh z hcf (lnR k_ z kR)<|Rh z hcf (eql z z)<|R z (pT z hcf z)<|Rm z ?_;rcases bs ((x3.bytes.length:Int)==0) with L | L
    .exact Rh z L (fd a_4 z)<|Rh z L (l0 a_k z<|H.at z)<|Rh z L (lnR a_v z kR)<|Rh z L (fd E_ z)<|Rh z L (l0 v_ z kBa)<|Rh z L (lnR u_ z kR)<|Rh z L (eql z z)<|R z (pT z L z)<|Ra z<|Wl (λ_ q=>⟨(x3.items.length:Int)==(x2.kids.length:Int),som<|ifT aw L,kaA q,br G⟩)
    iterate 7 refine Nh z L ?_
    exact R z (pF z L z)<|Ra z<|Wl (λ_ q=>⟨false,som<|ifF aw L,kaA q,br G⟩)
   iterate 4 refine Nh z hcf ?_
   exact R z (pF z hcf z)<|Rm z<|Nh z z<|Nh z z<|Nh z z<|Nh z z<|Nh z z<|Nh z z<|Nh z z<|R z (pF z z z)<|Ra z<|Wl (λ_ q=>⟨false,som<|ifF av hcf,kaA q,br G⟩)
  rintro bC _ ⟨xy,rfl,_,_⟩;revert bC;exact Wo<|Wr<|rtO<|rS1 aV hr z ⟨kW,z⟩
 have ax:=ifF au hcx;refine Ws<|Rq z z z<|Rw z<|Wc z (λhcz=>?_) (λhcz=>?_)
 .refine Wq<|bdB (ifT ax hcz) λbD ay aW=>Wt (λa w=>∃(a3:Bool),a3=bD/\Sat 202 [(6,vB a3)] a/\Below G.z G w) ?_ ?_
  .refine Wg<|Rf z b_5 z<|R z (l0 K_ z<|H.at z)<|R z (lnR k_ z kR)<|Rq z z z<|Rm z ?_;rcases bs ((x3.bytes.length:Int)==0) with hcg | hcg
   .have az:=ifT ay hcg;refine Rh z hcg (fd a_4 z)<|Rh z hcg (l0 a_k z<|H.at z)<|Rh z hcg (lnR a_v z kR)<|Rh z hcg (eql z z)<|R z (pT z hcg z)<|Rm z ?_;rcases bs ((x3.items.length:Int)==1) with V | V
    .refine Rh z V (lN (vs:=vR x2 A2 N2 C2 A3 N3 C3 A1 N1 C1 A4 N4 C4) z_ h_ z z fid<|kBr 0 8)<|Rh z V (fd b_4 z)<|Rh z V (l0 g_3 z<|H.at z)<|bdB (ifT az V) λbE bF aX=>Eg z z V z (fc call55 z<|d_n (B:=B) bF kM aG aH a6 kR kR kR kR a7<|ii z) ?_;rintro _ _ ⟨bG,rfl,_⟩;exact Rh z V (b_T z z)<|R z (pT z V z)<|Ra z<|Wl (λ_ q=>⟨decide<|0<=bE,som aX,kaA q,bG⟩)
    iterate 5 refine Nh z V ?_
    exact R z (pF z V z)<|Ra z<|Wl (λ_ q=>⟨false,som<|ifF az V,kaA q,br G⟩)
   iterate 4 refine Nh z hcg ?_
   exact R z (pF z hcg z)<|Rm z<|Nh z z<|Nh z z<|Nh z z<|Nh z z<|Nh z z<|R z (pF z z z)<|Ra z<|Wl (λ_ q=>⟨false,som<|ifF ay hcg,kaA q,br G⟩)
  rintro bH _ ⟨a3,rfl,_,_⟩;revert bH;exact Wo<|Wr<|rtO<|rS1 aW hr z ⟨kW,z⟩
 have aA:=ifF ax hcz;refine Ws<|Rq z z z<|Rw z<|Wc z (λa2=>?_) (λa2=>?_)
 .refine Wq<|bdB (ifT aA a2) λbI aB aY=>Wt (λa w=>∃(a4:Bool),a4=bI/\Sat 202 [(6,vB a4)] a/\Below G.z G w) ?_ ?_
  .refine Wg<|Rf z b_4 z<|R z (l0 g_3 z<|H.at z)<|Rq z z z<|Rm z ?_;rcases bs (x3.number==0) with hch | hch
   .have aC:=ifT aB hch;refine Rh z hch (fd b_5 z)<|Rh z hch (l0 K_ z<|H.at z)<|Rh z hch (lnR k_ z kR)<|Rh z hch (eql z z)<|R z (pT z hch z)<|Rm z ?_;rcases bs ((x3.bytes.length:Int)==0) with hci | hci
    .exact Rh z hci (fd a_4 z)<|Rh z hci (l0 a_k z<|H.at z)<|Rh z hci (lnR a_v z kR)<|Rh z hci (b_S z z)<|R z (pT z hci z)<|Ra z<|Wl (λ_ q=>⟨decide<|(x3.items.length:Int)<=1,som<|ifT aC hci,kaA q,br G⟩)
    iterate 4 refine Nh z hci ?_
    exact R z (pF z hci z)<|Ra z<|Wl (λ_ q=>⟨false,som<|ifF aC hci,kaA q,br G⟩)
   iterate 4 refine Nh z hch ?_
   exact R z (pF z hch z)<|Rm z<|Nh z z<|Nh z z<|Nh z z<|Nh z z<|R z (pF z z z)<|Ra z<|Wl (λ_ q=>⟨false,som<|ifF aB hch,kaA q,br G⟩)
  rintro bJ _ ⟨a4,rfl,_,_⟩;revert bJ;exact Wo<|Wr<|rtO<|rS1 aY hr z ⟨kW,z⟩
 refine Wk<|Wq<|bdB (ifF aA a2) λbK aD aZ=>Wt (λa w=>∃(a5:Bool),a5=bK/\Sat 202 [(6,vB a5)] a/\Below G.z G w) ?_ ?_
 .refine Wg<|Rf z b_4 z<|R z (l0 g_3 z<|H.at z)<|Rq z z z<|Rm z ?_;rcases bs (x3.number==0) with hcj | hcj
  .have aE:=ifT aD hcj;refine Rh z hcj (fd b_5 z)<|Rh z hcj (l0 K_ z<|H.at z)<|Rh z hcj (lnR k_ z kR)<|Rh z hcj (eql z z)<|R z (pT z hcj z)<|Rm z ?_;rcases bs ((x3.bytes.length:Int)==0) with hck | hck
   .exact Rh z hck (fd a_4 z)<|Rh z hck (l0 a_k z<|H.at z)<|Rh z hck (lnR a_v z kR)<|Rh z hck (eql z z)<|R z (pT z hck z)<|Ra z<|Wl (λ_ q=>⟨(x3.items.length:Int)==1,som<|ifT aE hck,kaA q,br G⟩)
   iterate 4 refine Nh z hck ?_
   exact R z (pF z hck z)<|Ra z<|Wl (λ_ q=>⟨false,som<|ifF aE hck,kaA q,br G⟩)
  iterate 4 refine Nh z hcj ?_
  exact R z (pF z hcj z)<|Rm z<|Nh z z<|Nh z z<|Nh z z<|Nh z z<|R z (pF z z z)<|Ra z<|Wl (λ_ q=>⟨false,som<|ifF aD hcj,kaA q,br G⟩)
 rintro bL _ ⟨a5,rfl,_,_⟩;revert bL;exact Wo<|Wr<|rS1 aZ hr z ⟨kW,z⟩
structure l_u (f:c_->Int->Val->Option Bool):Prop where
  run:∀{A0 A7 A8:Option Addr}{N0 C0 N7 C7 N8 C8:Nat}{B:Zone}{x1:c_}{x2:Int}{x3:Val}{res:Bool}{w0:World}(hm:f x1 x2 x3=some res)(hBw:B<=w0.z)(p1_0:rp w0 B A0 N0 C0 x1.rules)(p2_0:inI x2)(p3_0:inI x3.number)(p3_1:rp w0 B A7 N7 C7 x3.bytes)(p3_2:rp w0 B A8 N8 C8 x3.items),f_ prog 107 [(.agg #[sl A0 N0 C0]),vI x2,(.agg #[vI x3.number,sl A7 N7 C7,sl A8 N8 C8])] w0<|Q0 w0 B res
abbrev n_G (n:Nat):Prop:=l_u (g_f n).spec_l9Valid
theorem T_w0k (ah:n_G n):l_u (i_u n<|g_f n):=by
 constructor;intro A0 A7 A8 N0 C0 N7 C7 N8 C8 B x1 x2 x3 res w0 hm aE aB aC Y aD a0;unfold i_u at hm;refine goG func107 z z z λfn hr=>Ws<|EvX [sl A0 N0 C0] z z z λwe _ _=>EvX [vI x3.number,sl A7 N7 C7,sl A8 N8 C8] z z z λwf _ _=>Rw z<|Ws<|Rf z H_ z<|R z (l0 I_ z kBa)<|Rm z<|bdB hm λx0 eu hmv=>xA (α:=b_) z J_ h_ z z z kR eu λ_ _ _ hw hx _=>?_;obtain ⟨a2,H,I,J,L,O,V,W,ca,ab,nc,cd,rfl,hn,ho,hp,_,_,_,_⟩:=a_x hx;refine R z (lN (vs:=vR x0 a2 H I J L O V W ca ab nc cd) z_ h_ z z fid hw)<|EvZ [(Str.v (⟨[]⟩:Str)),vI 0,vI 0,vB false,sN,sN,sN,sN] z b_E z λwy _ a1=>E0q (vR x0 a2 H I J L O V W ca ab nc cd) h_ z z a1 z λaF hz _=>Wn<|Wq<|Ws<|R z (lC [sl A0 N0 C0] l_ j_ z)<|R z (lN (vs:=vR x0 a2 H I J L O V W ca ab nc cd) z_ h_ z z fid<|hz.row 0 8 z)<|R z (lC [vI x3.number,sl A7 N7 C7,sl A8 N8 C8] s_ e_ z)<|bdB hmv λ_ ai hmm=>EcA z (fc call136 z<|W_w2u (B:=B) ai kM kR hn ho hp kR kR kR kR Y (kR (l:=x3.bytes))<|kR (l:=x3.items)) λG _=>R z (not_ z)<|Wx z (λhcg=>?_) (λhcg=>?_)
 .exact Ws<|Rw z<|Wr<|rS1 (ifT hmm hcg) hr z ⟨kW,z⟩
 refine Wk<|Wq<|Ws<|Rw z<|bdB (ifF hmm hcg) λ_ a3 hmr=>Wf (σ:=Unit) (ρ:=Bool) (λ(ks:Nat)(_:Unit) a w=>Sat 39 [(3,pt w0.z),(5,pt we.z),(7,pt wf.z),(8,vI ((ks:Nat):Int))] a/\Below G.z G w) (λ(_:Unit) a w=>Sat 39 [] a/\Below G.z G w) (rQ prog fn<|Q0 w0 B) a3 ?_ ?_ ?_ ?_ ?_
 .exact λ_ q=>⟨kaA q,br G⟩
 .rintro ks _ _ _ _ hkh ⟨a4,_⟩ a6;refine Wu ?_ a4;refine Wq<|Wm z<|Rf z a_4 z<|R z (l0 a_k z kBa)<|R z (lnR a_v z kR)<|Rl z z z<|Wx z (λ_=>?_) (λhc=>(R_ hkh hc).elim);refine Wk<|Wq<|Wb<|Wq (Wd (X:=noX) 0 (.rd 0<|.rd 1<|.rd 2<|.rd 3<|.rd 4<|.rd 6<|.rd 7<|.rd 8<|.rd 9<|.rd 10<|.ef 5<|.ef 11<|.rd 12 .done) mo (by kernel_rfl) λaG aH _=>dR z z (lC [sl A0 N0 C0] l_ j_ z)<|dR z z (lN (vs:=vR x0 a2 H I J L O V W ca ab nc cd) z_ h_ z z fid<|kBr 0 8)<|dR z z (fd b_4 z)<|dR z z (l0 g_3 z kBa)<|dM z z z<|dR z z (fd a_4 z)<|dR z z (l0 a_k z kBa)<|dM z z z ?_);refine bdB a6 λxi aj a7=>dxA (α:=Val) z z a_v e_ z z z kR aj λ_ _ _ ak al _=>?_;obtain ⟨am,an,ap,aq,ar,au,rfl,av,_,_⟩:=g_v al;refine dR z z (lN (vs:=[vI xi.number,sl am an ap,sl aq ar au]) s_ e_ z z fid ak)<|bdB a7 λ_ aw a9=>dE z z (fc call55 z<|d_n (B:=B) aw kM hn ho hp kR kR kR kR Y<|ic (Nat.le_of_lt hkh)<|lt_ (repS.len a0) x_) iB ?_;rintro _ _ ⟨_,rfl,ax⟩;refine bdB a9 λ_ ay hmt=>dE z z (fc call107 z<|ah.run (B:=B) ay kM kR ax av (kR (l:=xi.bytes))<|kR (l:=xi.items)) iB ?_;rintro _ _ ⟨_,rfl⟩;refine dR z z (not_ z)<|pD<|Wo<|Wc z (λhcj=>?_) (λhcj=>?_)
  .exact Ws<|Rw z<|Wr<|rtO<|qL (som<|ifT hmt hcj).symm<|b_d hr z ⟨kW,z⟩
  exact Wk<|Wg<|Rm z<|R z (inc_ hkh (lt_ (repS.len a0) x_) z z)<|Ra z<|Wl (λ_ q=>⟨(),(som<|ifF hmt hcj).symm,⟨kaA q,kW⟩⟩)
 .rintro _ _ _ ⟨aa,az⟩;refine Wu ?_ aa;refine Wq<|Wm z<|Rf z a_4 z<|R z (l0 a_k z kBa)<|R z (lnR a_v z kR)<|Rl z z z<|Wx z (λhc=>(S_ hc).elim) (λ_=>?_);exact We<|λ_ q=>⟨rfl,⟨q.k sn,az⟩⟩
 .rintro _ aA _ rfl ⟨_,_⟩;have ad:=elL hmr;revert aA;exact Wo<|Ws<|Rw z<|Wr<|rS1 ad hr z ⟨kW,z⟩
 exact lqA hmr λ_ _ h=>h.2
theorem A_w0k:∀n,n_G n
  | 0=>⟨λhm=>by intros;exact nomatch (show none=some _ from hm)⟩
  | n+1=>T_w0k<|A_w0k n
theorem W_w0k:l_u (g_f n).spec_l9Valid:=A_w0k n
theorem W_w2v {x1:c_}{x2:Int}{x3:Val}{res:Bool}(hm:i_v n x1 x2 x3=some res)(a2:B<=w0.z)(Y:rp w0 B A0 N0 C0 x1.rules)(H:inI x2)(L:inI x3.number)(a0:rp w0 B A7 N7 C7 x3.bytes)(a1:rp w0 B A8 N8 C8 x3.items):f_ prog 48 [(.agg #[sl A0 N0 C0]),vI x2,(.agg #[vI x3.number,sl A7 N7 C7,sl A8 N8 C8])] w0 (Q0 w0 B res):=by
 unfold i_v at hm;refine goG func48 z z z λfn hr=>Ws<|EvX [sl A0 N0 C0] z z z λw2 _ _=>EvX [vI x3.number,sl A7 N7 C7,sl A8 N8 C8] z z z λJ _ _=>Rw z<|Wq<|bdB hm λW O V=>Wt (λa w=>∃(x4:Bool),x4=W/\Sat 16 [(6,vB x4)] a/\Below J.z J w) ?_ ?_
 .refine Wg<|R z (lC [sl A0 N0 C0] l_ j_ z)<|Rm z<|bdB O λra eb I=>EcA z (fc call106 z<|W_w1r (B:=B) eb kM kR H) λ_ sc=>Rm z ?_;rcases bs ra with G | G
  .refine Rh z G (lC [sl A0 N0 C0] l_ j_ z)<|Rh z G (mv z)<|Rh z G (lC [vI x3.number,sl A7 N7 C7,sl A8 N8 C8] s_ e_ z)<|bdB (ifT I G) λrd ee hmf=>Eg z z G z (fc call107 z<|W_w0k.run (B:=B) ee kM kR H L (kR (l:=x3.bytes))<|kR (l:=x3.items)) ?_;rintro _ _ ⟨_,rfl⟩;exact R z (pT z G z)<|Ra z<|Wl (λ_ q=>⟨rd,som hmf,kaA q,kW⟩)
  iterate 4 refine Nh z G ?_
  exact R z (pF z G z)<|Ra z<|Wl (λ_ q=>⟨false,som<|ifF I G,kaA q,sc⟩)
 rintro ag _ ⟨x4,rfl,_,_⟩;revert ag;exact Wo<|Wr<|rS1 V hr z ⟨kW,z⟩
theorem W_w2w {x1:Int}{x2:Str}{x3:Str}{x4:Str}{res:Str}(hm:k_U n x1 x2 x3 x4=some res)(I:B<=w0.z)(H:inI x1)(a0:x2.b.length<=LEN)(a1:x3.b.length<=LEN)(a2:x4.b.length<=LEN):f_ prog 110 [vI x1,Str.v x2,Str.v x3,Str.v x4] w0 (Q4 w0 B res):=by
 unfold k_U at hm;refine goG func110 z z z λfn hr=>Ws<|Rw z<|Wm z<|bdB hm λ_ W J=>E z (fc call109 z<|f_O (B:=B) W I H) ?_;rintro _ _ ⟨s3,rfl,_⟩;exact Rm z<|bdB J λ_ Y L=>R z (a_d z z Y)<|Rm z<|bdB L λ_ e6 O=>R z (a_d z z e6)<|Rm z<|bdB O λ_ G V=>R z (a_d z z G)<|Rw z<|Wr<|rS1 V hr z ⟨s3,z,a_W G⟩
theorem W_w2x {x1:Bt}{res:Str}(hm:j_o x1=some res)(Y:B<=w0.z)(J:rp w0 B A0 N0 C0 x1):f_ prog 111 [sl A0 N0 C0] w0 (Q4 w0 B res):=by
 unfold j_o at hm;refine goG func111 z z z λfn hr=>Ws<|Rw z<|Ws<|Rw z<|Ws<|Rw z<|Wq<|Ws<|Rw z<|bdB hm λ_ L G=>Wf (σ:=Str) (ρ:=Str) (λ(k3:Nat)(x0:Str) a w=>Sat 40 [(0,sl A0 N0 C0),(3,Str.v (⟨[48,49,50,51,52,53,54,55,56,57,97,98,99,100,101,102]⟩:Str)),(4,Str.v x0),(5,vI ((k3:Nat):Int))] a/\Below w0.z w0 w/\x0.b.length<=LEN) (λ(x0:Str) a w=>Sat 40 [(4,Str.v x0)] a/\Below w0.z w0 w/\x0.b.length<=LEN) (rQ prog fn<|Q4 w0 B) L ?_ ?_ ?_ ?_ ?_
 .exact λ_ q=>⟨kaA q,br w0,lb z⟩
 .rintro k3 x0 _ _ _ H ⟨O,_,h1⟩ V;refine Wu ?_ O;refine Wq<|Wm z<|Rm z<|R z (lnR k_ z kR)<|Rl z z z<|Wx z (λ_=>?_) (λhc=>(R_ H hc).elim);refine Wk<|Wq<|Wb<|Wm z<|Rm z<|bdB V λ_ W hma=>xA (α:=UInt8) z k_ z_5 z z z kR W λ_ _ _ hb hd _=>?_;obtain rfl:=u8 hd;refine R z (l0 g_5 z<|hb.at0 z)<|R z (c_0 d_5 d_3 z)<|R z (f_X z z (by decide))<|Rw z<|Wm z<|Rm z<|bdB hma λ_ ec hme=>xA (α:=UInt8) z k_ z_5 z z z kR ec λ_ _ _ hf hg _=>?_;obtain rfl:=u8 hg;refine R z (l0 g_5 z<|hf.at0 z)<|R z (c_0 d_5 d_3 z)<|R z (h_8 z z (by decide))<|Ra z<|Wn (Wd (X:=noX) 0 (pl_ 14 []) mo (by kernel_rfl) λa0 a1 _=>?_);iterate 4 refine dM z z z ?_
  refine dR z z (add_ z z)<|bdB hme λ_ eh hmi=>dR z z (h_X d_9 z z z (lb z) eh)<|bdB hmi λ_ ej hmk=>dR z z (a_d z z ej) ?_;iterate 3 refine dM z z z ?_
  exact dR z z (add_ z z)<|bdB hmk λ_ el hmm=>dR z z (h_X d_9 z z z (lb z) el)<|bdB hmm λxn I hmo=>dR z z (a_d z z I)<|dQ z z z<|pD<|Wo<|Wg<|Rm z<|R z (inc_ H (lt_ (repS.len J) x_) z z)<|Ra z<|Wl (λ_ q=>⟨xn,(som hmo).symm,⟨kaA q,kW,a_W I⟩⟩)
 .rintro x0 _ _ ⟨hSp,sq,h1⟩;refine Wu ?_ hSp;refine Wq<|Wm z<|Rm z<|R z (lnR k_ z kR)<|Rl z z z<|Wx z (λhc=>(S_ hc).elim) (λ_=>?_);exact We<|λ_ q=>⟨rfl,⟨kaA q,sq,h1⟩⟩
 .rintro x0 ar _ rfl ⟨_,ss,h1⟩;have hmt:=elL G;revert ar;exact Wo<|Wm z<|Rw z<|Wr<|rS1 hmt hr z ⟨ss,z,h1⟩
 exact lqA G λ_ _ h=>h.2
structure l_v (f:c_->Int->Val->Option Str):Prop where
  run:∀{A0 A7 A8:Option Addr}{N0 C0 N7 C7 N8 C8:Nat}{B:Zone}{x1:c_}{x2:Int}{x3:Val}{res:Str}{w0:World}(hm:f x1 x2 x3=some res)(hBw:B<=w0.z)(p1_0:rp w0 B A0 N0 C0 x1.rules)(p2_0:inI x2)(p3_0:inI x3.number)(p3_1:rp w0 B A7 N7 C7 x3.bytes)(p3_2:rp w0 B A8 N8 C8 x3.items),f_ prog 49 [(.agg #[sl A0 N0 C0]),vI x2,(.agg #[vI x3.number,sl A7 N7 C7,sl A8 N8 C8])] w0<|Q4 w0 B res
structure l_w (f:c_->b_->Val->Option Str):Prop where
  run:∀{A0 A2 A3 A1 A4 A7 A8:Option Addr}{N0 C0 N2 C2 N3 C3 N1 C1 N4 C4 N7 C7 N8 C8:Nat}{B:Zone}{x1:c_}{x2:b_}{x3:Val}{res:Str}{w0:World}(hm:f x1 x2 x3=some res)(hBw:B<=w0.z)(p1_0:rp w0 B A0 N0 C0 x1.rules)(p2_0:x2.name.b.length<=LEN)(p2_1:inI x2.kind)(p2_2:inI x2.size)(p2_4:rp w0 B A2 N2 C2 x2.bytes)(p2_5:rp w0 B A3 N3 C3 x2.names)(p2_6:rp w0 B A1 N1 C1 x2.tags)(p2_7:rp w0 B A4 N4 C4 x2.kids)(p3_0:inI x3.number)(p3_1:rp w0 B A7 N7 C7 x3.bytes)(p3_2:rp w0 B A8 N8 C8 x3.items),f_ prog 108 [(.agg #[sl A0 N0 C0]),.agg #[Str.v x2.name,vI x2.kind,vI x2.size,vB x2.little,sl A2 N2 C2,sl A3 N3 C3,sl A1 N1 C1,sl A4 N4 C4],(.agg #[vI x3.number,sl A7 N7 C7,sl A8 N8 C8])] w0<|Q4 w0 B res
abbrev l_x (n:Nat):Prop:=l_v (b_y n).spec_l10Text/\l_w (b_y n).spec_l10List
theorem T_w0a (ih:l_x n):l_v (b_g n<|b_y n):=by
 obtain ⟨_,am⟩:=ih;constructor;intro A0 A7 A8 N0 C0 N7 C7 N8 C8 B x1 x2 x3 res w0 hm aL aH aI G aJ aK;unfold b_g at hm;refine goG func49 z z z λfn hr=>Ws<|EvX [sl A0 N0 C0] z z z λwl _ _=>EvX [vI x3.number,sl A7 N7 C7,sl A8 N8 C8] z z z λwm _ _=>Rw z<|Ws<|Rf z H_ z<|R z (l0 I_ z kBa)<|Rm z<|bdB hm λx0 an a5=>xA (α:=b_) z J_ h_ z z z kR an λ_ _ _ ap aq _=>?_;obtain ⟨H,I,J,L,O,V,W,Y,c9,aa,nb,cc,rfl,ar,au,av,_,_,_,_⟩:=a_x aq;refine R z (lN (vs:=vR x0 H I J L O V W Y c9 aa nb cc) z_ h_ z z fid ap)<|EvZ [(Str.v (⟨[]⟩:Str)),vI 0,vI 0,vB false,sN,sN,sN,sN] z b_E z λaM _ a6=>E0q (vR x0 H I J L O V W Y c9 aa nb cc) h_ z z a6 z λaN aw _=>Wn<|Ws<|R z (lC [sl A0 N0 C0] l_ j_ z)<|R z (lN (vs:=vR x0 H I J L O V W Y c9 aa nb cc) z_ h_ z z fid<|aw.row 0 8 z)<|R z (lC [vI x3.number,sl A7 N7 C7,sl A8 N8 C8] s_ e_ z)<|bdB a5 λ_ ax hmq=>E z (fc call108 z<|am.run (B:=B) ax kM kR ar au av kR kR kR kR G (kR (l:=x3.bytes))<|kR (l:=x3.items)) ?_;rintro _ _ ⟨_,rfl,ay⟩;refine Rw z<|Wq<|Ws<|Rf z a_l z<|R z (l0 g_3 z kBa)<|Wn<|Wb<|Ws<|Rq z z z<|Rw z<|Wc z (λhcd=>?_) (λhcd=>?_)
 .refine Ws<|Rf z b_4 z<|R z (l0 g_3 z kBa)<|bdB (ifT hmq hcd) λ_ az a8=>E z (fc call109 z<|f_O (B:=B) az kM G) ?_;rintro _ _ ⟨_,rfl,aA⟩;exact Rw z<|Wr<|rtO<|rS1 a8 hr z ⟨kW,z,aA⟩
 have hmr:=ifF hmq hcd;refine Ws<|Rq z z z<|Rw z<|Wc z (λhce=>?_) (λhce=>?_)
 .exact Ws<|Rw z<|Wr<|rtO<|rS1 (ifT hmr hce) hr z ⟨kW,z,lb z⟩
 have hms:=ifF hmr hce;refine Ws<|Rq z z z<|Rw z<|Wc z (λhcf=>?_) (λhcf=>?_)
 .exact Wm z<|bdB (ifT hms hcf) λ_ aB a9=>R z (a_d z z aB)<|bdB a9 λ_ et ab=>R z (a_d z z et)<|Rw z<|Wr<|rtO<|rS1 ab hr z ⟨kW,z,a_W et⟩
 have hmu:=ifF hms hcf;refine Ws<|Rq z z z<|Rw z<|Wc z (λhcg=>?_) (λhcg=>?_)
 .exact Wm z<|bdB (ifT hmu hcg) λ_ aC ad=>R z (a_d z z aC)<|bdB ad λ_ ev ae=>R z (a_d z z ev)<|Rw z<|Wr<|rtO<|rS1 ae hr z ⟨kW,z,a_W ev⟩
 have hmw:=ifF hmu hcg;refine Ws<|Rq z z z<|Rw z<|Wc z (λhch=>?_) (λhch=>?_)
 .refine Ws<|Rf z b_4 z<|R z (l0 g_3 z kBa)<|Rm z<|bdB (ifT hmw hch) λ_ aD af=>E z (fc call110 z<|W_w2w (B:=B) aD kM G (lb z) ay<|lb z) ?_;rintro _ _ ⟨_,rfl,aE⟩;exact Rw z<|Wr<|rtO<|rS1 af hr z ⟨kW,z,aE⟩
 have hmx:=ifF hmw hch;refine Ws<|Rq z z z<|Rw z<|Wc z (λhci=>?_) (λhci=>?_)
 .have hmy:=ifT hmx hci;refine Wq<|Ws<|Rf z a_4 z<|R z (l0 a_k z kBa)<|R z (lnR a_v z kR)<|Rq z z z<|Wx z (λhcj=>?_) (λhcj=>?_)
  .exact Ws<|Rw z<|Wr<|rtO<|rS1 (ifT hmy hcj) hr z ⟨kW,z,lb z⟩
  exact Wk<|Wm z<|bdB (ifF hmy hcj) λ_ ez ah=>R z (a_d z z ez)<|Rw z<|Wr<|rtO<|rS1 ah hr z ⟨kW,z,a_W ez⟩
 have a0:=ifF hmx hci;refine Ws<|Rq z z z<|Rw z<|Wc z (λhck=>?_) (λhck=>?_)
 .exact Wm z<|bdB (ifT a0 hck) λ_ aF ai=>R z (a_d z z aF)<|bdB ai λ_ a2 aj=>R z (a_d z z a2)<|Rw z<|Wr<|rtO<|rS1 aj hr z ⟨kW,z,a_W a2⟩
 refine Wk<|Ws<|Rf z b_5 z<|R z (l0 K_ z kBa)<|bdB (ifF a0 hck) λ_ aG ak=>E z (fc call111 z<|W_w2x (B:=B) aG kM kR) ?_;rintro _ _ ⟨_,rfl,_⟩;exact bdB ak λ_ a3 al=>R z (a_d z z a3)<|Rw z<|Wr<|rS1 al hr z ⟨kW,z,a_W a3⟩
theorem T_w1s (ih:l_x n):l_w (j_p n<|b_y n):=by
 obtain ⟨ad,_⟩:=ih;constructor;intro A0 A2 A3 A1 A4 A7 A8 N0 C0 N2 C2 N3 C3 N1 C1 N4 C4 N7 C7 N8 C8 B x1 x2 x3 res w0 hm aK aE W Y a0 aF aG aH aI a1 aJ V;unfold j_p at hm;refine goG func108 z z z λfn hr=>Ws<|EvX [sl A0 N0 C0] z z z λL _ _=>EvX (vR x2 A2 N2 C2 A3 N3 C3 A1 N1 C1 A4 N4 C4) z z z λO _ _=>EvX [vI x3.number,sl A7 N7 C7,sl A8 N8 C8] z z z λG _ _=>Rw z<|Ws<|Rw z<|Wq<|Ws<|Rw z<|bdB hm λ_ hun hmh=>Wf (σ:=Str) (ρ:=Str) (λ(k6:Nat)(x0:Str) a w=>Sat 46 [(3,pt w0.z),(4,pt L.z),(5,pt O.z),(7,Str.v x0),(8,vI ((k6:Nat):Int))] a/\Below G.z G w/\x0.b.length<=LEN) (λ(x0:Str) a w=>Sat 46 [(7,Str.v x0)] a/\Below G.z G w/\x0.b.length<=LEN) (rQ prog fn<|Q4 w0 B) hun ?_ ?_ ?_ ?_ ?_
 .exact λ_ q=>⟨kaA q,br G,lb z⟩
 .rintro k6 x0 _ H _ hka ⟨hSo,_,h4⟩ hmp;refine Wu ?_ hSo;refine Wq<|Wm z<|Rf z a_4 z<|R z (l0 a_k z kBa)<|R z (lnR a_v z kR)<|Rl z z z<|Wx z (λ_=>?_) (λhc=>(R_ hka hc).elim);refine Wk<|Wq<|Wb<|Wq<|Wm z<|R z (a_2 z z)<|Wn<|bdB hmp λuq hui hmr=>Wt (λa w=>∃(x5:Str),x5=uq/\Sat 46 [(3,pt w0.z),(4,pt L.z),(5,pt O.z),(7,Str.v x5),(8,vI ((k6:Nat):Int))] a/\Below H.z H w/\x5.b.length<=LEN) ?_ ?_
  .refine Wc z (λhcb=>?_)<|λhcb=>?_
   .exact Wg<|Rm z<|bdB (ifT hui hcb) λxs ej hmt=>R z (a_d z z ej)<|Ra z<|Wl (λ_ q=>⟨xs,som hmt,kaA q,br H,a_W ej⟩)
   exact M_<|λ_ q=>⟨x0,som<|ifF hui hcb,kaA q,br H,h4⟩
  rintro au I ⟨x5,rfl,_,_,hv⟩;revert au;refine Wo<|Wq<|Ws<|Rf z a_l z<|R z (l0 g_3 z kBa)<|Rq z z z<|Wn<|bdB hmr λuw huk hmx=>Wt (λa w=>∃(J:Str),J=uw/\Sat 46 [(3,pt w0.z),(4,pt L.z),(5,pt O.z),(7,Str.v J),(8,vI ((k6:Nat):Int))] a/\Below I.z I w/\J.b.length<=LEN) ?_ ?_
  .refine Wc z (λhcc=>?_)<|λhcc=>?_
   .refine Wg<|Rm z<|Rf z c_2 z<|R z (l0 a_J z kBa)<|Rm z<|bdB (ifT huk hcc) λ_ ey hmz=>xA (α:=Str) z C_ z_9 z z z kR ey λ_ _ _ ae af _=>?_;obtain ⟨rfl,_⟩:=a_n af;exact R z (l0 g_9 z<|ae.at0 z)<|bdB hmz λ_ ah a2=>R z (a_d z z ah)<|bdB a2 λai el a3=>R z (a_d z z el)<|Ra z<|Wl (λ_ q=>⟨ai,som a3,kaA q,br I,a_W el⟩)
   exact M_<|λ_ q=>⟨x5,som<|ifF huk hcc,kaA q,br I,hv⟩
  rintro aj _ ⟨J,rfl,_,_,_⟩;revert aj;refine Wo (Wd (X:=noX) 0 (.rd 0<|.rd 1<|.rd 2<|.rd 3<|.rd 4<|.rd 5<|.rd 7<|.rd 8<|.rd 9<|.rd 10<|.rd 11<|.ef 6<|.ef 12<|.rd 13<|.rd 14 .done) mo (by kernel_rfl) λaL aM _=>dM z z z<|dR z z (lC [sl A0 N0 C0] l_ j_ z)<|dR z z (lN (vs:=vR x2 A2 N2 C2 A3 N3 C3 A1 N1 C1 A4 N4 C4) z_ h_ z z fid<|kBr 0 8)<|dR z z (fd b_4 z)<|dR z z (l0 g_3 z kBa)<|dM z z z<|dR z z (fd a_4 z)<|dR z z (l0 a_k z kBa)<|dM z z z ?_);refine bdB hmx λxd ak a4=>dxA (α:=Val) z z a_v e_ z z z kR ak λ_ _ _ al am _=>?_;obtain ⟨an,ap,aq,ar,av,aw,rfl,ax,_,_⟩:=g_v am;refine dR z z (lN (vs:=[vI xd.number,sl an ap aq,sl ar av aw]) s_ e_ z z fid al)<|bdB a4 λ_ ay a5=>dE z z (fc call55 z<|d_n (B:=B) ay kM W Y a0 kR kR kR kR a1<|ic (Nat.le_of_lt hka)<|lt_ (repS.len V) x_) iB ?_;rintro _ _ ⟨_,rfl,az⟩;refine bdB a5 λ_ aA a6=>dE z z (fc call49 z<|ad.run (B:=B) aA kM kR az ax (kR (l:=xd.bytes))<|kR (l:=xd.items)) iB ?_;rintro _ _ ⟨_,rfl,_⟩;exact bdB a6 λaB em a7=>dR z z (a_d z z em)<|dQ z z z<|pD<|Wo<|Wg<|Rm z<|R z (inc_ hka (lt_ (repS.len V) x_) z z)<|Ra z<|Wl (λ_ q=>⟨aB,(som a7).symm,⟨kaA q,kW,a_W em⟩⟩)
 .rintro x0 _ _ ⟨a8,aC,h4⟩;refine Wu ?_ a8;refine Wq<|Wm z<|Rf z a_4 z<|R z (l0 a_k z kBa)<|R z (lnR a_v z kR)<|Rl z z z<|Wx z (λhc=>(S_ hc).elim) (λ_=>?_);exact We<|λ_ q=>⟨rfl,⟨kaA q,aC,h4⟩⟩
 .rintro x0 aD _ rfl ⟨_,_,h4⟩;have a9:=elL hmh;revert aD;exact Wo<|Wm z<|Rw z<|Wr<|rS1 a9 hr z ⟨kW,z,h4⟩
 exact lqA hmh λ_ _ h=>h.2
theorem j_W:∀n,l_x n
  | 0=>⟨⟨λhm=>by intros;exact nomatch (show none=some _ from hm)⟩,⟨λhm=>by intros;exact nomatch (show none=some _ from hm)⟩⟩
  | n+1=>⟨T_w0a<|j_W n,T_w1s<|j_W n⟩
theorem W_w0a:l_v (b_y n).spec_l10Text:=(j_W n).1
theorem W_w1s:l_w (b_y n).spec_l10List:=(j_W n).2
theorem W_w2y {x1:c_}{x2:Int}{x3:Val}{res:Str}(hm:h_E n x1 x2 x3=some res)(a3:B<=w0.z)(Y:rp w0 B A0 N0 C0 x1.rules)(H:inI x2)(I:inI x3.number)(a0:rp w0 B A7 N7 C7 x3.bytes)(a1:rp w0 B A8 N8 C8 x3.items):f_ prog 21 [(.agg #[sl A0 N0 C0]),vI x2,(.agg #[vI x3.number,sl A7 N7 C7,sl A8 N8 C8])] w0 (Q4 w0 B res):=by
 unfold h_E at hm;refine goG func21 z z z λfn hr=>Ws<|EvX [sl A0 N0 C0] z z z λw1 _ _=>EvX [vI x3.number,sl A7 N7 C7,sl A8 N8 C8] z z z λw5 _ a2=>Rw z<|Wq<|Ws<|R z (lC [sl A0 N0 C0] l_ j_ z)<|Rm z<|R z (lC [vI x3.number,sl A7 N7 C7,sl A8 N8 C8] s_ e_ z)<|bdB hm λ_ O J=>EcA z (fc call48 z<|W_w2v (B:=B) O kM kR H I (kR (l:=x3.bytes))<|kR (l:=x3.items)) λ_ _=>R z (not_ z)<|Wx z (λG=>?_) (λG=>?_)
 .exact Ws<|Rw z<|Wr<|rS1 (ifT J G) hr z ⟨kW,z,lb z⟩
 refine Wk<|Ws<|R z (lC [sl A0 N0 C0] l_ j_ z)<|Rm z<|R z (lC [vI x3.number,sl A7 N7 C7,sl A8 N8 C8] s_ e_ z)<|bdB (ifF J G) λ_ V L=>E z (fc call49 z<|W_w0a.run (B:=B) V kM kR H I (kR (l:=x3.bytes))<|kR (l:=x3.items)) ?_;rintro _ _ ⟨_,rfl,W⟩;exact Rw z<|Wr<|rS1 L hr z ⟨kW,z,W⟩
theorem W_w1t {x1:c_}{x2:Bt}{x3:Str}{res:Str}(hm:d_D n x1 x2 x3=some res)(a3:B<=w0.z)(a0:rp w0 B A0 N0 C0 x1.rules)(a1:rp w0 B A5 N5 C5 x2)(I:x3.b.length<=LEN):f_ prog 8 [(.agg #[sl A0 N0 C0]),sl A5 N5 C5,Str.v x3] w0 (Q4 w0 B res):=by
 unfold d_D at hm;refine goG func8 z z z λfn hr=>Ws<|EvX [sl A0 N0 C0] z z z λwe _ a2=>Rw z<|Ws<|R z (lC [sl A0 N0 C0] l_ j_ z)<|RM z z ?_;obtain ⟨G,_,ef,J⟩:=a_t hm;refine E z (fc call19 z<|W_w1q (B:=B) ef kM kR kR I) ?_;rintro _ _ ⟨_,rfl,_,hh,_,_⟩;refine Rm z<|Re z z z<|Re z z z<|EvZ [(Str.v (⟨[]⟩:Str)),vI 0,vI 0,vI 0] z i_3 z λwi _ W=>E0q [Str.v G.path,vI G.rule,vI G.start,vI G.end_] b_i z z W z λa4 _ _=>Rw z<|Wq<|Wm z<|R z (not_ z)<|Wx z (λH=>?_) (λH=>?_)
 .exact Ws<|Rw z<|Wr<|rS1 (ifT J H) hr z ⟨kW,z,lb z⟩
 refine Wk<|Ws<|R z (lC [sl A0 N0 C0] l_ j_ z)<|RM z z ?_;obtain ⟨r1,_,ek,hml⟩:=a_t<|ifF J H;refine E z (fc call20 z<|W_w2t (B:=B) ek kM kR kR I) ?_;rintro _ w6 ⟨_,L,O,V,_,aa,nb,cc,_,rfl,hn,ho,hp,hq,ht⟩;obtain ⟨_,_,_,_,_⟩:=U_ hq ht;refine Rm z<|Re z z z<|Re z z z<|EvZ [vI 0,sN,sN] z a_9 z λwm _ Y=>E0q [vI r1.number,sl L O V,sl aa nb cc] e_ z z Y z λa5 hu _=>Rw z<|Ws<|R z (lC [sl A0 N0 C0] l_ j_ z)<|Rf z j_O z<|R z (l0 g_3 z kBa)<|R z (lC [vI r1.number,sl L O V,sl aa nb cc] s_ e_ z)<|bdB hml λ_ es hmv=>E z (fc call21 z<|W_w2y (B:=w6.z) es (a_5 kM) (repS.mono kR kM) hh hn (or_ (kO (l:=r1.bytes))<|a_.lt ho)<|or_ (kO (l:=r1.items))<|a_.lt hp) ?_;rintro _ _ ⟨_,rfl,hw⟩;exact Rw z<|Wr<|rS1 hmv hr z ⟨kW,z,hw⟩
theorem W_w2z {x1:List Str}{res:Str}(hm:g_E x1=some res)(W:B<=w0.z)(J:rp w0 B A0 N0 C0 x1):f_ prog 30 [sl A0 N0 C0] w0 (Q4 w0 B res):=by
 unfold g_E at hm;refine goG func30 z z z λfn hr=>Ws<|Rw z<|Ws<|Rw z<|Wq<|Ws<|Rw z<|bdB hm λ_ L G=>Wf (σ:=Str) (ρ:=Str) (λ(k3:Nat)(x0:Str) a w=>Sat 19 [(0,sl A0 N0 C0),(3,Str.v x0),(4,vI ((k3:Nat):Int))] a/\Below w0.z w0 w/\x0.b.length<=LEN) (λ(x0:Str) a w=>Sat 19 [(3,Str.v x0)] a/\Below w0.z w0 w/\x0.b.length<=LEN) (rQ prog fn<|Q4 w0 B) L ?_ ?_ ?_ ?_ ?_
 .exact λ_ q=>⟨kaA q,br w0,lb z⟩
 .rintro k3 x0 _ _ _ H ⟨O,s8,h1⟩ V;refine Wu ?_ O;refine Wq<|Wm z<|Rm z<|R z (lnR C_ z kR)<|Rl z z z<|Wx z (λ_=>?_) (λhc=>(R_ H hc).elim);refine Wk<|Wq<|Wb<|Wg<|Rm z<|bdB V λ_ ea hmb=>R z (a_d z z ea)<|RM z z<|bdB hmb λ_ ec hmd=>xA (α:=Str) z C_ z_9 z z z kR ec λ_ _ _ he hf _=>?_;obtain ⟨rfl,_⟩:=a_n hf;exact R z (l0 g_9 z<|he.at0 z)<|bdB hmd λxg I hmh=>R z (a_d z z I)<|Rw z<|Wg<|Rm z<|R z (inc_ H (lt_ (repS.len J) x_) z z)<|Ra z<|Wl (λ_ q=>⟨xg,(som hmh).symm,⟨kaA q,s8,a_W I⟩⟩)
 .rintro x0 _ _ ⟨hSi,sj,h1⟩;refine Wu ?_ hSi;refine Wq<|Wm z<|Rm z<|R z (lnR C_ z kR)<|Rl z z z<|Wx z (λhc=>(S_ hc).elim) (λ_=>?_);exact We<|λ_ q=>⟨rfl,⟨kaA q,sj,h1⟩⟩
 .rintro x0 ak _ rfl ⟨_,sm,h1⟩;have hml:=elL G;revert ak;exact Wo<|Wm z<|Rw z<|Wr<|rS1 hml hr z ⟨sm,z,h1⟩
 exact lqA G λ_ _ h=>h.2
theorem W_w30 {x1:m_}{g1:Nat}{x2:Str}{res:Str×Int×Int}(hm:h_N n x1 x2=some res)(hB1:Blk w0 g1 [sl A0 N0 C0,vI x1.i,vI x1.h])(bc:B<=w0.z)(hBg:¬B g1)(cU:rp w0 B A0 N0 C0 x1.b)(aM:inI x1.i)(aN:inI x1.h)(aO:x2.b.length<=LEN):f_ prog 13 [pt g1,Str.v x2] w0 (Q3 w0 g1 B A0 N0 C0 x1 res):=by
 unfold h_N at hm;refine goG func13 z z z λfn hr=>Ws<|Rw z<|Wm z ?_;obtain ⟨_,_,be,aP⟩:=a_t hm;refine E z (fc call29 z<|l_o (B:=B) be bc aO) ?_;rintro _ L ⟨_,aj,nk,cl,rfl,bf⟩;refine Rm z<|Re z z z<|Re z z z<|Ra z<|Rw z<|Ws<|E z (f0 (α:=Str) Q_) ?_;rintro _ wb ⟨bg,bh,bi,rfl,_,bj⟩;refine Rw z<|Wq<|Ws<|Rw z ?_;obtain ⟨_,aQ,al⟩:=bdS aP;refine Wf (σ:=(List Str)×Int×Int) (ρ:=Str×Int×Int) (λ(kc:Nat) s a w=>un3 (λxa O V=>∃a2 I J G,Sat 59 [(0,pt g1),(5,sl aj nk cl),(7,sl a2 I J),(8,vI ((kc:Nat):Int))] a/\Chg (· ∈ ([g1]++[L.z])) wb w/\a_ w G (sl a2 I J) xa/\G.Nodup/\(∀k∈G,k∈[L.z]∨wb.z<=k)/\inI O/\inI V/\Blk w g1 [sl A0 N0 C0,vI O,vI V]) s) (λs a w=>un3 (λxa O V=>∃a2 I J G,Sat 59 [(0,pt g1),(7,sl a2 I J)] a/\Chg (· ∈ ([g1]++[L.z])) wb w/\a_ w G (sl a2 I J) xa/\G.Nodup/\(∀k∈G,k∈[L.z]∨wb.z<=k)/\inI O/\inI V/\Blk w g1 [sl A0 N0 C0,vI O,vI V]) s) (rQ prog fn<|Q3 w0 g1 B A0 N0 C0 x1) aQ ?_ ?_ ?_ ?_ ?_
 .exact λ_ q=>⟨bg,bh,bi,[L.z],kaA q,cr ([g1]++[L.z]) wb,bj,a_j,sQ,aM,aN,kB⟩
 .rintro kc ⟨xa,O,V⟩ _ _ _ am ⟨a2,I,J,G,aR,_,a5,h5,ax,hd,he,hf⟩ aS;refine Wu ?_ aR;refine Wq<|Wm z<|Rm z<|R z (lnR C_ z kR)<|Rl z z z<|Wx z (λ_=>?_) (λhc=>(R_ am hc).elim);refine Wk<|Wq<|Wb<|Wm z ?_;obtain ⟨_,bk,bm,bn,aT⟩:=i_<|a_h aS;refine E z (fc call28 z<|a_P (B:=B) bn hf kM sQ kR hd he<|ii z) ?_;rintro _ H ⟨_,rfl,_,bo,bp,_⟩;refine Wn<|Wb<|Ws<|Rq z z z<|Rw z<|bdB aT λbq ap aU=>Wt (λa w=>∃(xm:List Str),xm=bq/\∃an no cp Sg,Sat 59 [(0,pt g1),(5,sl aj nk cl),(7,sl an no cp),(8,vI ((kc:Nat):Int))] a/\Cg G H w/\a_ w Sg (sl an no cp) xm/\Sg.Nodup/\(∀k∈Sg,k∈G∨H.z<=k)) ?_ ?_
  .refine Wc z (λa0=>?_)<|λa0=>?_
   .refine Wg<|Rm z<|EvA z (fS [(.const<|Str.v ⟨[35]⟩)] Q_ z z z (G_ z) (lb z)<|lb z) λbr a6=>have:=a6.below;have aK:Blk br H.z [(Str.v (⟨[35]⟩:Str))]:=a6.blk;have:=a_a a6<|a_T<|lb z;bdB (ifT ap a0) λbs bt aV=>E z (a_o (α:=Str) Q_ bt z z kO h5 aK (a_T<|lb z) an_ q_) ?_;rintro _ _ ⟨bu,bv,bw,bx,rfl,_,bz,bA,_⟩;exact Ra z<|Wl (λ_ q=>⟨bs,som aV,bv,bw,bx,bu,kaA q,kW,bz,bA,sQ⟩)
   refine Ws<|Rq z z z<|Rw z<|bdB (ifF ap a0) λbB aq aW=>Wt (λa w=>∃(xq:List Str),xq=bB/\∃ar ns ct Sh,Sat 59 [(0,pt g1),(5,sl aj nk cl),(7,sl ar ns ct),(8,vI ((kc:Nat):Int))] a/\Cg G H w/\a_ w Sh (sl ar ns ct) xq/\Sh.Nodup/\(∀k∈Sh,k∈G∨H.z<=k)) ?_ ?_
   .refine Wc z (λa1=>?_)<|λa1=>?_
    .refine Wg<|Rm z<|EvA z (fS [(.const<|Str.v ⟨[46,46]⟩)] Q_ z z z (G_ z) (lb z)<|lb z) λbC a7=>have:=a7.below;have aL:Blk bC H.z [(Str.v (⟨[46,46]⟩:Str))]:=a7.blk;have:=a_a a7<|a_T<|lb z;bdB (ifT aq a1) λbD bE aX=>E z (a_o (α:=Str) Q_ bE z z kO h5 aL (a_T<|lb z) an_ q_) ?_;rintro _ _ ⟨bF,bG,bH,bI,rfl,_,bJ,bK,_⟩;exact Ra z<|Wl (λ_ q=>⟨bD,som aX,bG,bH,bI,bF,kaA q,kW,bJ,bK,sQ⟩)
    refine Ws<|Rq z z z<|Rw z<|bdB (ifF aq a1) λbL au aY=>Wt (λa w=>∃(xu:List Str),xu=bL/\∃av nw cx Si,Sat 59 [(0,pt g1),(5,sl aj nk cl),(7,sl av nw cx),(8,vI ((kc:Nat):Int))] a/\Cg G H w/\a_ w Si (sl av nw cx) xu/\Si.Nodup/\(∀k∈Si,k∈G∨H.z<=k)) ?_ ?_
    .refine Wc z (λa3=>?_)<|λa3=>?_
     .refine Wg<|RM z z<|Rm z<|bdB (ifT au a3) λa8 bM aZ=>xA (α:=Str) z C_ z_9 z z z kR bM λ_ _ _ bN bO _=>?_;obtain ⟨rfl,bP⟩:=a_n bO;refine R z (l0 g_9 z<|bN.at0 z)<|EvA z (fS [(.const<|Str.v ⟨[46,46]⟩),(.tmp 46)] Q_ z z z (G_ z) (lb z)<|lb z) λay az=>have:=az.below;have aG:Blk ay H.z [(Str.v (⟨[46,46]⟩:Str)),Str.v a8]:=az.blk;have ai:a_ ay [H.z] (sl (some ⟨H.z,0,none⟩) 2 2) ([(⟨[46,46]⟩:Str),a8]:List Str):=e_c (l:=[(⟨[46,46]⟩:Str),a8]) aG (ac0 (lb z)<|ac0 bP an0) z;bdB aZ λbR bS b0=>E z (fN (α:=Str) Q_ bS z z kO h5<|or_ ai<|zin (B:=B) (i:=H.z) sQ<|a_.lt ai) ?_;rintro _ _ ⟨bT,bU,bV,bW,rfl,_,bX,bY,_⟩;exact Ra z<|Wl (λ_ q=>⟨bR,som b0,bU,bV,bW,bT,kaA q,kW,bX,bY,sQ⟩)
     refine Wg<|RM z z<|Rm z<|bdB (ifF au a3) λbZ c0 b1=>xA (α:=Str) z C_ z_9 z z z kR c0 λ_ _ _ c1 c2 _=>?_;obtain ⟨rfl,aA⟩:=a_n c2;refine R z (l0 g_9 z<|c1.at0 z)<|EvA z (fS [(.tmp 27)] Q_ z z z (G_ z) (lb z)<|lb z) λc3 a9=>have:=a9.below;have aH:Blk c3 H.z [Str.v bZ]:=a9.blk;have:=a_a a9<|a_T aA;bdB b1 λc5 c6 b2=>E z (a_o (α:=Str) Q_ c6 z z kO h5 aH (a_T aA) an_ q_) ?_;rintro _ _ ⟨c7,c8,c9,ca,rfl,_,cb,cc,_⟩;exact Ra z<|Wl (λ_ q=>⟨c5,som b2,c8,c9,ca,c7,kaA q,kW,cb,cc,sQ⟩)
    rintro cd _ ⟨xu,rfl,av,nw,cx,Si,_,_,ce,cf,_⟩;revert cd;exact λ_ q=>⟨xu,som aY,av,nw,cx,Si,kaA q,kW,ce,cf,sQ⟩
   rintro cg _ ⟨xq,rfl,ar,ns,ct,Sh,_,_,ch,ci,_⟩;revert cg;exact λ_ q=>⟨xq,som aW,ar,ns,ct,Sh,kaA q,kW,ch,ci,sQ⟩
  rintro cj _ ⟨xm,rfl,an,no,cp,Sg,_,_,ck,cm,_⟩;revert cj;exact Wo<|Wg<|Rm z<|R z (inc_ am (lt_ (repS.len bf) x_) z z)<|Ra z<|Wl (λ_ q=>⟨(xm,bk,bm),(som aU).symm,⟨an,no,cp,Sg,kaA q,kW,ck,cm,sQ,bo,bp,kB⟩⟩)
 .rintro ⟨xa,O,V⟩ _ _ ⟨a2,I,J,G,b3,_,a5,h5,ax,hd,he,hf⟩;refine Wu ?_ b3;refine Wq<|Wm z<|Rm z<|R z (lnR C_ z kR)<|Rl z z z<|Wx z (λhc=>(S_ hc).elim) (λ_=>?_);exact We<|λ_ q=>⟨rfl,⟨a2,I,J,G,kaA q,kW,a5,h5,sQ,hd,he,hf⟩⟩
 .rintro ⟨xa,O,V⟩ cn _ rfl ⟨a2,I,J,G,_,_,a5,h5,ax,hd,he,hf⟩;have b4:=elL al;revert cn;refine Wo<|Wq<|Wm z ?_;obtain ⟨_,co,cq,cu,b5⟩:=i_<|a_h b4;refine E z (fc call11 z<|f_P (B:=B) cu hf kM sQ kR hd he<|ii z) ?_;rintro _ W ⟨_,rfl,aB,aC,cv⟩;refine Wn<|bdB b5 λcw aw b6=>Wt (λa w=>∃(aa:List Str)(xy:Int)(xz:Int),(aa,xy,xz)=cw/\∃ab ad ae Y,Sat 59 [(7,sl ab ad ae)] a/\Chg (· ∈ ([g1]++G)) W w/\a_ w Y (sl ab ad ae) aa/\Y.Nodup/\(∀k∈Y,k∈G∨W.z<=k)/\inI xy/\inI xz/\Blk w g1 [sl A0 N0 C0,vI xy,vI xz]) ?_ ?_
  .refine Wc z (λa4=>?_)<|λa4=>?_
   .refine Wg<|RM z z<|EvA z (fS [(.const<|Str.v ⟨[46,46]⟩),.const<|Str.v ⟨[35]⟩,.const<|Str.v ⟨[112,49]⟩,(.const<|Str.v ⟨[35,35]⟩)] Q_ z z z (G_ z) (lb z)<|lb z) λaf aD=>?_;have:=aD.below;have aI:Blk af W.z [(Str.v (⟨[46,46]⟩:Str)),Str.v (⟨[35]⟩:Str),Str.v (⟨[112,49]⟩:Str),(Str.v (⟨[35,35]⟩:Str))]:=aD.blk;have ak:a_ af [W.z] (sl (some ⟨W.z,0,none⟩) 4 4) ([(⟨[46,46]⟩:Str),(⟨[35]⟩:Str),(⟨[112,49]⟩:Str),(⟨[35,35]⟩:Str)]:List Str):=e_c (l:=[(⟨[46,46]⟩:Str),(⟨[35]⟩:Str),(⟨[112,49]⟩:Str),(⟨[35,35]⟩:Str)]) aI (ac0 (lb z)<|ac0 (lb z)<|ac0 (lb z)<|ac0 (lb z) an0) z;obtain ⟨cy,cz,cA,cB,b7⟩:=i_<|ifT aw a4;refine E z (fc call12 z<|e_Z (B:=zn B W.z af.z) cB kB (b_1 kM lr) sQ (repS.mono kR a_I) aB aC<|or_ ak<|zin (B:=B) (i:=W.z) sQ<|a_.lt ak) ?_;rintro _ cC ⟨_,rfl,aE,cD,cE,_⟩;refine EvA z (fS [(.tmp 54)] Q_ z z z (G_ z) (lb z)<|lb z) λcF ah=>have:=ah.below;have aJ:Blk cF cC.z [Str.v cy]:=ah.blk;have:=a_a ah<|a_T aE;bdB b7 λcG cH b8=>E z (a_o (α:=Str) Q_ cH z z kO h5 aJ (a_T aE) an_ q_) ?_;rintro _ _ ⟨cI,cJ,cK,cL,rfl,_,cM,cN,_⟩;exact Ra z<|Wl (λ_ q=>⟨cG,cz,cA,som b8,cJ,cK,cL,cI,kaA q,kW,cM,cN,sQ,cD,cE,kB⟩)
   exact M_<|λ_ q=>⟨xa,co,cq,som<|ifF aw a4,a2,I,J,G,kaA q,cr ([g1]++G) W,kO,h5,sQ,aB,aC,cv⟩
  rintro cO cP ⟨aa,xy,xz,rfl,ab,ad,ae,Y,_,_,aF,_,_,cQ,cR,_⟩;revert cO;refine Wo<|Wm z<|bdB (a_h b6) λ_ cS b9=>E z (fc call30 z<|W_w2z (B:=zn B L.z cP.z) cS (b_1 kM lr)<|or_ aF<|zin (B:=B) (i:=L.z) sQ<|a_.lt aF) ?_;rintro _ _ ⟨_,rfl,cT⟩;exact Rw z<|Wr<|rS1 b9 hr z ⟨kW,z,cT,cQ,cR,kB⟩
 exact lqA al λ_ _ h=>h.2
def Q22 (w0:World)(B:Zone)(r:c_×Bt×Str×Str)(v:Value)(w':World):Prop:=Bw w0 w'/\un4 (λr1 r2 r3 G=>∃H I J S1 a2 L O S2,v = .tuple #[(.agg #[.slice H I J]),sl a2 L O,Str.v r3,Str.v G]/\a_ w' S1 (sl H I J) r1.rules/\a_ w' S2 (sl a2 L O) r2/\r3.b.length<=LEN/\G.b.length<=LEN/\(S1++S2).Nodup/\(∀k∈(S1++S2),w0.z<=k)) r
theorem W_w31 {x1:Bt}{res:c_×Bt×Str×Str}(hm:j_m n x1=some res)(aL:B<=w0.z)(aK:rp w0 B A0 N0 C0 x1):f_ prog 5 [sl A0 N0 C0] w0 (Q22 w0 B res):=by
 unfold j_m at hm;refine goG func5 z z z λfn hr=>Ws<|EvZ [sN] z e_j z λW _ _=>RA z z<|Rw z<|Wm z ?_;obtain ⟨_,_,rm,en,hmo⟩:=i_ hm;refine E z (fc call9 z<|W_w2i (B:=B) en kM kR) ?_;rintro _ w9 ⟨_,H,I,J,Sp,ad,ne,cf,Sq,rfl,ht,hu,hg,hv,hw⟩;obtain ⟨a3,a4,_,_,_⟩:=U_ hv hw;refine Rm z ?_;iterate 3 refine Re z z z ?_
 refine EvZ [sN] z e_j z λwr _ a1=>E0q [sl H I J] j_ z z a1 z λaM _ _=>Ra z<|Rw z<|Wm z<|bdB hmo λ_ ex hmy=>E z (fc call10 z<|W_w1c (B:=B) ex kM kR) ?_;rintro _ _ ⟨_,L,az,aa,ab,rfl,_,_,_,ae,af⟩;refine Rw z<|Ws<|R z (lC [sl H I J] l_ j_ z)<|RM z z<|bdB hmy λah ai a5=>E z (fc call8 z<|W_w1t (B:=zn B W.z w9.z) ai (b_1 kM kM) (or_ kO<|zin (B:=B) (i:=W.z) sQ<|a_.lt ht) (or_ kO<|zin (B:=B) (i:=W.z) sQ<|a_.lt hu) hg) ?_;rintro _ _ ⟨_,rfl,aj⟩;refine Rw z<|Wq<|Wm z ?_;obtain ⟨_,ak,al,am,a6⟩:=i_ a5;refine E z (fc call11 z<|f_P (B:=B) am kB kM sQ kR ae af<|ii z) ?_;rintro _ G ⟨_,rfl,hi,hj,an⟩;refine Wn<|bdB a6 λap huk a7=>Wt (λa w=>∃(x6:Str)(O:Int)(V:Int),(x6,O,V)=ap/\Sat 34 [(2,pt w0.z),(6,pt w9.z),(7,sl ad ne cf),(8,Str.v rm),(9,pt L),(10,Str.v x6)] a/\Cg [L] G w/\x6.b.length<=LEN/\inI O/\inI V/\Blk w L [sl az aa ab,vI O,vI V]) ?_ ?_
 .refine Wc z (λhca=>?_)<|λhca=>?_
  .refine Wg<|Rm z<|EvA z (fS [(.const<|Str.v ⟨[]⟩),.const<|Str.v ⟨[48]⟩,.const<|Str.v ⟨[120]⟩,(.const<|Str.v ⟨[33]⟩)] Q_ z z z (G_ z) (lb z)<|lb z) λwb hl=>?_;have:=hl.below;have a2:Blk wb G.z [(Str.v (⟨[]⟩:Str)),Str.v (⟨[48]⟩:Str),Str.v (⟨[120]⟩:Str),(Str.v (⟨[33]⟩:Str))]:=hl.blk;have Y:a_ wb [G.z] (sl (some ⟨G.z,0,none⟩) 4 4) ([(⟨[]⟩:Str),(⟨[48]⟩:Str),(⟨[120]⟩:Str),(⟨[33]⟩:Str)]:List Str):=e_c (l:=[(⟨[]⟩:Str),(⟨[48]⟩:Str),(⟨[120]⟩:Str),(⟨[33]⟩:Str)]) a2 (ac0 (lb z)<|ac0 (lb z)<|ac0 (lb z)<|ac0 (lb z) an0) z;obtain ⟨aq,ar,au,av,a8⟩:=i_<|ifT huk hca;refine E z (fc call12 z<|e_Z (B:=zn B G.z wb.z) av kB (b_1 kM lr) sQ (repS.mono kR a_I) hi hj<|or_ Y<|zin (B:=B) (i:=G.z) sQ<|a_.lt Y) ?_;rintro _ _ ⟨_,rfl,aw,ax,ay,aA⟩;exact Ra z<|Wl (λ_ q=>⟨aq,ar,au,som a8,kaA q,kW,aw,ax,ay,aA⟩)
  exact M_<|λ_ q=>⟨ah,ak,al,som<|ifF huk hca,kaA q,cr [L] G,aj,hi,hj,an⟩
 rintro aB aC ⟨x6,O,V,rfl,_,_,aD,aE,aF,_⟩;revert aB;refine Wo<|Wq (Wd (X:=λk=>k∈([L]++[w0.z])∨aC.z<=k) 0 (.rd 0<|.rd 1<|.rd 2<|.rd 3<|.rd 5<|.ef 4<|.ef 6<|.rd 7<|.rd 8<|.rd 9 .done) mo (by kernel_rfl) λaN aO _=>dR z z (lN (vs:=[sl H I J]) l_ j_ z z (a_H sQ<|Nat.lt_of_lt_of_le a1.lt kM)<|kBr 0 1) ?_);iterate 4 refine dM z z z ?_
 obtain ⟨_,_,_,aG,a9⟩:=i_<|a_h a7;refine dE z z (fc call13 z<|W_w30 (B:=B) aG kB kM sQ kR aE aF hg) (.inr λ_ _ h=>c_v h.1) ?_;rintro _ _ ⟨_,rfl,aH,_,_,_⟩;refine dE0 z (fs0 (cur':=[sl H I J]) j_ z z kB z z z z) (.inr λ_ _ h=>chgInN (List.mem_append_right _<|List.mem_singleton.2 rfl) h.2) ?_;rintro _ _ ⟨aI,aJ⟩;have:=aJ.one;iterate 3 refine dQ z z z ?_
 refine pD<|Wo ?_;obtain rfl:=som a9;exact Wr<|ret4 hr (o_ l_ j_ z aI z) z z z ⟨kW,H,I,J,Sp,ad,ne,cf,Sq,z,kO,kO,aH,aD,na_ a3 a4 sQ,sQ⟩
theorem l_y {x1:c_}{res:Int}(hm:g_n x1=some res)(J:B<=w0.z)(I:rp w0 B A0 N0 C0 x1.rules):f_ prog 64 [(.agg #[sl A0 N0 C0])] w0 (Q9 w0 B res):=by
 unfold g_n at hm;exact goG func64 z z z λfn hr=>Ws<|EvX [sl A0 N0 C0] z z z λL G H=>Rw z<|Ws<|Rf z H_ z<|R z (l0 I_ z<|H.at z)<|R z (lnR J_ z kR)<|R z (sb_ z z)<|Rw z<|Wr<|rS1 hm hr z ⟨G,z,iS _ _⟩
theorem e_l {x1:Int}{x2:Int}{x3:Int}{res:Bool}(hm:c_I x1 x2 x3=some res)(Y:B<=w0.z)(O:inI x1)(V:inI x2)(W:inI x3):f_ prog 122 [vI x1,vI x2,vI x3] w0 (Q0 w0 B res):=by
 unfold c_I at hm;refine goG func122 z z z λfn hr=>Ws<|Rw z<|Wq<|bdB hm λJ H I=>Wt (λa w=>∃(x4:Bool),x4=J/\Sat 15 [(6,vB x4)] a/\Below w0.z w0 w) ?_ ?_
 .refine Wg<|RM z z<|R z (b_S z z)<|Rm z ?_;rcases bs (decide<|x2<=x1) with G | G
  .exact Rh z G (mv z)<|Rh z G (mv z)<|Rh z G (b_S z z)<|R z (pT z G z)<|Ra z<|Wl (λ_ q=>⟨decide<|x1<=x3,som<|ifT H G,kaA q,br w0⟩)
  iterate 3 refine Nh z G ?_
  exact R z (pF z G z)<|Ra z<|Wl (λ_ q=>⟨false,som<|ifF H G,kaA q,br w0⟩)
 rintro L _ ⟨x4,rfl,_,s6⟩;revert L;exact Wo<|Wr<|rS1 I hr z ⟨s6,z⟩
theorem l_z {x1:c_}{x2:Int}{res:Bool}(hm:f_k x1 x2=some res)(a0:B<=w0.z)(W:rp w0 B A0 N0 C0 x1.rules)(Y:inI x2):f_ prog 69 [(.agg #[sl A0 N0 C0]),vI x2] w0 (Q0 w0 B res):=by
 unfold f_k at hm;refine goG func69 z z z λfn hr=>Ws<|EvX [sl A0 N0 C0] z z z λH _ J=>Rw z<|Wq<|bdB hm λO I L=>Wt (λa w=>∃(x3:Bool),x3=O/\Sat 14 [(4,vB x3)] a/\Below H.z H w) ?_ ?_
 .refine Wg<|Rm z<|R z (b_T z z)<|Rm z ?_;rcases bs (decide<|0<=x2) with G | G
  .exact Rh z G (mv z)<|Rh z G (fd H_ z)<|Rh z G (l0 I_ z<|J.at z)<|Rh z G (lnR J_ z kR)<|Rh z G (lss z z)<|R z (pT z G z)<|Ra z<|Wl (λ_ q=>⟨decide<|x2<(x1.rules.length:Int),som<|ifT I G,kaA q,br H⟩)
  iterate 5 refine Nh z G ?_
  exact R z (pF z G z)<|Ra z<|Wl (λ_ q=>⟨false,som<|ifF I G,kaA q,br H⟩)
 rintro V _ ⟨x3,rfl,_,_⟩;revert V;exact Wo<|Wr<|rS1 L hr z ⟨kW,z⟩
theorem l_A {x1:Str}{res:Bool}(hm:f_i n x1=some res)(ab:B<=w0.z)(aa:x1.b.length<=LEN):f_ prog 139 [Str.v x1] w0 (Q0 w0 B res):=by
 unfold f_i at hm;refine goG func139 z z z λfn hr=>Ws<|Rw z<|Wq<|Wq<|bdB hm λus huj hmk=>Wt (λa w=>∃(xd:Bool),xd=us/\Sat 43 [(0,Str.v x1),(14,vB xd)] a/\Below w0.z w0 w) ?_ ?_
 .refine Wg<|Rm z<|R z (lnT d_9 z)<|Rl z z z<|Rm z ?_;rcases bs (decide<|(x1.b.length:Int)<1) with H | H
  .iterate 3 refine Nh z H ?_
   exact R z (pT z H z)<|Wl (λ_ q=>⟨true,som<|ifT huj H,kaA q,br w0⟩)
  exact Rh z H (mv z)<|Rh z H (lnT d_9 z)<|Rh z H (a_2 z z)<|R z (pF z H z)<|Wl (λ_ q=>⟨decide<|12<(x1.b.length:Int),som<|ifF huj H,kaA q,br w0⟩)
 rintro au O ⟨xd,rfl,_,st⟩;revert au;refine Wo<|Wc z (λhce=>?_) (λhce=>?_)
 .exact Ws<|Rw z<|Wr<|rS1 (ifT hmk hce) hr z ⟨st,z⟩
 refine Wk<|Wq<|Wm z<|E z (q_U d_9 z) ?_;rintro _ wf ⟨rfl,_,hv⟩;refine Wn<|bdB (ifF hmk hce) λ_ huw hml=>c_a (σ:=Nat) (ρ:=Bool) (λ(x0:Nat) a w=>Sat 43 [(16,pt O.z)] a/\Cg [O.z] wf w/\b_c w O.z x1 x0) (λ(x0:Nat) a w=>Sat 43 [] a/\Cg [O.z] wf w/\b_c w O.z x1 x0) (rQ prog fn<|Q0 w0 B) huw ?_ ?_ ?_ ?_
 .exact λ_ q=>⟨kaA q,cr [O.z] wf,hv⟩
 .rintro x0 _ _ _ ⟨hSx,_,hg⟩ hmm;refine Wu ?_ hSx;refine Ws ?_;rcases bs (decide<|x0<x1.b.length) with V | V
  .refine E z (q_V z hg<|of_decide_eq_true V) ?_;rintro _ wa ⟨rfl,_,_⟩;refine Re z z z<|Wn<|Wq<|Wc z (λ_=>?_) (λhc=>(b_Q z hc).elim);refine Wk<|Wb<|Ws<|Re z z z<|Re z z z<|Ra z<|Rw z<|Wq<|bdB (ifT hmm V) λuy hun hmz=>Wt (λa w=>∃(W:Bool),W=uy/\Sat 43 [(3,vI (x0:Int)),(4,.int .i32<|(dec x1 x0).1),(5,vB W),(16,pt O.z)] a/\Below wa.z wa w) ?_ ?_
   .refine Wg<|Rm z<|R z (b_T z z)<|Rm z ?_;rcases bs (decide<|97<=((dec x1 x0).1)) with I | I
    .exact Rh z I (mv z)<|Rh z I (b_S z z)<|R z (pT z I z)<|Ra z<|Wl (λ_ q=>⟨decide<|((dec x1 x0).1)<=122,som<|ifT hun I,kaA q,br wa⟩)
    exact Nh z I<|Nh z I<|R z (pF z I z)<|Ra z<|Wl (λ_ q=>⟨false,som<|ifF hun I,kaA q,br wa⟩)
   rintro a4 wb ⟨W,rfl,_,_⟩;revert a4;refine Wo<|Wq<|bdB hmz λa5 huo a0=>Wt (λa w=>∃(xc:Bool),xc=a5/\Sat 43 [(3,vI (x0:Int)),(5,vB W),(6,vB xc),(16,pt O.z)] a/\Below wb.z wb w) ?_ ?_
   .refine Wg<|Rm z<|R z (b_T z z)<|Rm z ?_;rcases bs (decide<|48<=((dec x1 x0).1)) with J | J
    .exact Rh z J (mv z)<|Rh z J (b_S z z)<|R z (pT z J z)<|Ra z<|Wl (λ_ q=>⟨decide<|((dec x1 x0).1)<=57,som<|ifT huo J,kaA q,br wb⟩)
    exact Nh z J<|Nh z J<|R z (pF z J z)<|Ra z<|Wl (λ_ q=>⟨false,som<|ifF huo J,kaA q,br wb⟩)
   rintro a6 Y ⟨xc,rfl,_,_⟩;revert a6;refine Wo<|Wq<|bdB a0 λa7 hup hmq=>Wt (λa w=>∃(xh:Bool),xh=a7/\Sat 43 [(16,pt O.z),(42,vB xh)] a/\Below Y.z Y w) ?_ ?_
   .refine Wg<|Rm z<|R z (not_ z)<|Rm z ?_;rcases bs (!W) with G | G
    .have hmr:=ifT hup G;refine Rh z G (mv z)<|Rh z G (not_ z)<|Rh z G (mv z) ?_;rcases bs (!xc) with L | L
     .exact Nh z L<|Nh z L<|Rh z G (pT z L z)<|R z (pT z G z)<|Wl (λ_ q=>⟨true,som<|ifT hmr L,kaA q,br Y⟩)
     exact Rh z L (mv z)<|Rh z L (eql z z)<|Rh z G (pF z L z)<|R z (pT z G z)<|Wl (λ_ q=>⟨(x0:Int)==0,som<|ifF hmr L,kaA q,br Y⟩)
    iterate 3 refine Nh z G ?_
    exact Nv z<|Nv z<|Nh z G<|R z (pF z G z)<|Wl (λ_ q=>⟨false,som<|ifF hup G,kaA q,br Y⟩)
   rintro a8 _ ⟨xh,rfl,_,_⟩;revert a8;refine Wo<|Wc z (λhci=>?_) (λhci=>?_)
   .exact Ws<|Rw z<|Wr<|rtO<|qL (som<|ifT hmq hci).symm<|b_d hr z ⟨kW,z⟩
   exact M_<|λ_ q=>⟨x0+(dec x1 x0).2,(som<|ifF hmq hci).symm,⟨kaA q,kW,kI⟩⟩
  refine EvA z (q_W z hg<|of_decide_eq_false V) λ_ _=>Re z z z<|Wn<|Wq<|Wc z (λhc=>(b_Q hc z).elim) (λ_=>?_);exact We<|λ_ q=>b_I (som<|ifF hmm V).symm ⟨q.k sn,kW,kI⟩
 .rintro x0 a9 _ rfl ⟨_,_,hg⟩;have a1:=elL hml;revert a9;exact Wo<|Ws<|Rw z<|Wr<|rS1 a1 hr z ⟨kW,z⟩
 exact lqA hml λ_ _ h=>h.2
theorem e_m {x1:b_}{x2:Bool}{x3:Bool}{x4:Bool}{x5:Bool}{x6:Int}{res:Bool}(hm:c_U x1 x2 x3 x4 x5 x6=some res)(a9:B<=w0.z)(a1:x1.name.b.length<=LEN)(a2:inI x1.kind)(a3:inI x1.size)(a4:rp w0 B AB NB CB x1.bytes)(a5:rp w0 B AA NA CA x1.names)(a6:rp w0 B AC NC CC x1.tags)(a7:rp w0 B AD ND CD x1.kids)(a8:inI x6):f_ prog 162 [(.agg #[Str.v x1.name,vI x1.kind,vI x1.size,vB x1.little,sl AB NB CB,sl AA NA CA,sl AC NC CC,sl AD ND CD]),vB x2,vB x3,vB x4,vB x5,vI x6] w0 (Q0 w0 B res):=by
 unfold c_U at hm;refine goG func162 z z z λfn hr=>Ws<|EvX (vR x1 AB NB CB AA NA CA AC NC CC AD ND CD) z z z λw9 _ a0=>Rw z<|Wq<|bdB hm λup huq hmr=>Wt (λa w=>∃(xa:Bool),xa=up/\Sat 57 [(12,vB xa)] a/\Below w9.z w9 w) ?_ ?_
 .refine Wg<|RM z z<|bdB huq λuc hud hms=>d_F 18 uc 4 ?_ ?_
  .rcases bs x2 with Y | Y
   .iterate 3 refine Nh z Y ?_
    exact R z (pT z Y z)<|WLq 4 (ifT hud Y) z z z
   exact Rh z Y (fd a_B z)<|Rh z Y (l0 g_3 z<|a0.at z)<|Rh z Y (eql z z)<|R z (pF z Y z)<|WLq 4 (ifF hud Y) z z z
  refine Rm z<|bdB hms λue huf hmt=>d_F 27 ue 8 ?_ ?_
  .rcases bs uc with G | G
   .have hmg:=ifT huf G;refine Rh z G (mv z)<|Rh z G (mv z) ?_;rcases bs x3 with O | O
    .iterate 4 refine Nh z O ?_
     exact Rh z G (pT z O z)<|R z (pT z G z)<|WLq 8 (ifT hmg O) z z z
    exact Rh z O (fd b_2 z)<|Rh z O (l0 K_ z<|a0.at z)<|Rh z O (lnR k_ z kR)<|Rh z O (eql z z)<|Rh z G (pF z O z)<|R z (pT z G z)<|WLq 8 (ifF hmg O) z z z
   exact Nh z G<|Nh z G<|Nv z<|Nv z<|Nv z<|Nv z<|Nh z G<|R z (pF z G z)<|WLq 8 (ifF huf G) z z z
  refine Rm z<|bdB hmt λuh hui hmu=>d_F 36 uh 8 ?_ ?_
  .rcases bs ue with H | H
   .have hmj:=ifT hui H;refine Rh z H (mv z)<|Rh z H (mv z) ?_;rcases bs x4 with V | V
    .iterate 4 refine Nh z V ?_
     exact Rh z H (pT z V z)<|R z (pT z H z)<|WLq 8 (ifT hmj V) z z z
    exact Rh z V (fd c_2 z)<|Rh z V (l0 a_J z<|a0.at z)<|Rh z V (lnR C_ z kR)<|Rh z V (eql z z)<|Rh z H (pF z V z)<|R z (pT z H z)<|WLq 8 (ifF hmj V) z z z
   exact Nh z H<|Nh z H<|Nv z<|Nv z<|Nv z<|Nv z<|Nh z H<|R z (pF z H z)<|WLq 8 (ifF hui H) z z z
  refine Rm z<|bdB hmu λuk hul hmm=>d_F 45 uk 8 ?_ ?_
  .rcases bs uh with I | I
   .have hmn:=ifT hul I;refine Rh z I (mv z)<|Rh z I (mv z) ?_;rcases bs x5 with W | W
    .iterate 4 refine Nh z W ?_
     exact Rh z I (pT z W z)<|R z (pT z I z)<|WLq 8 (ifT hmn W) z z z
    exact Rh z W (fd b_6 z)<|Rh z W (l0 v_ z<|a0.at z)<|Rh z W (lnR u_ z kR)<|Rh z W (eql z z)<|Rh z I (pF z W z)<|R z (pT z I z)<|WLq 8 (ifF hmn W) z z z
   exact Nh z I<|Nh z I<|Nv z<|Nv z<|Nv z<|Nv z<|Nh z I<|R z (pF z I z)<|WLq 8 (ifF hul I) z z z
  refine Rm z ?_;rcases bs uk with J | J
  .have hmo:=ifT hmm J;refine Rh z J (mv z)<|Rh z J (lss z z)<|Rh z J (mv z) ?_;rcases bs (decide<|x6<0) with L | L
   .iterate 5 refine Nh z L ?_
    exact Rh z J (pT z L z)<|R z (pT z J z)<|Ra z<|Wl (λ_ q=>⟨true,som<|ifT hmo L,kaA q,br w9⟩)
   exact Rh z L (fd E_ z)<|Rh z L (l0 v_ z<|a0.at z)<|Rh z L (lnR u_ z kR)<|Rh z L (mv z)<|Rh z L (eql z z)<|Rh z J (pF z L z)<|R z (pT z J z)<|Ra z<|Wl (λ_ q=>⟨(x1.kids.length:Int)==x6,som<|ifF hmo L,kaA q,br w9⟩)
  iterate 3 refine Nh z J ?_
  exact Nv z<|Nv z<|Nv z<|Nv z<|Nv z<|Nh z J<|R z (pF z J z)<|Ra z<|Wl (λ_ q=>⟨false,som<|ifF hmm J,kaA q,br w9⟩)
 rintro av _ ⟨xa,rfl,_,_⟩;revert av;exact Wo<|Wr<|rS1 hmr hr z ⟨kW,z⟩
theorem f_R {x1:c_}{x2:Int}{res:Int}(hm:d_B x1 x2=some res)(a1:B<=w0.z)(Y:rp w0 B A0 N0 C0 x1.rules)(W:inI x2):f_ prog 143 [(.agg #[sl A0 N0 C0]),vI x2] w0 (Q9 w0 B res):=by
 unfold d_B at hm;refine goG func143 z z z λfn hr=>Ws<|EvX [sl A0 N0 C0] z z z λV _ a0=>Rw z<|Wq<|Wq<|bdB hm λua hub J=>Wt (λa w=>∃(x3:Bool),x3=ua/\Sat 37 [(1,vI x2),(2,pt w0.z),(27,vB x3)] a/\Below V.z V w) ?_ ?_
 .refine Wg<|R z (lC [sl A0 N0 C0] l_ j_ z)<|Rm z<|bdB hub λrc ed L=>EcA z (fc call69 z<|l_z (B:=B) ed kM kR W) λ_ s8=>R z (not_ z)<|Rm z ?_;rcases bs (!rc) with H | H
  .iterate 7 refine Nh z H ?_
   exact R z (pT z H z)<|Rm z<|Nh z z<|Nh z z<|Nh z z<|Nh z z<|Nh z z<|Nh z z<|Nh z z<|Nh z z<|R z (pT z z z)<|Wl (λ_ q=>⟨true,som<|ifT L H,kaA q,s8⟩)
  refine Rh z H (fd H_ z)<|Rh z H (l0 I_ z kBa)<|Rh z H (mv z)<|bdB (ifF L H) λxe ef O=>RXg z z H z (at_ (α:=b_) J_ h_ z z z kR ef) ?_;rintro _ ⟨_,_,_,rfl,hg,hh,_⟩;obtain ⟨_,_,_,_,_,_,_,_,_,_,_,_,rfl,_,_,_,_,_,_,_⟩:=a_x hh;refine Rh z H (fd a_l z)<|Rh z H (l0 g_3 z<|hg.at (j:=1) z)<|Rh z H (nq z z)<|R z (pF z H z)<|Rm z ?_;rcases bs (xe.kind != 1) with G | G
  .iterate 8 refine Nh z G ?_
   exact R z (pT z G z)<|Wl (λ_ q=>⟨true,som<|ifT O G,kaA q,s8⟩)
  refine Rh z G (fd H_ z)<|Rh z G (l0 I_ z kBa)<|Rh z G (mv z)<|bdB (ifF O G) λ_ ei hmj=>RXg z z G z (at_ (α:=b_) J_ h_ z z z kR ei) ?_;rintro _ ⟨_,_,_,rfl,hk,hl,_⟩;obtain ⟨_,_,_,_,_,_,_,_,_,_,_,_,rfl,_,_,hn,_,_,_,_⟩:=a_x hl;refine Rh z G (fd a_B z)<|Rh z G (l0 g_3 z<|hk.at (j:=2) z)<|bdB hmj λrm eo hmp=>Eg z z G z (fc call122 z<|e_l (B:=B) eo kM hn (ii z)<|ii z) ?_;rintro _ _ ⟨_,rfl⟩;exact Rh z G (not_ z)<|R z (pF z G z)<|Wl (λ_ q=>⟨!rm,som hmp,kaA q,kW⟩)
 rintro aq _ ⟨x3,rfl,_,_⟩;revert aq;refine Wo<|Wc z (λI=>?_) (λI=>?_)
 .exact Ws<|Rw z<|Wr<|rS1 (ifT J I) hr z ⟨kW,z,ii z⟩
 refine Wk<|Ws<|Rf z H_ z<|R z (l0 I_ z kBa)<|Rm z<|bdB (ifF J I) λ_ er hms=>xA (α:=b_) z J_ h_ z z z kR er λ_ _ _ ht hu _=>?_;obtain ⟨_,_,_,_,_,_,_,_,_,_,_,_,rfl,_,_,_,_,_,_,_⟩:=a_x hu;exact Rf z a_B z<|R z (l0 g_3 z<|ht.at (j:=2) z)<|R z (d_2 z z)<|bdB hms λ_ ev hmw=>R z (k_5 z z<|nnS ev)<|R z (sb_ z z)<|Rw z<|Wr<|rS1 hmw hr z ⟨kW,z,iS _ _⟩
theorem W_w32 {x1:List Str}{x2:Str}{res:Bool}(hm:g_m x1 x2=some res)(a1:B<=w0.z)(H:rp w0 B A0 N0 C0 x1)(a0:x2.b.length<=LEN):f_ prog 171 [sl A0 N0 C0,Str.v x2] w0 (Q0 w0 B res):=by
 unfold g_m at hm;refine goG func171 z z z λfn hr=>Ws<|Rw z<|Wq<|Wm z<|R z (lnR C_ z H)<|Rm z<|Wn<|bdB hm λ_ O I=>Wf (σ:=Unit) (ρ:=Bool) (λ(k2:Nat)(_:Unit) a w=>Sat 17 [(1,Str.v x2),(7,sl A0 N0 C0),(8,vI (x1.length:Int)),(9,vI ((k2:Nat):Int))] a/\Below w0.z w0 w) (λ(_:Unit) a w=>Sat 17 [] a/\Below w0.z w0 w) (rQ prog fn<|Q0 w0 B) O ?_ ?_ ?_ ?_ ?_
 .exact λ_ q=>⟨kaA q,br w0⟩
 .rintro k2 _ _ _ _ J ⟨V,s5⟩ W;refine Wu ?_ V;refine Ws<|Rl z z z<|Wn<|Wq<|Wc z (λ_=>?_) (λhc=>(R_ J hc).elim);refine Wk<|Wq<|Wb<|Ws<|bdB W λ_ Y L=>xA (α:=Str) z C_ z_9 z z z kR Y λ_ _ _ ha hb _=>?_;obtain ⟨rfl,_⟩:=a_n hb;refine R z (l0 g_9 z<|ha.at0 z)<|Rw z<|Wm z<|Rm z<|R z (a_U z z)<|Wx z (λG=>?_) (λG=>?_)
  .exact Ws<|Rw z<|Wr<|rtO<|qL (som<|ifT L G).symm<|b_d hr z ⟨s5,z⟩
  exact Wk<|Wg<|R z (inc_ J (lt_ (repS.len H) x_) z z)<|Rm z<|Wl (λ_ q=>⟨(),(som<|ifF L G).symm,⟨kaA q,s5⟩⟩)
 .rintro _ _ _ ⟨hSc,sd⟩;refine Wu ?_ hSc;refine Ws<|Rl z z z<|Wn<|Wq<|Wc z (λhc=>(S_ hc).elim) (λ_=>?_);exact We<|λ_ q=>⟨rfl,⟨q.k sn,sd⟩⟩
 .rintro _ ae _ rfl ⟨_,sf⟩;have hmg:=elL I;revert ae;exact Wo<|Ws<|Rw z<|Wr<|rS1 hmg hr z ⟨sf,z⟩
 exact lqA I λ_ _ h=>h.2
theorem W_w33 {x1:b_}{res:Bool}(hm:i_O n x1=some res)(av:B<=w0.z)(Y:x1.name.b.length<=LEN)(a0:inI x1.kind)(a1:inI x1.size)(ap:rp w0 B AB NB CB x1.bytes)(a2:rp w0 B AA NA CA x1.names)(aq:rp w0 B AC NC CC x1.tags)(ar:rp w0 B AD ND CD x1.kids):f_ prog 163 [(.agg #[Str.v x1.name,vI x1.kind,vI x1.size,vB x1.little,sl AB NB CB,sl AA NA CA,sl AC NC CC,sl AD ND CD])] w0 (Q0 w0 B res):=by
 unfold i_O at hm;refine goG func163 z z z λfn hr=>Ws<|EvX (vR x1 AB NB CB AA NA CA AC NC CC AD ND CD) z z z λW _ a3=>Rw z<|Wq<|Wq<|bdB hm λul hum hmb=>Wt (λa w=>∃(x5:Bool),x5=ul/\Sat 44 [(1,pt w0.z),(23,vB x5)] a/\Below W.z W w) ?_ ?_
 .refine Wg<|R z (lN (vs:=vR x1 AB NB CB AA NA CA AC NC CC AD ND CD) z_ h_ z z fid<|a3.row 0 8 z)<|bdB hum λrn eo hmc=>EcA z (fc call162 z<|e_m (B:=B) eo kM Y a0 a1 kR kR kR kR<|ii z) λ_ sd=>R z (not_ z)<|Rm z ?_;rcases bs (!rn) with G | G
  .iterate 7 refine Nh z G ?_
   exact R z (pT z G z)<|Rm z<|Nh z z<|Nh z z<|Nh z z<|Nh z z<|Nh z z<|R z (pT z z z)<|Wl (λ_ q=>⟨true,som<|ifT hmc G,kaA q,sd⟩)
  have hme:=ifF hmc G;refine Rh z G (fd E_ z)<|Rh z G (l0 v_ z kBa)<|Rh z G (lnR u_ z kR)<|Rh z G (fd c_2 z)<|Rh z G (l0 a_J z kBa)<|Rh z G (lnR C_ z kR)<|Rh z G (nq z z)<|R z (pF z G z)<|Rm z ?_;rcases bs ((x1.kids.length:Int) != (x1.names.length:Int)) with I | I
  .iterate 5 refine Nh z I ?_
   exact R z (pT z I z)<|Wl (λ_ q=>⟨true,som<|ifT hme I,kaA q,sd⟩)
  refine Rh z I (fd E_ z)<|Rh z I (l0 v_ z kBa)<|Rh z I (lnR u_ z kR)<|bdB (ifF hme I) λrp eq hmr=>Eg z z I z (fc call122 z<|e_l (B:=B) eq kM (a_S<|repS.len kR) (ii z)<|ii z) ?_;rintro _ _ ⟨_,rfl⟩;exact Rh z I (not_ z)<|R z (pF z I z)<|Wl (λ_ q=>⟨!rp,som hmr,kaA q,kW⟩)
 rintro au J ⟨x5,rfl,_,_⟩;revert au;refine Wo<|Wc z (λL=>?_) (λL=>?_)
 .exact Ws<|Rw z<|Wr<|rS1 (ifT hmb L) hr z ⟨kW,z⟩
 refine Wk<|Wq<|Ws<|Rf z c_2 z<|R z (l0 a_J z kBa)<|R z (lnR C_ z kR)<|Rm z<|Wn<|bdB (ifF hmb L) λ_ hus hmf=>Wf (σ:=Unit) (ρ:=Bool) (λ(k7:Nat)(_:Unit) a w=>Sat 44 [(1,pt w0.z),(25,sl AA NA CA),(26,vI (x1.names.length:Int)),(27,vI ((k7:Nat):Int))] a/\Below J.z J w) (λ(_:Unit) a w=>Sat 44 [] a/\Below J.z J w) (rQ prog fn<|Q0 w0 B) hus ?_ ?_ ?_ ?_ ?_
 .exact λ_ q=>⟨kaA q,br J⟩
 .rintro k7 _ _ wg _ hkh ⟨hSt,_⟩ hmv;refine Wu ?_ hSt;refine Ws<|Rl z z z<|Wn<|Wq<|Wc z (λ_=>?_) (λhc=>(R_ hkh hc).elim);refine Wk<|Wq<|Wb<|Wm z<|bdB hmv λ_ ew hmx=>xA (α:=Str) z C_ z_9 z z z kR ew λ_ _ _ hy hz _=>?_;obtain ⟨rfl,hi⟩:=a_n hz;refine R z (l0 g_9 z<|hy.at0 z)<|Ra z<|Rw z<|Wq<|bdB hmx λab a4 hmj=>Wt (λa w=>∃(V:Bool),V=ab/\Sat 44 [(1,pt w0.z),(25,sl AA NA CA),(26,vI (x1.names.length:Int)),(27,vI ((k7:Nat):Int)),(42,vB V)] a/\Below wg.z wg w) ?_ ?_
  .refine Wg<|Rm z<|bdB a4 λad ae hmk=>EcA z (fc call139 z<|l_A (B:=B) ae kM hi) λ_ af=>R z (not_ z)<|Rm z ?_;rcases bs (!ad) with H | H
   .iterate 6 refine Nh z H ?_
    exact R z (pT z H z)<|Wl (λ_ q=>⟨true,som<|ifT hmk H,kaA q,af⟩)
   refine Rh z H (fd c_2 z)<|Rh z H (l0 a_J z kBa)<|Rh z H (mv z)<|bdB (ifF hmk H) λ_ ah a5=>RXg z z H z (rX C_ z_9 z z kR z z ah) ?_;rintro _ ⟨_,_,_,rfl,ai⟩;refine Rh z H (mv z)<|bdB a5 λaj ak a6=>Eg z z H z (fc call171 z<|W_w32 (B:=B) ak kM ai hi) ?_;rintro _ _ ⟨_,rfl⟩;exact R z (pF z H z)<|Wl (λ_ q=>⟨aj,som a6,kaA q,kW⟩)
  rintro al _ ⟨V,rfl,_,_⟩;revert al;refine Wo<|Wc z (λO=>?_) (λO=>?_)
  .exact Ws<|Rw z<|Wr<|rtO<|qL (som<|ifT hmj O).symm<|b_d hr z ⟨kW,z⟩
  exact Wk<|Wg<|R z (inc_ hkh (lt_ (repS.len a2) x_) z z)<|Rm z<|Wl (λ_ q=>⟨(),(som<|ifF hmj O).symm,⟨kaA q,kW⟩⟩)
 .rintro _ _ _ ⟨a7,am⟩;refine Wu ?_ a7;refine Ws<|Rl z z z<|Wn<|Wq<|Wc z (λhc=>(S_ hc).elim) (λ_=>?_);exact We<|λ_ q=>⟨rfl,⟨q.k sn,am⟩⟩
 .rintro _ an _ rfl ⟨_,_⟩;have a8:=elL hmf;revert an;exact Wo<|Ws<|Rw z<|Wr<|rS1 a8 hr z ⟨kW,z⟩
 exact lqA hmf λ_ _ h=>h.2
end Go.Vw
