
import Derived.Test.YtdgimlkkidpmmaaGreatDoorVba
set_option linter.unusedVariables false
namespace Go.Vw
open Go.RowKit Dat Go.Proofs
set_option maxHeartbeats 4000000
set_option maxRecDepth 4000
open Go.Proofs.Tryz
open Go.Vw renaming f_o->Wq,f_q->Wg,WC.of_KC->Wo,e_v->Wl,f_p->Wc,g_G->Wr,h_e->Wu,g_Y->pT,g_Z->pF,f_Z->fd,g_0->l1,g_1->lN,e_P->mv,e_Q->asg,h_0->lnR,g_a->lss,g_8->eql,g_2->ext_,f_O->bP,g_6->add_,g_T->inc_,h_l->not_,e_D->at_,g_L->fc,d_E->fs,f_x->fb,e_z->fa,c_h->sr,f_M->cr,f_N->cM,f_L->bM,g_R->iS,g_Q->iA,f_B->br,f_D->oA,g_V->bs,f_F->lg,f_G->io,h_k->nq,h_i->lnT,h_j->sb_,g_X->ar_,g_W->al_,b_A->ds,h_E->m1,f_J->nr_,f_I->nl_,d_G->aa_,c_v->an_,e_2->Wb,f_C->u8,g_J->pD,g_H->We,g_S->Wt,g_M->fS,d_Z->or_,h_f->Wf,h_6->qL,g_I->Wd,f_P->fN,f_H->na_,f_K->nj,h_1->f0,e_E->rX,h_2->tl_,h_3->ic
variable {A0:Option Addr}{N0 C0:Nat}{B:Zone}{w0:World}{n:Nat}{A3:Option Addr}{N3 C3:Nat}{AB:Option Addr}{A8:Option Addr}{AA:Option Addr}{A9:Option Addr}{NB CB:Nat}{N8 C8:Nat}{NA CA:Nat}{N9 C9:Nat}{A2:Option Addr}{A5:Option Addr}{A1:Option Addr}{A6:Option Addr}{N2 C2:Nat}{N5 C5:Nat}{N1 C1:Nat}{N6 C6:Nat}{A4:Option Addr}{N4 C4:Nat}{AF:Option Addr}{NF CF:Nat}{AG:Option Addr}{NG CG:Nat}{A7:Option Addr}{N7 C7:Nat}{AC:Option Addr}{AD:Option Addr}{NC CC:Nat}{ND CD:Nat}{AE:Option Addr}{AH:Option Addr}{NE CE:Nat}{NH CH:Nat}{AJ:Option Addr}{NJ CJ:Nat}{AK:Option Addr}{NK CK:Nat}
theorem W_w3e {x1:c_}{res:c_}(hm:j_J x1=some res)(be:B<=w0.z)(ad:rp w0 B A0 N0 C0 x1.rules):g_ prog 68 [(.agg #[sl A0 N0 C0])] w0 (Q13 w0 B res):=by
 unfold j_J at hm;refine goG func68 z z z λfn hr=>Ws<|EvX [sl A0 N0 C0] z z z λw9 _ _=>EvZ [sN] z c_N z λO _ _=>Wn<|Ws<|Rf z F_ z<|R z (l0 K_ z kBa)<|R z (lnR L_ z kR)<|bdB hm λ_ ax ae=>E z (n_O (α:=b_) c_K ax z z) ?_;rintro _ L ⟨ab,nc,cd,rfl,_,_⟩;refine R z (bQ [(0,.tmp 9)] [sl ab nc cd] l_k z z)<|EvZ [sN] z c_N z λbf _ af=>E0q [sl ab nc cd] o_ z z af z λV ay _=>Wn<|Wq<|Ws<|Rf z F_ z<|R z (l0 K_ z kBa)<|R z (lnR L_ z kR)<|Rm z<|Wn<|bdB ae λ_ ah hmr=>Wf (σ:=List b_) (ρ:=c_) (λ(ks:Nat)(x6:List b_) a w=>∃G H I J,Sat 27 [(2,pt w9.z),(3,pt L.z),(12,sl A0 N0 C0),(13,vI (x1.rules.length:Int)),(14,vI ((ks:Nat):Int))] a/\Chg (· ∈ ([O.z]++[L.z])) V w/\a_ w J (sl G H I) x6/\J.Nodup/\(∀k∈J,k∈[O.z]∨V.z<=k)/\Blk w L.z [sl G H I]) (λ(x6:List b_) a w=>∃G H I J,Sat 27 [(2,pt w9.z),(3,pt L.z)] a/\Chg (· ∈ ([O.z]++[L.z])) V w/\a_ w J (sl G H I) x6/\J.Nodup/\(∀k∈J,k∈[O.z]∨V.z<=k)/\Blk w L.z [sl G H I]) (rQ prog fn<|Q13 w0 B) ah ?_ ?_ ?_ ?_ ?_
 .exact λ_ q=>⟨ab,nc,cd,[O.z],kaA q,cr ([O.z]++[L.z]) V,kO,Q_,sQ,ay⟩
 .rintro ks x6 _ _ _ hkx ⟨G,H,I,J,ai,_,he,W,hy,ha⟩ ak;refine Wu ?_ ai;refine Ws<|Rl z z z<|Wn<|Wq<|Wc z (λ_=>?_) (λhc=>(a_4 hkx hc).elim);refine Wk<|Wq<|Wb<|Ws<|bdB ak λxf az al=>xA (α:=b_) z L_ l_ z z z kR az λ_ _ _ aA aB _=>?_;obtain ⟨ag,nh,ci,aj,nk,cl,am,nn,co,ap,nq,ct,rfl,aC,aD,aE,_,_,_,_⟩:=b_0 aB;refine R z (lN (vs:=vR xf ag nh ci aj nk cl am nn co ap nq ct) I_ l_ z z fid aA)<|EvZ [(Str.v (⟨[]⟩:Str)),vI 0,vI 0,vB false,sN,sN,sN,sN] z b_I z λbg _ a5=>E0q (vR xf ag nh ci aj nk cl am nn co ap nq ct) l_ z z a5 z λbh _ _=>Wn (Wd (X:=noX) 160 (pl_ 8 [3,4,5,7]) mo (by kernel_rfl) λbi bj _=>dR z z (fd F_ z)<|dR z z (l0 K_ z kBa)<|dR z z (lN (vs:=vR xf ag nh ci aj nk cl am nn co ap nq ct) I_ l_ z z fid<|kBr 0 8) ?_);refine bdB al λY aF an=>dE z z (fc call104 z<|W_w3d (B:=B) aF kM aC aD aE kR kR kR kR) iB ?_;rintro _ aG ⟨_,aH,aI,aJ,aK,aL,aM,aN,aO,aP,aQ,aR,aS,aT,aU,aV,aW,rfl,aX,aY,aZ,_,_,_,_,b0,b3⟩;obtain ⟨a6,a7,a8,a9,_,_,_,_,_,_,_,_,_,_⟩:=g_N b0 b3;refine dE z z (fS [(.tmp 21)] c_K z z z (H_ z) (lb z)<|lb z) (.inr λ_ _ h=>a_N<|h.2.below) ?_;rintro _ b4 ⟨rfl,a1⟩;have:=a1.below;have aa:Blk b4 aG.z (vR Y aH aI aJ aL aM aN aP aQ aR aT aU aV):=a1.blk;refine bdB an λb5 b6 aq=>dE z z (a_h (α:=b_) c_K b6 z z kO W aa (f_v (x:=Y) (S1:=aK) (S2:=aO) (S3:=aS) (S4:=aW) aX aY aZ kO kO kO kO) sQ<|na_ a6 (na_ a7 (na_ a8 a9 sQ) sQ) sQ) (.inl z) ?_;rintro _ _ ⟨b7,a2,a3,a4,rfl,_,_,b8,_⟩;refine dR z z (fd F_ z)<|dE0 z (fs0 (cur':=[sl a2 a3 a4]) h_9 z z kB z z z z) (.inl z) ?_;rintro _ _ ⟨b9,ba⟩;have:=ba.one;exact pD<|Wo<|Wg<|R z (inc_ hkx (lt_ (repS.len ad) N_) z z)<|Rm z<|Wl (λ_ q=>⟨b5,(som aq).symm,⟨a2,a3,a4,b7,kaA q,kW,kO,b8,sQ,b9⟩⟩)
 .rintro x6 _ _ ⟨G,H,I,J,ar,_,he,W,hy,ha⟩;refine Wu ?_ ar;refine Ws<|Rl z z z<|Wn<|Wq<|Wc z (λhc=>(a_5 hc).elim) (λ_=>?_);exact We<|λ_ q=>⟨rfl,⟨G,H,I,J,kaA q,kW,he,W,sQ,ha⟩⟩
 .rintro x6 bb _ rfl ⟨G,H,I,J,_,_,he,W,hy,ha⟩;have au:=elL hmr;revert bb;exact Wo<|Ws<|R z (lC [sl G H I] v_ o_ z)<|E0q [sl G H I] o_ z z kB z λbk bc _=>Wn<|Wr<|rS1 au hr (q_ v_ o_ z bc z) ⟨kW,G,H,I,J,z,kO,W,sQ⟩
 exact lqA hmr λ_ _ h=>h.2
theorem W_w3f {x1:D_}{res:D_}(hm:j_K x1=some res)(aF:B<=w0.z)(a2:rp w0 B A0 N0 C0 x1.versions):g_ prog 36 [(.agg #[sl A0 N0 C0])] w0 (Q16 w0 B res):=by
 unfold j_K at hm;refine goG func36 z z z λfn hr=>Ws<|EvX [sl A0 N0 C0] z z z λW _ _=>EvZ [sN] z f_T z λL _ _=>Wn<|Ws<|Rf z a_Y z<|R z (l0 b_b z kBa)<|R z (lnR b_j z kR)<|R z (add_ z z)<|bdB hm λ_ eu hmv=>E z (n_O (α:=c_) e_H eu z z) ?_;rintro _ J ⟨ab,nc,cd,rfl,_,_⟩;refine R z (bQ [(0,.tmp 10)] [sl ab nc cd] l_h z z)<|EvZ [sN] z f_T z λww _ a3=>E0q [sl ab nc cd] b_v z z a3 z λO hx _=>Wn<|Wq<|Ws<|Rf z a_Y z<|R z (l0 b_b z kBa)<|R z (lnR b_j z kR)<|Rm z<|Wn<|bdB hmv λ_ huz hml=>Wf (σ:=List c_) (ρ:=D_) (λ(km:Nat)(x6:List c_) a w=>∃G H I S3,Sat 28 [(2,pt W.z),(3,pt J.z),(13,sl A0 N0 C0),(14,vI (x1.versions.length:Int)),(15,vI ((km:Nat):Int))] a/\Chg (· ∈ ([L.z]++[J.z])) O w/\a_ w S3 (sl G H I) x6/\S3.Nodup/\(∀k∈S3,k∈[L.z]∨O.z<=k)/\Blk w J.z [sl G H I]) (λ(x6:List c_) a w=>∃G H I S3,Sat 28 [(2,pt W.z),(3,pt J.z)] a/\Chg (· ∈ ([L.z]++[J.z])) O w/\a_ w S3 (sl G H I) x6/\S3.Nodup/\(∀k∈S3,k∈[L.z]∨O.z<=k)/\Blk w J.z [sl G H I]) (rQ prog fn<|Q16 w0 B) huz ?_ ?_ ?_ ?_ ?_
 .exact λ_ q=>⟨ab,nc,cd,[L.z],kaA q,cr ([L.z]++[J.z]) O,kO,Q_,sQ,hx⟩
 .rintro km x6 _ _ _ hkn ⟨G,H,I,S3,a4,_,he,V,ho,ha⟩ a5;refine Wu ?_ a4;refine Ws<|Rl z z z<|Wn<|Wq<|Wc z (λ_=>?_) (λhc=>(a_4 hkn hc).elim);refine Wk<|Wq<|Wb<|Ws<|bdB a5 λ_ ah a6=>xA (α:=c_) z b_j o_ z z z kR ah λ_ _ _ ai aj _=>?_;obtain ⟨af,ng,ch,rfl,_⟩:=e_7 aj;refine R z (lN (vs:=[sl af ng ch]) v_ o_ z z fid ai)<|EvZ [sN] z c_N z λaG _ Y=>E0q [sl af ng ch] o_ z z Y z λaH _ _=>Wn (Wd (X:=noX) 160 (pl_ 8 [3,4,5,7]) mo (by kernel_rfl) λaI aJ _=>dR z z (fd a_Y z)<|dR z z (l0 b_b z kBa)<|dR z z (lC [sl af ng ch] v_ o_ z) ?_);refine bdB a6 λak al a7=>dE z z (fc call68 z<|W_w3e (B:=B) al kM kR) iB ?_;rintro _ am ⟨_,an,ap,aq,au,rfl,_,av,_⟩;refine dE z z (fS [(.tmp 22)] e_H z z z (H_ z) (lb z)<|lb z) (.inr λ_ _ h=>a_N<|h.2.below) ?_;rintro _ aw ⟨rfl,hq⟩;have:=hq.below;have a1:Blk aw am.z [sl an ap aq]:=hq.blk;refine bdB a7 λax ay a8=>dE z z (a_h (α:=c_) e_H ay z z kO V a1 (n_A (x:=ak) (S1:=au) kO) sQ av) (.inl z) ?_;rintro _ _ ⟨az,ar,ns,ct,rfl,_,_,aA,_⟩;refine dR z z (fd a_Y z)<|dE0 z (fs0 (cur':=[sl ar ns ct]) z_24 z z kB z z z z) (.inl z) ?_;rintro _ _ ⟨aB,aC⟩;have:=aC.one;exact pD<|Wo<|Wg<|R z (inc_ hkn (lt_ (repS.len a2) N_) z z)<|Rm z<|Wl (λ_ q=>⟨ax,(som a8).symm,⟨ar,ns,ct,az,kaA q,kW,kO,aA,sQ,aB⟩⟩)
 .rintro x6 _ _ ⟨G,H,I,S3,a9,_,he,V,ho,ha⟩;refine Wu ?_ a9;refine Ws<|Rl z z z<|Wn<|Wq<|Wc z (λhc=>(a_5 hc).elim) (λ_=>?_);exact We<|λ_ q=>⟨rfl,⟨G,H,I,S3,kaA q,kW,he,V,sQ,ha⟩⟩
 .rintro x6 aD _ rfl ⟨G,H,I,S3,_,_,he,V,ho,ha⟩;have aa:=elL hml;revert aD;exact Wo<|Ws<|R z (lC [sl G H I] c_w b_v z)<|E0q [sl G H I] b_v z z kB z λaK aE _=>Wn<|Wr<|rS1 aa hr (q_ c_w b_v z aE z) ⟨kW,G,H,I,S3,z,kO,V,sQ⟩
 exact lqA hml λ_ _ h=>h.2
theorem l_K {x1:Log}{res:Log}(hm:g_B x1=some res)(a2:B<=w0.z)(a1:rp w0 B A0 N0 C0 x1.bytes)(L:inI x1.stored):g_ prog 37 [(.agg #[sl A0 N0 C0,vI x1.stored])] w0 (Q17 w0 B res):=by
 unfold g_B at hm;refine goG func37 z z z λfn hr=>Ws<|EvX [sl A0 N0 C0,vI x1.stored] z z z λw3 _ J=>EvZ [sN,vI 0] z c_X z λV _ _=>Wn<|Wq (Wd (X:=λk=>k∈([]:List Nat)∨V.z<=k) 128 (.rd 1<|.rd 2<|.rd 4<|.rd 5<|.ef 0<|.ef 3<|.rd 6<|.ef 7 .done) mo (by kernel_rfl) λwe sf _=>dR z z (fd a_R z)<|dR z z (l1 y_ z (P_ nm0<|Nat.lt_of_lt_of_le J.lt kM) kBa)<|dR z z (fd c_y z)<|dR z z (l1 g_3 z (P_ nm0<|Nat.lt_of_lt_of_le J.lt kM) kBa)<|dE z z (f0 (α:=UInt8) s_) (.inr λ_ _ h=>a_N (by obtain ⟨_,_,_,_,h,_⟩:=h;exact h)) ?_);rintro _ _ ⟨_,_,_,rfl,_,W⟩;refine bdB hm λ_ Y O=>dE z z (fN (α:=UInt8) s_ Y z z W Q_ kR) (.inr λ_ _ h=>by obtain ⟨_,_,_,_,_,h,_⟩:=h;exact b_8 h) ?_;rintro _ _ ⟨Sa,G,H,I,rfl,_,_,hb,_⟩;refine dR z z (bQ [(0,.tmp 6),(1,.tmp 8)] [sl G H I,vI x1.stored] l_i z z)<|dE0 z (fs0 (cur':=[sl G H I,vI x1.stored]) a_1 z z kB z z z z) (.inl z) ?_;rintro _ _ ⟨hc,sd⟩;have:=sd.one;exact pD<|Wo<|Wr<|rS1 O hr (q_ a_w a_1 z hc z) ⟨kW,G,H,I,Sa,z,kO,L,hb,sQ⟩
theorem W_w1t {x1:n_}{b1 o1:Nat}{res:n_}(hm:h_Z x1=some res)(a4:B<=w0.z)(a1:rp w0 B A0 N0 C0 x1.registry.versions)(a2:rp w0 B A4 N4 C4 x1.log.bytes)(W:inI x1.log.stored)(hC1:E_ w0 b1 o1 [sl A0 N0 C0,sl A4 N4 C4,vI x1.log.stored])(hC1b:B b1):g_ prog 16 [(pq b1 o1)] w0 (Q18 w0 B res):=by
 unfold h_Z at hm;refine goG func16 z z z λfn hr=>Ws<|EvZ [sN,sN,vI 0] z b_N z λw8 _ _=>Wn<|Wq (Wd (X:=noX) 2048 (.rd 0<|.rd 1<|.rd 2<|.rd 3<|.rd 5<|.rd 6<|.rd 7<|.rd 8<|.ef 4<|.ef 9<|.rd 10<|.ef 11 .done) mo (by kernel_rfl) λwk sm _=>dM z z z<|dR z z (b_4 z)<|dR z z (fd d_H z)<|dR z z (lN (vs:=[sl A0 N0 C0]) c_w b_v z z fid<|kCs (o:=o1) 0 1)<|dM z z z<|dR z z (b_4 z)<|dR z z (fd a_S z)<|dR z z (lN (vs:=[sl A4 N4 C4,vI x1.log.stored]) a_w a_1 z z fid<|kCs (o:=o1) 1 2) ?_);refine bdB hm λ_ Y hma=>dE z z (fc call36 z<|W_w3f (B:=B) (x1:=(⟨x1.registry.versions⟩:D_)) Y kM kR) iB ?_;rintro _ _ ⟨_,G,H,I,Sb,rfl,_,hc,_⟩;refine bdB hma λV ed hme=>dE z z (fc call37 z<|l_K (B:=B) (x1:=(⟨x1.log.bytes,x1.log.stored⟩:Log)) ed kM kR W) iB ?_;rintro _ _ ⟨_,J,L,O,Sf,rfl,_,hg,hh,_⟩;refine dR z z (bQ [(0,.tmp 7),(1,.tmp 12)] [sl G H I,sl J L O,vI V.stored] l_j z z)<|dE0 z (fs0 (cur':=[sl G H I,sl J L O,vI V.stored]) R_ z z kB z z z z) (.inl z) ?_;rintro _ _ ⟨hi,sj⟩;have:=sj.one;exact pD<|Wo<|Wr<|rS1 hme hr (q_ a_m R_ z hi z) ⟨kW,G,H,I,Sb,J,L,O,Sf,z,kO,kO,hg,na_ hc hh sQ,sQ⟩
theorem d_L {x1:Int}{x2:Int}{x3:Int}{res:Bool}(hm:c_4 x1 x2 x3=some res)(Y:B<=w0.z)(O:inI x1)(V:inI x2)(W:inI x3):g_ prog 72 [vI x1,vI x2,vI x3] w0 (Q0 w0 B res):=by
 unfold c_4 at hm;refine goG func72 z z z λfn hr=>Ws<|Rw z<|Wq<|bdB hm λJ H I=>Wt (λa w=>∃(x4:Bool),x4=J/\Sat 15 [(6,vB x4)] a/\Below w0.z w0 w) ?_ ?_
 .refine Wg<|RM z z<|R z (c_8 z z)<|Rm z ?_;rcases bs (decide<|x2<=x1) with G | G
  .exact Rh z G (mv z)<|Rh z G (mv z)<|Rh z G (c_8 z z)<|R z (pT z G z)<|Ra z<|Wl (λ_ q=>⟨decide<|x1<=x3,som<|ifT H G,kaA q,br w0⟩)
  iterate 3 refine Nh z G ?_
  exact R z (pF z G z)<|Ra z<|Wl (λ_ q=>⟨false,som<|ifF H G,kaA q,br w0⟩)
 rintro L _ ⟨x4,rfl,_,s6⟩;revert L;exact Wo<|Wr<|rS1 I hr z ⟨s6,z⟩
theorem W_w3g {x1:Bt}{res:Bt×Bool}(hm:j_A n x1=some res)(bF:B<=w0.z)(bE:rp w0 B A0 N0 C0 x1):g_ prog 74 [sl A0 N0 C0] w0 (Q19 w0 B res):=by
 unfold j_A at hm;refine goG func74 z z z λfn hr=>Ws<|Ra z<|Rw z<|Ws<|E z (f0 (α:=UInt8) s_) ?_;rintro _ wd ⟨aG,aH,aI,rfl,_,aJ⟩;refine Rw z<|Wq<|Ws<|Rw z ?_;obtain ⟨_,ah,hmz⟩:=bdS hm;refine b_3 (σ:=Bt×Int) (ρ:=Bt×Bool) (λs a w=>un2 (λxe x2=>∃H I J G,Sat 73 [(0,sl A0 N0 C0),(4,sl H I J),(5,vI x2)] a/\Cg [w0.z] wd w/\a_ w G (sl H I J) xe/\G.Nodup/\(∀k∈G,k∈[w0.z]∨wd.z<=k)/\inI x2) s) (λs a w=>un2 (λxe x2=>∃H I J G,Sat 73 [(4,sl H I J)] a/\Cg [w0.z] wd w/\a_ w G (sl H I J) xe/\G.Nodup/\(∀k∈G,k∈[w0.z]∨wd.z<=k)/\inI x2) s) (rQ prog fn<|Q19 w0 B) ah ?_ ?_ ?_ ?_
 .exact λ_ q=>⟨aG,aH,aI,[w0.z],kaA q,cr [w0.z] wd,aJ,Q_,sQ,ii z⟩
 .rintro ⟨xe,x2⟩ _ wf _ ⟨H,I,J,G,ai,_,hq,hg,aK,aa⟩ aj;have Y:=a_c aj;refine Wu ?_ ai;refine Wq<|Wm z<|Rm z<|R z (lnR e_ z kR)<|Rl z z z<|Wx z (λhcr=>?_) (λhcr=>?_)
  .refine Wk<|Wb<|Wm z<|Rm z<|bdB (ifT Y hcr) λxh aL ak=>xA (α:=UInt8) z e_ z_5 z z z kR aL λ_ _ _ aM aN _=>?_;obtain rfl:=u8 aN;refine R z (l0 g_5 z<|aM.at0 z)<|R z (b_q d_5 d_3 z)<|Rw z<|Wm z<|R z (add_ z z)<|Rw z<|Wq<|Wb<|Wq<|bdB ak λaO a0 a1=>Wt (λa w=>∃(xs:Bool),xs=aO/\Sat 73 [(0,sl A0 N0 C0),(4,sl H I J),(5,vI<|d_ x2 1),(6,vI<|byteI xh),(33,vB xs)] a/\Below wf.z wf w) ?_ ?_
   .refine Wg<|Rm z<|Rq z z z<|Rm z ?_;rcases bs ((byteI xh)==0) with hca | hca
    .exact Nh z hca<|Nh z hca<|R z (pT z hca z)<|Rm z<|Nh z z<|Nh z z<|Nh z z<|Nh z z<|R z (pT z z z)<|Ra z<|Wl (λ_ q=>⟨true,som<|ifT a0 hca,kaA q,br wf⟩)
    have a2:=ifF a0 hca;refine Rh z hca (mv z)<|Rh z hca (eql z z)<|R z (pF z hca z)<|Rm z ?_;rcases bs ((byteI xh)==128) with L | L
    .iterate 4 refine Nh z L ?_
     exact R z (pT z L z)<|Ra z<|Wl (λ_ q=>⟨true,som<|ifT a2 L,kaA q,br wf⟩)
    exact Rh z L (mv z)<|Rh z L (mv z)<|Rh z L (lnR e_ z kR)<|Rh z L (eql z z)<|R z (pF z L z)<|Ra z<|Wl (λ_ q=>⟨(d_ x2 1)==(x1.length:Int),som<|ifF a2 L,kaA q,br wf⟩)
   rintro aP wb ⟨xs,rfl,_,_⟩;revert aP;refine Wo<|Wc z (λhct=>?_) (λhct=>?_)
   .refine Ws<|E z (f0 (α:=UInt8) s_) ?_;rintro _ _ ⟨aQ,aR,aS,rfl,_,aT⟩;exact Ra z<|Rw z<|Wr<|rtO<|rtO<|qL (som<|ifT a1 hct).symm<|d_0 hr z z ⟨kW,aQ,aR,aS,[wb.z],z,aT,Q_,sQ⟩
   refine Wm z<|Rl z z z<|Rw z<|bdB (ifF a1 hct) λaU a4 hmu=>Wt (λa w=>∃(xl:Bt)(xi:Int),Sum.inl (xl,xi)=aU/\∃am nn co Sj,Sat 73 [(0,sl A0 N0 C0),(4,sl am nn co),(5,vI xi)] a/\Cg G wb w/\a_ w Sj (sl am nn co) xl/\Sj.Nodup/\(∀k∈Sj,k∈G∨wb.z<=k)/\inI xi) ?_ ?_
   .refine Wc z (λhcv=>?_)<|λhcv=>?_
    .have a5:=ifT a4 hcv;refine Wq<|Wm z<|Rm z<|R z (lnR e_ z kR)<|Rm z<|R z (sb_ z z)<|R z (a_8 z z)<|Wx z (λhcw=>?_) (λhcw=>?_)
     .refine Ws<|E z (f0 (α:=UInt8) s_) ?_;rintro _ _ ⟨aV,aW,aX,rfl,_,aY⟩;refine Ra z<|Rw z ?_;obtain rfl:=som<|ifT a5 hcw;have al:=elR hmu;exact Wr<|rtO<|rtO<|qL (som al).symm<|d_0 hr z z ⟨kW,aV,aW,aX,[wb.z],z,aY,Q_,sQ⟩
     refine Wk<|Wm z<|RM z z<|RM z z<|R z (add_ z z)<|bdB (ifF a5 hcw) λ_ aZ an=>RX z (rX e_ z_5 z z kR z z aZ) ?_;rintro _ ⟨_,_,_,rfl,b0⟩;refine bdB an λb3 b4 ap=>E z (fN (α:=UInt8) s_ b4 z z kO hg b0) ?_;rintro _ _ ⟨b5,b6,b7,b8,rfl,_,b9,ba,_⟩;exact Rw z<|Wg<|RM z z<|R z (add_ z z)<|Ra z<|Wl (λ_ q=>⟨b3,d_ (d_ x2 1)<|byteI xh,som ap,b6,b7,b8,b5,kaA q,kW,b9,ba,sQ,iA _ _⟩)
    refine Wq<|Wm z<|R z (sb_ z z)<|Rm z<|Wn<|bdB (ifF a4 hcv) λ_ aq a6=>Wf (σ:=Bt) (ρ:=Bt×Bool) (λ(ab:Nat)(xc:Bt) a w=>∃O V W S1,Sat 73 [(0,sl A0 N0 C0),(4,sl O V W),(5,vI<|d_ x2 1),(20,vI<|h_ (byteI xh) 128),(21,vI ((ab:Nat):Int))] a/\Cg G wb w/\a_ w S1 (sl O V W) xc/\S1.Nodup/\(∀k∈S1,k∈G∨wb.z<=k)) (λ(xc:Bt) a w=>∃O V W S1,Sat 73 [(0,sl A0 N0 C0),(4,sl O V W),(5,vI<|d_ x2 1)] a/\Cg G wb w/\a_ w S1 (sl O V W) xc/\S1.Nodup/\(∀k∈S1,k∈G∨wb.z<=k)) (rQ prog fn<|Q19 w0 B) aq ?_ ?_ ?_ ?_ ?_
    .exact λ_ q=>⟨H,I,J,G,kaA q,cr G wb,kO,hg,sQ⟩
    .rintro ab xc _ bb _ a8 ⟨O,V,W,S1,ar,_,hp,hk,ad⟩ au;refine Wu ?_ ar;refine Ws<|Rl z z z<|Wn<|Wq<|Wc z (λ_=>?_) (λhc=>(f_Q a8 hc).elim);refine Wk<|Wq<|Wb<|Wg<|RM z z<|Rm z<|bdB au λbc be av=>xA (α:=UInt8) z e_ z_5 z z z kR be λ_ _ _ bf bg _=>?_;obtain rfl:=u8 bg;refine R z (l0 g_5 z<|bf.at0 z)<|EvA z (fS [(.tmp 27)] s_ z z z (H_ z) (lb z)<|lb z) λbh hx=>have:=hx.below;have af:Blk bh bb.z [vU (byteI bc)]:=hx.blk;have:=a_j hx a_s;bdB av λbi bj aw=>E z (a_h (α:=UInt8) s_ bj z z kO hk af a_s an_ r_) ?_;rintro _ _ ⟨bk,bm,bn,bo,rfl,_,bp,bq,_⟩;exact Rw z<|Wg<|R z (inc_ a8 (tl_<|iS _ _) z z)<|Rm z<|Wl (λ_ q=>⟨bi,(som aw).symm,⟨bm,bn,bo,bk,kaA q,kW,bp,bq,sQ⟩⟩)
    .rintro xc _ _ ⟨O,V,W,S1,ax,_,hp,hk,ad⟩;refine Wu ?_ ax;refine Ws<|Rl z z z<|Wn<|Wq<|Wc z (λhc=>(f_R hc).elim) (λ_=>?_);exact We<|λ_ q=>⟨rfl,⟨O,V,W,S1,kaA q,kW,hp,hk,sQ⟩⟩
    .rintro xc bt _ rfl ⟨O,V,W,S1,_,_,hp,hk,ad⟩;have ay:=elL a6;revert bt;exact Wo<|Wg<|Rm z<|R z (add_ z z)<|Ra z<|Wl (λ_ q=>⟨xc,d_ (d_ x2 1) 1,som ay,O,V,W,S1,kaA q,kW,hp,hk,sQ,iA _ _⟩)
    rintro _ _ _ _ rfl ⟨rfl,az⟩;have aA:=elR a6;obtain rfl:=som aA;have aB:=elR hmu;exact ⟨h_D<|h_D<|i_s (som aB).symm ⟨rfl,az⟩,z⟩
   rintro bu bv ⟨xl,xi,rfl,am,nn,co,Sj,_,_,ae,bw,_,bx⟩;have aC:=elL hmu;have a9:=a_c aC;revert bu;refine Wo<|Wm z<|R z (lnR e_ z<|a_.rep ae)<|R z (a_8 z z)<|Wx z (λhcy=>?_) (λhcy=>?_)
   .refine Ws<|E z (f0 (α:=UInt8) s_) ?_;rintro _ _ ⟨bz,bA,bB,rfl,_,bC⟩;exact Ra z<|Rw z<|Wr<|rtO<|qL (som<|ifT a9 hcy).symm<|d_0 hr z z ⟨kW,bz,bA,bB,[bv.z],z,bC,Q_,sQ⟩
   exact a_l<|λ_ q=>⟨(xl,xi),(som<|ifF a9 hcy).symm,⟨am,nn,co,Sj,kaA q,kW,ae,bw,sQ,bx⟩⟩
  exact We<|λ_ q=>b_1 (som<|ifF Y hcr).symm ⟨H,I,J,G,kaA q,kW,hq,hg,sQ,aa⟩
 .rintro ⟨xe,x2⟩ bD _ rfl ⟨H,I,J,G,_,_,hq,hg,aK,aa⟩;have aD:=elL hmz;revert bD;refine Wo<|Wm z<|Ra z<|Rw z ?_;exact Wr<|rS2 (a_c aD) hr z z ⟨kW,H,I,J,G,z,hq,hg,sQ⟩
 exact lqA hmz λ_ _ h=>h.2
theorem l_L {x1:Str}{res:Bool}(hm:f_8 n x1=some res)(ab:B<=w0.z)(aa:x1.b.length<=LEN):g_ prog 106 [Str.v x1] w0 (Q0 w0 B res):=by
 unfold f_8 at hm;refine goG func106 z z z λfn hr=>Ws<|Rw z<|Wq<|Wq<|bdB hm λus huj hmk=>Wt (λa w=>∃(xd:Bool),xd=us/\Sat 43 [(0,Str.v x1),(14,vB xd)] a/\Below w0.z w0 w) ?_ ?_
 .refine Wg<|Rm z<|R z (lnT d_9 z)<|Rl z z z<|Rm z ?_;rcases bs (decide<|(x1.b.length:Int)<1) with H | H
  .iterate 3 refine Nh z H ?_
   exact R z (pT z H z)<|Wl (λ_ q=>⟨true,som<|ifT huj H,kaA q,br w0⟩)
  exact Rh z H (mv z)<|Rh z H (lnT d_9 z)<|Rh z H (a_8 z z)<|R z (pF z H z)<|Wl (λ_ q=>⟨decide<|12<(x1.b.length:Int),som<|ifF huj H,kaA q,br w0⟩)
 rintro au O ⟨xd,rfl,_,st⟩;revert au;refine Wo<|Wc z (λhce=>?_) (λhce=>?_)
 .exact Ws<|Rw z<|Wr<|rS1 (ifT hmk hce) hr z ⟨st,z⟩
 refine Wk<|Wq<|Wm z<|E z (r_4 d_9 z) ?_;rintro _ wf ⟨rfl,_,hv⟩;refine Wn<|bdB (ifF hmk hce) λ_ huw hml=>b_3 (σ:=Nat) (ρ:=Bool) (λ(x0:Nat) a w=>Sat 43 [(16,pt O.z)] a/\Cg [O.z] wf w/\b_a w O.z x1 x0) (λ(x0:Nat) a w=>Sat 43 [] a/\Cg [O.z] wf w/\b_a w O.z x1 x0) (rQ prog fn<|Q0 w0 B) huw ?_ ?_ ?_ ?_
 .exact λ_ q=>⟨kaA q,cr [O.z] wf,hv⟩
 .rintro x0 _ _ _ ⟨hSx,_,hg⟩ hmm;refine Wu ?_ hSx;refine Ws ?_;rcases bs (decide<|x0<x1.b.length) with V | V
  .refine E z (r_5 z hg<|of_decide_eq_true V) ?_;rintro _ wa ⟨rfl,_,_⟩;refine Re z z z<|Wn<|Wq<|Wc z (λ_=>?_) (λhc=>(bcon z hc).elim);refine Wk<|Wb<|Ws<|Re z z z<|Re z z z<|Ra z<|Rw z<|Wq<|bdB (ifT hmm V) λuy hun hmz=>Wt (λa w=>∃(W:Bool),W=uy/\Sat 43 [(3,vI (x0:Int)),(4,.int .i32<|(dec x1 x0).1),(5,vB W),(16,pt O.z)] a/\Below wa.z wa w) ?_ ?_
   .refine Wg<|Rm z<|R z (b_e z z)<|Rm z ?_;rcases bs (decide<|97<=((dec x1 x0).1)) with I | I
    .exact Rh z I (mv z)<|Rh z I (c_8 z z)<|R z (pT z I z)<|Ra z<|Wl (λ_ q=>⟨decide<|((dec x1 x0).1)<=122,som<|ifT hun I,kaA q,br wa⟩)
    exact Nh z I<|Nh z I<|R z (pF z I z)<|Ra z<|Wl (λ_ q=>⟨false,som<|ifF hun I,kaA q,br wa⟩)
   rintro a4 wb ⟨W,rfl,_,_⟩;revert a4;refine Wo<|Wq<|bdB hmz λa5 huo a0=>Wt (λa w=>∃(xc:Bool),xc=a5/\Sat 43 [(3,vI (x0:Int)),(5,vB W),(6,vB xc),(16,pt O.z)] a/\Below wb.z wb w) ?_ ?_
   .refine Wg<|Rm z<|R z (b_e z z)<|Rm z ?_;rcases bs (decide<|48<=((dec x1 x0).1)) with J | J
    .exact Rh z J (mv z)<|Rh z J (c_8 z z)<|R z (pT z J z)<|Ra z<|Wl (λ_ q=>⟨decide<|((dec x1 x0).1)<=57,som<|ifT huo J,kaA q,br wb⟩)
    exact Nh z J<|Nh z J<|R z (pF z J z)<|Ra z<|Wl (λ_ q=>⟨false,som<|ifF huo J,kaA q,br wb⟩)
   rintro a6 Y ⟨xc,rfl,_,_⟩;revert a6;refine Wo<|Wq<|bdB a0 λa7 hup hmq=>Wt (λa w=>∃(xh:Bool),xh=a7/\Sat 43 [(16,pt O.z),(42,vB xh)] a/\Below Y.z Y w) ?_ ?_
   .refine Wg<|Rm z<|R z (not_ z)<|Rm z ?_;rcases bs (!W) with G | G
    .have hmr:=ifT hup G;refine Rh z G (mv z)<|Rh z G (not_ z)<|Rh z G (mv z) ?_;rcases bs (!xc) with L | L
     .exact Nh z L<|Nh z L<|Rh z G (pT z L z)<|R z (pT z G z)<|Wl (λ_ q=>⟨true,som<|ifT hmr L,kaA q,br Y⟩)
     exact Rh z L (mv z)<|Rh z L (eql z z)<|Rh z G (pF z L z)<|R z (pT z G z)<|Wl (λ_ q=>⟨(x0:Int)==0,som<|ifF hmr L,kaA q,br Y⟩)
    iterate 3 refine Nh z G ?_
    exact Nv z<|Nv z<|Nh z G<|R z (pF z G z)<|Wl (λ_ q=>⟨false,som<|ifF hup G,kaA q,br Y⟩)
   rintro a8 _ ⟨xh,rfl,_,_⟩;revert a8;refine Wo<|Wc z (λhci=>?_) (λhci=>?_)
   .exact Ws<|Rw z<|Wr<|rtO<|qL (som<|ifT hmq hci).symm<|a_J hr z ⟨kW,z⟩
   exact a_l<|λ_ q=>⟨x0+(dec x1 x0).2,(som<|ifF hmq hci).symm,⟨kaA q,kW,kI⟩⟩
  refine EvA z (r_6 z hg<|of_decide_eq_false V) λ_ _=>Re z z z<|Wn<|Wq<|Wc z (λhc=>(bcon hc z).elim) (λ_=>?_);exact We<|λ_ q=>b_1 (som<|ifF hmm V).symm ⟨q.k sn,kW,kI⟩
 .rintro x0 a9 _ rfl ⟨_,_,hg⟩;have a1:=elL hml;revert a9;exact Wo<|Ws<|Rw z<|Wr<|rS1 a1 hr z ⟨kW,z⟩
 exact lqA hml λ_ _ h=>h.2
theorem W_w1u {x1:m_}{res:Bool}(hm:h_V n x1=some res)(a5:B<=w0.z)(a3:inI x1.kind)(a0:x1.name.b.length<=LEN)(a1:inI x1.version)(a4:rp w0 B AF NF CF x1.data):g_ prog 75 [(.agg #[vI x1.kind,Str.v x1.name,vI x1.version,sl AF NF CF])] w0 (Q0 w0 B res):=by
 unfold h_V at hm;refine goG func75 z z z λfn hr=>Ws<|EvX [vI x1.kind,Str.v x1.name,vI x1.version,sl AF NF CF] z z z λw6 _ a2=>Rw z<|Wq<|Wq<|bdB hm λuh hui hmb=>Wt (λa w=>∃(W:Bool),W=uh/\Sat 38 [(1,pt w0.z),(18,vB W)] a/\Below w6.z w6 w) ?_ ?_
 .refine Wg<|Rf z d_I z<|R z (l0 g_9 z<|a2.at z)<|bdB hui λrj ek hmc=>EcA z (fc call106 z<|l_L (B:=B) ek kM a0) λ_ sm=>R z (not_ z)<|Rm z ?_;rcases bs (!rj) with H | H
  .iterate 4 refine Nh z H ?_
   exact R z (pT z H z)<|Rm z<|Nh z z<|Nh z z<|Nh z z<|Nh z z<|R z (pT z z z)<|Wl (λ_ q=>⟨true,som<|ifT hmc H,kaA q,sm⟩)
  refine Rh z H (fd c_W z)<|Rh z H (l0 g_3 z kBa)<|bdB (ifF hmc H) λrl en hmd=>Eg z z H z (fc call72 z<|d_L (B:=B) en kM a1 (ii z)<|ii z) ?_;rintro _ _ ⟨_,rfl⟩;refine Rh z H (not_ z)<|R z (pF z H z)<|Rm z ?_;rcases bs (!rl) with I | I
  .iterate 4 refine Nh z I ?_
   exact R z (pT z I z)<|Wl (λ_ q=>⟨true,som<|ifT hmd I,kaA q,kW⟩)
  exact Rh z I (fd d_J z)<|Rh z I (l0 y_ z kBa)<|Rh z I (lnR e_ z kR)<|Rh z I (a_8 z z)<|R z (pF z I z)<|Wl (λ_ q=>⟨decide<|400<(x1.data.length:Int),som<|ifF hmd I,kaA q,kW⟩)
 rintro ao O ⟨W,rfl,_,_⟩;revert ao;refine Wo<|Wc z (λV=>?_) (λV=>?_)
 .exact Ws<|Rw z<|Wr<|rS1 (ifT hmb V) hr z ⟨kW,z⟩
 refine Wk<|Wq<|bdB (ifF hmb V) λup hue hmq=>Wt (λa w=>∃(Y:Bool),Y=up/\Sat 38 [(2,vB Y)] a/\Below O.z O w) ?_ ?_
 .refine Wg<|Rf z c_V z<|R z (l0 g_3 z kBa)<|Rq z z z<|Rm z ?_;rcases bs (x1.kind==1) with G | G
  .iterate 4 refine Nh z G ?_
   exact Nv z<|Nv z<|Nv z<|Nh z G<|Nh z G<|Nv z<|Nv z<|Nv z<|Nv z<|Nh z G<|R z (pT z G z)<|Ra z<|Wl (λ_ q=>⟨true,som<|ifT hue G,kaA q,br O⟩)
  have hmf:=ifF hue G;refine Rh z G (fd c_V z)<|Rh z G (l0 g_3 z kBa)<|Rh z G (eql z z)<|Rh z G (mv z) ?_;rcases bs (x1.kind==2) with L | L
  .have hmg:=ifT hmf L;refine Rh z L (fd c_W z)<|Rh z L (l0 g_3 z kBa)<|Rh z L (eql z z)<|Rh z G (pT z L z)<|Rh z G (mv z) ?_;rcases bs (x1.version==0) with J | J
   .exact Rh z J (fd d_J z)<|Rh z J (l0 y_ z kBa)<|Rh z J (lnR e_ z kR)<|Rh z J (eql z z)<|Rh z G (pT z J z)<|R z (pF z G z)<|Ra z<|Wl (λ_ q=>⟨(x1.data.length:Int)==0,som<|ifT hmg J,kaA q,br O⟩)
   iterate 4 refine Nh z J ?_
   exact Rh z G (pF z J z)<|R z (pF z G z)<|Ra z<|Wl (λ_ q=>⟨false,som<|ifF hmg J,kaA q,br O⟩)
  iterate 3 refine Nh z L ?_
  exact Rh z G (pF z L z)<|Rh z G (mv z)<|Nh z z<|Nh z z<|Nh z z<|Nh z z<|Rh z G (pF z z z)<|R z (pF z G z)<|Ra z<|Wl (λ_ q=>⟨false,som<|ifF hmf L,kaA q,br O⟩)
 rintro ar _ ⟨Y,rfl,_,_⟩;revert ar;exact Wo<|Wr<|rS1 hmq hr z ⟨kW,z⟩
theorem W_w1v {x1:Bt}{x2:Int}{res:Bool}(hm:g_x x1 x2=some res)(a1:B<=w0.z)(Y:rp w0 B A0 N0 C0 x1)(a0:inI x2):g_ prog 131 [sl A0 N0 C0,vI x2] w0 (Q0 w0 B res):=by
 unfold g_x at hm;refine goG func131 z z z λfn hr=>Ws<|Rw z<|Wq<|bdB hm λO I L=>Wt (λa w=>∃(x3:Bool),x3=O/\Sat 34 [(4,vB x3)] a/\Below w0.z w0 w) ?_ ?_
 .refine Wd (X:=noX) 0 (pl_ 30 []) mo (by kernel_rfl) λwt s2 _=>dM z z z<|dR z z (add_ z z)<|dM z z z<|dR z z (lnR e_ z kR)<|dR z z (lss z z)<|dM z z z ?_;rcases bs (decide<|(d_ x2 2)<(x1.length:Int)) with G | G
  .refine dRg z z z G z (mv z)<|dRg z z z G z (mv z)<|bdB (ifT I G) λV W hma=>b_9 z z z G z (at_ (α:=UInt8) e_ z_5 z z z kR W) ?_;rintro _ ⟨_,_,_,rfl,hb,hc,_⟩;obtain rfl:=u8 hc;refine dRg z z z G z (l0 g_5 z<|hb.at0 z)<|dRg z z z G z (mv z)<|dRg z z z G z (mv z)<|dRg z z z G z (add_ z z)<|bdB hma λxd ee J=>b_9 z z z G z (at_ (α:=UInt8) e_ z_5 z z z kR ee) ?_;rintro _ ⟨_,_,_,rfl,hf,hg,_⟩;obtain rfl:=u8 hg;refine dRg z z z G z (l0 g_5 z<|hf.at0 z)<|dRg z z z G z (eql z z)<|dR z z (pT z G z)<|dM z z z ?_;rcases bs ((byteI V)==(byteI xd)) with H | H
   .refine dRg z z z H z (mv z)<|dRg z z z H z (mv z)<|bdB (ifT J H) λxh ei hmj=>b_9 z z z H z (at_ (α:=UInt8) e_ z_5 z z z kR ei) ?_;rintro _ ⟨_,_,_,rfl,hk,hl,_⟩;obtain rfl:=u8 hl;refine dRg z z z H z (l0 g_5 z<|hk.at0 z)<|dRg z z z H z (mv z)<|dRg z z z H z (mv z)<|dRg z z z H z (add_ z z)<|bdB hmj λxm en hmo=>b_9 z z z H z (at_ (α:=UInt8) e_ z_5 z z z kR en) ?_;rintro _ ⟨_,_,_,rfl,hp,hq,_⟩;obtain rfl:=u8 hq;exact dRg z z z H z (l0 g_5 z<|hp.at0 z)<|dRg z z z H z (eql z z)<|dR z z (pT z H z)<|dQ z z z<|pD (λ_ q=>⟨(byteI xh)==(byteI xm),som hmo,kaA q,s2⟩)
   iterate 10 refine dRn z z z H z ?_
   exact dR z z (pF z H z)<|dQ z z z<|pD (λ_ q=>⟨false,som<|ifF J H,kaA q,s2⟩)
  iterate 10 refine dRn z z z G z ?_
  refine dR z z (pF z G z)<|dM z z z ?_;iterate 10 refine dRn z z z z z ?_
  exact dR z z (pF z z z)<|dQ z z z<|pD (λ_ q=>⟨false,som<|ifF I G,kaA q,s2⟩)
 rintro ar _ ⟨x3,rfl,_,ss⟩;revert ar;exact Wo<|Wr<|rS1 L hr z ⟨ss,z⟩
theorem W_w3h {x1:Bt}{x2:Int}{res:Int}(hm:j_B n x1 x2=some res)(a2:B<=w0.z)(W:rp w0 B A0 N0 C0 x1)(a1:inI x2):g_ prog 132 [sl A0 N0 C0,vI x2] w0 (Q9 w0 B res):=by
 unfold j_B at hm;refine goG func132 z z z λfn hr=>Ws<|Rw z<|Wq<|Wq<|bdB hm λug V hma=>Wt (λa w=>∃(x4:Bool),x4=ug/\Sat 36 [(0,sl A0 N0 C0),(1,vI x2),(13,vB x4)] a/\Below w0.z w0 w) ?_ ?_
 .refine Wg<|Rm z<|Rl z z z<|Rm z ?_;rcases bs (decide<|x2<0) with H | H
  .iterate 4 refine Nh z H ?_
   exact R z (pT z H z)<|Wl (λ_ q=>⟨true,som<|ifT V H,kaA q,br w0⟩)
  exact Rh z H (mv z)<|Rh z H (mv z)<|Rh z H (lnR e_ z W)<|Rh z H (b_e z z)<|R z (pF z H z)<|Wl (λ_ q=>⟨decide<|(x1.length:Int)<=x2,som<|ifF V H,kaA q,br w0⟩)
 rintro ah I ⟨x4,rfl,_,si⟩;revert ah;refine Wo<|Wc z (λJ=>?_) (λJ=>?_)
 .exact Ws<|Rw z<|Wr<|rS1 (ifT hma J) hr z ⟨si,z,ii z⟩
 refine Wk<|Ws<|Rw z<|Wq<|bdB (ifF hma J) λ_ huj hmb=>b_3 (σ:=Int) (ρ:=Int) (λ(x3:Int) a w=>Sat 36 [(0,sl A0 N0 C0),(1,vI x2),(5,vI x3)] a/\Below I.z I w/\inI x3) (λ(x3:Int) a w=>Sat 36 [(5,vI x3)] a/\Below I.z I w/\inI x3) (rQ prog fn<|Q9 w0 B) huj ?_ ?_ ?_ ?_
 .exact λ_ q=>⟨kaA q,br I,ii z⟩
 .rintro x3 _ wc _ ⟨hSk,_,h6⟩ hml;refine Wu ?_ hSk;refine Wq<|Wq<|bdB hml λum hud hme=>Wt (λa w=>∃(O:Bool),O=um/\Sat 36 [(0,sl A0 N0 C0),(1,vI x2),(5,vI x3),(32,vB O)] a/\Below wc.z wc w) ?_ ?_
  .refine Wd (X:=noX) 0 (pl_ 19 []) mo (by kernel_rfl) λa3 sf _=>dM z z z<|dM z z z<|dR z z (add_ z z)<|dM z z z<|dR z z (lnR e_ z kR)<|dR z z (lss z z)<|dM z z z ?_;rcases bs (decide<|(d_ x2 x3)<(x1.length:Int)) with G | G
   .iterate 3 refine dRg z z z G z (mv z) ?_
    refine dRg z z z G z (add_ z z)<|bdB (ifT hud G) λxn eo hmp=>b_9 z z z G z (at_ (α:=UInt8) e_ z_5 z z z kR eo) ?_;rintro _ ⟨_,_,_,rfl,hq,ht,_⟩;obtain rfl:=u8 ht;refine dRg z z z G z (l0 g_5 z<|hq.at0 z)<|dRg z z z G z (mv z)<|dRg z z z G z (mv z)<|bdB hmp λxr es hmu=>b_9 z z z G z (at_ (α:=UInt8) e_ z_5 z z z kR es) ?_;rintro _ ⟨_,_,_,rfl,hv,hw,_⟩;obtain rfl:=u8 hw;exact dRg z z z G z (l0 g_5 z<|hv.at0 z)<|dRg z z z G z (eql z z)<|dR z z (pT z G z)<|pD (λ_ q=>⟨(byteI xn)==(byteI xr),som hmu,kaA q,sf⟩)
   iterate 11 refine dRn z z z G z ?_
   exact dR z z (pF z G z)<|pD (λ_ q=>⟨false,som<|ifF hud G,kaA q,sf⟩)
  rintro ax _ ⟨O,rfl,_,_⟩;revert ax;refine Wo<|Wc z (λL=>?_) (λL=>?_)
  .exact Wk<|Wb<|Wg<|Rm z<|R z (add_ z z)<|Ra z<|Wl (λ_ q=>⟨d_ x3 1,(som<|ifT hme L).symm,⟨kaA q,kW,iA _ _⟩⟩)
  exact We<|λ_ q=>b_1 (som<|ifF hme L).symm ⟨kaA q,kW,h6⟩
 .rintro x3 ay _ rfl ⟨_,_,h6⟩;have hmz:=elL hmb;revert ay;exact Wo<|Wm z<|Rw z<|Wr<|rS1 hmz hr z ⟨kW,z,h6⟩
 exact lqA hmb λ_ _ h=>h.2
theorem W_w3i {x1:Int}{x2:Int}{res:Bool}(hm:g_y x1 x2=some res)(I:B<=w0.z)(G:inI x1)(H:inI x2):g_ prog 70 [vI x1,vI x2] w0 (Q0 w0 B res):=by
 unfold g_y at hm;exact goG func70 z z z λfn hr=>Ws<|Rw z<|Wm z<|Rm z<|Rl z z z<|Rw z<|Wr<|rS1 hm hr z ⟨br w0,z⟩
theorem W_w3j {x2:Int}{x3:List Int}{res:Int}(hm:j_C x2 x3=some res)(Y:B<=w0.z)(W:inI x2)(I:rp w0 B A7 N7 C7 x3):g_ prog 69 [(.func (.func 70) #[] #[]),vI x2,sl A7 N7 C7] w0 (Q9 w0 B res):=by
 unfold j_C at hm;refine goG func69 z z z λfn hr=>Ws<|Rw z<|Wq<|Wm z<|R z (lnR A_ z I)<|Rm z<|Wn<|bdB hm λ_ hua J=>Wf (σ:=Int) (ρ:=Int) (λ(k3:Nat)(x0:Int) a w=>Sat 22 [(0,.func (.func 70) #[] #[]),(1,vI x0),(9,sl A7 N7 C7),(10,vI (x3.length:Int)),(11,vI ((k3:Nat):Int))] a/\Below w0.z w0 w/\inI x0) (λ(x0:Int) a w=>Sat 22 [(1,vI x0)] a/\Below w0.z w0 w/\inI x0) (rQ prog fn<|Q9 w0 B) hua ?_ ?_ ?_ ?_ ?_
 .exact λ_ q=>⟨kaA q,br w0,W⟩
 .rintro k3 x0 _ _ _ L ⟨hSb,_,h1⟩ hmc;refine Wu ?_ hSb;refine Ws<|Rl z z z<|Wn<|Wq<|Wc z (λ_=>?_) (λhc=>(a_4 L hc).elim);refine Wk<|Wq<|Wb<|Ws<|bdB hmc λxd ee hmf=>xI z A_ z_3 z z z kR ee λ_ _ hg V=>R z (l0 g_3 z<|hg.at0 z)<|Rw z<|Wm z<|RM z z<|bdB hmf λ_ ei hmj=>E z (l_c call70 z z<|W_w3i (B:=B) ei kM V h1) ?_;rintro _ G ⟨_,rfl⟩;refine Wn<|bdB hmj λuk O hml=>Wt (λa w=>∃(x4:Int),x4=uk/\Sat 22 [(0,.func (.func 70) #[] #[]),(1,vI x4),(9,sl A7 N7 C7),(10,vI (x3.length:Int)),(11,vI ((k3:Nat):Int))] a/\Below G.z G w/\inI x4) ?_ ?_
  .refine Wc z (λH=>?_)<|λH=>?_
   .exact Wg<|Rm z<|Ra z<|Wl (λ_ q=>⟨xd,som<|ifT O H,kaA q,br G,V⟩)
   exact a_l<|λ_ q=>⟨x0,som<|ifF O H,kaA q,br G,h1⟩
  rintro am _ ⟨x4,rfl,_,_,hn⟩;revert am;exact Wo<|Wg<|R z (inc_ L (lt_ (repS.len I) N_) z z)<|Rm z<|Wl (λ_ q=>⟨x4,(som hml).symm,⟨kaA q,kW,hn⟩⟩)
 .rintro x0 _ _ ⟨hSo,sp,h1⟩;refine Wu ?_ hSo;refine Ws<|Rl z z z<|Wn<|Wq<|Wc z (λhc=>(a_5 hc).elim) (λ_=>?_);exact We<|λ_ q=>⟨rfl,⟨kaA q,sp,h1⟩⟩
 .rintro x0 aq _ rfl ⟨_,sr,h1⟩;have hms:=elL J;revert aq;exact Wo<|Wm z<|Rw z<|Wr<|rS1 hms hr z ⟨sr,z,h1⟩
 exact lqA J λ_ _ h=>h.2
theorem W_w1w {x1:Int}{x2:Int}{res:Int}(hm:d_Y x1 x2=some res)(W:B<=w0.z)(I:inI x1)(J:inI x2):g_ prog 38 [vI x1,vI x2] w0 (Q9 w0 B res):=by
 unfold d_Y at hm;refine goG func38 z z z λfn hr=>Ws<|Rw z<|Wm z<|Rm z<|EvA z (fS [(.tmp 6)] a_G z z z (H_ z) (lb z)<|lb z) λH G=>have:=G.below;have:Blk H w0.z [vI x2]:=G.blk;have L:=a_j G<|b_2 J;bdB hm λ_ V O=>E z (fc call69 z<|W_w3j (B:=H.z) V zr I<|a_.rep L) ?_;rintro _ _ ⟨_,rfl,h4⟩;exact Rw z<|Wr<|rS1 O hr z ⟨kW,z,h4⟩
theorem W_w3k {x1:Bt}{res:Bt}(hm:j_D n x1=some res)(bq:B<=w0.z)(bp:rp w0 B A0 N0 C0 x1):g_ prog 108 [sl A0 N0 C0] w0 (Q11 w0 B res):=by
 unfold j_D at hm;refine goG func108 z z z λfn hr=>Ws<|Rw z<|Ws<|E z (f0 (α:=UInt8) s_) ?_;rintro _ V ⟨aA,aB,aC,rfl,_,aD⟩;refine Rw z<|Wq<|Ws<|Rw z ?_;obtain ⟨_,a8,hmu⟩:=bdS hm;refine b_3 (σ:=Bt×Int) (ρ:=Bt) (λs a w=>un2 (λW x3=>∃H I J G,Sat 67 [(0,sl A0 N0 C0),(3,sl H I J),(4,vI x3)] a/\Cg [w0.z] V w/\a_ w G (sl H I J) W/\G.Nodup/\(∀k∈G,k∈[w0.z]∨V.z<=k)/\inI x3) s) (λs a w=>un2 (λW x3=>∃H I J G,Sat 67 [(3,sl H I J)] a/\Cg [w0.z] V w/\a_ w G (sl H I J) W/\G.Nodup/\(∀k∈G,k∈[w0.z]∨V.z<=k)/\inI x3) s) (rQ prog fn<|Q11 w0 B) a8 ?_ ?_ ?_ ?_
 .exact λ_ q=>⟨aA,aB,aC,[w0.z],kaA q,cr [w0.z] V,aD,Q_,sQ,ii z⟩
 .rintro ⟨W,x3⟩ _ wv _ ⟨H,I,J,G,a9,_,hn,ha,aE,he⟩ aa;have hmw:=a_c aa;refine Wu ?_ a9;refine Wq<|Wm z<|Rm z<|R z (lnR e_ z kR)<|Rl z z z<|Wx z (λhcm=>?_) (λhcm=>?_)
  .refine Wk<|bdB (ifT hmw hcm) λaF ab hmx=>Wt (λa w=>∃(xf:Bt)(xb:Int),Sum.inl (xf,xb)=aF/\∃ag nh ci Sc,Sat 67 [(0,sl A0 N0 C0),(3,sl ag nh ci),(4,vI xb)] a/\Cg G wv w/\a_ w Sc (sl ag nh ci) xf/\Sc.Nodup/\(∀k∈Sc,k∈G∨wv.z<=k)/\inI xb) ?_ ?_
   .refine Wb<|Wq<|Wm z<|Rm z<|bdB ab λ_ aG hmy=>EcA z (fc call131 z<|W_w1v (B:=B) aG kM kR he) λwd _=>Wx z (λhco=>?_) (λhco=>?_)
    .refine Wm z<|Rm z<|bdB (ifT hmy hco) λ_ aH ad=>E z (fc call132 z<|W_w3h (B:=B) aH kM kR he) ?_;rintro _ _ ⟨_,rfl,aI⟩;refine bdB ad λrj aJ ae=>E z (fc call38 z<|W_w1w (B:=B) aJ kM aI<|ii z) ?_;rintro _ wp ⟨_,rfl,_⟩;refine Rw z<|Wm z<|Rm z<|R z (add_ z z)<|R z (b_p d_3 d_5 z)<|RM z z<|bdB ae λxq aK af=>xA (α:=UInt8) z e_ z_5 z z z kR aK λ_ _ _ aL aM _=>?_;obtain rfl:=u8 aM;refine R z (l0 g_5 z<|aL.at0 z)<|EvA z (fS [(.tmp 22),(.tmp 26)] s_ z z z (H_ z) (lb z)<|lb z) λwz a4=>have:=a4.below;have a5:Blk wz wp.z [(vU<|byteI<|mkB<|d_ 128 rj),vU<|byteI xq]:=a4.blk;have a6:a_ wz [wp.z] (sl (some ⟨wp.z,0,none⟩) 2 2) [mkB (d_ 128 rj),xq]:=i_h (l:=[mkB (d_ 128 rj),xq]) a5 z;bdB af λaN aO ah=>E z (fN (α:=UInt8) s_ aO z z kO ha<|a_.rep a6) ?_;rintro _ _ ⟨aP,aQ,aR,aS,rfl,_,aT,aU,_⟩;exact Rw z<|Wm z<|Rm z<|R z (add_ z z)<|Rw z<|We<|exH<|λ_ q=>⟨aN,d_ x3 rj,som ah,aQ,aR,aS,aP,kaA q,kW,aT,aU,sQ,iA _ _⟩
    refine Wk<|Wm z<|R z (add_ z z)<|Rw z<|Wq<|bdB (ifF hmy hco) λ_ ai Y=>b_3 (σ:=Int) (ρ:=Bt) (λ(x2:Int) a w=>Sat 67 [(0,sl A0 N0 C0),(3,sl H I J),(4,vI x3),(6,vI x2)] a/\Below wd.z wd w/\inI x2) (λ(x2:Int) a w=>Sat 67 [(0,sl A0 N0 C0),(3,sl H I J),(4,vI x3),(6,vI x2)] a/\Below wd.z wd w/\inI x2) (rQ prog fn<|Q11 w0 B) ai ?_ ?_ ?_ ?_
    .exact λ_ q=>⟨kaA q,br wd,iA _ _⟩
    .rintro x2 _ wk _ ⟨aj,_,hl⟩ ak;refine Wu ?_ aj;refine Wq<|Wq<|bdB ak λaV a0 a2=>Wt (λa w=>∃(xr:Bool),xr=aV/\Sat 67 [(0,sl A0 N0 C0),(3,sl H I J),(4,vI x3),(6,vI x2),(49,vB xr)] a/\Below wk.z wk w) ?_ ?_
     .refine Wg<|RM z z<|R z (lnR e_ z kR)<|Rl z z z<|Rm z ?_;rcases bs (decide<|x2<(x1.length:Int)) with L | L
      .have a3:=ifT a0 L;refine Rh z L (mv z)<|Rh z L (mv z)<|Rh z L (sb_ z z)<|Rh z L (lss z z)<|R z (pT z L z)<|Rm z ?_;rcases bs (decide<|(h_ x2 x3)<127) with O | O
       .refine Rh z O (mv z)<|Rh z O (mv z)<|bdB (ifT a3 O) λaW aX al=>Eg z z O z (fc call131 z<|W_w1v (B:=B) aX kM kR hl) ?_;rintro _ _ ⟨aY,rfl⟩;exact Rh z O (not_ z)<|R z (pT z O z)<|Wl (λ_ q=>⟨!aW,som al,kaA q,aY⟩)
       iterate 4 refine Nh z O ?_
       exact R z (pF z O z)<|Wl (λ_ q=>⟨false,som<|ifF a3 O,kaA q,br wk⟩)
      iterate 4 refine Nh z L ?_
      exact R z (pF z L z)<|Rm z<|Nh z z<|Nh z z<|Nh z z<|Nh z z<|R z (pF z z z)<|Wl (λ_ q=>⟨false,som<|ifF a0 L,kaA q,br wk⟩)
     rintro aZ _ ⟨xr,rfl,_,_⟩;revert aZ;refine Wo<|Wc z (λhcs=>?_) (λhcs=>?_)
     .exact Wk<|Wb<|Wg<|Rm z<|R z (add_ z z)<|Ra z<|Wl (λ_ q=>⟨d_ x2 1,(som<|ifT a2 hcs).symm,⟨kaA q,kW,iA _ _⟩⟩)
     exact We<|λ_ q=>b_1 (som<|ifF a2 hcs).symm ⟨kaA q,kW,hl⟩
    .rintro x2 b0 b3 rfl ⟨_,_,hl⟩;have am:=elL Y;revert b0;refine Wo<|Wm z<|RM z z<|R z (sb_ z z)<|R z (b_p d_3 d_5 z)<|EvA z (fS [(.tmp 56)] s_ z z z (H_ z) (lb z)<|lb z) λb4 ht=>have:=ht.below;have a7:Blk b4 b3.z [(vU<|byteI<|mkB<|h_ x2 x3)]:=ht.blk;have:=a_j ht a_s;bdB am λ_ b5 an=>E z (a_h (α:=UInt8) s_ b5 z z kO ha a7 a_s an_ r_) ?_;rintro _ _ ⟨_,_,_,_,rfl,_,b6,b7,_⟩;refine Rw z<|Wm z<|RM z z<|Rm z<|bdB an λ_ b8 ap=>RX z (rX e_ z_5 z z kR z z b8) ?_;rintro _ ⟨_,_,_,rfl,b9⟩;refine bdB ap λba bb aq=>E z (fN (α:=UInt8) s_ bb z z b6 b7 b9) ?_;rintro _ _ ⟨bc,be,bf,bg,rfl,_,bh,bi,_⟩;exact Rw z<|Wg<|Rm z<|Ra z<|Wl (λ_ q=>⟨ba,x2,som aq,be,bf,bg,bc,kaA q,kW,bh,bi,sQ,hl⟩)
    rintro _ _ _ _ rfl ⟨rfl,ar⟩;have au:=elR Y;obtain rfl:=som au;have av:=elR hmx;exact ⟨h_D<|i_s (som av).symm ⟨rfl,ar⟩,z⟩
   rintro bj _ ⟨xf,xb,rfl,ag,nh,ci,Sc,_,_,bk,bm,_,bn⟩;have aw:=elL hmx;revert bj;exact λ_ q=>⟨(xf,xb),(som<|a_c aw).symm,⟨ag,nh,ci,Sc,kaA q,kW,bk,bm,sQ,bn⟩⟩
  exact We<|λ_ q=>b_1 (som<|ifF hmw hcm).symm ⟨H,I,J,G,kaA q,kW,hn,ha,sQ,he⟩
 .rintro ⟨W,x3⟩ bo _ rfl ⟨H,I,J,G,_,_,hn,ha,aE,he⟩;have ax:=elL hmu;revert bo;refine Wo<|Wm z<|Rw z ?_;exact Wr<|rS1 (a_c ax) hr z ⟨kW,H,I,J,G,z,hn,ha,sQ⟩
 exact lqA hmu λ_ _ h=>h.2
theorem W_w1x {x1:Bt}{res:Int}(hm:f_a x1=some res)(W:B<=w0.z)(G:rp w0 B A0 N0 C0 x1):g_ prog 109 [sl A0 N0 C0] w0 (Q9 w0 B res):=by
 unfold f_a at hm;refine goG func109 z z z λfn hr=>Ws<|Rw z<|Ws<|Rw z<|Wq<|Wm z<|R z (lnR e_ z G)<|Rm z<|Wn<|bdB hm λ_ J H=>Wf (σ:=Int) (ρ:=Int) (λ(k3:Nat)(x0:Int) a w=>Sat 19 [(3,vI x0),(6,sl A0 N0 C0),(7,vI (x1.length:Int)),(8,vI ((k3:Nat):Int))] a/\Below w0.z w0 w/\inI x0) (λ(x0:Int) a w=>Sat 19 [(3,vI x0)] a/\Below w0.z w0 w/\inI x0) (rQ prog fn<|Q9 w0 B) J ?_ ?_ ?_ ?_ ?_
 .exact λ_ q=>⟨kaA q,br w0,ii z⟩
 .rintro k3 x0 _ _ _ I ⟨L,s7,h1⟩ O;refine Wu ?_ L;refine Ws<|Rl z z z<|Wn<|Wq<|Wc z (λ_=>?_) (λhc=>(a_4 I hc).elim);refine Wk<|Wq<|Wb<|Ws<|bdB O λV ea hmb=>xA (α:=UInt8) z e_ z_5 z z z kR ea λ_ _ _ hd he _=>?_;obtain rfl:=u8 he;exact R z (l0 g_5 z<|hd.at0 z)<|Rw z<|Wg<|RM z z<|R z (b_q d_5 d_3 z)<|R z (add_ z z)<|Rw z<|Wg<|R z (inc_ I (lt_ (repS.len G) N_) z z)<|Rm z<|Wl (λ_ q=>⟨d_ x0<|byteI V,(som hmb).symm,⟨kaA q,s7,iA _ _⟩⟩)
 .rintro x0 _ _ ⟨hSc,sf,h1⟩;refine Wu ?_ hSc;refine Ws<|Rl z z z<|Wn<|Wq<|Wc z (λhc=>(a_5 hc).elim) (λ_=>?_);exact We<|λ_ q=>⟨rfl,⟨kaA q,sf,h1⟩⟩
 .rintro x0 ag _ rfl ⟨_,sh,h1⟩;have hmi:=elL H;revert ag;exact Wo<|Wm z<|R z (b_X z z (by decide))<|Rw z<|Wr<|rS1 hmi hr z ⟨sh,z,c_G h1⟩
 exact lqA H λ_ _ h=>h.2
theorem W_w3l {x1:m_}{res:Bt}(hm:j_E n x1=some res)(al:B<=w0.z)(Y:inI x1.kind)(a0:x1.name.b.length<=LEN)(a1:inI x1.version)(aj:rp w0 B AF NF CF x1.data):g_ prog 76 [(.agg #[vI x1.kind,Str.v x1.name,vI x1.version,sl AF NF CF])] w0 (Q11 w0 B res):=by
 unfold j_E at hm;refine goG func76 z z z λfn hr=>Ws<|EvX [vI x1.kind,Str.v x1.name,vI x1.version,sl AF NF CF] z z z λwc _ ak=>Rw z<|Wq<|Ws<|R z (lC [vI x1.kind,Str.v x1.name,vI x1.version,sl AF NF CF] b_i a_7 z)<|bdB hm λ_ ed L=>EcA z (fc call75 z<|W_w1u (B:=B) ed kM Y a0 a1 kR) λwe _=>R z (not_ z)<|Wx z (λH=>?_) (λH=>?_)
 .refine Ws<|E z (f0 (α:=UInt8) s_) ?_;rintro _ _ ⟨af,ng,ch,rfl,_,hi⟩;exact Rw z<|Wr<|rS1 (ifT L H) hr z ⟨kW,af,ng,ch,[we.z],z,hi,Q_,sQ⟩
 refine Wk<|Ws<|Rf z d_J z<|R z (l0 y_ z kBa)<|bdB (ifF L H) λG ej hmk=>E z (fc call108 z<|W_w3k (B:=B) ej kM kR) ?_;rintro _ I ⟨_,_,_,_,_,rfl,h3,_,_⟩;refine Rw z<|Ws<|Rf z c_V z<|R z (l0 g_3 z kBa)<|R z (b_p d_3 d_5 z)<|Rf z d_I z<|R z (l0 g_9 z kBa)<|R z (lnT d_9 z)<|R z (b_p d_3 d_5 z)<|EvA z (fS [(.tmp 14),(.tmp 18)] s_ z z z (H_ z) (lb z)<|lb z) λO V=>have:=V.below;have a2:Blk O I.z [(vU<|byteI<|mkB x1.kind),(vU<|byteI<|mkB (x1.name.b.length:Int))]:=V.blk;have a3:a_ O [I.z] (sl (some ⟨I.z,0,none⟩) 2 2) [mkB x1.kind,mkB (x1.name.b.length:Int)]:=i_h (l:=[mkB x1.kind,mkB (x1.name.b.length:Int)]) a2 z;Rw z<|Wm z<|Rf z d_I z<|R z (l0 g_9 z kBa) ?_;refine bdB hmk λ_ el hmm=>E z (q_d s_ d_9 el z z a3 Q_) ?_;rintro _ J ⟨_,_,_,_,rfl,_,_,hn,_⟩;refine Rw z<|Wm z<|Rf z c_W z<|R z (l0 g_3 z kBa)<|R z (b_p d_3 d_5 z)<|Rm z<|R z (lnR e_ z<|or_ kO<|a_.lt h3)<|R z (k_g z z (by decide))<|R z (b_p d_3 d_5 z)<|Rm z<|R z (lnR e_ z<|or_ kO<|a_.lt h3)<|R z (b_p d_3 d_5 z)<|EvA z (fS [(.tmp 27),.tmp 31,(.tmp 34)] s_ z z z (H_ z) (lb z)<|lb z) λwa hb=>have:=hb.below;have a4:Blk wa J.z [(vU<|byteI<|mkB x1.version),vU<|byteI<|mkB<|a_9 .i64 (G.length:Int) 8,(vU<|byteI<|mkB (G.length:Int))]:=hb.blk;have a5:a_ wa [J.z] (sl (some ⟨J.z,0,none⟩) 3 3) [mkB x1.version,mkB<|a_9 .i64 (G.length:Int) 8,mkB (G.length:Int)]:=i_h (l:=[mkB x1.version,mkB<|a_9 .i64 (G.length:Int) 8,mkB (G.length:Int)]) a4 z;bdB hmm λ_ eo hmp=>?_;refine E z (fN (α:=UInt8) s_ eo z z kO hn<|a_.rep a5) ?_;rintro _ _ ⟨_,_,_,_,rfl,_,hq,ht,_⟩;refine Rw z<|Wm z<|Rm z<|bdB hmp λ_ er hms=>E z (fN (α:=UInt8) s_ er z z hq ht<|or_ kO<|a_.lt h3) ?_;rintro _ wu ⟨_,_,_,_,rfl,_,hv,hw,_⟩;refine Rw z<|Wm z<|Rm z<|bdB hms λrx ey hmz=>E z (fc call109 z<|W_w1x (B:=wu.z) ey zr<|a_.rep hv) ?_;rintro _ a7 ⟨_,rfl,_⟩;refine R z (b_p d_3 d_5 z)<|EvA z (fS [(.tmp 43)] s_ z z z (H_ z) (lb z)<|lb z) λa8 h5=>have:=h5.below;have W:Blk a8 a7.z [(vU<|byteI<|mkB rx)]:=h5.blk;have:=a_j h5 a_s;bdB hmz λ_ a9 a6=>E z (a_h (α:=UInt8) s_ a9 z z kO hw W a_s an_ r_) ?_;rintro _ _ ⟨aa,ab,ad,ae,rfl,_,ah,ai,_⟩;exact Rw z<|Wr<|rS1 a6 hr z ⟨kW,ab,ad,ae,aa,z,ah,ai,sQ⟩
theorem W_w3m {x1:Bt}{x2:Bt}{res:Bool}(hm:n_j x1 x2=some res)(I:B<=w0.z)(G:rp w0 B A0 N0 C0 x1)(H:rp w0 B A3 N3 C3 x2):g_ prog 80 [sl A0 N0 C0,sl A3 N3 C3] w0 (Q0 w0 B res):=by
 unfold n_j at hm;exact goG func80 z z z λfn hr=>Ws<|Rw z<|Wm z<|R z (i_t e_ d_9 d_5 z_5 z G)<|Rm z<|R z (i_t e_ d_9 d_5 z_5 z H)<|R z (e_R z z)<|Rw z<|Wr<|rS1 hm hr z ⟨br w0,z⟩
theorem l_M {x1:Bt}{x2:Bt}{res:Bool}(hm:f_d x1 x2=some res)(I:B<=w0.z)(G:rp w0 B A0 N0 C0 x1)(H:rp w0 B A3 N3 C3 x2):g_ prog 48 [sl A0 N0 C0,sl A3 N3 C3] w0 (Q0 w0 B res):=by
 unfold f_d at hm;exact goG func48 z z z λfn hr=>Ws<|Rw z<|Wm z<|Rm z<|bdB hm λ_ L J=>EcA z (fc call80 z<|W_w3m (B:=B) L I G H) λ_ s2=>Rw z<|Wr<|rS1 J hr z ⟨s2,z⟩
theorem W_w1y {x1:Bt}{x2:Int}{res:m_×Int×Bool}(hm:f_g n x1 x2=some res)(b5:B<=w0.z)(b4:rp w0 B A0 N0 C0 x1)(W:inI x2):g_ prog 45 [sl A0 N0 C0,vI x2] w0 (Q20 w0 B res):=by
 unfold f_g at hm;refine goG func45 z z z λfn hr=>Ws<|EvZ [vI 0,Str.v (⟨[]⟩:Str),vI 0,sN] z e_c z λwa _ _=>Ra z<|Rw z<|Wq<|Wq<|bdB hm λuz huj hmk=>Wt (λa w=>∃(xc:Bool),xc=uz/\Sat 126 [(0,sl A0 N0 C0),(1,vI x2),(4,pt w0.z),(28,vB xc)] a/\Below wa.z wa w) ?_ ?_
 .refine Wg<|Rm z<|Rl z z z<|Rm z ?_;rcases bs (decide<|x2<0) with J | J
  .iterate 4 refine Nh z J ?_
   exact R z (pT z J z)<|Rm z<|Nh z z<|Nh z z<|Nh z z<|Nh z z<|Nh z z<|R z (pT z z z)<|Wl (λ_ q=>⟨true,som<|ifT huj J,kaA q,br wa⟩)
  have hml:=ifF huj J;refine Rh z J (mv z)<|Rh z J (mv z)<|Rh z J (lnR e_ z kR)<|Rh z J (a_8 z z)<|R z (pF z J z)<|Rm z ?_;rcases bs (decide<|(x1.length:Int)<x2) with H | H
  .iterate 5 refine Nh z H ?_
   exact R z (pT z H z)<|Wl (λ_ q=>⟨true,som<|ifT hml H,kaA q,br wa⟩)
  exact Rh z H (mv z)<|Rh z H (lnR e_ z kR)<|Rh z H (mv z)<|Rh z H (sb_ z z)<|Rh z H (lss z z)<|R z (pF z H z)<|Wl (λ_ q=>⟨decide<|(h_ (x1.length:Int) x2)<2,som<|ifF hml H,kaA q,br wa⟩)
 rintro ad _ ⟨xc,rfl,_,_⟩;revert ad;refine Wo<|Wc z (λhcd=>?_) (λhcd=>?_)
 .exact Ws<|R z (bQ [] [vI 0,Str.v (⟨[]⟩:Str),vI 0,sN] c_U z z)<|Rm z<|E0q [vI 0,Str.v (⟨[]⟩:Str),vI 0,sN] a_7 z z kB z λb6 ae _=>Ra z<|Rw z<|Wr<|rS3 (ifT hmk hcd) hr (q_ b_i a_7 z ae z) z z ⟨kW,none,0,0,[],z,ii z,lb z,ii z,onL,W,r_,an_⟩
 refine Wk<|Wm z<|Rm z<|bdB (ifF hmk hcd) λ_ af a0=>RX z (rX e_ z_5 z z kR z z af) ?_;rintro _ ⟨_,_,_,rfl,hn⟩;refine Rw z<|Wm z<|bdB a0 λah ai hmm=>xA (α:=UInt8) z e_ z_5 z z z hn ai λ_ _ _ aj ak _=>?_;obtain rfl:=u8 ak;refine R z (l0 g_5 z<|aj.at0 z)<|R z (b_q d_5 d_3 z)<|Rw z<|Wq<|Wm z<|R z (lnR e_ z hn)<|Rm z<|R z (add_ z z)<|Rl z z z<|Wx z (λhce=>?_) (λhce=>?_)
 .exact Ws<|R z (bQ [] [vI 0,Str.v (⟨[]⟩:Str),vI 0,sN] c_U z z)<|Rm z<|E0q [vI 0,Str.v (⟨[]⟩:Str),vI 0,sN] a_7 z z kB z λb7 al _=>Ra z<|Rw z<|Wr<|rS3 (ifT hmm hce) hr (q_ b_i a_7 z al z) z z ⟨kW,none,0,0,[],z,ii z,lb z,ii z,onL,W,r_,an_⟩
 refine Wk<|Wq (Wd (X:=noX) 0 (pl_ 15 []) mo (by kernel_rfl) λb8 b9 _=>dM z z z<|dM z z z<|dR z z (add_ z z) ?_);refine bdB (ifF hmm hce) λam an a1=>dxA (α:=UInt8) z z e_ z_5 z z z kR an λ_ _ _ ap aq _=>?_;obtain rfl:=u8 aq;refine dR z z (l0 g_5 z<|ap.at0 z)<|dR z z (b_q d_5 d_3 z)<|dR z z (i_F z z (by decide))<|dM z z z<|dM z z z<|dR z z (add_ z z)<|bdB a1 λar au hmo=>dxA (α:=UInt8) z z e_ z_5 z z z kR au λ_ _ _ av aw _=>?_;obtain rfl:=u8 aw;refine dR z z (l0 g_5 z<|av.at0 z)<|dR z z (b_q d_5 d_3 z)<|dR z z (m_7 z z)<|dQ z z z<|pD<|Wo<|Wq<|Wm z<|R z (lnR e_ z kR)<|Rm z<|R z (add_ z z)<|Rm z<|R z (add_ z z)<|Rl z z z<|Wx z (λhcf=>?_) (λhcf=>?_)
 .exact Ws<|R z (bQ [] [vI 0,Str.v (⟨[]⟩:Str),vI 0,sN] c_U z z)<|Rm z<|E0q [vI 0,Str.v (⟨[]⟩:Str),vI 0,sN] a_7 z z kB z λba ax _=>Ra z<|Rw z<|Wr<|rS3 (ifT hmo hcf) hr (q_ b_i a_7 z ax z) z z ⟨kW,none,0,0,[],z,ii z,lb z,ii z,onL,W,r_,an_⟩
 refine Wk<|Wm z<|bdB (ifF hmo hcf) λ_ ay a2=>E z (n_N (α:=UInt8) s_ (λ_=>q_Z) ay z z) ?_;rintro _ az ⟨_,_,_,rfl,_,hp⟩;refine Rw z<|Wm z<|RM z z<|R z (add_ z z)<|bdB a2 λ_ aA a3=>RX z (rX e_ z_5 z z kR z z aA) ?_;rintro _ ⟨_,_,_,rfl,aB⟩;refine E z (q_b e_ z_5 z z hp aB) ?_;rintro _ _ ⟨rfl,_,aC⟩;refine Wn<|Wm z ?_;obtain ⟨rq,aD,aE,a4⟩:=a_D a3;refine E z (fc call74 z<|W_w3g (B:=az.z) aE (a_U kM)<|or_ aC<|a_.lt hp) ?_;rintro _ wr ⟨_,L,O,V,aF,rfl,ht,aG,_⟩;refine Rm z<|Re z z z<|Re z z z<|Ra z<|Rw z<|Wq (Wd (X:=noX) 262144 (pl_ 19 [17,18]) mo (by kernel_rfl) λws bb _=>dM z z z ?_);refine bdB a4 λx4 aH a5=>dxA (α:=UInt8) z z e_ z_5 z z z kR aH λ_ _ _ aI aJ _=>?_;obtain rfl:=u8 aJ;refine dR z z (l0 g_5 z<|aI.at0 z)<|dR z z (b_q d_5 d_3 z)<|dM z z z<|dM z z z<|dR z z (add_ z z)<|bdB a5 λx5 aK a6=>dRX z z (rX e_ z_5 z z kR z z aK) ?_;rintro _ ⟨_,_,_,rfl,hb⟩;refine dR z z (i_t e_ d_9 d_5 z_5 z hb)<|dM z z z<|dM z z z<|dR z z (add_ z z)<|bdB a6 λx6 aL a8=>dxA (α:=UInt8) z z e_ z_5 z z z kR aL λ_ _ _ aM aN _=>?_;obtain rfl:=u8 aN;refine dR z z (l0 g_5 z<|aM.at0 z)<|dR z z (b_q d_5 d_3 z)<|dM z z z<|dR z z (bQ [(0,.tmp 84),(1,.tmp 89),(2,.tmp 95),(3,.tmp 96)] [vI (byteI x4),Str.v (⟨x5⟩:Str),vI<|byteI x6,sl L O V] c_U z z)<|dNb [vI 0,Str.v (⟨[]⟩:Str),vI 0,sN] z z e_c z λbc _ Y=>dE0 z (fs0 (cur':=[vI (byteI x4),Str.v (⟨x5⟩:Str),vI<|byteI x6,sl L O V]) a_7 z z Y z z z z) (.inl z) ?_;rintro _ wv ⟨_,aO⟩;have:=aO.one;refine pD<|Wo<|Wq<|Wq<|bdB a8 λaP huw hmx=>Wt (λa w=>∃(xg:Bool),xg=aP/\Sat 126 [(1,vI x2),(4,pt w0.z),(8,vI<|byteI ah),(9,vI<|a_n .i64 (· ||| ·) (b_d .i64 (byteI am) 8)<|byteI ar),(13,pt ws.z),(116,vB xg)] a/\Below wv.z wv w) ?_ ?_
 .refine Wd (X:=noX) 0 (.rd 0<|.rd 1<|.rd 2<|.rd 3<|.ef 4<|.rd 5<|.rd 6<|.rd 7<|.rd 8<|.rd 10<|.rd 11<|.rd 12<|.rd 13<|.rd 14<|.rd 15<|.ef 9<|.ef 16<|.rd 17<|.rd 18 .done) mo (by kernel_rfl) λbe aQ _=>dM z z z<|dR z z (not_ z)<|dM z z z ?_;rcases bs (!aD) with I | I
  .refine dRn z z z I z<|dEn z z z I z<|dRn z z z I z<|dR z z (pT z I z)<|dM z z z ?_;iterate 7 refine dRn z z z z z ?_
   exact dEn z z z z z<|dEn z z z z z<|dRn z z z z z<|dR z z (pT z z z)<|pD (λ_ q=>⟨true,som<|ifT huw I,kaA q,aQ⟩)
  refine dRg z z z I z (lC [vI (byteI x4),Str.v (⟨x5⟩:Str),vI<|byteI x6,sl L O V] b_i a_7 z)<|bdB (ifF huw I) λaR aS hmy=>dEg z z z I z (fc call75 z<|W_w1u (B:=wr.z) (x1:=(⟨byteI x4,(⟨x5⟩:Str),byteI x6,rq⟩:m_)) aS (a_U kM) (c_H _) (repS.len hb) (c_H _)<|or_ kO<|a_.lt ht) iB ?_;rintro _ _ ⟨_,rfl⟩;refine dRg z z z I z (not_ z)<|dR z z (pF z I z)<|dM z z z ?_;rcases bs (!aR) with G | G
  .iterate 7 refine dRn z z z G z ?_
   exact dEn z z z G z<|dEn z z z G z<|dRn z z z G z<|dR z z (pT z G z)<|pD (λ_ q=>⟨true,som<|ifT hmy G,kaA q,kW⟩)
  refine dRg z z z G z (lC [vI (byteI x4),Str.v (⟨x5⟩:Str),vI<|byteI x6,sl L O V] b_i a_7 z)<|dRg z z z G z (mv z)<|dRg z z z G z (mv z)<|dRg z z z G z (add_ z z)<|dRg z z z G z (mv z)<|dRg z z z G z (add_ z z)<|bdB (ifF hmy G) λ_ aT a9=>b_9 z z z G z (rX e_ z_5 z z kR z z aT) ?_;rintro _ ⟨_,_,_,rfl,_⟩;refine bdB a9 λ_ aU aa=>dEg z z z G z (fc call76 z<|W_w3l (B:=wr.z) (x1:=(⟨byteI x4,(⟨x5⟩:Str),byteI x6,rq⟩:m_)) aU (a_U kM) (c_H _) (repS.len hb) (c_H _)<|or_ kO<|a_.lt ht) iB ?_;rintro _ aV ⟨_,_,_,_,_,rfl,aW,_,_⟩;refine bdB aa λaX aY ab=>dEg z z z G z (fc call48 z<|l_M (B:=aV.z) aY zr (a_.rep aW)<|repS.mono kR kM) iB ?_;rintro _ _ ⟨_,rfl⟩;exact dRg z z z G z (not_ z)<|dR z z (pF z G z)<|pD (λ_ q=>⟨!aX,som ab,kaA q,kW⟩)
 rintro aZ _ ⟨xg,rfl,_,_⟩;revert aZ;refine Wo<|Wc z (λhch=>?_) (λhch=>?_)
 .exact Ws<|R z (bQ [] [vI 0,Str.v (⟨[]⟩:Str),vI 0,sN] c_U z z)<|Rm z<|E0q [vI 0,Str.v (⟨[]⟩:Str),vI 0,sN] a_7 z z kB z λbf b0 _=>Ra z<|Rw z<|Wr<|rS3 (ifT hmx hch) hr (q_ b_i a_7 z b0 z) z z ⟨kW,none,0,0,[],z,ii z,lb z,ii z,onL,W,r_,an_⟩
 exact Wk<|Ws<|R z (lC [vI (byteI x4),Str.v (⟨x5⟩:Str),vI<|byteI x6,sl L O V] b_i a_7 z)<|RM z z<|R z (add_ z z)<|R z (add_ z z)<|Rm z<|R z (add_ z z)<|E0q [vI (byteI x4),Str.v (⟨x5⟩:Str),vI<|byteI x6,sl L O V] a_7 z z kB z λbg b3 _=>Ra z<|Rw z<|Wr<|rS3 (ifF hmx hch) hr (q_ b_i a_7 z b3 z) z z ⟨kW,L,O,V,aF,z,c_H _,repS.len hb,c_H _,kO,iA _ _,aG,sQ⟩
theorem W_w3n {x1:Log}{res:Bool}(hm:k_Z n x1=some res)(a9:B<=w0.z)(a8:rp w0 B A0 N0 C0 x1.bytes)(a0:inI x1.stored):Calls prog 42 [(.agg #[sl A0 N0 C0,vI x1.stored])].toArray w0 (p_V (.iface 83<|.agg #[])<|λq w'=>q=res/\Bw w0 w'):=by
 unfold k_Z at hm
 obtain ⟨_,hf,hb,hN,hr⟩:=fnE func42;refine u_v hf (hb.trans z) (hN.trans z) (lb z)<|Ws<|EvX [sl A0 N0 C0,vI x1.stored] z z z λwm _ W=>?_
 refine Wn<|Wq<|Ws<|Rf z c_y z<|R z (l0 g_3 z<|W.at z)<|Rf z a_R z<|R z (l0 y_ z<|W.at z)<|R z (lnR e_ z kR) ?_
 obtain ⟨_,en,hme⟩:=bdS hm;refine E z (fc call72 z<|d_L (B:=B) en kM a0 (ii z)<|a_M<|repS.len kR) ?_;rintro _ H ⟨_,rfl⟩;refine R z (not_ z)<|Wx z (λJ=>?_) (λJ=>?_)
 .refine Wg<|R z (bQ [] [] l_l z z)<|R z (i_G d_83 (λ_ h=>by cases h) z) ?_
  obtain rfl:=som<|ifT hme J;exact n_8 z λ_ ha=>⟨false,.inr ⟨rfl,z,ha.defers,z,kW⟩⟩
 refine Wk<|Ws<|Rf z c_y z<|R z (l0 g_3 z kBa)<|Rq z z z<|Rw z<|Wq<|Ws<|Rw z ?_
 obtain ⟨_,huo,hmf⟩:=bdS<|ifF hme J;refine u_w (σ:=Bool×Int) (ρ:=Bool) (λs a w=>un2 (λx2 x3=>Sat 48 [(1,pt w0.z),(2,vB x2),(3,vI x3)] a/\Below H.z H w/\inI x3) s) (λs a w=>un2 (λx2 x3=>Sat 48 [(2,vB x2)] a/\Below H.z H w/\inI x3) s) (λr ex a w=>r=false/\ex = .panic (k_R<|.iface 83<|.agg #[])/\a.defers=[]/\Below w0.z w0 w) huo ?_ ?_ ?_ ?_
 .exact λ_ q=>⟨q.k<|s3 z z z,br H,ii z⟩
 .rintro ⟨x2,x3⟩ _ _ _ ⟨hSp,sq,O⟩ hmr;have hmg:=a_c hmr;refine Wu ?_ hSp;refine Wq<|Wm z<|Rf z a_R z<|R z (l0 y_ z kBa)<|R z (lnR e_ z kR)<|Rl z z z<|Wx z (λL=>?_) (λL=>?_)
  .refine Wk<|Wb<|Ws<|Rf z a_R z<|R z (l0 y_ z kBa)<|Rm z ?_
   obtain ⟨V,ra,_,es,hmh⟩:=p_<|ifT hmg L;refine E z (fc call45 z<|W_w1y (B:=B) es kM kR O) ?_;rintro _ _ ⟨_,au,nv,cw,_,rfl,_,_,_,_,hx,_,_⟩;refine Rm z ?_
   iterate 3 refine Re z z z ?_
   refine EvZ [vI 0,Str.v (⟨[]⟩:Str),vI 0,sN] z e_c z λwy _ Y=>?_
   refine E0q [vI V.kind,Str.v V.name,vI V.version,sl au nv cw] a_7 z z Y z λI _ _=>?_
   refine Ra z<|Rw z<|Wq<|Wm z<|R z (not_ z)<|Wx z (λhcb=>?_) (λhcb=>?_)
   .exact Wg<|R z (bQ [] [] l_l z z)<|R z (i_G d_83 (λ_ h=>by cases h) z) (n_8 z λ_ ha=>.inr ⟨false,(som<|ifT hmh hcb).symm,z,z,ha.defers,kW⟩)
   refine Wk<|Wm z<|Rw z ?_
   obtain ⟨a5,huj,a1⟩:=bdS<|ifF hmh hcb;refine Wt (λa w=>∃(x5:Bool),x5=a5/\Sat 48 [(1,pt w0.z),(2,vB x5),(3,vI ra)] a/\Below I.z I w) ?_ ?_
   .refine Wg<|RM z z ?_
    rcases bs x2 with G | G
    .iterate 4 refine Nh z G ?_
     exact R z (pT z G z)<|Ra z<|Wl (λ_ q=>⟨true,som<|ifT huj G,q.k<|s3 z z z,br I⟩)
    exact Rh z G (mv z)<|Rh z G (fd c_y z)<|Rh z G (l0 g_3 z kBa)<|Rh z G (eql z z)<|R z (pF z G z)<|Ra z<|Wl (λ_ q=>⟨ra==x1.stored,som<|ifF huj G,q.k<|s3 z z z,br I⟩)
   rintro a6 _ ⟨x5,rfl,_,_⟩;revert a6;exact λ_ q=>⟨(x5,ra),(som a1).symm,⟨q.k<|s3 z z z,kW,hx⟩⟩
  exact We<|λ_ q=>b_1 (som<|ifF hmg L).symm ⟨q.k<|s1 z,sq,O⟩
 .rintro ⟨x2,x3⟩ a7 _ rfl ⟨_,_,O⟩;have a2:=elL hmf;have hmk:=a_c a2;revert a7;refine Wo<|Wm z<|R z (not_ z)<|Wx z (λhcc=>?_) (λhcc=>?_)
  .refine Wg<|R z (bQ [] [] l_l z z)<|R z (i_G d_83 (λ_ h=>by cases h) z) ?_
   obtain rfl:=som<|ifT hmk hcc;exact n_8 z λ_ ha=>⟨false,.inr ⟨rfl,z,ha.defers,z,kW⟩⟩
  refine a_l ?_;obtain rfl:=som<|ifF hmk hcc;exact ret0 hr ⟨rfl,kW⟩
 rintro _ exl _ _ rfl ⟨rfl,rfl,a3,exl⟩;have a4:=elR hmf;obtain rfl:=som a4;exact ⟨⟨false,.inr ⟨rfl,z,a3,z,exl⟩⟩,_,z⟩
theorem r_F (w:World):(Instr.typeAssert (.iface 83<|.agg #[]) 20 83 true).run Tryz.prog w = .ok (.tuple #[.agg #[],.bool true]) w:=by kernel_rfl
theorem r_G (w:World):(Instr.typeAssert .nilIface 20 83 true).run Tryz.prog w = .ok (.tuple #[.agg #[],.bool false]) w:=by kernel_rfl
set_option maxRecDepth 4000 in
theorem r_H (p:Addr)(b:Bool)(older:List PanicEntry)(w:World)(hc:w.cell? p=some (vB b))(hz:w.frozen? p=false)(hp:p.block<w.heap.size) :
    CallsD Tryz.prog 41 #[.pointer (some p)] (.panicking ({ v:=.iface 83<|.agg #[],recovered:=false }::older)) w λe u' w' =>
      e = .returned (.tuple #[])/\u' = .panicking ({ v:=.iface 83<|.agg #[],recovered:=true }::older)/\w'=(w.alloc<|.cells #[] 83).setCell p (vB false):=by
  refine callsD_of_wpS Tryz.func41 rfl λc₀ cs hu=>?_
  apply wpS_seq
  apply wpS_region
  simp [wpOpsS,go_sem,recoverD,hu,Tryz.ntmps41,Exit.thenS,r_F]
  apply wpS_seq
  apply wpS_region
  simp [wpOpsS,go_sem,Exit.thenS]
  refine wpS_cond (t:=true) (by simp [Act.eval]) ?_
  simp only [if_true]
  apply wpS_region
  have hb:=b_l w<|.cells #[] 83;have G:(w.alloc<|.cells #[] 83).cell? p=some (vB b):=(hb.cell (p:=p) hp).trans hc;have H:(w.alloc<|.cells #[] 83).frozen? p=false:=(hb.frozen (p:=p) hp).trans hz
  simp [wpOpsS,go_sem,bodyPostS,results,Tryz.results41,G,H]
set_option maxRecDepth 4000 in
theorem r_I (p:Addr)(w:World) :
    CallsD Tryz.prog 41 #[.pointer (some p)] .returning w λe u' w'=>e = .returned (.tuple #[])/\u' = .returning/\w'=w.alloc (.cells #[] 83):=by
  refine callsD_of_wpS Tryz.func41 rfl λc₀ cs hu=>?_
  apply wpS_seq
  apply wpS_region
  simp [wpOpsS,go_sem,recoverD,hu,Tryz.ntmps41,Exit.thenS,r_G]
  apply wpS_seq
  apply wpS_region
  simp [wpOpsS,go_sem,Exit.thenS]
  refine wpS_cond (t:=false) (by simp [Act.eval]) ?_
  simp only [Bool.false_eq_true,if_false]
  refine wpS_of_wp<|wp_skip ?_
  cases c₀
  simp_all [bodyPostS,results,Tryz.results41]
theorem r_J {w0:World}{a b:Value}:(∀w',Below ((w0.alloc (.cells #[a,b] 28)).alloc (.cells #[.bool false] 4)).heap.size ((w0.alloc (.cells #[a,b] 28)).alloc (.cells #[.bool false] 4)) w' ->
    (w'.cell? ⟨w0.heap.size+1,0,none⟩=some (vB false)/\w'.frozen? ⟨w0.heap.size+1,0,none⟩=false/\Bw w0 w'/\w0.heap.size+1<w'.heap.size))/\Below w0.heap.size w0 ((w0.alloc (.cells #[a,b] 28)).alloc (.cells #[.bool false] 4)):=by
  have hB1:Below w0.heap.size w0 ((w0.alloc<|.cells #[a,b] 28).alloc (.cells #[.bool false] 4)) :=
    (b_l w0 _).trans ((b_l (w0.alloc<|.cells #[a,b] 28)<|.cells #[.bool false] 4).mono (by simp))
  refine ⟨λw' hb=>?_,hB1⟩;have hs0:((w0.alloc<|.cells #[a,b] 28).alloc (.cells #[.bool false] 4)).heap.size=w0.heap.size+2:=by simp
  have hsz:=hb.size;refine ⟨(hb.cell (p:=⟨w0.heap.size+1,0,none⟩) (by rw [hs0];simp only;omega)).trans (by simp [go_sem]),(hb.frozen (p:=⟨w0.heap.size+1,0,none⟩) (by rw [hs0];simp only;omega)).trans (by simp [go_sem]),hB1.trans<|hb.mono hB1.size,by omega⟩
theorem l_N {n:Nat}{B:Zone}{x1:Log}{A0:Option Addr}{N0 C0:Nat}{res:Bool}{w0:World}(hm:h_W n x1=some res)(O:B<=w0.heap.size)(J:rp w0 B A0 N0 C0 x1.bytes)(V:inI x1.stored):g_ Tryz.prog 20 [(.agg #[(sl A0 N0 C0),(vI x1.stored)])] w0 (λv w'=>Bw w0 w'/\vB res=v):=by
  constructor
  have hmf:∀(fn:Fn)(first cap:Array Value)(w:World),(Instr.makeFunc fn first cap).run Tryz.prog w = .ok (.func fn first cap) w:=λ_ _ _ _=>rfl
  have L:=r_J (w0:=w0) (a:=sl A0 N0 C0) (b:=vI x1.stored);have hmb:=W_w3n hm (zt' O L.2.size) (J.ext L.2) V;have H:=Lib.hid L.1
  clear L hm J O
  go_enter_defers Tryz.func20,Tryz.ntmps20
  go_wp2_with (go_at_call 42;refine hmb.mono ?_;(rintro e w' (⟨v,rfl,rfl,hb⟩ | ⟨rfl,rfl,hb⟩) <;> (obtain ⟨hc,hz,hB,hsz⟩:=H.out _ hb;clear hmb hb H)))
  . refine leaves_cons (f:=41) (args:=#[.pointer (some ⟨w0.heap.size+1,0,none⟩)]) (by simp) (by simp [go_sem]) ?_
    refine (r_I _ _).mono ?_;rintro e u' w'' ⟨rfl,rfl,rfl⟩;have G:=hB.setCell (p:=⟨w0.heap.size+1,0,none⟩) (by simp)<|vB true;have hB3:=G.trans<|(b_l (w'.setCell ⟨w0.heap.size+1,0,none⟩<|vB true)<|.cells #[] 83).mono G.size
    have I:((w'.setCell ⟨w0.heap.size+1,0,none⟩<|vB true).alloc (.cells #[] 83)).cell? ⟨w0.heap.size+1,0,none⟩=some (vB true) :=
      ((b_l (w'.setCell ⟨w0.heap.size+1,0,none⟩<|vB true)<|.cells #[] 83).cell (p:=⟨w0.heap.size+1,0,none⟩) (by simpa using hsz)).trans (World.cell?_setCell_same _ _ _ hc)
    simp [Leaves,settle,results,Tryz.results20,go_sem,I]
    exact hB3
  . refine leaves_cons (f:=41) (args:=#[.pointer (some ⟨w0.heap.size+1,0,none⟩)]) (by simp) (by simp [go_sem]) ?_
    refine (r_H ⟨w0.heap.size+1,0,none⟩ false [] _ hc hz hsz).mono ?_;rintro e u' w'' ⟨rfl,rfl,rfl⟩;have G:=hB.trans<|(b_l w'<|.cells #[] 83).mono hB.size;have hB3:=G.setCell (p:=⟨w0.heap.size+1,0,none⟩) (by simp)<|vB false
    have W:(w'.alloc<|.cells #[] 83).cell? ⟨w0.heap.size+1,0,none⟩=some (vB false) :=
      ((b_l w'<|.cells #[] 83).cell (p:=⟨w0.heap.size+1,0,none⟩) hsz).trans hc
    have I:((w'.alloc<|.cells #[] 83).setCell ⟨w0.heap.size+1,0,none⟩ (vB false)).cell? ⟨w0.heap.size+1,0,none⟩=some (vB false):=World.cell?_setCell_same _ _ _ W
    simp [Leaves,settle,results,Tryz.results20,go_sem,I]
    exact hB3
theorem W_w3o {x1:Log}{res:Log}(hm:i_7 n x1=some res)(a2:B<=w0.z)(a1:rp w0 B A0 N0 C0 x1.bytes)(V:inI x1.stored):g_ prog 17 [(.agg #[sl A0 N0 C0,vI x1.stored])] w0 (Q17 w0 B res):=by
 unfold i_7 at hm;refine goG func17 z z z λfn hr=>Ws<|EvX [sl A0 N0 C0,vI x1.stored] z z z λY _ _=>EvZ [sN,vI 0] z c_X z λwe _ _=>Wn<|Ws<|R z (lC [sl A0 N0 C0,vI x1.stored] a_w a_1 z)<|bdB hm λJ ef hmg=>E z (fc call37 z<|l_K (B:=B) ef kM kR V) ?_;rintro _ L ⟨_,G,H,I,Sh,rfl,ha,hi,hj,_⟩;refine EvZ [sN,vI 0] z c_X z λwk _ W=>E0q [sl G H I,vI J.stored] a_1 z z W z λwz _ _=>Wn<|Wq<|Ws<|R z (lC [sl A0 N0 C0,vI x1.stored] a_w a_1 z)<|bdB hmg λ_ el hmn=>EcA z (fc call20 z<|l_N (B:=B) el kM kR V) λwc _=>Wn<|bdB hmn λuo hud hmp=>Wt (λa w=>∃(x3:Int),x3=uo/\Sat 13 [(2,pt Y.z),(3,pt L.z)] a/\Cg [L.z] wc w/\inI x3/\Blk w L.z [sl G H I,vI x3]) ?_ ?_
 .refine Wc z (λO=>?_)<|λO=>?_
  .exact Wg<|Rf z a_R z<|R z (l0 y_ z kBa)<|R z (lnR e_ z<|or_ kO<|a_.lt ha)<|Rf z c_y z<|E0q [sl G H I,vI (J.bytes.length:Int)] z_3 z z kB z λa3 hq _=>Wl<|λ_ q=>⟨(J.bytes.length:Int),som<|ifT hud O,kaA q,kW,a_M<|repS.len<|or_ kO<|a_.lt ha,hq⟩
  exact a_l<|λ_ q=>⟨J.stored,som<|ifF hud O,kaA q,cr [L.z] wc,hi,kB⟩
 rintro au _ ⟨x3,rfl,_,_,ht,_⟩;revert au;exact Wo<|Ws<|R z (lC [sl G H I,vI x3] a_w a_1 z)<|E0q [sl G H I,vI x3] a_1 z z kB z λa4 hw _=>Wn<|Wr<|rS1 hmp hr (q_ a_w a_1 z hw z) ⟨kW,G,H,I,Sh,z,kO,ht,hj,sQ⟩
theorem W_w3p {x1:n_}{res:n_}(hm:i_8 n x1=some res)(a6:B<=w0.z)(a4:rp w0 B A0 N0 C0 x1.registry.versions)(a5:rp w0 B A4 N4 C4 x1.log.bytes)(W:inI x1.log.stored):g_ prog 6 [(.agg #[sl A0 N0 C0,sl A4 N4 C4,vI x1.log.stored])] w0 (Q18 w0 B res):=by
 unfold i_8 at hm;refine goG func6 z z z λfn hr=>Ws<|EvX [sl A0 N0 C0,sl A4 N4 C4,vI x1.log.stored] z z z λw6 _ Y=>EvZ [sN,sN,vI 0] z b_N z λwb _ _=>Wn<|Ws<|bdB hm λrc ed hme=>E z (fc call16 z<|W_w1t (B:=w6.z) ed (a_U kM) (repS.mono kR kM) (repS.mono kR kM) W (kBr 0 3) Y.lt) ?_;rintro _ _ ⟨_,G,H,I,Sg,ah,ni,cj,_,rfl,_,_,_,hk,hl⟩;obtain ⟨a1,_,_,_,_⟩:=Y_ hk hl;refine EvZ [sN,sN,vI 0] z b_N z λwm _ a2=>E0q [sl G H I,sl ah ni cj,vI rc.log.stored] R_ z z a2 z λa7 _ _=>Wn<|Ws<|Rf z a_S z<|R z (lN (vs:=[sl A4 N4 C4,vI x1.log.stored]) a_w a_1 z z fid<|kBr 1 2)<|bdB hme λV eo hmp=>E z (fc call17 z<|W_w3o (B:=B) (x1:=(⟨x1.log.bytes,x1.log.stored⟩:Log)) eo kM kR W) ?_;rintro _ _ ⟨_,J,L,O,Sq,rfl,_,ht,hu,_⟩;exact Rf z a_S z<|E0q [sl G H I,sl J L O,vI V.stored] a_1 z z kB z λa8 hv _=>Wn<|Ws<|R z (lC [sl G H I,sl J L O,vI V.stored] a_m R_ z)<|E0q [sl G H I,sl J L O,vI V.stored] R_ z z kB z λa9 hw _=>Wn<|Wr<|rS1 hmp hr (q_ a_m R_ z hw z) ⟨kW,G,H,I,Sg,J,L,O,Sq,z,kO,kO,ht,na_ a1 hu sQ,sQ⟩
theorem W_w3q {x1:Int}{x2:Int}{res:Bool}(hm:j_Q x1 x2=some res)(I:B<=w0.z)(G:inI x1)(H:inI x2):g_ prog 71 [vI x1,vI x2] w0 (Q0 w0 B res):=by
 unfold j_Q at hm;exact goG func71 z z z λfn hr=>Ws<|Rw z<|Wm z<|Rm z<|R z (a_8 z z)<|Rw z<|Wr<|rS1 hm hr z ⟨br w0,z⟩
theorem W_w3r {x2:Int}{x3:List Int}{res:Int}(hm:j_R x2 x3=some res)(Y:B<=w0.z)(W:inI x2)(I:rp w0 B A7 N7 C7 x3):g_ prog 69 [(.func (.func 71) #[] #[]),vI x2,sl A7 N7 C7] w0 (Q9 w0 B res):=by
 unfold j_R at hm;refine goG func69 z z z λfn hr=>Ws<|Rw z<|Wq<|Wm z<|R z (lnR A_ z I)<|Rm z<|Wn<|bdB hm λ_ hua J=>Wf (σ:=Int) (ρ:=Int) (λ(k3:Nat)(x0:Int) a w=>Sat 22 [(0,.func (.func 71) #[] #[]),(1,vI x0),(9,sl A7 N7 C7),(10,vI (x3.length:Int)),(11,vI ((k3:Nat):Int))] a/\Below w0.z w0 w/\inI x0) (λ(x0:Int) a w=>Sat 22 [(1,vI x0)] a/\Below w0.z w0 w/\inI x0) (rQ prog fn<|Q9 w0 B) hua ?_ ?_ ?_ ?_ ?_
 .exact λ_ q=>⟨kaA q,br w0,W⟩
 .rintro k3 x0 _ _ _ L ⟨hSb,_,h1⟩ hmc;refine Wu ?_ hSb;refine Ws<|Rl z z z<|Wn<|Wq<|Wc z (λ_=>?_) (λhc=>(a_4 L hc).elim);refine Wk<|Wq<|Wb<|Ws<|bdB hmc λxd ee hmf=>xI z A_ z_3 z z z kR ee λ_ _ hg V=>R z (l0 g_3 z<|hg.at0 z)<|Rw z<|Wm z<|RM z z<|bdB hmf λ_ ei hmj=>E z (l_c call71 z z<|W_w3q (B:=B) ei kM V h1) ?_;rintro _ G ⟨_,rfl⟩;refine Wn<|bdB hmj λuk O hml=>Wt (λa w=>∃(x4:Int),x4=uk/\Sat 22 [(0,.func (.func 71) #[] #[]),(1,vI x4),(9,sl A7 N7 C7),(10,vI (x3.length:Int)),(11,vI ((k3:Nat):Int))] a/\Below G.z G w/\inI x4) ?_ ?_
  .refine Wc z (λH=>?_)<|λH=>?_
   .exact Wg<|Rm z<|Ra z<|Wl (λ_ q=>⟨xd,som<|ifT O H,kaA q,br G,V⟩)
   exact a_l<|λ_ q=>⟨x0,som<|ifF O H,kaA q,br G,h1⟩
  rintro am _ ⟨x4,rfl,_,_,hn⟩;revert am;exact Wo<|Wg<|R z (inc_ L (lt_ (repS.len I) N_) z z)<|Rm z<|Wl (λ_ q=>⟨x4,(som hml).symm,⟨kaA q,kW,hn⟩⟩)
 .rintro x0 _ _ ⟨hSo,sp,h1⟩;refine Wu ?_ hSo;refine Ws<|Rl z z z<|Wn<|Wq<|Wc z (λhc=>(a_5 hc).elim) (λ_=>?_);exact We<|λ_ q=>⟨rfl,⟨kaA q,sp,h1⟩⟩
 .rintro x0 aq _ rfl ⟨_,sr,h1⟩;have hms:=elL J;revert aq;exact Wo<|Wm z<|Rw z<|Wr<|rS1 hms hr z ⟨sr,z,h1⟩
 exact lqA J λ_ _ h=>h.2
theorem W_w3s {x1:Int}{x2:Int}{res:Int}(hm:i_i x1 x2=some res)(W:B<=w0.z)(I:inI x1)(J:inI x2):g_ prog 39 [vI x1,vI x2] w0 (Q9 w0 B res):=by
 unfold i_i at hm;refine goG func39 z z z λfn hr=>Ws<|Rw z<|Wm z<|Rm z<|EvA z (fS [(.tmp 6)] a_G z z z (H_ z) (lb z)<|lb z) λH G=>have:=G.below;have:Blk H w0.z [vI x2]:=G.blk;have L:=a_j G<|b_2 J;bdB hm λ_ V O=>E z (fc call69 z<|W_w3r (B:=H.z) V zr I<|a_.rep L) ?_;rintro _ _ ⟨_,rfl,h4⟩;exact Rw z<|Wr<|rS1 O hr z ⟨kW,z,h4⟩
theorem l_O {x1:Bt}{res:(List m_)×Int}(hm:g_z n x1=some res)(al:B<=w0.z)(ak:rp w0 B A0 N0 C0 x1):g_ prog 22 [sl A0 N0 C0] w0 (Q21 w0 B res):=by
 unfold g_z at hm;refine goG func22 z z z λfn hr=>Ws<|Ra z<|Rw z<|Ws<|E z (f0 (α:=m_) h_7) ?_;rintro _ J ⟨ai,nj,ck,rfl,_,hl⟩;refine Rw z<|Ws<|Rw z ?_;obtain ⟨_,hum,hme⟩:=bdS hm;refine b_3 (σ:=(List m_)×Int) (ρ:=(List m_)×Int) (λs a w=>un2 (λL x5=>∃a2 H I G,Sat 26 [(0,sl A0 N0 C0),(2,sN),(3,vI 0),(4,sl a2 H I),(5,vI x5)] a/\Cg [w0.z] J w/\a_ w G (sl a2 H I) L/\G.Nodup/\(∀k∈G,k∈[w0.z]∨J.z<=k)/\inI x5) s) (λs a w=>un2 (λL x5=>∃a2 H I G,Sat 26 [(2,sN),(3,vI 0)] a/\Cg [w0.z] J w/\a_ w G (sl a2 H I) L/\G.Nodup/\(∀k∈G,k∈[w0.z]∨J.z<=k)/\inI x5) s) (rQ prog fn<|Q21 w0 B) hum ?_ ?_ ?_ ?_
 .exact λ_ q=>⟨ai,nj,ck,[w0.z],kaA q,cr [w0.z] J,hl,Q_,sQ,ii z⟩
 .rintro ⟨L,x5⟩ _ _ _ ⟨a2,H,I,G,hSn,_,ho,O,hp,V⟩ hmq;refine Wu ?_ hSn;refine Wb<|Wm z<|Rm z ?_;obtain ⟨r1,rs,_,et,hmf⟩:=p_<|a_c hmq;refine E z (fc call45 z<|W_w1y (B:=B) et kM kR V) ?_;rintro _ _ ⟨_,aa,nb,cc,Sv,rfl,hw,hx,hy,_,hz,a5,_⟩;refine Rm z ?_;iterate 3 refine Re z z z ?_
  refine EvZ [vI 0,Str.v (⟨[]⟩:Str),vI 0,sN] z e_c z λam _ W=>E0q [vI r1.kind,Str.v r1.name,vI r1.version,sl aa nb cc] a_7 z z W z λa6 an _=>Ra z<|Rw z<|Wq<|Wm z<|R z (not_ z)<|Wx z (λhcd=>?_) (λhcd=>?_)
  .exact Wm z<|Rm z<|Ra z<|Rw z<|Wr<|rtO<|qL (som<|ifT hmf hcd).symm<|d_0 hr z z ⟨kW,a2,H,I,G,z,kO,V,O,sQ⟩
  refine Wk<|Wm z<|R z (lC [vI r1.kind,Str.v r1.name,vI r1.version,sl aa nb cc] b_i a_7 z)<|E z (fS [(.tmp 22)] h_7 z z z (H_ z) (lb z)<|lb z) ?_;rintro _ a7 ⟨rfl,hh⟩;have:=hh.below;have Y:Blk a7 a6.z [vI r1.kind,Str.v r1.name,vI r1.version,sl aa nb cc]:=hh.blk;refine bdB (ifF hmf hcd) λa8 a9 a0=>E z (a_h (α:=m_) h_7 a9 z z kO O Y (n_E (x:=r1) (S1:=Sv) hw hx hy kO) sQ a5) ?_;rintro _ _ ⟨ab,ad,ae,af,rfl,_,ah,aj,_⟩;exact Rw z<|Wg<|Rm z<|Ra z<|Wl (λ_ q=>⟨(a8,rs),(som a0).symm,⟨ad,ae,af,ab,kaA q,kW,ah,aj,sQ,hz⟩⟩)
 .rintro ⟨L,x5⟩ _ _ rfl ⟨a2,H,I,G,_,_,ho,O,hp,V⟩;have a1:=elL hme;exact nomatch (show none=some _ from (a_c a1))
 exact lqA hme λ_ _ h=>h.2
def Q34 (w0:World)(B:Zone)(r:Log)(v:Value)(w':World):Prop:=Bw w0 w'/\(λr1=>∃G H I,(.agg #[.slice G H I,vI r1.stored])=v/\repS w' (zn B w0.z w'.z) (sl G H I) r1.bytes/\inI r1.stored) r
theorem W_w3t {x1:Log}{x2:Int}{res:Log}(hm:i_9 n x1 x2=some res)(a8:B<=w0.z)(a7:rp w0 B A0 N0 C0 x1.bytes)(J:inI x1.stored)(Y:inI x2):g_ prog 18 [(.agg #[sl A0 N0 C0,vI x1.stored]),vI x2] w0 (Q34 w0 B res):=by
 unfold i_9 at hm;refine goG func18 z z z λfn hr=>Ws<|EvX [sl A0 N0 C0,vI x1.stored] z z z λw8 _ _=>EvZ [sN,vI 0] z c_X z λwg _ _=>Wn<|Ws<|R z (lC [sl A0 N0 C0,vI x1.stored] a_w a_1 z)<|bdB hm λr3 eh hmi=>E z (fc call37 z<|l_K (B:=B) eh kM kR J) ?_;rintro _ _ ⟨_,G,H,I,_,rfl,hb,hk,_,hc⟩;refine EvZ [sN,vI 0] z c_X z λwl _ a1=>E0q [sl G H I,vI r3.stored] a_1 z z a1 z λa9 _ _=>Wn<|Wq<|Ws<|R z (lC [sl A0 N0 C0,vI x1.stored] a_w a_1 z)<|bdB hmi λ_ en hme=>EcA z (fc call20 z<|l_N (B:=B) en kM kR J) λ_ _=>R z (not_ z)<|Wx z (λL=>?_) (λL=>?_)
 .exact Ws<|R z (lC [sl G H I,vI r3.stored] a_w a_1 z)<|E0q [sl G H I,vI r3.stored] a_1 z z kB z λaa ho _=>Wn<|Wr<|rS1 (ifT hme L) hr (q_ a_w a_1 z ho z) ⟨kW,G,H,I,z,repS.mono (or_ kO<|zin (B:=B) hc<|a_.lt hb)<|b_D kM kM,hk⟩
 refine Wk<|Wq (Wd (X:=noX) 0 (.rd 0<|.rd 1<|.rd 2<|.rd 4<|.rd 5<|.rd 6<|.ef 3<|.ef 7<|.rd 8 .done) mo (by kernel_rfl) λab ad _=>dM z z z<|dR z z (fd c_y z)<|dR z z (l0 g_3 z kBa)<|dR z z (fd a_R z)<|dR z z (l0 y_ z kBa)<|dR z z (lnR e_ z kR) ?_);refine bdB (ifF hme L) λ_ eq hmr=>dE z z (fc call39 z<|W_w3s (B:=B) eq kM Y J) iB ?_;rintro _ _ ⟨_,rfl,ht⟩;refine bdB hmr λ_ es hmu=>dE z z (fc call38 z<|W_w1w (B:=B) es kM ht<|a_M<|repS.len kR) iB ?_;rintro _ _ ⟨_,rfl,_⟩;refine dQ z z z<|pD<|Wo<|Ws<|Rf z a_R z<|R z (l0 y_ z kBa)<|Rm z<|bdB hmu λ_ ev hmw=>RX z (rX e_ z_5 z z kR z z ev) ?_;rintro _ ⟨_,_,_,rfl,hx⟩;obtain ⟨_,rf,ey,hmz⟩:=a_D hmw;refine E z (fc call22 z<|l_O (B:=B) ey kM hx) ?_;rintro _ _ ⟨_,_,_,_,_,rfl,_,a3,_,_⟩;refine Rm z<|Re z z z<|Re z z z<|Ra z<|Rw z<|Ws<|Rf z a_R z<|R z (l0 y_ z kBa)<|Rm z<|bdB hmz λ_ a4 a2=>RX z (rX e_ z_5 z z (or_ kO<|zin (B:=B) hc<|a_.lt hb) z z a4) ?_;rintro _ ⟨O,V,W,rfl,_⟩;exact Rm z<|R z (bQ [(0,.tmp 33),(1,.tmp 34)] [sl O V W,vI rf] l_i z z)<|E0q [sl O V W,vI rf] a_1 z z kB z λae a6 _=>Wn<|Wr<|rS1 a2 hr (q_ a_w a_1 z a6 z) ⟨kW,O,V,W,z,repS.mono kR<|b_D kM kM,a3⟩
def Q35 (w0:World)(B:Zone)(r:n_)(v:Value)(w':World):Prop:=Bw w0 w'/\(λr1=>∃G H I S1 a2 J L,(.agg #[.slice G H I,sl a2 J L,vI r1.log.stored])=v/\a_ w' S1 (sl G H I) r1.registry.versions/\repS w' (zn B w0.z w'.z) (sl a2 J L) r1.log.bytes/\inI r1.log.stored/\S1.Nodup/\(∀k∈S1,w0.z<=k)) r
theorem W_w1z {x1:n_}{x2:Int}{res:n_}(hm:f_l n x1 x2=some res)(a7:B<=w0.z)(a5:rp w0 B A0 N0 C0 x1.registry.versions)(a6:rp w0 B A4 N4 C4 x1.log.bytes)(W:inI x1.log.stored)(Y:inI x2):g_ prog 8 [(.agg #[sl A0 N0 C0,sl A4 N4 C4,vI x1.log.stored]),vI x2] w0 (Q35 w0 B res):=by
 unfold f_l at hm;refine goG func8 z z z λfn hr=>Ws<|EvX [sl A0 N0 C0,sl A4 N4 C4,vI x1.log.stored] z z z λw6 _ a1=>EvZ [sN,sN,vI 0] z b_N z λwb _ _=>Wn<|Ws<|bdB hm λrc ed hme=>E z (fc call16 z<|W_w1t (B:=w6.z) ed (a_U kM) (repS.mono kR kM) (repS.mono kR kM) W (kBr 0 3) a1.lt) ?_;rintro _ _ ⟨_,G,H,I,Sg,ah,ni,cj,_,rfl,_,_,_,hk,hl⟩;obtain ⟨a2,_,_,_,_⟩:=Y_ hk hl;refine EvZ [sN,sN,vI 0] z b_N z λwm _ a4=>E0q [sl G H I,sl ah ni cj,vI rc.log.stored] R_ z z a4 z λa8 _ _=>Wn<|Ws<|Rf z a_S z<|R z (lN (vs:=[sl A4 N4 C4,vI x1.log.stored]) a_w a_1 z z fid<|kBr 1 2)<|Rm z<|bdB hme λV eo hmp=>E z (fc call18 z<|W_w3t (B:=B) (x1:=(⟨x1.log.bytes,x1.log.stored⟩:Log)) eo kM kR W Y) ?_;rintro _ _ ⟨_,J,L,O,rfl,_,hq⟩;exact Rf z a_S z<|E0q [sl G H I,sl J L O,vI V.stored] a_1 z z kB z λa9 ht _=>Wn<|Ws<|R z (lC [sl G H I,sl J L O,vI V.stored] a_m R_ z)<|E0q [sl G H I,sl J L O,vI V.stored] R_ z z kB z λaa hu _=>Wn<|Wr<|rS1 hmp hr (q_ a_m R_ z hu z) ⟨kW,G,H,I,Sg,J,L,O,z,kO,repS.mono kR<|b_D kM kM,hq,a2,sQ⟩
theorem l_P {x1:c_}{x2:Int}{res:Bool}(hm:f_9 x1 x2=some res)(a0:B<=w0.z)(W:rp w0 B A0 N0 C0 x1.rules)(Y:inI x2):g_ prog 105 [(.agg #[sl A0 N0 C0]),vI x2] w0 (Q0 w0 B res):=by
 unfold f_9 at hm;refine goG func105 z z z λfn hr=>Ws<|EvX [sl A0 N0 C0] z z z λH _ J=>Rw z<|Wq<|bdB hm λO I L=>Wt (λa w=>∃(x3:Bool),x3=O/\Sat 14 [(4,vB x3)] a/\Below H.z H w) ?_ ?_
 .refine Wg<|Rm z<|R z (b_e z z)<|Rm z ?_;rcases bs (decide<|0<=x2) with G | G
  .exact Rh z G (mv z)<|Rh z G (fd F_ z)<|Rh z G (l0 K_ z<|J.at z)<|Rh z G (lnR L_ z kR)<|Rh z G (lss z z)<|R z (pT z G z)<|Ra z<|Wl (λ_ q=>⟨decide<|x2<(x1.rules.length:Int),som<|ifT I G,kaA q,br H⟩)
  iterate 5 refine Nh z G ?_
  exact R z (pF z G z)<|Ra z<|Wl (λ_ q=>⟨false,som<|ifF I G,kaA q,br H⟩)
 rintro V _ ⟨x3,rfl,_,_⟩;revert V;exact Wo<|Wr<|rS1 L hr z ⟨kW,z⟩
theorem e_e {x1:b_}{x2:Bool}{x3:Bool}{x4:Bool}{x5:Bool}{x6:Int}{res:Bool}(hm:c_S x1 x2 x3 x4 x5 x6=some res)(a9:B<=w0.z)(a1:x1.name.b.length<=LEN)(a2:inI x1.kind)(a3:inI x1.size)(a4:rp w0 B AB NB CB x1.bytes)(a5:rp w0 B A8 N8 C8 x1.names)(a6:rp w0 B AA NA CA x1.tags)(a7:rp w0 B A9 N9 C9 x1.kids)(a8:inI x6):g_ prog 127 [(.agg #[Str.v x1.name,vI x1.kind,vI x1.size,vB x1.little,sl AB NB CB,sl A8 N8 C8,sl AA NA CA,sl A9 N9 C9]),vB x2,vB x3,vB x4,vB x5,vI x6] w0 (Q0 w0 B res):=by
 unfold c_S at hm;refine goG func127 z z z λfn hr=>Ws<|EvX (vR x1 AB NB CB A8 N8 C8 AA NA CA A9 N9 C9) z z z λw9 _ a0=>Rw z<|Wq<|bdB hm λup huq hmr=>Wt (λa w=>∃(xa:Bool),xa=up/\Sat 57 [(12,vB xa)] a/\Below w9.z w9 w) ?_ ?_
 .refine Wg<|RM z z<|bdB huq λuc hud hms=>e_3 18 uc 4 ?_ ?_
  .rcases bs x2 with Y | Y
   .iterate 3 refine Nh z Y ?_
    exact R z (pT z Y z)<|WLq 4 (ifT hud Y) z z z
   exact Rh z Y (fd a_v z)<|Rh z Y (l0 g_3 z<|a0.at z)<|Rh z Y (eql z z)<|R z (pF z Y z)<|WLq 4 (ifF hud Y) z z z
  refine Rm z<|bdB hms λue huf hmt=>e_3 27 ue 8 ?_ ?_
  .rcases bs uc with G | G
   .have hmg:=ifT huf G;refine Rh z G (mv z)<|Rh z G (mv z) ?_;rcases bs x3 with O | O
    .iterate 4 refine Nh z O ?_
     exact Rh z G (pT z O z)<|R z (pT z G z)<|WLq 8 (ifT hmg O) z z z
    exact Rh z O (fd a_W z)<|Rh z O (l0 y_ z<|a0.at z)<|Rh z O (lnR e_ z kR)<|Rh z O (eql z z)<|Rh z G (pF z O z)<|R z (pT z G z)<|WLq 8 (ifF hmg O) z z z
   exact Nh z G<|Nh z G<|Nv z<|Nv z<|Nv z<|Nv z<|Nh z G<|R z (pF z G z)<|WLq 8 (ifF huf G) z z z
  refine Rm z<|bdB hmt λuh hui hmu=>e_3 36 uh 8 ?_ ?_
  .rcases bs ue with H | H
   .have hmj:=ifT hui H;refine Rh z H (mv z)<|Rh z H (mv z) ?_;rcases bs x4 with V | V
    .iterate 4 refine Nh z V ?_
     exact Rh z H (pT z V z)<|R z (pT z H z)<|WLq 8 (ifT hmj V) z z z
    exact Rh z V (fd b_u z)<|Rh z V (l0 c_7 z<|a0.at z)<|Rh z V (lnR a_H z kR)<|Rh z V (eql z z)<|Rh z H (pF z V z)<|R z (pT z H z)<|WLq 8 (ifF hmj V) z z z
   exact Nh z H<|Nh z H<|Nv z<|Nv z<|Nv z<|Nv z<|Nh z H<|R z (pF z H z)<|WLq 8 (ifF hui H) z z z
  refine Rm z<|bdB hmu λuk hul hmm=>e_3 45 uk 8 ?_ ?_
  .rcases bs uh with I | I
   .have hmn:=ifT hul I;refine Rh z I (mv z)<|Rh z I (mv z) ?_;rcases bs x5 with W | W
    .iterate 4 refine Nh z W ?_
     exact Rh z I (pT z W z)<|R z (pT z I z)<|WLq 8 (ifT hmn W) z z z
    exact Rh z W (fd a_x z)<|Rh z W (l0 B_ z<|a0.at z)<|Rh z W (lnR A_ z kR)<|Rh z W (eql z z)<|Rh z I (pF z W z)<|R z (pT z I z)<|WLq 8 (ifF hmn W) z z z
   exact Nh z I<|Nh z I<|Nv z<|Nv z<|Nv z<|Nv z<|Nh z I<|R z (pF z I z)<|WLq 8 (ifF hul I) z z z
  refine Rm z ?_;rcases bs uk with J | J
  .have hmo:=ifT hmm J;refine Rh z J (mv z)<|Rh z J (lss z z)<|Rh z J (mv z) ?_;rcases bs (decide<|x6<0) with L | L
   .iterate 5 refine Nh z L ?_
    exact Rh z J (pT z L z)<|R z (pT z J z)<|Ra z<|Wl (λ_ q=>⟨true,som<|ifT hmo L,kaA q,br w9⟩)
   exact Rh z L (fd M_ z)<|Rh z L (l0 B_ z<|a0.at z)<|Rh z L (lnR A_ z kR)<|Rh z L (mv z)<|Rh z L (eql z z)<|Rh z J (pF z L z)<|R z (pT z J z)<|Ra z<|Wl (λ_ q=>⟨(x1.kids.length:Int)==x6,som<|ifF hmo L,kaA q,br w9⟩)
  iterate 3 refine Nh z J ?_
  exact Nv z<|Nv z<|Nv z<|Nv z<|Nv z<|Nh z J<|R z (pF z J z)<|Ra z<|Wl (λ_ q=>⟨false,som<|ifF hmm J,kaA q,br w9⟩)
 rintro av _ ⟨xa,rfl,_,_⟩;revert av;exact Wo<|Wr<|rS1 hmr hr z ⟨kW,z⟩
theorem l_Q {x1:c_}{x2:Int}{res:Int}(hm:d_A x1 x2=some res)(a1:B<=w0.z)(Y:rp w0 B A0 N0 C0 x1.rules)(W:inI x2):g_ prog 128 [(.agg #[sl A0 N0 C0]),vI x2] w0 (Q9 w0 B res):=by
 unfold d_A at hm;refine goG func128 z z z λfn hr=>Ws<|EvX [sl A0 N0 C0] z z z λV _ a0=>Rw z<|Wq<|Wq<|bdB hm λua hub J=>Wt (λa w=>∃(x3:Bool),x3=ua/\Sat 37 [(1,vI x2),(2,pt w0.z),(27,vB x3)] a/\Below V.z V w) ?_ ?_
 .refine Wg<|R z (lC [sl A0 N0 C0] v_ o_ z)<|Rm z<|bdB hub λrc ed L=>EcA z (fc call105 z<|l_P (B:=B) ed kM kR W) λ_ s8=>R z (not_ z)<|Rm z ?_;rcases bs (!rc) with H | H
  .iterate 7 refine Nh z H ?_
   exact R z (pT z H z)<|Rm z<|Nh z z<|Nh z z<|Nh z z<|Nh z z<|Nh z z<|Nh z z<|Nh z z<|Nh z z<|R z (pT z z z)<|Wl (λ_ q=>⟨true,som<|ifT L H,kaA q,s8⟩)
  refine Rh z H (fd F_ z)<|Rh z H (l0 K_ z kBa)<|Rh z H (mv z)<|bdB (ifF L H) λxe ef O=>RXg z z H z (at_ (α:=b_) L_ l_ z z z kR ef) ?_;rintro _ ⟨_,_,_,rfl,hg,hh,_⟩;obtain ⟨_,_,_,_,_,_,_,_,_,_,_,_,rfl,_,_,_,_,_,_,_⟩:=b_0 hh;refine Rh z H (fd b_B z)<|Rh z H (l0 g_3 z<|hg.at (j:=1) z)<|Rh z H (nq z z)<|R z (pF z H z)<|Rm z ?_;rcases bs (xe.kind != 1) with G | G
  .iterate 8 refine Nh z G ?_
   exact R z (pT z G z)<|Wl (λ_ q=>⟨true,som<|ifT O G,kaA q,s8⟩)
  refine Rh z G (fd F_ z)<|Rh z G (l0 K_ z kBa)<|Rh z G (mv z)<|bdB (ifF O G) λ_ ei hmj=>RXg z z G z (at_ (α:=b_) L_ l_ z z z kR ei) ?_;rintro _ ⟨_,_,_,rfl,hk,hl,_⟩;obtain ⟨_,_,_,_,_,_,_,_,_,_,_,_,rfl,_,_,hn,_,_,_,_⟩:=b_0 hl;refine Rh z G (fd a_v z)<|Rh z G (l0 g_3 z<|hk.at (j:=2) z)<|bdB hmj λrm eo hmp=>Eg z z G z (fc call72 z<|d_L (B:=B) eo kM hn (ii z)<|ii z) ?_;rintro _ _ ⟨_,rfl⟩;exact Rh z G (not_ z)<|R z (pF z G z)<|Wl (λ_ q=>⟨!rm,som hmp,kaA q,kW⟩)
 rintro aq _ ⟨x3,rfl,_,_⟩;revert aq;refine Wo<|Wc z (λI=>?_) (λI=>?_)
 .exact Ws<|Rw z<|Wr<|rS1 (ifT J I) hr z ⟨kW,z,ii z⟩
 refine Wk<|Ws<|Rf z F_ z<|R z (l0 K_ z kBa)<|Rm z<|bdB (ifF J I) λ_ er hms=>xA (α:=b_) z L_ l_ z z z kR er λ_ _ _ ht hu _=>?_;obtain ⟨_,_,_,_,_,_,_,_,_,_,_,_,rfl,_,_,_,_,_,_,_⟩:=b_0 hu;exact Rf z a_v z<|R z (l0 g_3 z<|ht.at (j:=2) z)<|R z (d_1 z z)<|bdB hms λ_ ev hmw=>R z (i_F z z<|nnS ev)<|R z (sb_ z z)<|Rw z<|Wr<|rS1 hmw hr z ⟨kW,z,iS _ _⟩
theorem W_w3u {x1:List Str}{x2:Str}{res:Bool}(hm:h_J x1 x2=some res)(a1:B<=w0.z)(H:rp w0 B A0 N0 C0 x1)(a0:x2.b.length<=LEN):g_ prog 157 [sl A0 N0 C0,Str.v x2] w0 (Q0 w0 B res):=by
 unfold h_J at hm;refine goG func157 z z z λfn hr=>Ws<|Rw z<|Wq<|Wm z<|R z (lnR a_H z H)<|Rm z<|Wn<|bdB hm λ_ O I=>Wf (σ:=Unit) (ρ:=Bool) (λ(k2:Nat)(_:Unit) a w=>Sat 17 [(1,Str.v x2),(7,sl A0 N0 C0),(8,vI (x1.length:Int)),(9,vI ((k2:Nat):Int))] a/\Below w0.z w0 w) (λ(_:Unit) a w=>Sat 17 [] a/\Below w0.z w0 w) (rQ prog fn<|Q0 w0 B) O ?_ ?_ ?_ ?_ ?_
 .exact λ_ q=>⟨kaA q,br w0⟩
 .rintro k2 _ _ _ _ J ⟨V,s5⟩ W;refine Wu ?_ V;refine Ws<|Rl z z z<|Wn<|Wq<|Wc z (λ_=>?_) (λhc=>(a_4 J hc).elim);refine Wk<|Wq<|Wb<|Ws<|bdB W λ_ Y L=>xA (α:=Str) z a_H z_9 z z z kR Y λ_ _ _ ha hb _=>?_;obtain ⟨rfl,_⟩:=c_I hb;refine R z (l0 g_9 z<|ha.at0 z)<|Rw z<|Wm z<|Rm z<|R z (e_R z z)<|Wx z (λG=>?_) (λG=>?_)
  .exact Ws<|Rw z<|Wr<|rtO<|qL (som<|ifT L G).symm<|a_J hr z ⟨s5,z⟩
  exact Wk<|Wg<|R z (inc_ J (lt_ (repS.len H) N_) z z)<|Rm z<|Wl (λ_ q=>⟨(),(som<|ifF L G).symm,⟨kaA q,s5⟩⟩)
 .rintro _ _ _ ⟨hSc,sd⟩;refine Wu ?_ hSc;refine Ws<|Rl z z z<|Wn<|Wq<|Wc z (λhc=>(a_5 hc).elim) (λ_=>?_);exact We<|λ_ q=>⟨rfl,⟨q.k sn,sd⟩⟩
 .rintro _ ae _ rfl ⟨_,sf⟩;have hmg:=elL I;revert ae;exact Wo<|Ws<|Rw z<|Wr<|rS1 hmg hr z ⟨sf,z⟩
 exact lqA I λ_ _ h=>h.2
theorem W_w3v {x1:b_}{res:Bool}(hm:j_f n x1=some res)(av:B<=w0.z)(Y:x1.name.b.length<=LEN)(a0:inI x1.kind)(a1:inI x1.size)(ap:rp w0 B AB NB CB x1.bytes)(a2:rp w0 B A8 N8 C8 x1.names)(aq:rp w0 B AA NA CA x1.tags)(ar:rp w0 B A9 N9 C9 x1.kids):g_ prog 129 [(.agg #[Str.v x1.name,vI x1.kind,vI x1.size,vB x1.little,sl AB NB CB,sl A8 N8 C8,sl AA NA CA,sl A9 N9 C9])] w0 (Q0 w0 B res):=by
 unfold j_f at hm;refine goG func129 z z z λfn hr=>Ws<|EvX (vR x1 AB NB CB A8 N8 C8 AA NA CA A9 N9 C9) z z z λW _ a3=>Rw z<|Wq<|Wq<|bdB hm λul hum hmb=>Wt (λa w=>∃(x5:Bool),x5=ul/\Sat 44 [(1,pt w0.z),(23,vB x5)] a/\Below W.z W w) ?_ ?_
 .refine Wg<|R z (lN (vs:=vR x1 AB NB CB A8 N8 C8 AA NA CA A9 N9 C9) I_ l_ z z fid<|a3.row 0 8 z)<|bdB hum λrn eo hmc=>EcA z (fc call127 z<|e_e (B:=B) eo kM Y a0 a1 kR kR kR kR<|ii z) λ_ sd=>R z (not_ z)<|Rm z ?_;rcases bs (!rn) with G | G
  .iterate 7 refine Nh z G ?_
   exact R z (pT z G z)<|Rm z<|Nh z z<|Nh z z<|Nh z z<|Nh z z<|Nh z z<|R z (pT z z z)<|Wl (λ_ q=>⟨true,som<|ifT hmc G,kaA q,sd⟩)
  have hme:=ifF hmc G;refine Rh z G (fd M_ z)<|Rh z G (l0 B_ z kBa)<|Rh z G (lnR A_ z kR)<|Rh z G (fd b_u z)<|Rh z G (l0 c_7 z kBa)<|Rh z G (lnR a_H z kR)<|Rh z G (nq z z)<|R z (pF z G z)<|Rm z ?_;rcases bs ((x1.kids.length:Int) != (x1.names.length:Int)) with I | I
  .iterate 5 refine Nh z I ?_
   exact R z (pT z I z)<|Wl (λ_ q=>⟨true,som<|ifT hme I,kaA q,sd⟩)
  refine Rh z I (fd M_ z)<|Rh z I (l0 B_ z kBa)<|Rh z I (lnR A_ z kR)<|bdB (ifF hme I) λrp eq hmr=>Eg z z I z (fc call72 z<|d_L (B:=B) eq kM (a_M<|repS.len kR) (ii z)<|ii z) ?_;rintro _ _ ⟨_,rfl⟩;exact Rh z I (not_ z)<|R z (pF z I z)<|Wl (λ_ q=>⟨!rp,som hmr,kaA q,kW⟩)
 rintro au J ⟨x5,rfl,_,_⟩;revert au;refine Wo<|Wc z (λL=>?_) (λL=>?_)
 .exact Ws<|Rw z<|Wr<|rS1 (ifT hmb L) hr z ⟨kW,z⟩
 refine Wk<|Wq<|Ws<|Rf z b_u z<|R z (l0 c_7 z kBa)<|R z (lnR a_H z kR)<|Rm z<|Wn<|bdB (ifF hmb L) λ_ hus hmf=>Wf (σ:=Unit) (ρ:=Bool) (λ(k7:Nat)(_:Unit) a w=>Sat 44 [(1,pt w0.z),(25,sl A8 N8 C8),(26,vI (x1.names.length:Int)),(27,vI ((k7:Nat):Int))] a/\Below J.z J w) (λ(_:Unit) a w=>Sat 44 [] a/\Below J.z J w) (rQ prog fn<|Q0 w0 B) hus ?_ ?_ ?_ ?_ ?_
 .exact λ_ q=>⟨kaA q,br J⟩
 .rintro k7 _ _ wg _ hkh ⟨hSt,_⟩ hmv;refine Wu ?_ hSt;refine Ws<|Rl z z z<|Wn<|Wq<|Wc z (λ_=>?_) (λhc=>(a_4 hkh hc).elim);refine Wk<|Wq<|Wb<|Wm z<|bdB hmv λ_ ew hmx=>xA (α:=Str) z a_H z_9 z z z kR ew λ_ _ _ hy hz _=>?_;obtain ⟨rfl,hi⟩:=c_I hz;refine R z (l0 g_9 z<|hy.at0 z)<|Ra z<|Rw z<|Wq<|bdB hmx λab a4 hmj=>Wt (λa w=>∃(V:Bool),V=ab/\Sat 44 [(1,pt w0.z),(25,sl A8 N8 C8),(26,vI (x1.names.length:Int)),(27,vI ((k7:Nat):Int)),(42,vB V)] a/\Below wg.z wg w) ?_ ?_
  .refine Wg<|Rm z<|bdB a4 λad ae hmk=>EcA z (fc call106 z<|l_L (B:=B) ae kM hi) λ_ af=>R z (not_ z)<|Rm z ?_;rcases bs (!ad) with H | H
   .iterate 6 refine Nh z H ?_
    exact R z (pT z H z)<|Wl (λ_ q=>⟨true,som<|ifT hmk H,kaA q,af⟩)
   refine Rh z H (fd b_u z)<|Rh z H (l0 c_7 z kBa)<|Rh z H (mv z)<|bdB (ifF hmk H) λ_ ah a5=>RXg z z H z (rX a_H z_9 z z kR z z ah) ?_;rintro _ ⟨_,_,_,rfl,ai⟩;refine Rh z H (mv z)<|bdB a5 λaj ak a6=>Eg z z H z (fc call157 z<|W_w3u (B:=B) ak kM ai hi) ?_;rintro _ _ ⟨_,rfl⟩;exact R z (pF z H z)<|Wl (λ_ q=>⟨aj,som a6,kaA q,kW⟩)
  rintro al _ ⟨V,rfl,_,_⟩;revert al;refine Wo<|Wc z (λO=>?_) (λO=>?_)
  .exact Ws<|Rw z<|Wr<|rtO<|qL (som<|ifT hmj O).symm<|a_J hr z ⟨kW,z⟩
  exact Wk<|Wg<|R z (inc_ hkh (lt_ (repS.len a2) N_) z z)<|Rm z<|Wl (λ_ q=>⟨(),(som<|ifF hmj O).symm,⟨kaA q,kW⟩⟩)
 .rintro _ _ _ ⟨a7,am⟩;refine Wu ?_ a7;refine Ws<|Rl z z z<|Wn<|Wq<|Wc z (λhc=>(a_5 hc).elim) (λ_=>?_);exact We<|λ_ q=>⟨rfl,⟨q.k sn,am⟩⟩
 .rintro _ an _ rfl ⟨_,_⟩;have a8:=elL hmf;revert an;exact Wo<|Ws<|Rw z<|Wr<|rS1 a8 hr z ⟨kW,z⟩
 exact lqA hmf λ_ _ h=>h.2
theorem W_w3w {x1:c_}{x2:b_}{res:Bool}(hm:j_g x1 x2=some res)(aG:B<=w0.z)(aC:rp w0 B A0 N0 C0 x1.rules)(a0:x2.name.b.length<=LEN)(a1:inI x2.kind)(a2:inI x2.size)(aD:rp w0 B A2 N2 C2 x2.bytes)(aE:rp w0 B A5 N5 C5 x2.names)(a3:rp w0 B A1 N1 C1 x2.tags)(aF:rp w0 B A6 N6 C6 x2.kids):g_ prog 130 [(.agg #[sl A0 N0 C0]),(.agg #[Str.v x2.name,vI x2.kind,vI x2.size,vB x2.little,sl A2 N2 C2,sl A5 N5 C5,sl A1 N1 C1,sl A6 N6 C6])] w0 (Q0 w0 B res):=by
 unfold j_g at hm;refine goG func130 z z z λfn hr=>Ws<|EvX [sl A0 N0 C0] z z z λO _ _=>EvX (vR x2 A2 N2 C2 A5 N5 C5 A1 N1 C1 A6 N6 C6) z z z λw6 _ Y=>Rw z<|Wq<|Wq<|bdB hm λun huo hmf=>Wt (λa w=>∃(V:Bool),V=un/\Sat 57 [(2,pt w0.z),(3,pt O.z),(21,vB V)] a/\Below w6.z w6 w) ?_ ?_
 .refine Wg<|R z (lN (vs:=vR x2 A2 N2 C2 A5 N5 C5 A1 N1 C1 A6 N6 C6) I_ l_ z z fid<|Y.row 0 8 z)<|Rf z a_x z<|R z (l0 B_ z<|Y.at z)<|R z (lnR A_ z kR)<|R z (add_ z z)<|bdB huo λrp eq hmg=>EcA z (fc call127 z<|e_e (B:=B) eq kM a0 a1 a2 kR kR kR kR<|iA _ _) λ_ sr=>R z (not_ z)<|Rm z ?_;rcases bs (!rp) with I | I
  .iterate 5 refine Nh z I ?_
   exact R z (pT z I z)<|Wl (λ_ q=>⟨true,som<|ifT hmg I,kaA q,sr⟩)
  refine Rh z I (fd a_x z)<|Rh z I (l0 B_ z kBa)<|Rh z I (lnR A_ z kR)<|bdB (ifF hmg I) λrs et hmu=>Eg z z I z (fc call72 z<|d_L (B:=B) et kM (a_M<|repS.len kR) (ii z)<|ii z) ?_;rintro _ _ ⟨_,rfl⟩;exact Rh z I (not_ z)<|R z (pF z I z)<|Wl (λ_ q=>⟨!rs,som hmu,kaA q,kW⟩)
 rintro av _ ⟨V,rfl,_,_⟩;revert av;refine Wo<|Wc z (λL=>?_) (λL=>?_)
 .exact Ws<|Rw z<|Wr<|rS1 (ifT hmf L) hr z ⟨kW,z⟩
 refine Wk<|Wq (Wd (X:=noX) 0 (pl_ 7 [5]) mo (by kernel_rfl) λaH aI _=>dR z z (lC [sl A0 N0 C0] v_ o_ z)<|dR z z (fd M_ z)<|dR z z (l0 B_ z kBa) ?_);refine bdB (ifF hmf L) λ_ ew hmx=>dxA (α:=Int) z z A_ z_3 z z z kR ew λ_ _ _ hy hz _=>?_;obtain ⟨rfl,ah⟩:=a_E hz;refine dR z z (l0 g_3 z<|hy.at0 z)<|bdB hmx λW ai a4=>dE z z (fc call128 z<|l_Q (B:=B) ai kM kR ah) iB ?_;rintro _ J ⟨_,rfl,aj⟩;refine dQ z z z<|pD<|Wo<|Wq<|Ws<|Rf z a_x z<|R z (l0 B_ z kBa)<|R z (lnR A_ z kR)<|Rm z<|Wn<|bdB a4 λ_ a5 hmh=>Wf (σ:=Unit) (ρ:=Bool) (λ(k5:Nat)(_:Unit) a w=>Sat 57 [(3,pt O.z),(5,vI W),(29,sl A1 N1 C1),(30,vI (x2.tags.length:Int)),(31,vI ((k5:Nat):Int))] a/\Below J.z J w) (λ(_:Unit) a w=>Sat 57 [(5,vI W)] a/\Below J.z J w) (rQ prog fn<|Q0 w0 B) a5 ?_ ?_ ?_ ?_ ?_
 .exact λ_ q=>⟨kaA q,br J⟩
 .rintro k5 _ _ wi _ hkj ⟨a6,_⟩ a7;refine Wu ?_ a6;refine Ws<|Rl z z z<|Wn<|Wq<|Wc z (λ_=>?_) (λhc=>(a_4 hkj hc).elim);refine Wk<|Wq<|Wb<|Wm z<|bdB a7 λak al a8=>xI z A_ z_3 z z z kR al λ_ _ am an=>R z (l0 g_3 z<|am.at0 z)<|Ra z<|Rw z<|Wq<|bdB a8 λap a9 hmk=>Wt (λa w=>∃(xa:Bool),xa=ap/\Sat 57 [(3,pt O.z),(5,vI W),(29,sl A1 N1 C1),(30,vI (x2.tags.length:Int)),(31,vI ((k5:Nat):Int)),(53,vB xa)] a/\Below wi.z wi w) ?_ ?_
  .refine Wg<|RM z z<|bdB a9 λaq ar hml=>EcA z (fc call72 z<|d_L (B:=B) ar kM an (ii z) aj) λ_ sb=>R z (not_ z)<|Rm z ?_;rcases bs (!aq) with H | H
   .iterate 3 refine Nh z H ?_
    exact Nv z<|Nv z<|Nv z<|Nv z<|Nv z<|Nv z<|Nv z<|Nv z<|Nh z H<|R z (pT z H z)<|Wl (λ_ q=>⟨true,som<|ifT hml H,kaA q,sb⟩)
   have hmm:=ifF hml H;refine Rh z H (mv z)<|Rh z H (a_8 z z)<|Rh z H (mv z) ?_;rcases bs (decide<|0<((k5:Nat):Int)) with G | G
   .refine Rh z G (fd a_x z)<|Rh z G (l0 B_ z kBa)<|Rh z G (mv z)<|Rh z G (sb_ z z)<|bdB (ifT hmm G) λau aw aa=>RXg z z G z (at_ (α:=Int) A_ z_3 z z z kR aw) ?_;rintro _ ⟨_,_,_,rfl,ax,ay,_⟩;obtain ⟨rfl,_⟩:=a_E ay;exact Rh z G (l0 g_3 z<|ax.at0 z)<|Rh z G (mv z)<|Rh z G (b_e z z)<|Rh z H (pT z G z)<|R z (pF z H z)<|Wl (λ_ q=>⟨decide<|ak<=au,som aa,kaA q,sb⟩)
   iterate 8 refine Nh z G ?_
   exact Rh z H (pF z G z)<|R z (pF z H z)<|Wl (λ_ q=>⟨false,som<|ifF hmm G,kaA q,sb⟩)
  rintro az _ ⟨xa,rfl,_,_⟩;revert az;refine Wo<|Wc z (λhcc=>?_) (λhcc=>?_)
  .exact Ws<|Rw z<|Wr<|rtO<|qL (som<|ifT hmk hcc).symm<|a_J hr z ⟨kW,z⟩
  exact Wk<|Wg<|R z (inc_ hkj (lt_ (repS.len a3) N_) z z)<|Rm z<|Wl (λ_ q=>⟨(),(som<|ifF hmk hcc).symm,⟨kaA q,kW⟩⟩)
 .rintro _ _ _ ⟨ab,aA⟩;refine Wu ?_ ab;refine Ws<|Rl z z z<|Wn<|Wq<|Wc z (λhc=>(a_5 hc).elim) (λ_=>?_);exact We<|λ_ q=>⟨rfl,⟨kaA q,aA⟩⟩
 .rintro _ aB _ rfl ⟨_,_⟩;have ad:=elL hmh;revert aB;exact Wo<|Wm z<|R z (a_8 z z)<|Rw z<|Wr<|rS1 ad hr z ⟨kW,z⟩
 exact lqA hmh λ_ _ h=>h.2
theorem W_w3x {x1:c_}{x2:b_}{res:Bool}(hm:j_h n x1 x2=some res)(bO:B<=w0.z)(bJ:rp w0 B A0 N0 C0 x1.rules)(Y:x2.name.b.length<=LEN)(a0:inI x2.kind)(L:inI x2.size)(bK:rp w0 B A2 N2 C2 x2.bytes)(bL:rp w0 B A5 N5 C5 x2.names)(bM:rp w0 B A1 N1 C1 x2.tags)(bN:rp w0 B A6 N6 C6 x2.kids):g_ prog 107 [(.agg #[sl A0 N0 C0]),(.agg #[Str.v x2.name,vI x2.kind,vI x2.size,vB x2.little,sl A2 N2 C2,sl A5 N5 C5,sl A1 N1 C1,sl A6 N6 C6])] w0 (Q0 w0 B res):=by
 unfold j_h at hm;refine goG func107 z z z λfn hr=>Ws<|EvX [sl A0 N0 C0] z z z λwa _ _=>EvX (vR x2 A2 N2 C2 A5 N5 C5 A1 N1 C1 A6 N6 C6) z z z λJ _ a4=>Rw z<|Wq<|Ws<|Rf z b_B z<|R z (l0 g_3 z<|a4.at z)<|Wn<|Wb<|Ws<|Rq z z z<|Rw z<|Wc z (λhcb=>?_) (λhcb=>?_)
 .refine Wq<|bdB (ifT hm hcb) λaK al am=>Wt (λa w=>∃(xc:Bool),xc=aK/\Sat 102 [(4,vB xc)] a/\Below J.z J w) ?_ ?_
  .refine Wg<|R z (lN (vs:=vR x2 A2 N2 C2 A5 N5 C5 A1 N1 C1 A6 N6 C6) I_ l_ z z fid<|a4.row 0 8 z)<|bdB al λaL aM hmv=>EcA z (fc call127 z<|e_e (B:=B) aM kM Y a0 L kR kR kR kR<|ii z) λ_ aN=>Rm z ?_;rcases bs aL with a1 | a1
   .refine Rh z a1 (fd a_v z)<|Rh z a1 (l0 g_3 z kBa)<|bdB (ifT hmv a1) λaO aP hmw=>Eg z z a1 z (fc call72 z<|d_L (B:=B) aP kM L (ii z)<|ii z) ?_;rintro _ _ ⟨_,rfl⟩;refine R z (pT z a1 z)<|Rm z ?_;rcases bs aO with I | I
    .have hmx:=ifT hmw I;refine Rh z I (fd d_l z)<|Rh z I (l0 g_4 z kBa)<|Rh z I (not_ z)<|Rh z I (mv z) ?_;rcases bs (!x2.little) with a2 | a2
     .iterate 3 refine Nh z a2 ?_
      exact Rh z I (pT z a2 z)<|R z (pT z I z)<|Ra z<|Wl (λ_ q=>⟨true,som<|ifT hmx a2,kaA q,kW⟩)
     exact Rh z a2 (fd a_v z)<|Rh z a2 (l0 g_3 z kBa)<|Rh z a2 (a_8 z z)<|Rh z I (pF z a2 z)<|R z (pT z I z)<|Ra z<|Wl (λ_ q=>⟨decide<|1<x2.size,som<|ifF hmx a2,kaA q,kW⟩)
    iterate 4 refine Nh z I ?_
    exact Nv z<|Nv z<|Nv z<|Nh z I<|R z (pF z I z)<|Ra z<|Wl (λ_ q=>⟨false,som<|ifF hmw I,kaA q,kW⟩)
   iterate 3 refine Nh z a1 ?_
   exact R z (pF z a1 z)<|Rm z<|Nh z z<|Nh z z<|Nh z z<|Nh z z<|Nv z<|Nv z<|Nv z<|Nh z z<|R z (pF z z z)<|Ra z<|Wl (λ_ q=>⟨false,som<|ifF hmv a1,kaA q,aN⟩)
  rintro aQ _ ⟨xc,rfl,_,_⟩;revert aQ;exact Wo<|Wr<|rtO<|rS1 am hr z ⟨kW,z⟩
 have hmy:=ifF hm hcb;refine Ws<|Rq z z z<|Rw z<|Wc z (λhcd=>?_) (λhcd=>?_)
 .refine Wq<|bdB (ifT hmy hcd) λaR an ap=>Wt (λa w=>∃(xe:Bool),xe=aR/\Sat 102 [(4,vB xe)] a/\Below J.z J w) ?_ ?_
  .refine Wg<|R z (lN (vs:=vR x2 A2 N2 C2 A5 N5 C5 A1 N1 C1 A6 N6 C6) I_ l_ z z fid<|a4.row 0 8 z)<|bdB an λaS aT hmz=>EcA z (fc call127 z<|e_e (B:=B) aT kM Y a0 L kR kR kR kR<|ii z) λ_ aU=>Rm z ?_;rcases bs aS with V | V
   .refine Rh z V (fd a_W z)<|Rh z V (l0 y_ z kBa)<|Rh z V (lnR e_ z kR)<|bdB (ifT hmz V) λaV aW aq=>Eg z z V z (fc call72 z<|d_L (B:=B) aW kM (a_M<|repS.len kR) (ii z)<|ii z) ?_;rintro _ _ ⟨_,rfl⟩;exact R z (pT z V z)<|Ra z<|Wl (λ_ q=>⟨aV,som aq,kaA q,kW⟩)
   iterate 4 refine Nh z V ?_
   exact R z (pF z V z)<|Ra z<|Wl (λ_ q=>⟨false,som<|ifF hmz V,kaA q,aU⟩)
  rintro aX _ ⟨xe,rfl,_,_⟩;revert aX;exact Wo<|Wr<|rtO<|rS1 ap hr z ⟨kW,z⟩
 have a5:=ifF hmy hcd;refine Ws<|Rq z z z<|Rw z<|Wc z (λhcf=>?_) (λhcf=>?_)
 .refine Wq<|bdB (ifT a5 hcf) λaY ar au=>Wt (λa w=>∃(xg:Bool),xg=aY/\Sat 102 [(4,vB xg)] a/\Below J.z J w) ?_ ?_
  .refine Wg<|R z (lN (vs:=vR x2 A2 N2 C2 A5 N5 C5 A1 N1 C1 A6 N6 C6) I_ l_ z z fid<|a4.row 0 8 z)<|bdB ar λaZ b0 a6=>EcA z (fc call127 z<|e_e (B:=B) b0 kM Y a0 L kR kR kR kR<|ii z) λ_ b3=>Rm z ?_;rcases bs aZ with a3 | a3
   .refine Rh z a3 (fd a_v z)<|Rh z a3 (l0 g_3 z kBa)<|bdB (ifT a6 a3) λb4 b5 av=>Eg z z a3 z (fc call72 z<|d_L (B:=B) b5 kM L (ii z)<|ii z) ?_;rintro _ _ ⟨_,rfl⟩;exact R z (pT z a3 z)<|Ra z<|Wl (λ_ q=>⟨b4,som av,kaA q,kW⟩)
   iterate 3 refine Nh z a3 ?_
   exact R z (pF z a3 z)<|Ra z<|Wl (λ_ q=>⟨false,som<|ifF a6 a3,kaA q,b3⟩)
  rintro b6 _ ⟨xg,rfl,_,_⟩;revert b6;exact Wo<|Wr<|rtO<|rS1 au hr z ⟨kW,z⟩
 have a7:=ifF a5 hcf;refine Ws<|Rq z z z<|Rw z<|Wc z (λhch=>?_) (λhch=>?_)
 .refine Wq<|bdB (ifT a7 hch) λb7 aw ax=>Wt (λa w=>∃(xi:Bool),xi=b7/\Sat 102 [(4,vB xi)] a/\Below J.z J w) ?_ ?_
  .refine Wd (X:=noX) 0 (pl_ 12 [1,8]) mo (by kernel_rfl) λbP bR _=>dR z z (lN (vs:=vR x2 A2 N2 C2 A5 N5 C5 A1 N1 C1 A6 N6 C6) I_ l_ z z fid<|kBr 0 8)<|bdB aw λb8 b9 a8=>dE z z (fc call127 z<|e_e (B:=B) b9 kM Y a0 L kR kR kR kR<|ii z) iB ?_;rintro _ _ ⟨_,rfl⟩;refine dM z z z ?_;rcases bs b8 with G | G
   .refine dRg z z z G z (lC [sl A0 N0 C0] v_ o_ z)<|dRg z z z G z (fd M_ z)<|dRg z z z G z (l0 B_ z kBa)<|bdB (ifT a8 G) λ_ ba ay=>b_9 z z z G z (at_ (α:=Int) A_ z_3 z z z kR ba) ?_;rintro _ ⟨_,_,_,rfl,bb,bc,_⟩;obtain ⟨rfl,be⟩:=a_E bc;refine dRg z z z G z (l0 g_3 z<|bb.at0 z)<|bdB ay λbf bg az=>dEg z z z G z (fc call128 z<|l_Q (B:=B) bg kM kR be) iB ?_;rintro _ _ ⟨_,rfl,_⟩;exact dRg z z z G z (a_8 z z)<|dR z z (pT z G z)<|dQ z z z<|pD (λ_ q=>⟨decide<|0<bf,som az,kaA q,kW⟩)
   iterate 5 refine dRn z z z G z ?_
   exact dEn z z z G z<|dRn z z z G z<|dR z z (pF z G z)<|dQ z z z<|pD (λ_ q=>⟨false,som<|ifF a8 G,kaA q,kW⟩)
  rintro bh _ ⟨xi,rfl,_,_⟩;revert bh;exact Wo<|Wr<|rtO<|rS1 ax hr z ⟨kW,z⟩
 have a9:=ifF a7 hch;refine Ws<|Rq z z z<|Rw z<|Wc z (λhcj=>?_) (λhcj=>?_)
 .refine Wq<|bdB (ifT a9 hcj) λbi aA aB=>Wt (λa w=>∃(xk:Bool),xk=bi/\Sat 102 [(4,vB xk)] a/\Below J.z J w) ?_ ?_
  .refine Wd (X:=noX) 0 (pl_ 12 [1,8]) mo (by kernel_rfl) λbS bT _=>dR z z (lN (vs:=vR x2 A2 N2 C2 A5 N5 C5 A1 N1 C1 A6 N6 C6) I_ l_ z z fid<|kBr 0 8)<|bdB aA λbj bk aa=>dE z z (fc call127 z<|e_e (B:=B) bk kM Y a0 L kR kR kR kR<|ii z) iB ?_;rintro _ _ ⟨_,rfl⟩;refine dM z z z ?_;rcases bs bj with H | H
   .refine dRg z z z H z (lC [sl A0 N0 C0] v_ o_ z)<|dRg z z z H z (fd M_ z)<|dRg z z z H z (l0 B_ z kBa)<|bdB (ifT aa H) λ_ bm aC=>b_9 z z z H z (at_ (α:=Int) A_ z_3 z z z kR bm) ?_;rintro _ ⟨_,_,_,rfl,bn,bo,_⟩;obtain ⟨rfl,bp⟩:=a_E bo;refine dRg z z z H z (l0 g_3 z<|bn.at0 z)<|bdB aC λbq bt aD=>dEg z z z H z (fc call128 z<|l_Q (B:=B) bt kM kR bp) iB ?_;rintro _ _ ⟨_,rfl,_⟩;exact dRg z z z H z (a_8 z z)<|dR z z (pT z H z)<|dQ z z z<|pD (λ_ q=>⟨decide<|0<bq,som aD,kaA q,kW⟩)
   iterate 5 refine dRn z z z H z ?_
   exact dEn z z z H z<|dRn z z z H z<|dR z z (pF z H z)<|dQ z z z<|pD (λ_ q=>⟨false,som<|ifF aa H,kaA q,kW⟩)
  rintro bu _ ⟨xk,rfl,_,_⟩;revert bu;exact Wo<|Wr<|rtO<|rS1 aB hr z ⟨kW,z⟩
 have ab:=ifF a9 hcj;refine Ws<|Rq z z z<|Rw z<|Wc z (λhcl=>?_) (λhcl=>?_)
 .exact Ws<|R z (lN (vs:=vR x2 A2 N2 C2 A5 N5 C5 A1 N1 C1 A6 N6 C6) I_ l_ z z fid<|a4.row 0 8 z)<|bdB (ifT ab hcl) λ_ bv aE=>EcA z (fc call129 z<|W_w3v (B:=B) bv kM Y a0 L kR kR kR kR) λ_ _=>Rw z<|Wr<|rtO<|rS1 aE hr z ⟨kW,z⟩
 have ad:=ifF ab hcl;refine Ws<|Rq z z z<|Rw z<|Wc z (λhcm=>?_) (λhcm=>?_)
 .exact Ws<|R z (lC [sl A0 N0 C0] v_ o_ z)<|R z (lN (vs:=vR x2 A2 N2 C2 A5 N5 C5 A1 N1 C1 A6 N6 C6) I_ l_ z z fid<|a4.row 0 8 z)<|bdB (ifT ad hcm) λ_ bw aF=>EcA z (fc call130 z<|W_w3w (B:=B) bw kM kR Y a0 L kR kR kR kR) λ_ _=>Rw z<|Wr<|rtO<|rS1 aF hr z ⟨kW,z⟩
 refine Wq<|Ws<|Rq z z z<|Rw z<|bdB (ifF ad hcm) λbx ae af=>Wt (λa w=>∃(xn:Bool),xn=bx/\Sat 102 [(3,pt wa.z),(6,vI x2.kind),(80,vB xn)] a/\Below J.z J w) ?_ ?_
 .refine Wc z (λhco=>?_)<|λhco=>?_
  .exact a_l<|λ_ q=>⟨x2.kind==8,som<|ifT ae hco,kaA q,br J⟩
  exact Wg<|Rq z z z<|Ra z<|Wl (λ_ q=>⟨x2.kind==9,som<|ifF ae hco,kaA q,br J⟩)
 rintro bz ak ⟨xn,rfl,_,_⟩;revert bz;refine Wo<|Wc z (λhcp=>?_) (λhcp=>?_)
 .exact Ws<|R z (lN (vs:=vR x2 A2 N2 C2 A5 N5 C5 A1 N1 C1 A6 N6 C6) I_ l_ z z fid<|kBr 0 8)<|bdB (ifT af hcp) λ_ bA aG=>EcA z (fc call127 z<|e_e (B:=B) bA kM Y a0 L kR kR kR kR<|ii z) λ_ _=>Rw z<|Wr<|rtO<|rS1 aG hr z ⟨kW,z⟩
 have ah:=ifF af hcp;refine Ws<|Rq z z z<|Rw z<|Wc z (λhcq=>?_) (λhcq=>?_)
 .refine Wq<|bdB (ifT ah hcq) λbB aH aI=>Wt (λa w=>∃(xr:Bool),xr=bB/\Sat 102 [(4,vB xr)] a/\Below ak.z ak w) ?_ ?_
  .refine Wg<|R z (lN (vs:=vR x2 A2 N2 C2 A5 N5 C5 A1 N1 C1 A6 N6 C6) I_ l_ z z fid<|kBr 0 8)<|bdB aH λbC bD ai=>EcA z (fc call127 z<|e_e (B:=B) bD kM Y a0 L kR kR kR kR<|ii z) λ_ ss=>Rm z ?_;rcases bs bC with W | W
   .have aj:=ifT ai W;refine Rh z W (fd a_W z)<|Rh z W (l0 y_ z kBa)<|Rh z W (lnR e_ z kR)<|Rh z W (eql z z)<|R z (pT z W z)<|Rm z ?_;rcases bs ((x2.bytes.length:Int)==1) with O | O
    .refine Rh z O (fd a_W z)<|Rh z O (l0 y_ z kBa)<|bdB (ifT aj O) λbE bF aJ=>RXg z z O z (at_ (α:=UInt8) e_ z_5 z z z kR bF) ?_;rintro _ ⟨_,_,_,rfl,bG,bH,_⟩;obtain rfl:=u8 bH;exact Rh z O (l0 g_5 z<|bG.at0 z)<|Rh z O (nq z z)<|R z (pT z O z)<|Ra z<|Wl (λ_ q=>⟨(byteI bE) != (byteI (92:UInt8)),som aJ,kaA q,ss⟩)
    iterate 5 refine Nh z O ?_
    exact R z (pF z O z)<|Ra z<|Wl (λ_ q=>⟨false,som<|ifF aj O,kaA q,ss⟩)
   iterate 4 refine Nh z W ?_
   exact R z (pF z W z)<|Rm z<|Nh z z<|Nh z z<|Nh z z<|Nh z z<|Nh z z<|R z (pF z z z)<|Ra z<|Wl (λ_ q=>⟨false,som<|ifF ai W,kaA q,ss⟩)
  rintro bI _ ⟨xr,rfl,_,_⟩;revert bI;exact Wo<|Wr<|rtO<|rS1 aI hr z ⟨kW,z⟩
 exact Wk<|Ws<|Rw z<|Wr<|rS1 (ifF ah hcq) hr z ⟨kW,z⟩
theorem W_w3y {x1:c_}{x2:Int}{res:Bool}(hm:j_i n x1 x2=some res)(bt:B<=w0.z)(bp:rp w0 B A0 N0 C0 x1.rules)(aw:inI x2):g_ prog 73 [(.agg #[sl A0 N0 C0]),vI x2] w0 (Q0 w0 B res):=by
 unfold j_i at hm;refine goG func73 z z z λfn hr=>Ws<|EvX [sl A0 N0 C0] z z z λbu _ bq=>Rw z<|Wq<|Ws<|R z (lC [sl A0 N0 C0] v_ o_ z)<|Rm z<|bdB hm λ_ aR hms=>EcA z (fc call105 z<|l_P (B:=B) aR kM kR aw) λJ _=>R z (not_ z)<|Wx z (λhcb=>?_) (λhcb=>?_)
 .exact Ws<|Rw z<|Wr<|rS1 (ifT hms hcb) hr z ⟨kW,z⟩
 refine Wk<|Ws<|Rf z F_ z<|R z (l0 K_ z kBa)<|Rm z<|bdB (ifF hms hcb) λx4 aS ax=>xA (α:=b_) z L_ l_ z z z kR aS λ_ _ _ aT aU _=>?_;obtain ⟨ac,nd,ce,af,ng,ch,ai,nj,ck,L,O,V,rfl,hu,aV,aW,_,_,_,aX⟩:=b_0 aU;refine R z (lN (vs:=vR x4 ac nd ce af ng ch ai nj ck L O V) I_ l_ z z fid aT)<|EvZ [(Str.v (⟨[]⟩:Str)),vI 0,vI 0,vB false,sN,sN,sN,sN] z b_I z λbv _ ay=>E0q (vR x4 ac nd ce af ng ch ai nj ck L O V) l_ z z ay z λww aY _=>Wn<|Wq<|Wq<|bdB ax λaZ az hmx=>Wt (λa w=>∃(xl:Bool),xl=aZ/\Sat 65 [(1,vI x2),(2,pt w0.z),(5,pt J.z),(31,vB xl)] a/\Below ww.z ww w) ?_ ?_
 .refine Wg<|Rf z e_I z<|R z (l0 g_9 z<|aY.at z)<|bdB az λb0 b3 hmy=>EcA z (fc call106 z<|l_L (B:=B) b3 kM hu) λ_ sm=>R z (not_ z)<|Rm z ?_;rcases bs (!b0) with G | G
  .iterate 3 refine Nh z G ?_
   exact Nv z<|Nv z<|Nv z<|Nh z G<|R z (pT z G z)<|Wl (λ_ q=>⟨true,som<|ifT hmy G,kaA q,sm⟩)
  have hmz:=ifF hmy G;refine Rh z G (fd d_l z)<|Rh z G (l0 g_4 z kBa)<|Rh z G (mv z) ?_;rcases bs x4.little with H | H
  .exact Rh z H (fd b_B z)<|Rh z H (l0 g_3 z kBa)<|Rh z H (nq z z)<|Rh z G (pT z H z)<|R z (pF z G z)<|Wl (λ_ q=>⟨x4.kind != 1,som<|ifT hmz H,kaA q,sm⟩)
  iterate 3 refine Nh z H ?_
  exact Rh z G (pF z H z)<|R z (pF z G z)<|Wl (λ_ q=>⟨false,som<|ifF hmz H,kaA q,sm⟩)
 rintro b4 W ⟨xl,rfl,_,_⟩;revert b4;refine Wo<|Wc z (λhcn=>?_) (λhcn=>?_)
 .exact Ws<|Rw z<|Wr<|rS1 (ifT hmx hcn) hr z ⟨kW,z⟩
 refine Wk<|Wq<|Ws<|Rf z F_ z<|R z (l0 K_ z kBa)<|Rm z<|bdB (ifF hmx hcn) λb5 b6 aA=>RX z (rX L_ l_ z z kR z z b6) ?_;rintro _ ⟨b7,b8,b9,rfl,a8⟩;refine R z (lnR L_ z a8)<|Rm z<|Wn<|bdB aA λ_ aB a0=>Wf (σ:=Unit) (ρ:=Bool) (λ(a9:Nat)(_:Unit) a w=>Sat 65 [(1,vI x2),(2,pt w0.z),(5,pt J.z),(35,sl b7 b8 b9),(36,vI (b5.length:Int)),(37,vI ((a9:Nat):Int))] a/\Below W.z W w) (λ(_:Unit) a w=>Sat 65 [(1,vI x2),(2,pt w0.z),(5,pt J.z)] a/\Below W.z W w) (rQ prog fn<|Q0 w0 B) aB ?_ ?_ ?_ ?_ ?_
 .exact λ_ q=>⟨kaA q,br W⟩
 .rintro a9 _ _ _ _ a1 ⟨aC,_⟩ aD;refine Wu ?_ aC;refine Ws<|Rl z z z<|Wn<|Wq<|Wc z (λ_=>?_) (λhc=>(a_4 a1 hc).elim);refine Wk<|Wq<|Wb<|Ws<|bdB aD λaa ba a2=>xA (α:=b_) z L_ l_ z z z kR ba λ_ _ _ bb bc _=>?_;obtain ⟨ab,ad,ae,ah,aj,ak,al,am,an,ap,aq,ar,rfl,_,_,_,_,_,_,_⟩:=b_0 bc;refine R z (lN (vs:=vR aa ab ad ae ah aj ak al am an ap aq ar) I_ l_ z z fid bb)<|EvZ [(Str.v (⟨[]⟩:Str)),vI 0,vI 0,vB false,sN,sN,sN,sN] z b_I z λbw _ av=>E0q (vR aa ab ad ae ah aj ak al am an ap aq ar) l_ z z av z λbx be _=>Wn<|Ws<|Rf z e_I z<|R z (l0 g_9 z<|be.at z)<|Rf z e_I z<|R z (l0 g_9 z kBa)<|R z (e_R z z)<|Wx z (λhco=>?_) (λhco=>?_)
  .exact Ws<|Rw z<|Wr<|rtO<|qL (som<|ifT a2 hco).symm<|a_J hr z ⟨kW,z⟩
  exact Wk<|Wg<|R z (inc_ a1 (lt_ (repS.len a8) N_) z z)<|Rm z<|Wl (λ_ q=>⟨(),(som<|ifF a2 hco).symm,⟨kaA q,kW⟩⟩)
 .rintro _ _ _ ⟨aE,bf⟩;refine Wu ?_ aE;refine Ws<|Rl z z z<|Wn<|Wq<|Wc z (λhc=>(a_5 hc).elim) (λ_=>?_);exact We<|λ_ q=>⟨rfl,⟨kaA q,bf⟩⟩
 .rintro _ bg Y rfl ⟨_,_⟩;have aF:=elL a0;revert bg;refine Wo<|Wq<|Ws<|Rf z M_ z<|R z (l0 B_ z kBa)<|R z (lnR A_ z kR)<|Rm z<|Wn<|bdB aF λ_ aG a3=>Wf (σ:=Unit) (ρ:=Bool) (λ(kp:Nat)(_:Unit) a w=>Sat 65 [(1,vI x2),(2,pt w0.z),(5,pt J.z),(48,sl L O V),(49,vI (x4.kids.length:Int)),(50,vI ((kp:Nat):Int))] a/\Below Y.z Y w) (λ(_:Unit) a w=>Sat 65 [(2,pt w0.z),(5,pt J.z)] a/\Below Y.z Y w) (rQ prog fn<|Q0 w0 B) aG ?_ ?_ ?_ ?_ ?_
  .exact λ_ q=>⟨kaA q,br Y⟩
  .rintro kp _ _ wa _ a4 ⟨aH,_⟩ aI;refine Wu ?_ aH;refine Ws<|Rl z z z<|Wn<|Wq<|Wc z (λ_=>?_) (λhc=>(a_4 a4 hc).elim);refine Wk<|Wq<|Wb<|Ws<|bdB aI λau bh aJ=>xI z A_ z_3 z z z kR bh λ_ _ bi _=>R z (l0 g_3 z<|bi.at0 z)<|Rw z<|Wq<|bdB aJ λbj a6 a7=>Wt (λa w=>∃(xq:Bool),xq=bj/\Sat 65 [(1,vI x2),(2,pt w0.z),(5,pt J.z),(48,sl L O V),(49,vI (x4.kids.length:Int)),(50,vI ((kp:Nat):Int)),(60,vB xq)] a/\Below wa.z wa w) ?_ ?_
   .refine Wg<|Rm z<|Rl z z z<|Rm z ?_;rcases bs (decide<|au<0) with I | I
    .iterate 3 refine Nh z I ?_
     exact R z (pT z I z)<|Wl (λ_ q=>⟨true,som<|ifT a6 I,kaA q,br wa⟩)
    exact Rh z I (mv z)<|Rh z I (mv z)<|Rh z I (b_e z z)<|R z (pF z I z)<|Wl (λ_ q=>⟨decide<|x2<=au,som<|ifF a6 I,kaA q,br wa⟩)
   rintro bk _ ⟨xq,rfl,_,_⟩;revert bk;refine Wo<|Wc z (λhcr=>?_) (λhcr=>?_)
   .exact Ws<|Rw z<|Wr<|rtO<|qL (som<|ifT a7 hcr).symm<|a_J hr z ⟨kW,z⟩
   exact Wk<|Wg<|R z (inc_ a4 (lt_ (repS.len aX) N_) z z)<|Rm z<|Wl (λ_ q=>⟨(),(som<|ifF a7 hcr).symm,⟨kaA q,kW⟩⟩)
  .rintro _ _ _ ⟨aK,bm⟩;refine Wu ?_ aK;refine Ws<|Rl z z z<|Wn<|Wq<|Wc z (λhc=>(a_5 hc).elim) (λ_=>?_);exact We<|λ_ q=>⟨rfl,⟨kaA q,bm⟩⟩
  .rintro _ bn _ rfl ⟨_,_⟩;have aL:=elL a3;revert bn;exact Wo<|Ws<|R z (lC [sl A0 N0 C0] v_ o_ z)<|R z (lN (vs:=vR x4 ac nd ce af ng ch ai nj ck L O V) I_ l_ z z fid<|kBr 0 8)<|bdB aL λ_ bo aM=>EcA z (fc call107 z<|W_w3x (B:=B) bo kM kR hu aV aW kR kR kR kR) λ_ _=>Rw z<|Wr<|rS1 aM hr z ⟨kW,z⟩
  exact lqA a3 λ_ _ h=>h.2
 exact lqA a0 λ_ _ h=>h.2
theorem W_w20 {x1:c_}{res:Bool}(hm:h_K n x1=some res)(a0:B<=w0.z)(L:rp w0 B A0 N0 C0 x1.rules):g_ prog 40 [(.agg #[sl A0 N0 C0])] w0 (Q0 w0 B res):=by
 unfold h_K at hm;refine goG func40 z z z λfn hr=>Ws<|EvX [sl A0 N0 C0] z z z λw9 _ Y=>Rw z<|Wq<|Ws<|Rf z F_ z<|R z (l0 K_ z<|Y.at z)<|R z (lnR L_ z kR)<|bdB hm λ_ ea O=>EcA z (fc call72 z<|d_L (B:=B) ea kM (a_M<|repS.len kR) (ii z)<|ii z) λG _=>R z (not_ z)<|Wx z (λH=>?_) (λH=>?_)
 .exact Ws<|Rw z<|Wr<|rS1 (ifT O H) hr z ⟨kW,z⟩
 refine Wk<|Wq<|Ws<|Rf z F_ z<|R z (l0 K_ z kBa)<|R z (lnR L_ z kR)<|Rm z<|Wn<|bdB (ifF O H) λ_ hub V=>Wf (σ:=Unit) (ρ:=Bool) (λ(k7:Nat)(_:Unit) a w=>Sat 20 [(1,pt w0.z),(11,vI (x1.rules.length:Int)),(12,vI ((k7:Nat):Int))] a/\Below G.z G w) (λ(_:Unit) a w=>Sat 20 [] a/\Below G.z G w) (rQ prog fn<|Q0 w0 B) hub ?_ ?_ ?_ ?_ ?_
 .exact λ_ q=>⟨kaA q,br G⟩
 .rintro k7 _ _ _ _ I ⟨hSc,_⟩ hmd;refine Wu ?_ hSc;refine Ws<|Rl z z z<|Wn<|Wq<|Wc z (λ_=>?_) (λhc=>(a_4 I hc).elim);refine Wk<|Wq<|Wb<|Wm z<|Rw z<|Ws<|R z (lC [sl A0 N0 C0] v_ o_ z)<|Rm z<|bdB hmd λ_ ee W=>EcA z (fc call73 z<|W_w3y (B:=B) ee kM kR<|ic (Nat.le_of_lt I)<|lt_ (repS.len L) N_) λ_ _=>R z (not_ z)<|Wx z (λJ=>?_) (λJ=>?_)
  .exact Ws<|Rw z<|Wr<|rtO<|qL (som<|ifT W J).symm<|a_J hr z ⟨kW,z⟩
  exact Wk<|Wg<|R z (inc_ I (lt_ (repS.len L) N_) z z)<|Rm z<|Wl (λ_ q=>⟨(),(som<|ifF W J).symm,⟨kaA q,kW⟩⟩)
 .rintro _ _ _ ⟨hSf,sg⟩;refine Wu ?_ hSf;refine Ws<|Rl z z z<|Wn<|Wq<|Wc z (λhc=>(a_5 hc).elim) (λ_=>?_);exact We<|λ_ q=>⟨rfl,⟨q.k sn,sg⟩⟩
 .rintro _ ah _ rfl ⟨_,_⟩;have hmi:=elL V;revert ah;exact Wo<|Ws<|Rw z<|Wr<|rS1 hmi hr z ⟨kW,z⟩
 exact lqA V λ_ _ h=>h.2
theorem W_w3z {x1:D_}{res:Bool}(hm:j_z n x1=some res)(a3:B<=w0.z)(a0:rp w0 B A0 N0 C0 x1.versions):g_ prog 19 [(.agg #[sl A0 N0 C0])] w0 (Q0 w0 B res):=by
 unfold j_z at hm;refine goG func19 z z z λfn hr=>Ws<|EvX [sl A0 N0 C0] z z z λG a1 O=>Rw z<|Wq<|Ws<|Rf z a_Y z<|R z (l0 b_b z<|O.at z)<|R z (lnR b_j z kR)<|R z (a_8 z z)<|Wx z (λH=>?_) (λH=>?_)
 .exact Ws<|Rw z<|Wr<|rS1 (ifT hm H) hr z ⟨a1,z⟩
 refine Wk<|Wq<|Ws<|Rf z a_Y z<|R z (l0 b_b z<|O.at z)<|R z (lnR b_j z kR)<|Rm z<|Wn<|bdB (ifF hm H) λ_ huc V=>Wf (σ:=Unit) (ρ:=Bool) (λ(k8:Nat)(_:Unit) a w=>Sat 20 [(10,sl A0 N0 C0),(11,vI (x1.versions.length:Int)),(12,vI ((k8:Nat):Int))] a/\Below G.z G w) (λ(_:Unit) a w=>Sat 20 [] a/\Below G.z G w) (rQ prog fn<|Q0 w0 B) huc ?_ ?_ ?_ ?_ ?_
 .exact λ_ q=>⟨kaA q,br G⟩
 .rintro k8 _ _ _ _ W ⟨hSe,_⟩ hmf;refine Wu ?_ hSe;refine Ws<|Rl z z z<|Wn<|Wq<|Wc z (λ_=>?_) (λhc=>(a_4 W hc).elim);refine Wk<|Wq<|Wb<|Ws<|bdB hmf λ_ eg hmh=>xA (α:=c_) z b_j o_ z z z kR eg λ_ _ _ hi hj _=>?_;obtain ⟨a2,J,L,rfl,_⟩:=e_7 hj;refine R z (lN (vs:=[sl a2 J L]) v_ o_ z z fid hi)<|EvZ [sN] z c_N z λwk _ Y=>E0q [sl a2 J L] o_ z z Y z λa4 hl _=>Wn<|Ws<|R z (lC [sl a2 J L] v_ o_ z)<|bdB hmh λ_ en hmb=>EcA z (fc call40 z<|W_w20 (B:=B) en kM kR) λ_ _=>R z (not_ z)<|Wx z (λI=>?_) (λI=>?_)
  .exact Ws<|Rw z<|Wr<|rtO<|qL (som<|ifT hmb I).symm<|a_J hr z ⟨kW,z⟩
  exact Wk<|Wg<|R z (inc_ W (lt_ (repS.len a0) N_) z z)<|Rm z<|Wl (λ_ q=>⟨(),(som<|ifF hmb I).symm,⟨kaA q,kW⟩⟩)
 .rintro _ _ _ ⟨hSo,sp⟩;refine Wu ?_ hSo;refine Ws<|Rl z z z<|Wn<|Wq<|Wc z (λhc=>(a_5 hc).elim) (λ_=>?_);exact We<|λ_ q=>⟨rfl,⟨q.k sn,sp⟩⟩
 .rintro _ aq _ rfl ⟨_,_⟩;have hmr:=elL V;revert aq;exact Wo<|Ws<|Rw z<|Wr<|rS1 hmr hr z ⟨kW,z⟩
 exact lqA V λ_ _ h=>h.2
theorem W_w40 {x1:w_}{x2:m_}{b2 G:Nat}{res:Bool}(hm:l_0 x1 x2=some res)(a2:B<=w0.z)(J:x1.name.b.length<=LEN)(L:inI x1.version)(O:rp w0 B AK NK CK x1.data)(V:inI x2.kind)(W:x2.name.b.length<=LEN)(Y:inI x2.version)(a0:rp w0 B AG NG CG x2.data)(a3:E_ w0 b2 G [vI x2.kind,Str.v x2.name,vI x2.version,sl AG NG CG])(a1:B b2):g_ prog 44 [(.agg #[Str.v x1.name,vI x1.version,sl AK NK CK]),(pq b2 G)] w0 (Q0 w0 B res):=by
 unfold l_0 at hm;exact goG func44 z z z λfn hr=>Ws<|EvX [Str.v x1.name,vI x1.version,sl AK NK CK] z z z λw1 H I=>Rw z<|Ws<|Rf z k_0 z<|R z (l0 g_9 z<|I.at z)<|Rf z d_I z<|R z (l0 g_9 z<|kCa (o:=G) (j:=1))<|R z (e_R z z)<|Rw z<|Wr<|rS1 hm hr z ⟨H,z⟩
theorem W_w41 {x1:List w_}{G:m_}{pa2c0_3:Option Addr}{pn2c0_3 pc2c0_3:Nat}{H I:Nat}{res:Int}(hm:j_F x1 G=some res)(a6:B<=w0.z)(J:rp w0 B A0 N0 C0 x1)(p2c0_0:inI G.kind)(p2c0_1:G.name.b.length<=LEN)(p2c0_2:inI G.version)(p2c0_3:rp w0 B pa2c0_3 pn2c0_3 pc2c0_3 G.data)(a5:E_ w0 H I [vI G.kind,Str.v G.name,vI G.version,sl pa2c0_3 pn2c0_3 pc2c0_3])(Y:B H):g_ prog 43 [sl A0 N0 C0,(.func (.func 44) #[] #[(pq H I)])] w0 (Q9 w0 B res):=by
 unfold j_F at hm;refine goG func43 z z z λfn hr=>Ws<|Rw z<|Wq<|Wm z<|R z (lnR b_W z J)<|Rm z<|Wn<|bdB hm λ_ hua a0=>Wf (σ:=Unit) (ρ:=Int) (λ(k7:Nat)(_:Unit) a w=>Sat 19 [(1,.func (.func 44) #[] #[(.pointer<|some ⟨H,I,none⟩)]),(7,sl A0 N0 C0),(8,vI (x1.length:Int)),(9,vI ((k7:Nat):Int))] a/\Below w0.z w0 w) (λ(_:Unit) a w=>Sat 19 [] a/\Below w0.z w0 w) (rQ prog fn<|Q9 w0 B) hua ?_ ?_ ?_ ?_ ?_
 .exact λ_ q=>⟨kaA q,br w0⟩
 .rintro k7 _ _ _ _ L ⟨hSc,_⟩ hmd;refine Wu ?_ hSc;refine Ws<|Rl z z z<|Wn<|Wq<|Wc z (λ_=>?_) (λhc=>(a_4 L hc).elim);refine Wk<|Wq<|Wb<|Wm z<|bdB hmd λx0 ee hmf=>xA (α:=w_) z b_W b_w z z z kR ee λ_ _ _ hg hh _=>?_;obtain ⟨a2,V,W,rfl,hi,hj,_⟩:=i_o hh;refine R z (lN (vs:=[Str.v x0.name,vI x0.version,sl a2 V W]) f_S b_w z z fid hg)<|EvZ [(Str.v (⟨[]⟩:Str)),vI 0,sN] z i_u z λwk _ a3=>Ra z<|E0q [Str.v x0.name,vI x0.version,sl a2 V W] b_w z z a3 z λa7 hl a4=>Wn<|Wm z<|R z (lC [Str.v x0.name,vI x0.version,sl a2 V W] f_S b_w z)<|bdB hmf λ_ en a1=>E z (l_c call44 z z<|W_w40 (B:=B) en kM hi hj kR p2c0_0 p2c0_1 p2c0_2 kR (E_.chg kC a4<|sQB Y) Y) ?_;rintro _ _ ⟨_,rfl⟩;refine Wx z (λO=>?_) (λO=>?_)
  .exact Wm z<|Rw z<|Wr<|rtO<|qL (som<|ifT a1 O).symm<|a_J hr z ⟨kW,z,ic (Nat.le_of_lt L)<|lt_ (repS.len J) N_⟩
  exact Wk<|Wg<|R z (inc_ L (lt_ (repS.len J) N_) z z)<|Rm z<|Wl (λ_ q=>⟨(),(som<|ifF a1 O).symm,⟨kaA q,kW⟩⟩)
 .rintro _ _ _ ⟨hSo,sp⟩;refine Wu ?_ hSo;refine Ws<|Rl z z z<|Wn<|Wq<|Wc z (λhc=>(a_5 hc).elim) (λ_=>?_);exact We<|λ_ q=>⟨rfl,⟨q.k sn,sp⟩⟩
 .rintro _ aq _ rfl ⟨_,sr⟩;have hms:=elL a0;revert aq;exact Wo<|Ws<|Rw z<|Wr<|rS1 hms hr z ⟨sr,z,ii z⟩
 exact lqA a0 λ_ _ h=>h.2
end Go.Vw
