
import Derived.Test.YtllmonllbkaflaaGreatDoorVb3
set_option linter.unusedVariables false
namespace Go.Vw
open Go.RowKit Dat Go.Proofs
set_option maxHeartbeats 1000000
open Go.Proofs.Tryz
open Go.Vw renaming a_c->Wq,a_E->Wg,WC.of_KC->Wo,a_f->Wl,b_Z->Wc,c_r->Wr,e_X->Wu,g_S->pT,g_T->pF,f_T->fd,b_w->l1,f_U->lN,b_8->mv,c_A->asg,e_T->lnR,e_n->lss,f_Y->eql,f_V->ext_,f_J->bP,f_W->add_,e_R->inc_,d_4->not_,d_O->at_,d_J->fc,a_O->fs,d_i->fb,c_u->fa,c_j->sr,f_H->cr,f_I->cM,c_1->bM,g_K->iS,g_J->iA,e_Q->br,b_0->oA,g_P->bs,f_B->lg,f_C->io,f_1->nq,h_6->lnT,h_7->sb_,g_R->ar_,g_Q->al_,b_B->ds,h_n->m1,f_F->nr_,f_E->nl_,d_N->aa_,c_w->an_,c_V->Wb,f_z->u8,g_y->pD,e_H->We,g_M->Wt,e_P->fS,e_G->or_,h_0->Wf,g_Y->qL,g_x->Wd,g_V->fN,f_D->na_,f_G->nj,d_P->f0,g_U->rX,g_W->tl_,g_X->ic
variable {A0:Option Addr}{N0 C0:Nat}{B:Zone}{w0:World}{n:Nat}{A5:Option Addr}{N5 C5:Nat}{AB:Option Addr}{AA:Option Addr}{AC:Option Addr}{AD:Option Addr}{NB CB:Nat}{NA CA:Nat}{NC CC:Nat}{ND CD:Nat}{A7:Option Addr}{A8:Option Addr}{N7 C7:Nat}{N8 C8:Nat}{A2:Option Addr}{A3:Option Addr}{A1:Option Addr}{A4:Option Addr}{N2 C2:Nat}{N3 C3:Nat}{N1 C1:Nat}{N4 C4:Nat}{A9:Option Addr}{N9 C9:Nat}{A6:Option Addr}{N6 C6:Nat}
theorem l_l {x1:b_}{x2:Int}{res:Str}(hm:e_6 n x1 x2=some res)(ah:B<=w0.z)(a8:x1.name.b.length<=LEN)(a9:inI x1.kind)(aa:inI x1.size)(ab:rp w0 B AB NB CB x1.bytes)(ad:rp w0 B AA NA CA x1.names)(ae:rp w0 B AC NC CC x1.tags)(af:rp w0 B AD ND CD x1.kids)(a1:inI x2):f_ prog 94 [(.agg #[Str.v x1.name,vI x1.kind,vI x1.size,vB x1.little,sl AB NB CB,sl AA NA CA,sl AC NC CC,sl AD ND CD]),vI x2] w0 (Q4 w0 B res):=by
 unfold e_6 at hm;refine goG func94 z z z λfn hr=>Ws<|EvX (vR x1 AB NB CB AA NA CA AC NC CC AD ND CD) z z z λL _ Y=>Rw z<|Wq<|Wb<|Ws<|Rf z a_l z<|R z (l0 g_3 z<|Y.at z)<|Rq z z z<|Rw z<|Wc z (λa0=>?_) (λa0=>?_)
 .refine Wm z<|bdB (ifT hm a0) λ_ eq hmr=>E z (fc call109 z<|f_O (B:=B) eq kM a1) ?_;rintro _ _ ⟨_,rfl,ht⟩;exact Rw z<|Wr<|rtO<|rS1 hmr hr z ⟨kW,z,ht⟩
 refine Wq<|bdB (ifF hm a0) λus hui hmj=>Wt (λa w=>∃(x9:Bool),x9=us/\Sat 51 [(1,vI x2),(2,pt w0.z),(11,vB x9)] a/\Below L.z L w) ?_ ?_
 .refine Wg<|Rf z a_l z<|R z (l0 g_3 z<|Y.at z)<|Rq z z z<|Rm z ?_;rcases bs (x1.kind==6) with G | G
  .exact Rh z G (mv z)<|Rh z G (fd c_2 z)<|Rh z G (l0 a_J z<|Y.at z)<|Rh z G (lnR C_ z kR)<|Rh z G (lss z z)<|R z (pT z G z)<|Ra z<|Wl (λ_ q=>⟨decide<|x2<(x1.names.length:Int),som<|ifT hui G,kaA q,br L⟩)
  iterate 5 refine Nh z G ?_
  exact R z (pF z G z)<|Ra z<|Wl (λ_ q=>⟨false,som<|ifF hui G,kaA q,br L⟩)
 rintro au O ⟨x9,rfl,_,_⟩;revert au;refine Wo<|Wc z (λhca=>?_) (λhca=>?_)
 .refine Ws<|Rf z c_2 z<|R z (l0 a_J z kBa)<|Rm z<|bdB (ifT hmj hca) λ_ ev hmw=>xA (α:=Str) z C_ z_9 z z z kR ev λ_ _ _ hx hy _=>?_;obtain ⟨rfl,hz⟩:=a_n hy;exact R z (l0 g_9 z<|hx.at0 z)<|Rw z<|Wr<|rtO<|rS1 hmw hr z ⟨kW,z,hz⟩
 refine Wq<|bdB (ifF hmj hca) λa2 huk hml=>Wt (λa w=>∃(xb:Bool),xb=a2/\Sat 51 [(1,vI x2),(2,pt w0.z),(27,vB xb)] a/\Below O.z O w) ?_ ?_
 .refine Wg<|Rf z a_l z<|R z (l0 g_3 z kBa)<|Rq z z z<|Rm z ?_;rcases bs (x1.kind==7) with H | H
  .exact Rh z H (mv z)<|Rh z H (eql z z)<|R z (pT z H z)<|Ra z<|Wl (λ_ q=>⟨x2==0,som<|ifT huk H,kaA q,br O⟩)
  exact Nh z H<|Nh z H<|R z (pF z H z)<|Ra z<|Wl (λ_ q=>⟨false,som<|ifF huk H,kaA q,br O⟩)
 rintro a3 V ⟨xb,rfl,_,_⟩;revert a3;refine Wo<|Wc z (λhcc=>?_) (λhcc=>?_)
 .exact Ws<|Rw z<|Wr<|rtO<|rS1 (ifT hml hcc) hr z ⟨kW,z,lb z⟩
 refine Wq<|bdB (ifF hml hcc) λa4 hum hmn=>Wt (λa w=>∃(xd:Bool),xd=a4/\Sat 51 [(1,vI x2),(2,pt w0.z),(35,vB xd)] a/\Below V.z V w) ?_ ?_
 .refine Wg<|Rf z a_l z<|R z (l0 g_3 z kBa)<|Rq z z z<|Rm z ?_;rcases bs (x1.kind==8) with I | I
  .exact Rh z I (mv z)<|Rh z I (eql z z)<|R z (pT z I z)<|Ra z<|Wl (λ_ q=>⟨x2==0,som<|ifT hum I,kaA q,br V⟩)
  exact Nh z I<|Nh z I<|R z (pF z I z)<|Ra z<|Wl (λ_ q=>⟨false,som<|ifF hum I,kaA q,br V⟩)
 rintro a5 W ⟨xd,rfl,_,_⟩;revert a5;refine Wo<|Wc z (λhce=>?_) (λhce=>?_)
 .exact Ws<|Rw z<|Wr<|rtO<|rS1 (ifT hmn hce) hr z ⟨kW,z,lb z⟩
 refine Wq<|bdB (ifF hmn hce) λa6 huo hmp=>Wt (λa w=>∃(xf:Bool),xf=a6/\Sat 51 [(43,vB xf)] a/\Below W.z W w) ?_ ?_
 .refine Wg<|Rf z a_l z<|R z (l0 g_3 z kBa)<|Rq z z z<|Rm z ?_;rcases bs (x1.kind==9) with J | J
  .exact Rh z J (mv z)<|Rh z J (eql z z)<|R z (pT z J z)<|Ra z<|Wl (λ_ q=>⟨x2==0,som<|ifT huo J,kaA q,br W⟩)
  exact Nh z J<|Nh z J<|R z (pF z J z)<|Ra z<|Wl (λ_ q=>⟨false,som<|ifF huo J,kaA q,br W⟩)
 rintro a7 _ ⟨xf,rfl,_,_⟩;revert a7;refine Wo<|Wc z (λhcg=>?_) (λhcg=>?_)
 .exact Ws<|Rw z<|Wr<|rtO<|rS1 (ifT hmp hcg) hr z ⟨kW,z,lb z⟩
 exact Wk<|Ws<|Rw z<|Wr<|rS1 (ifF hmp hcg) hr z ⟨kW,z,lb z⟩
def Q12 (w0:World)(B:Zone)(r:(List Str))(v:Value)(w':World):Prop:=Bw w0 w'/\(λr1=>∃G H I S1,(sl G H I)=v/\a_ w' S1 (sl G H I) r1/\S1.Nodup/\(∀k∈S1,w0.z<=k)) r
structure l_m (f:c_->Int->Val->Str->Option (List Str)):Prop where
  run:∀{A0 A7 A8:Option Addr}{N0 C0 N7 C7 N8 C8:Nat}{B:Zone}{x1:c_}{x2:Int}{x3:Val}{x4:Str}{res:(List Str)}{w0:World}(hm:f x1 x2 x3 x4=some res)(hBw:B<=w0.z)(p1_0:rp w0 B A0 N0 C0 x1.rules)(p2_0:inI x2)(p3_0:inI x3.number)(p3_1:rp w0 B A7 N7 C7 x3.bytes)(p3_2:rp w0 B A8 N8 C8 x3.items)(p4_0:x4.b.length<=LEN),f_ prog 58 [(.agg #[sl A0 N0 C0]),vI x2,.agg #[vI x3.number,sl A7 N7 C7,sl A8 N8 C8],Str.v x4] w0<|Q12 w0 B res
abbrev n_F (n:Nat):Prop:=l_m (e_M n).spec_l18Paths
theorem T_w0j (au:n_F n):l_m (h_J n<|e_M n):=by
 constructor;intro A0 A7 A8 N0 C0 N7 C7 N8 C8 B x1 x2 x3 x4 res w0 hm b0 aX aY a3 aZ a0 a4;unfold h_J at hm;refine goG func58 z z z λfn hr=>Ws<|EvX [sl A0 N0 C0] z z z λwn _ _=>EvX [vI x3.number,sl A7 N7 C7,sl A8 N8 C8] z z z λL _ _=>Rw z<|Wm z<|EvA z (fS [(.tmp 12)] Q_ z z z (G_ z) (lb z)<|lb z) λO ho=>have:=ho.below;have:Blk O L.z [Str.v x4]:=ho.blk;have a5:=a_a ho<|a_T a4;Rw z<|Wq<|Ws<|Rw z<|bdB hm λ_ a6 hmr=>?_;refine Wf (σ:=List Str) (ρ:=List Str) (λ(ks:Nat)(x6:List Str) a w=>∃H I J G,Sat 47 [(1,vI x2),(3,Str.v x4),(4,pt w0.z),(6,pt wn.z),(9,sl H I J),(10,vI ((ks:Nat):Int))] a/\Cg [L.z] O w/\a_ w G (sl H I J) x6/\G.Nodup/\(∀k∈G,k∈[L.z]∨O.z<=k)) (λ(x6:List Str) a w=>∃H I J G,Sat 47 [(9,sl H I J)] a/\Cg [L.z] O w/\a_ w G (sl H I J) x6/\G.Nodup/\(∀k∈G,k∈[L.z]∨O.z<=k)) (rQ prog fn<|Q12 w0 B) a6 ?_ ?_ ?_ ?_ ?_
 .exact λ_ q=>⟨some ⟨L.z,0,none⟩,1,1,[L.z],kaA q,cr [L.z] O,a5,a_j,sQ⟩
 .rintro ks x6 _ _ _ W ⟨H,I,J,G,a7,_,Y,V,hu⟩ a8;refine Wu ?_ a7;refine Wq<|Wm z<|Rf z a_4 z<|R z (l0 a_k z kBa)<|R z (lnR a_v z kR)<|Rl z z z<|Wx z (λ_=>?_) (λhc=>(R_ W hc).elim);refine Wk<|Wq<|Wb<|Ws<|Rf z H_ z<|R z (l0 I_ z kBa)<|Rm z<|bdB a8 λxa av a9=>xA (α:=b_) z J_ h_ z z z kR av λ_ _ _ aw ax _=>?_;obtain ⟨ab,nc,cd,ae,nf,cg,ah,ni,cj,ak,nl,cm,rfl,hv,hw,hx,_,_,_,_⟩:=a_x ax;refine R z (lN (vs:=vR xa ab nc cd ae nf cg ah ni cj ak nl cm) z_ h_ z z fid aw)<|EvZ [(Str.v (⟨[]⟩:Str)),vI 0,vI 0,vB false,sN,sN,sN,sN] z b_E z λb1 _ a2=>E0q (vR xa ab nc cd ae nf cg ah ni cj ak nl cm) h_ z z a2 z λb2 _ _=>Wn (Wd (X:=noX) 524288 (.rd 0<|.rd 1<|.rd 2<|.rd 3<|.rd 4<|.rd 5<|.rd 7<|.rd 8<|.rd 9<|.rd 10<|.rd 11<|.rd 12<|.rd 13<|.rd 14<|.rd 15<|.ef 6<|.ef 16<|.rd 17<|.ef 18<|.ef 19<|.rd 20 .done) mo (by kernel_rfl) λb3 b4 _=>dM z z z<|dR z z (lC [sl A0 N0 C0] l_ j_ z)<|dR z z (lN (vs:=vR xa ab nc cd ae nf cg ah ni cj ak nl cm) z_ h_ z z fid<|kBr 0 8)<|dR z z (fd b_4 z)<|dR z z (l0 g_3 z kBa)<|dM z z z<|dR z z (fd a_4 z)<|dR z z (l0 a_k z kBa)<|dM z z z ?_);refine bdB a9 λxp ay aa=>dxA (α:=Val) z z a_v e_ z z z kR ay λ_ _ _ az aA _=>?_;obtain ⟨aB,aC,aD,aE,aF,aG,rfl,aH,_,_⟩:=g_v aA;refine dR z z (lN (vs:=[vI xp.number,sl aB aC aD,sl aE aF aG]) s_ e_ z z fid az)<|dM z z z<|bdB aa λ_ aI ad=>dR z z (a_d z z aI)<|dR z z (lN (vs:=vR xa ab nc cd ae nf cg ah ni cj ak nl cm) z_ h_ z z fid<|kBr 0 8)<|dM z z z<|bdB ad λ_ aJ af=>dE z z (fc call55 z<|d_n (B:=B) aJ kM hv hw hx kR kR kR kR a3<|ic (Nat.le_of_lt W)<|lt_ (repS.len a0) x_) iB ?_;rintro _ _ ⟨_,rfl,aK⟩;refine bdB af λ_ aL ai=>dE z z (fc call94 z<|l_l (B:=B) aL kM hv hw hx kR kR kR kR<|ic (Nat.le_of_lt W)<|lt_ (repS.len a0) x_) iB ?_;rintro _ _ ⟨_,rfl,_⟩;refine bdB ai λ_ ez aj=>dR z z (a_d z z ez)<|bdB aj λ_ aM al=>dE z z (fc call58 z<|au.run (B:=B) aM kM kR aK aH (kR (l:=xp.bytes)) (kR (l:=xp.items))<|a_W ez) iB ?_;rintro _ _ ⟨_,_,_,_,_,rfl,aN,_,_⟩;refine bdB al λaO aP am=>dE z z (fN (α:=Str) Q_ aP z z kO V<|a_.rep aN) (.inl z) ?_;rintro _ _ ⟨aQ,aR,aS,aT,rfl,_,aU,aV,_⟩;exact dQ z z z<|pD<|Wo<|Wg<|Rm z<|R z (inc_ W (lt_ (repS.len a0) x_) z z)<|Ra z<|Wl (λ_ q=>⟨aO,(som am).symm,⟨aR,aS,aT,aQ,kaA q,kW,aU,aV,sQ⟩⟩)
 .rintro x6 _ _ ⟨H,I,J,G,an,_,Y,V,hu⟩;refine Wu ?_ an;refine Wq<|Wm z<|Rf z a_4 z<|R z (l0 a_k z kBa)<|R z (lnR a_v z kR)<|Rl z z z<|Wx z (λhc=>(S_ hc).elim) (λ_=>?_);exact We<|λ_ q=>⟨rfl,⟨H,I,J,G,kaA q,kW,Y,V,sQ⟩⟩
 .rintro x6 aW _ rfl ⟨H,I,J,G,_,_,Y,V,hu⟩;have ap:=elL hmr;revert aW;exact Wo<|Wm z<|Rw z<|Wr<|rS1 ap hr z ⟨kW,H,I,J,G,z,Y,V,sQ⟩
 exact lqA hmr λ_ _ h=>h.2
theorem A_w0j:∀n,n_F n
  | 0=>⟨λhm=>by intros;exact nomatch (show none=some _ from hm)⟩
  | n+1=>T_w0j<|A_w0j n
theorem W_w0j:l_m (e_M n).spec_l18Paths:=A_w0j n
theorem W_w2f {x1:m_}{g1:Nat}{x2:c_}{x3:Val}{res:Str×Int×Int}(hm:h_K n x1 x2 x3=some res)(hB1:Blk w0 g1 [sl A0 N0 C0,vI x1.i,vI x1.h])(aj:B<=w0.z)(hBg:¬B g1)(ad:rp w0 B A0 N0 C0 x1.b)(a1:inI x1.i)(a2:inI x1.h)(ae:rp w0 B A5 N5 C5 x2.rules)(a3:inI x3.number)(af:rp w0 B A7 N7 C7 x3.bytes)(ah:rp w0 B A8 N8 C8 x3.items):f_ prog 25 [pt g1,.agg #[sl A5 N5 C5],(.agg #[vI x3.number,sl A7 N7 C7,sl A8 N8 C8])] w0 (Q3 w0 g1 B A0 N0 C0 x1 res):=by
 unfold h_K at hm;refine goG func25 z z z λfn hr=>Ws<|EvX [sl A5 N5 C5] z z z λw9 _ _=>EvX [vI x3.number,sl A7 N7 C7,sl A8 N8 C8] z z z λwh _ ai=>Rw z<|Ws<|R z (lC [sl A5 N5 C5] l_ j_ z)<|Rf z H_ z<|R z (l0 I_ z kBa)<|R z (lnR J_ z kR)<|R z (sb_ z z)<|R z (lC [vI x3.number,sl A7 N7 C7,sl A8 N8 C8] s_ e_ z)<|bdB hm λ_ ei hmj=>E z (fc call58 z<|W_w0j.run (B:=B) ei kM kR (iS _ _) a3 (kR (l:=x3.bytes)) (kR (l:=x3.items))<|lb z) ?_;rintro _ _ ⟨_,_,_,_,_,rfl,H,_,h2⟩;refine Rw z<|Wm z<|RM z z<|R z (lnR C_ z<|or_ H<|zin (B:=B) h2<|a_.lt H) ?_;obtain ⟨_,_,_,ek,hml⟩:=i_ hmj;refine E z (fc call28 z<|a_P (B:=B) ek kB kM sQ kR a1 a2<|a_S<|repS.len<|or_ H<|zin (B:=B) h2<|a_.lt H) ?_;rintro _ _ ⟨_,rfl,_,hn,ho,hp⟩;refine bdB hml λ_ em hmq=>xA (α:=Str) z C_ z_9 z z z (or_ kO<|zin (B:=B) h2<|a_.lt H) em λ_ _ _ ht hu _=>?_;obtain ⟨rfl,hv⟩:=a_n hu;refine R z (l0 g_9 z<|ht.at0 z)<|Rw z<|Wq<|Wm z ?_;obtain ⟨_,_,_,er,hmc⟩:=i_ hmq;refine E z (fc call28 z<|a_P (B:=B) er hp kM sQ kR hn ho<|ii z) ?_;rintro _ G ⟨_,rfl,_,h3,h4,hw⟩;refine Wn<|Wb<|Ws<|Rq z z z<|Rw z<|Wc z (λI=>?_) (λI=>?_)
 .refine Wm z<|Rm z<|EvA z (fS [(.const<|Str.v ⟨[47,48]⟩),.const<|Str.v ⟨[47,42]⟩,.const<|Str.v ⟨[47,63]⟩,.const<|Str.v ⟨[47,43]⟩,.const<|Str.v ⟨[47,112,49]⟩,.const<|Str.v ⟨[47,48,48]⟩,.const<|Str.v ⟨[47]⟩,.const<|Str.v ⟨[120]⟩,(.const<|Str.v ⟨[47,57]⟩)] Q_ z z z (G_ z) (lb z)<|lb z) λL hd=>?_;have:=hd.below;have Y:Blk L G.z [(Str.v (⟨[47,48]⟩:Str)),Str.v (⟨[47,42]⟩:Str),Str.v (⟨[47,63]⟩:Str),Str.v (⟨[47,43]⟩:Str),Str.v (⟨[47,112,49]⟩:Str),Str.v (⟨[47,48,48]⟩:Str),Str.v (⟨[47]⟩:Str),Str.v (⟨[120]⟩:Str),(Str.v (⟨[47,57]⟩:Str))]:=hd.blk;have V:a_ L [G.z] (sl (some ⟨G.z,0,none⟩) 9 9) ([(⟨[47,48]⟩:Str),(⟨[47,42]⟩:Str),(⟨[47,63]⟩:Str),(⟨[47,43]⟩:Str),(⟨[47,112,49]⟩:Str),(⟨[47,48,48]⟩:Str),(⟨[47]⟩:Str),(⟨[120]⟩:Str),(⟨[47,57]⟩:Str)]:List Str):=e_c (l:=[(⟨[47,48]⟩:Str),(⟨[47,42]⟩:Str),(⟨[47,63]⟩:Str),(⟨[47,43]⟩:Str),(⟨[47,112,49]⟩:Str),(⟨[47,48,48]⟩:Str),(⟨[47]⟩:Str),(⟨[120]⟩:Str),(⟨[47,57]⟩:Str)]) Y (ac0 (lb z)<|ac0 (lb z)<|ac0 (lb z)<|ac0 (lb z)<|ac0 (lb z)<|ac0 (lb z)<|ac0 (lb z)<|ac0 (lb z)<|ac0 (lb z) an0) z;obtain ⟨_,_,_,es,hmx⟩:=i_<|ifT hmc I;refine E z (fc call12 z<|e_Z (B:=zn B G.z L.z) es kB (b_1 kM lr) sQ (repS.mono kR a_I) h3 h4<|or_ V<|zin (B:=B) (i:=G.z) sQ<|a_.lt V) ?_;rintro _ _ ⟨_,rfl,_,hy,hz,a6⟩;exact bdB hmx λ_ ee a4=>R z (a_d z z ee)<|Rw z<|Wr<|rtO<|rS1 a4 hr z ⟨kW,z,a_W ee,hy,hz,a6⟩
 have hmf:=ifF hmc I;refine Ws<|Rq z z z<|Rw z<|Wc z (λJ=>?_) (λJ=>?_)
 .refine Wm z<|EvA z (fS [(.const<|Str.v ⟨[112,49]⟩),.const<|Str.v ⟨[47]⟩,.const<|Str.v ⟨[47,47]⟩,.const<|Str.v ⟨[47,112,49]⟩,(.const<|Str.v ⟨[47,48]⟩)] Q_ z z z (G_ z) (lb z)<|lb z) λO hg=>?_;have:=hg.below;have a0:Blk O G.z [(Str.v (⟨[112,49]⟩:Str)),Str.v (⟨[47]⟩:Str),Str.v (⟨[47,47]⟩:Str),Str.v (⟨[47,112,49]⟩:Str),(Str.v (⟨[47,48]⟩:Str))]:=hg.blk;have W:a_ O [G.z] (sl (some ⟨G.z,0,none⟩) 5 5) ([(⟨[112,49]⟩:Str),(⟨[47]⟩:Str),(⟨[47,47]⟩:Str),(⟨[47,112,49]⟩:Str),(⟨[47,48]⟩:Str)]:List Str):=e_c (l:=[(⟨[112,49]⟩:Str),(⟨[47]⟩:Str),(⟨[47,47]⟩:Str),(⟨[47,112,49]⟩:Str),(⟨[47,48]⟩:Str)]) a0 (ac0 (lb z)<|ac0 (lb z)<|ac0 (lb z)<|ac0 (lb z)<|ac0 (lb z) an0) z;obtain ⟨_,_,_,a7,a5⟩:=i_<|ifT hmf J;refine E z (fc call12 z<|e_Z (B:=zn B G.z O.z) a7 kB (b_1 kM lr) sQ (repS.mono kR a_I) h3 h4<|or_ W<|zin (B:=B) (i:=G.z) sQ<|a_.lt W) ?_;rintro _ _ ⟨_,rfl,a8,a9,aa,ab⟩;exact Rw z<|Wr<|rtO<|rS1 a5 hr z ⟨kW,z,a8,a9,aa,ab⟩
 exact Wk<|Wm z<|Rw z<|Wr<|rS1 (ifF hmf J) hr z ⟨kW,z,hv,h3,h4,hw⟩
theorem W_w2g {x1:m_}{g1:Nat}{x2:Bt}{res:Bt×Int×Int}(hm:h_L x1 x2=some res)(hB1:Blk w0 g1 [sl A0 N0 C0,vI x1.i,vI x1.h])(bR:B<=w0.z)(hBg:¬B g1)(bO:rp w0 B A0 N0 C0 x1.b)(ah:inI x1.i)(ai:inI x1.h)(bP:rp w0 B A5 N5 C5 x2):f_ prog 26 [pt g1,sl A5 N5 C5] w0 (Q6 w0 g1 B A0 N0 C0 x1 res):=by
 unfold h_L at hm;refine goG func26 z z z λfn hr=>Ws<|Rw z<|Ws<|E z (f0 (α:=UInt8) Y_) ?_;rintro _ _ ⟨_,_,_,rfl,_,aC⟩;refine Rm z<|bdB hm λa8 aD aj=>E z (fN (α:=UInt8) Y_ aD z z aC a_j kR) ?_;rintro _ _ ⟨H,a2,nh,I,rfl,_,hi,h4,_⟩;refine Rw z<|Wq<|Wm z ?_;obtain ⟨_,a9,aa,aE,ak⟩:=i_ aj;refine E z (fc call28 z<|a_P (B:=B) aE kB kM sQ kR ah ai<|ii z) ?_;rintro _ G ⟨_,rfl,_,h5,h6,hj⟩;refine Wn<|Wb<|Ws<|Rq z z z<|Rw z<|bdB ak λaF a4 al=>Wt (λa w=>∃(xy:Bt)(xk:Int)(xl:Int),(xy,xk,xl)=aF/\∃am nn co J,Sat 44 [(5,sl am nn co)] a/\Chg (· ∈ ([g1]++H)) G w/\a_ w J (sl am nn co) xy/\J.Nodup/\(∀k∈J,k∈H∨G.z<=k)/\inI xk/\inI xl/\Blk w g1 [sl A0 N0 C0,vI xk,vI xl]) ?_ ?_
 .refine Wc z (λhcz=>?_)<|λhcz=>?_
  .refine Wm z<|R z (lnR k_ z<|or_ kO<|zin (B:=B) (i:=w0.z) sQ<|a_.lt hi)<|R z (a_2 z z)<|Wn<|bdB (ifT a4 hcz) λaG a5 an=>Wt (λa w=>∃(xp:Bt)(L:Int)(O:Int),(xp,L,O)=aG/\∃(Sa:List Nat),Sat 44 [(5,sl a2 nh I)] a/\Chg (· ∈ ([g1]++H)) G w/\a_ w Sa (sl a2 nh I) xp/\Sa.Nodup/\(∀k∈Sa,k∈H∨G.z<=k)/\inI L/\inI O/\Blk w g1 [sl A0 N0 C0,vI L,vI O]) ?_ ?_
   .refine Wc z (λV=>?_)<|λV=>?_
    .refine Wg<|RM z z<|Rm z<|R z (lnR k_ z<|or_ kO<|zin (B:=B) (i:=w0.z) sQ<|a_.lt hi) ?_;obtain ⟨_,_,_,aH,ap⟩:=i_<|ifT a5 V;refine E z (fc call28 z<|a_P (B:=B) aH hj kM sQ kR h5 h6<|a_S<|repS.len<|or_ kO<|zin (B:=B) (i:=w0.z) sQ<|a_.lt hi) ?_;rintro _ _ ⟨_,rfl,_,aI,aJ,aK⟩;refine Rm z ?_;obtain ⟨_,aL,aM,aN,aq⟩:=i_ ap;refine E z (fc call28 z<|a_P (B:=B) aN aK kM sQ kR aI aJ<|ii z) ?_;rintro _ _ ⟨_,rfl,_,aO,aP,_⟩;refine R z (d_K d_3 d_5 z)<|bdB aq λaQ ab au=>RX z (b_O (α:=UInt8) k_ z_5 z z kO ab) ?_;rintro _ ⟨_,aR,rfl⟩;refine E0 (b_P (α:=UInt8) z_5 z aR z z z ab kO h4 b_3 an_ q_) ?_;rintro _ _ ⟨aS,_,aT,aU,_⟩;exact Wl<|λ_ q=>⟨aQ,aL,aM,som au,aS,kaA q,kW,aT,aU,sQ,aO,aP,kB⟩
    exact M_<|λ_ q=>⟨a8,a9,aa,som<|ifF a5 V,H,kaA q,cr ([g1]++H) G,kO,h4,sQ,h5,h6,hj⟩
   rintro aV _ ⟨xp,L,O,rfl,Sa,_,_,aW,aX,_,aY,aZ,b0⟩;revert aV;exact λ_ q=>⟨xp,L,O,som<|a_h an,a2,nh,I,Sa,kaA q,kW,aW,aX,sQ,aY,aZ,b0⟩
  refine Ws<|Rq z z z<|Rw z<|bdB (ifF a4 hcz) λb1 a6 aw=>Wt (λa w=>∃(xq:Bt)(xb:Int)(xc:Int),(xq,xb,xc)=b1/\∃ar ns ct Sd,Sat 44 [(5,sl ar ns ct)] a/\Chg (· ∈ ([g1]++H)) G w/\a_ w Sd (sl ar ns ct) xq/\Sd.Nodup/\(∀k∈Sd,k∈H∨G.z<=k)/\inI xb/\inI xc/\Blk w g1 [sl A0 N0 C0,vI xb,vI xc]) ?_ ?_
  .refine Wc z (λW=>?_)<|λW=>?_
   .refine Wg<|RM z z<|Rm z<|R z (lnR k_ z<|or_ kO<|zin (B:=B) (i:=w0.z) sQ<|a_.lt hi)<|R z (add_ z z) ?_;obtain ⟨_,b2,b3,b4,ax⟩:=i_<|ifT a6 W;refine E z (fc call28 z<|a_P (B:=B) b4 hj kM sQ kR h5 h6<|iA _ _) ?_;rintro _ _ ⟨_,rfl,_,b5,b6,b7⟩;refine bdB ax λb8 b9 ay=>RX z (u_D k_ z_5 z kO z b9) ?_;rintro _ ⟨ba,rfl,bb⟩;exact Ra z<|Wl (λ_ q=>⟨b8,b2,b3,som ay,a2,ba,I,H,kaA q,kW,bb,h4,sQ,b5,b6,b7⟩)
   refine Ws<|Rq z z z<|Rw z<|bdB (ifF a6 W) λbc a7 az=>Wt (λa w=>∃(xu:Bt)(xe:Int)(xf:Int),(xu,xe,xf)=bc/\∃av nw cx Sg,Sat 44 [(5,sl av nw cx)] a/\Chg (· ∈ ([g1]++H)) G w/\a_ w Sg (sl av nw cx) xu/\Sg.Nodup/\(∀k∈Sg,k∈H∨G.z<=k)/\inI xe/\inI xf/\Blk w g1 [sl A0 N0 C0,vI xe,vI xf]) ?_ ?_
   .refine Wc z (λY=>?_)<|λY=>?_
    .refine Wg<|RM z z<|EvA z (fS [(.const<|.int .i64 0),.const<|.int .i64 1,.const<|.int .i64 128,(.const<|.int .i64 255)] b_e z z z (G_ z) (lb z)<|lb z) λa0 ad=>?_;have:=ad.below;have ae:Blk a0 G.z [vI 0,vI 1,vI 128,vI 255]:=ad.blk;have a3:a_ a0 [G.z] (sl (some ⟨G.z,0,none⟩) 4 4) ([0,1,128,255]:List Int):=f_K (l:=[0,1,128,255]) ae (ac0 (ii z)<|ac0 (ii z)<|ac0 (ii z)<|ac0 (ii z) an0) z;obtain ⟨be,bf,bg,bh,aA⟩:=i_<|ifT a7 Y;refine E z (fc call54 z<|f_Q (B:=zn B G.z a0.z) bh kB (b_1 kM lr) sQ (repS.mono kR a_I) h5 h6<|or_ a3<|zin (B:=B) (i:=G.z) sQ<|a_.lt a3) ?_;rintro _ bi ⟨_,rfl,_,bj,bk,_⟩;refine R z (d_K d_3 d_5 z)<|EvA z (fS [(.tmp 40)] Y_ z z z (G_ z) (lb z)<|lb z) λbm a1=>have:=a1.below;have af:Blk bm bi.z [(vU<|byteI<|mkB be)]:=a1.blk;have:=a_a a1 b_3;bdB aA λbn bo aB=>E z (a_o (α:=UInt8) Y_ bo z z kO h4 af b_3 an_ q_) ?_;rintro _ _ ⟨bp,bq,br,bs,rfl,_,bt,bu,_⟩;exact Ra z<|Wl (λ_ q=>⟨bn,bf,bg,som aB,bq,br,bs,bp,kaA q,kW,bt,bu,sQ,bj,bk,kB⟩)
    exact M_<|λ_ q=>⟨a8,a9,aa,som<|ifF a7 Y,a2,nh,I,H,kaA q,cr ([g1]++H) G,kO,h4,sQ,h5,h6,hj⟩
   rintro bv _ ⟨xu,xe,xf,rfl,av,nw,cx,Sg,_,_,bw,bx,_,bz,bA,bB⟩;revert bv;exact λ_ q=>⟨xu,xe,xf,som<|a_h az,av,nw,cx,Sg,kaA q,kW,bw,bx,sQ,bz,bA,bB⟩
  rintro bC _ ⟨xq,xb,xc,rfl,ar,ns,ct,Sd,_,_,bD,bE,_,bF,bG,bH⟩;revert bC;exact λ_ q=>⟨xq,xb,xc,som<|a_h aw,ar,ns,ct,Sd,kaA q,kW,bD,bE,sQ,bF,bG,bH⟩
 rintro bI _ ⟨xy,xk,xl,rfl,am,nn,co,J,_,_,bJ,bK,_,bL,bM,bN⟩;revert bI;exact Wo<|Wm z<|Rw z<|Wr<|rS1 (a_h al) hr z ⟨kW,am,nn,co,J,z,bJ,bL,bM,bN,bK,sQ⟩
theorem W_w2h {x1:m_}{g1:Nat}{res:c_×Int×Int}(hm:g_D n x1=some res)(hB1:Blk w0 g1 [sl A0 N0 C0,vI x1.i,vI x1.h])(ip:B<=w0.z)(hBg:¬B g1)(i7:rp w0 B A0 N0 C0 x1.b)(cS:inI x1.i)(cT:inI x1.h):f_ prog 27 [pt g1] w0 (Q8 w0 g1 B A0 N0 C0 x1 res):=by
 unfold g_D at hm;refine goG func27 z z z λfn hr=>Ws<|EvZ [sN] z e_j z λiq _ _=>Wn<|Wm z ?_;obtain ⟨rm,_,_,f0,cU⟩:=i_ hm;refine E z (fc call22 z<|W_w1e (B:=B) f0 kB kM sQ kR cS cT) ?_;rintro _ O ⟨_,G,J,L,I,rfl,hd,f1,f2,_,hc,ax⟩;refine EvZ [sN] z e_j z λir _ a1=>E0q [sl G J L] j_ z z a1 z λi8 f3 _=>Wn<|Wm z<|Rf z H_ z<|R z (l0 I_ z<|f3.at z)<|R z (lnR J_ z<|or_ kO<|zin (B:=B) ax<|a_.lt hd) ?_;obtain ⟨ay,_,_,f4,cV⟩:=i_ cU;refine E z (fc call28 z<|a_P (B:=B) f4 kB kM sQ kR f1 f2<|a_S<|repS.len<|or_ kO<|zin (B:=B) ax<|a_.lt hd) ?_;rintro _ _ ⟨_,rfl,_,f5,f6,f7⟩;refine Rw z<|Wq<|Wm z ?_;obtain ⟨_,bv,bw,f8,cW⟩:=i_ cV;refine E z (fc call28 z<|a_P (B:=B) f8 f7 kM sQ kR f5 f6<|ii z) ?_;rintro _ H ⟨_,rfl,_,ha,hb,f9⟩;refine Wn<|Wb<|Ws<|Rq z z z<|Rw z<|bdB cW λfa bc be=>Wt (λa w=>∃(az:Int)(aA:Int)(aV:List b_),Sum.inl (az,aA,aV)=fa/\∃(Sq:List Nat),Sat 140 [(2,pt w0.z),(3,pt O.z)] a/\Chg (· ∈ ([g1]++I)) H w/\inI az/\inI aA/\a_ w Sq (sl G J L) aV/\Sq.Nodup/\(∀k∈Sq,k∈I∨H.z<=k)/\Blk w g1 [sl A0 N0 C0,vI az,vI aA]/\Blk w O.z [sl G J L]) ?_ ?_
 .refine Wc z (λaM=>?_)<|λaM=>?_
  .refine Wd (X:=λk=>k∈[g1]∨H.z<=k) 8192 (pl_ 14 [9,10,13]) mo (by kernel_rfl) λwr i9 _=>dR z z (fd H_ z)<|dR z z (l1 I_ z (a_H sQ<|Nat.lt_of_lt_of_le a1.lt kM) kBa)<|dM z z z<|dM z z z<|dR z z (fd H_ z)<|dR z z (l1 I_ z (a_H sQ<|Nat.lt_of_lt_of_le a1.lt kM) kBa)<|bdB (ifT bc aM) λaW fb cX=>dxA (α:=b_) z z J_ h_ z z z (or_ kO<|zin (B:=B) ax<|a_.lt hd) fb λ_ _ _ fe ff bx=>?_;obtain ⟨_,_,_,_,_,_,_,_,_,_,_,_,rfl,fg,_,_,_,_,_,_⟩:=a_x ff;refine dR z z (fd e_Y z)<|dR z z (l1 g_9 z (a_H (sQB bx)<|zap (b_1 kM kM) bx)<|fe.at (j:=0) z)<|dE z z (fS [(.const<|Str.v ⟨[]⟩),.const<|Str.v ⟨[65]⟩,.tmp 24,(.const<|Str.v ⟨[118,101,114,121,108,111,110,103,110,97,109,101,105,110,100,101,101,100]⟩)] Q_ z z z (G_ z) (lb z)<|lb z) (.inr λ_ _ h=>b_b<|h.2.below) ?_;rintro _ aX ⟨rfl,bz⟩;have:=bz.below;have c6:Blk aX wr.z [(Str.v (⟨[]⟩:Str)),Str.v (⟨[65]⟩:Str),Str.v aW.name,(Str.v (⟨[118,101,114,121,108,111,110,103,110,97,109,101,105,110,100,101,101,100]⟩:Str))]:=bz.blk;have b7:a_ aX [wr.z] (sl (some ⟨wr.z,0,none⟩) 4 4) ([(⟨[]⟩:Str),(⟨[65]⟩:Str),aW.name,(⟨[118,101,114,121,108,111,110,103,110,97,109,101,105,110,100,101,101,100]⟩:Str)]:List Str):=e_c (l:=[(⟨[]⟩:Str),(⟨[65]⟩:Str),aW.name,(⟨[118,101,114,121,108,111,110,103,110,97,109,101,105,110,100,101,101,100]⟩:Str)]) c6 (ac0 (lb z)<|ac0 (lb z)<|ac0 fg<|ac0 (lb z) an0) z;obtain ⟨fh,fi,fj,fk,cY⟩:=i_ cX;refine dE z z (fc call12 z<|e_Z (B:=zn B wr.z aX.z) fk kB (b_1 kM lr) sQ (repS.mono kR a_I) ha hb<|or_ b7<|zin (B:=B) (i:=wr.z) sQ<|a_.lt b7) (.inr λ_ _ h=>c_v h.1) ?_;rintro _ _ ⟨_,rfl,fl,fm,fo,_⟩;refine bdB cY λxh bA cZ=>dRX z z (e_d (α:=b_) J_ h_ z z kO bA) ?_;rintro _ ⟨_,fp,rfl⟩;refine dR z z (fd e_Y z)<|bdB cZ λfq fr d0=>dE0 z (h_T (α:=b_) (v':=(⟨fh,xh.kind,xh.size,xh.little,xh.bytes,xh.names,xh.tags,xh.kids⟩:b_)) z_9 z fp z z z z bA fr kO hc (lb z)<|λ_ _ _ h=>q_p h fl) (.inl z) ?_;rintro _ _ ⟨fs,_,ft,fu,_⟩;exact pD<|λ_ q=>⟨fi,fj,fq,som d0,fs,kaA q,kW,fm,fo,ft,fu,sQ,kB,kB⟩
  refine Ws<|Rq z z z<|Rw z<|bdB (ifF bc aM) λfv bf bg=>Wt (λa w=>∃(xs:Int)(xt:Int)(aB:List b_),Sum.inl (xs,xt,aB)=fv/\∃(Su:List Nat),Sat 140 [(2,pt w0.z),(3,pt O.z)] a/\Chg (· ∈ ([g1]++I)) H w/\inI xs/\inI xt/\a_ w Su (sl G J L) aB/\Su.Nodup/\(∀k∈Su,k∈I∨H.z<=k)/\Blk w g1 [sl A0 N0 C0,vI xs,vI xt]/\Blk w O.z [sl G J L]) ?_ ?_
  .refine Wc z (λaN=>?_)<|λaN=>?_
   .refine Wd (X:=λk=>k∈[g1]∨H.z<=k) 256 (pl_ 9 [4,8]) mo (by kernel_rfl) λia ib _=>dR z z (fd H_ z)<|dR z z (l1 I_ z (a_H sQ<|Nat.lt_of_lt_of_le a1.lt kM) kBa)<|dM z z z<|dM z z z ?_;obtain ⟨fw,fx,fy,fz,d1⟩:=i_<|ifT bf aN;refine dE z z (fc call28 z<|a_P (B:=B) fz kB kM sQ kR ha hb<|ii z) (.inr λ_ _ h=>c_v h.1) ?_;rintro _ _ ⟨_,rfl,_,fA,fB,_⟩;refine dR z z (sb_ z z)<|bdB d1 λxi bB d2=>dRX z z (e_d (α:=b_) J_ h_ z z kO bB) ?_;rintro _ ⟨_,fC,rfl⟩;refine dR z z (fd a_l z)<|bdB d2 λfD fE d3=>dE0 z (h_T (α:=b_) (v':=(⟨xi.name,y_ fw 1,xi.size,xi.little,xi.bytes,xi.names,xi.tags,xi.kids⟩:b_)) z_3 z fC z z z z bB fE kO hc (lb z) (λ_ _ _ h=>q_q h<|iS _ _)) (.inl z) ?_;rintro _ _ ⟨fF,_,fG,fH,_⟩;exact pD<|λ_ q=>⟨fx,fy,fD,som d3,fF,kaA q,kW,fA,fB,fG,fH,sQ,kB,kB⟩
   refine Ws<|Rq z z z<|Rw z<|bdB (ifF bf aN) λfI bh bi=>Wt (λa w=>∃(xv:Int)(xw:Int)(aC:List b_),Sum.inl (xv,xw,aC)=fI/\∃(Sx:List Nat),Sat 140 [(2,pt w0.z),(3,pt O.z)] a/\Chg (· ∈ ([g1]++I)) H w/\inI xv/\inI xw/\a_ w Sx (sl G J L) aC/\Sx.Nodup/\(∀k∈Sx,k∈I∨H.z<=k)/\Blk w g1 [sl A0 N0 C0,vI xv,vI xw]/\Blk w O.z [sl G J L]) ?_ ?_
   .refine Wc z (λaO=>?_)<|λaO=>?_
    .refine Wd (X:=λk=>k∈[g1]∨H.z<=k) 256 (pl_ 9 [4,5,8]) mo (by kernel_rfl) λwy ic _=>dR z z (fd H_ z)<|dR z z (l1 I_ z (a_H sQ<|Nat.lt_of_lt_of_le a1.lt kM) kBa)<|dM z z z<|dM z z z<|dE z z (fS [(.const<|.int .i64 (-1)),.const<|.int .i64 0,.const<|.int .i64 1,.const<|.int .i64 4,.const<|.int .i64 5,.const<|.int .i64 64,(.const<|.int .i64 65)] b_e z z z (G_ z) (lb z)<|lb z) (.inr λ_ _ h=>b_b<|h.2.below) ?_;rintro _ aY ⟨rfl,bC⟩;have:=bC.below;have c7:Blk aY wy.z [vI (-1),vI 0,vI 1,vI 4,vI 5,vI 64,vI 65]:=bC.blk;have b8:a_ aY [wy.z] (sl (some ⟨wy.z,0,none⟩) 7 7) ([(-1),0,1,4,5,64,65]:List Int):=f_K (l:=[(-1),0,1,4,5,64,65]) c7 (ac0 (ii z)<|ac0 (ii z)<|ac0 (ii z)<|ac0 (ii z)<|ac0 (ii z)<|ac0 (ii z)<|ac0 (ii z) an0) z;obtain ⟨fJ,fK,fL,fM,d4⟩:=i_<|ifT bh aO;refine dE z z (fc call54 z<|f_Q (B:=zn B wy.z aY.z) fM kB (b_1 kM lr) sQ (repS.mono kR a_I) ha hb<|or_ b8<|zin (B:=B) (i:=wy.z) sQ<|a_.lt b8) (.inr λ_ _ h=>c_v h.1) ?_;rintro _ _ ⟨_,rfl,fN,fO,fP,_⟩;refine bdB d4 λxj bD d5=>dRX z z (e_d (α:=b_) J_ h_ z z kO bD) ?_;rintro _ ⟨_,fQ,rfl⟩;refine dR z z (fd a_B z)<|bdB d5 λfR fT d6=>dE0 z (h_T (α:=b_) (v':=(⟨xj.name,xj.kind,fJ,xj.little,xj.bytes,xj.names,xj.tags,xj.kids⟩:b_)) z_3 z fQ z z z z bD fT kO hc (lb z)<|λ_ _ _ h=>q_r h fN) (.inl z) ?_;rintro _ _ ⟨fU,_,fV,fW,_⟩;exact pD<|λ_ q=>⟨fK,fL,fR,som d6,fU,kaA q,kW,fO,fP,fV,fW,sQ,kB,kB⟩
    refine Ws<|Rq z z z<|Rw z<|bdB (ifF bh aO) λfX bj bk=>Wt (λa w=>∃(xz:Int)(a2:Int)(aD:List b_),Sum.inl (xz,a2,aD)=fX/\∃(a3:List Nat),Sat 140 [(2,pt w0.z),(3,pt O.z)] a/\Chg (· ∈ (I++[g1])) H w/\inI xz/\inI a2/\a_ w a3 (sl G J L) aD/\a3.Nodup/\(∀k∈a3,k∈I∨H.z<=k)/\Blk w g1 [sl A0 N0 C0,vI xz,vI a2]/\Blk w O.z [sl G J L]) ?_ ?_
    .refine Wc z (λaP=>?_)<|λaP=>?_
     .refine Wd (X:=noX) 4096 (pl_ 13 [12]) mo (by kernel_rfl) λid ie _=>dR z z (fd H_ z)<|dR z z (l0 I_ z kBa)<|dM z z z<|dR z z (fd H_ z)<|dR z z (l0 I_ z kBa)<|dM z z z<|bdB (ifT bj aP) λfY fZ d7=>dxA (α:=b_) z z J_ h_ z z z (or_ kO<|zin (B:=B) ax<|a_.lt hd) fZ λ_ _ _ g0 g2 _=>?_;obtain ⟨_,_,_,_,_,_,_,_,_,_,_,_,rfl,_,_,_,_,_,_,_⟩:=a_x g2;refine dR z z (fd d_0 z)<|dR z z (l0 g_4 z<|g0.at (j:=3) z)<|dR z z (not_ z)<|bdB d7 λxk bE d8=>dRX z z (e_d (α:=b_) J_ h_ z z kO bE) ?_;rintro _ ⟨_,g3,rfl⟩;refine dR z z (fd d_0 z)<|bdB d8 λg4 g5 d9=>dE0 z (h_T (α:=b_) (v':=(⟨xk.name,xk.kind,xk.size,!fY.little,xk.bytes,xk.names,xk.tags,xk.kids⟩:b_)) z_4 z g3 z z z z bE g5 kO hc (lb z)<|λ_ _ _ h=>q_s h) (.inl z) ?_;rintro _ _ ⟨g6,_,g7,g8,_⟩;exact pD<|λ_ q=>⟨bv,bw,g4,som d9,g6,kaA q,kW,ha,hb,g7,g8,sQ,kB,kB⟩
     refine Ws<|Rq z z z<|Rw z<|bdB (ifF bj aP) λg9 bm bn=>Wt (λa w=>∃(a4:Int)(a5:Int)(aE:List b_),Sum.inl (a4,a5,aE)=g9/\∃(a6:List Nat),Sat 140 [(2,pt w0.z),(3,pt O.z)] a/\Chg (· ∈ ([g1]++I)) H w/\inI a4/\inI a5/\a_ w a6 (sl G J L) aE/\a6.Nodup/\(∀k∈a6,k∈I∨H.z<=k)/\Blk w g1 [sl A0 N0 C0,vI a4,vI a5]/\Blk w O.z [sl G J L]) ?_ ?_
     .refine Wc z (λaQ=>?_)<|λaQ=>?_
      .refine bdB (ifT bm aQ) λga da db=>Wt (λa w=>∃(a7:Int)(a8:Int)(aF:List b_),(a7,a8,aF)=ga/\∃(a9:List Nat),Sat 140 [(2,pt w0.z),(3,pt O.z)] a/\Chg (· ∈ ([g1]++I)) H w/\inI a7/\inI a8/\a_ w a9 (sl G J L) aF/\a9.Nodup/\(∀k∈a9,k∈I∨H.z<=k)/\Blk w g1 [sl A0 N0 C0,vI a7,vI a8]/\Blk w O.z [sl G J L]) ?_ ?_
       .refine Wd (X:=Hx ([g1]++I) G H.z) 65536 (pl_ 17 [10,12,13,16]) mo (by kernel_rfl) λaZ ig _=>dR z z (fd H_ z)<|dR z z (l1 I_ z (e_V sQ<|Nat.lt_of_lt_of_le a1.lt kM) kBa)<|dM z z z<|dR z z (fd H_ z)<|dR z z (l1 I_ z (e_V sQ<|Nat.lt_of_lt_of_le a1.lt kM) kBa)<|dM z z z<|bdB da λx6 bF dc=>dRX z z (e_d (α:=b_) J_ h_ z z kO bF) ?_;rintro _ ⟨_,gb,rfl⟩;obtain ⟨_,_,gc,ge,gf,gg,gh,hl⟩:=j_H (w:=aZ) gb kO hc bF;obtain ⟨_,_,_,_,_,_,_,_,_,_,_,_,bG,bH,bI,gi,rfl,rfl,gj,gk,gl,_,_,_,_⟩:=e_N ge;obtain ⟨c8,c9,ca,cb,_,_,_,_,_,_,_,_,_,_⟩:=g_F gf<|io (m:=aZ.z) gg;refine dR z z (fd E_ z)<|dR z z (l1 v_ z (hxr hl.eao<|Nat.lt_of_lt_of_le ((a_.lt hd) _ gh) kM)<|gc.at (j:=7) z)<|dM z z z ?_;obtain ⟨gm,gn,gp,gq,dd⟩:=i_ dc;refine dE z z (fc call28 z<|a_P (B:=B) gq kB kM sQ kR ha hb<|ii z) (.inr λ_ _ h=>h.1.mono λk _ hk=>(hxm hl.eao sQ<|sQN hl.gS) k hk) ?_;rintro _ gr ⟨_,rfl,_,gs,gt,_⟩;refine dR z z (sb_ z z)<|dE z z (fS [(.tmp 76)] b_e z z z (G_ z) (lb z)<|lb z) (.inr λ_ _ h=>b_b<|h.2.below) ?_;rintro _ gu ⟨rfl,b0⟩;have:=b0.below;have cc:Blk gu gr.z [vI (y_ gm 1)]:=b0.blk;have:=a_a b0<|b_m<|iS _ _;refine bdB dd λbJ gv de=>dE z z (a_o (α:=Int) b_e gv z z kO cb cc (b_m<|iS _ _) an_ q_) (.inr λ_ _ h=>by obtain ⟨_,_,_,_,_,h,_⟩:=h;exact h.mono λk _ hk=>(hxm hl.eao sQ (λh=>hl.gN<|List.mem_append_right _<|List.mem_append_right _<|List.mem_append_right _ h)) k hk) ?_;rintro _ gw ⟨gx,_,_,_,rfl,_,gy,gz,_⟩;refine dR z z (j_I J_ h_ z z hl)<|dR z z (fd E_ z)<|dE0 z (j_J (α:=b_) e_h z z z z z hl (show Chg (· ∈ (bG++(bH++(bI++(gi++[g1]))))) aZ gw from kW) (λk hk h=>(List.mem_append.1 h).elim (λh=>List.mem_append_left _ h) (λh=>(List.mem_append.1 h).elim (λh=>List.mem_append_right _<|List.mem_append_left _ h) (λh=>(List.mem_append.1 h).elim (λh=>List.mem_append_right _<|List.mem_append_right _<|List.mem_append_left _ h) (λh=>(List.mem_append.1 h).elim (λh=>List.mem_append_right _<|List.mem_append_right _<|List.mem_append_right _ h) (λh=>(λh=>absurd h<|sQN hk) h))))) (d_H (x:=(⟨x6.name,x6.kind,x6.size,x6.little,x6.bytes,x6.names,x6.tags,bJ⟩:b_)) (S1:=bG) (S2:=bH) (S3:=bI) (S4:=gx) gj gk gl kO kO kO gy) (na_ c8 (na_ c9 (na_ ca gz sQ) sQ) sQ) sQ<|lb z) (.inl z) ?_;rintro _ _ ⟨gA,_,gB,gC,_⟩;exact pD<|λ_ q=>⟨gn,gp,rm.rules.set (ay).toNat (⟨x6.name,x6.kind,x6.size,x6.little,x6.bytes,x6.names,x6.tags,bJ⟩:b_),som de,gA,kaA q,kW,gs,gt,gB,gC,sQ,kB,kB⟩
       rintro gD _ ⟨a7,a8,aF,rfl,a9,_,_,gE,gF,gG,gH,_,gI,gJ⟩;revert gD;exact λ_ q=>⟨a7,a8,aF,som<|a_h db,a9,kaA q,kW,gE,gF,gG,gH,sQ,gI,gJ⟩
      refine Ws<|Rq z z z<|Rw z<|bdB (ifF bm aQ) λgK bo bp=>Wt (λa w=>∃(aa:Int)(ab:Int)(aG:List b_),Sum.inl (aa,ab,aG)=gK/\∃(ad:List Nat),Sat 140 [(2,pt w0.z),(3,pt O.z)] a/\Chg (· ∈ ([g1]++I)) H w/\inI aa/\inI ab/\a_ w ad (sl G J L) aG/\ad.Nodup/\(∀k∈ad,k∈I∨H.z<=k)/\Blk w g1 [sl A0 N0 C0,vI aa,vI ab]/\Blk w O.z [sl G J L]) ?_ ?_
      .refine Wc z (λaR=>?_)<|λaR=>?_
       .refine bdB (ifT bo aR) λgL df dg=>Wt (λa w=>∃(ae:Int)(af:Int)(aH:List b_),(ae,af,aH)=gL/\∃(ah:List Nat),Sat 140 [(2,pt w0.z),(3,pt O.z)] a/\Chg (· ∈ ([g1]++I)) H w/\inI ae/\inI af/\a_ w ah (sl G J L) aH/\ah.Nodup/\(∀k∈ah,k∈I∨H.z<=k)/\Blk w g1 [sl A0 N0 C0,vI ae,vI af]/\Blk w O.z [sl G J L]) ?_ ?_
        .refine Wd (X:=Hx ([g1]++I) G H.z) 131072 (pl_ 18 [10,11,13,14,17]) mo (by kernel_rfl) λwe ih _=>dR z z (fd H_ z)<|dR z z (l1 I_ z (e_V sQ<|Nat.lt_of_lt_of_le a1.lt kM) kBa)<|dM z z z<|dR z z (fd H_ z)<|dR z z (l1 I_ z (e_V sQ<|Nat.lt_of_lt_of_le a1.lt kM) kBa)<|dM z z z<|bdB df λV bK dh=>dRX z z (e_d (α:=b_) J_ h_ z z kO bK) ?_;rintro _ ⟨_,gM,rfl⟩;obtain ⟨_,_,gO,gP,gQ,gR,gT,hn⟩:=j_H (w:=we) gM kO hc bK;obtain ⟨_,_,_,_,_,_,_,_,_,_,_,_,gU,bL,bM,bN,rfl,rfl,gV,gW,gX,_,_,_,_⟩:=e_N gP;obtain ⟨cd,ce,cf,cg,_,_,_,_,_,_,_,_,_,_⟩:=g_F gQ<|io (m:=we.z) gR;refine dR z z (fd b_2 z)<|dR z z (l1 K_ z (hxr hn.eao<|Nat.lt_of_lt_of_le ((a_.lt hd) _ gT) kM)<|gO.at (j:=4) z)<|dM z z z<|dE z z (fS [(.const<|.int .i64 0),(.const<|.int .i64 92)] b_e z z z (G_ z) (lb z)<|lb z) (.inr λ_ _ h=>b_b<|h.2.below) ?_;rintro _ b1 ⟨rfl,bO⟩;have:=bO.below;have ch:Blk b1 we.z [vI 0,vI 92]:=bO.blk;have b9:a_ b1 [we.z] (sl (some ⟨we.z,0,none⟩) 2 2) ([0,92]:List Int):=f_K (l:=[0,92]) ch (ac0 (ii z)<|ac0 (ii z) an0) z;obtain ⟨gY,gZ,h0,h1,di⟩:=i_ dh;refine dE z z (fc call54 z<|f_Q (B:=zn B we.z b1.z) h1 kB (b_1 kM lr) sQ (repS.mono kR a_I) ha hb<|or_ b9<|zin (B:=B) (i:=we.z) sQ<|a_.lt b9) (.inr λ_ _ h=>h.1.mono λk _ hk=>(hxm hn.eao sQ<|sQN hn.gS) k hk) ?_;rintro _ h2 ⟨_,rfl,_,h3,h4,_⟩;refine dR z z (d_K d_3 d_5 z)<|dE z z (fS [(.tmp 95)] Y_ z z z (G_ z) (lb z)<|lb z) (.inr λ_ _ h=>b_b<|h.2.below) ?_;rintro _ h5 ⟨rfl,b2⟩;have:=b2.below;have ci:Blk h5 h2.z [(vU<|byteI<|mkB gY)]:=b2.blk;have:=a_a b2 b_3;refine bdB di λbP h6 dj=>dE z z (a_o (α:=UInt8) Y_ h6 z z kO cd ci b_3 an_ q_) (.inr λ_ _ h=>by obtain ⟨_,_,_,_,_,h,_⟩:=h;exact h.mono λk _ hk=>(hxm hn.eao sQ (λh=>hn.gN<|List.mem_append_left _ h)) k hk) ?_;rintro _ h7 ⟨h8,_,_,_,rfl,_,h9,he,_⟩;refine dR z z (j_I J_ h_ z z hn)<|dR z z (fd b_2 z)<|dE0 z (j_J (α:=b_) z_22 z z z z z hn (show Chg (· ∈ (gU++(bL++(bM++(bN++[g1]))))) we h7 from kW) (λk hk h=>(List.mem_append.1 h).elim (λh=>List.mem_append_left _ h) (λh=>(List.mem_append.1 h).elim (λh=>List.mem_append_right _<|List.mem_append_left _ h) (λh=>(List.mem_append.1 h).elim (λh=>List.mem_append_right _<|List.mem_append_right _<|List.mem_append_left _ h) (λh=>(List.mem_append.1 h).elim (λh=>List.mem_append_right _<|List.mem_append_right _<|List.mem_append_right _ h) (λh=>(λh=>absurd h<|sQN hk) h))))) (d_H (x:=(⟨V.name,V.kind,V.size,V.little,bP,V.names,V.tags,V.kids⟩:b_)) (S1:=h8) (S2:=bL) (S3:=bM) (S4:=bN) gV gW gX h9 kO kO kO) (na_ he (na_ ce (na_ cf cg sQ) sQ) sQ) sQ<|lb z) (.inl z) ?_;rintro _ _ ⟨hf,_,hg,hh,_⟩;exact pD<|λ_ q=>⟨gZ,h0,rm.rules.set (ay).toNat (⟨V.name,V.kind,V.size,V.little,bP,V.names,V.tags,V.kids⟩:b_),som dj,hf,kaA q,kW,h3,h4,hg,hh,sQ,kB,kB⟩
        rintro hi _ ⟨ae,af,aH,rfl,ah,_,_,hj,hq,ht,hu,_,hv,hw⟩;revert hi;exact λ_ q=>⟨ae,af,aH,som<|a_h dg,ah,kaA q,kW,hj,hq,ht,hu,sQ,hv,hw⟩
       refine Ws<|Rq z z z<|Rw z<|bdB (ifF bo aR) λhx bq br=>Wt (λa w=>∃(ai:Int)(aj:Int)(aI:List b_),Sum.inl (ai,aj,aI)=hx/\∃(ak:List Nat),Sat 140 [(2,pt w0.z),(3,pt O.z)] a/\Chg (· ∈ ([g1]++I)) H w/\inI ai/\inI aj/\a_ w ak (sl G J L) aI/\ak.Nodup/\(∀k∈ak,k∈I∨H.z<=k)/\Blk w g1 [sl A0 N0 C0,vI ai,vI aj]/\Blk w O.z [sl G J L]) ?_ ?_
       .refine Wc z (λaS=>?_)<|λaS=>?_
        .refine bdB (ifT bq aS) λhy dk dl=>Wt (λa w=>∃(al:Int)(am:Int)(aJ:List b_),(al,am,aJ)=hy/\∃(an:List Nat),Sat 140 [(2,pt w0.z),(3,pt O.z)] a/\Chg (· ∈ ([g1]++I)) H w/\inI al/\inI am/\a_ w an (sl G J L) aJ/\an.Nodup/\(∀k∈an,k∈I∨H.z<=k)/\Blk w g1 [sl A0 N0 C0,vI al,vI am]/\Blk w O.z [sl G J L]) ?_ ?_
         .refine Wd (X:=Hx ([g1]++I) G H.z) 65536 (pl_ 17 [10,11,12,13,16]) mo (by kernel_rfl) λwf ij _=>dR z z (fd H_ z)<|dR z z (l1 I_ z (e_V sQ<|Nat.lt_of_lt_of_le a1.lt kM) kBa)<|dM z z z<|dR z z (fd H_ z)<|dR z z (l1 I_ z (e_V sQ<|Nat.lt_of_lt_of_le a1.lt kM) kBa)<|dM z z z<|bdB dk λW bR dm=>dRX z z (e_d (α:=b_) J_ h_ z z kO bR) ?_;rintro _ ⟨_,hz,rfl⟩;obtain ⟨_,_,hA,hB,hC,hD,hE,ho⟩:=j_H (w:=wf) hz kO hc bR;obtain ⟨_,_,_,_,_,_,_,_,_,_,_,_,bS,hF,bT,bU,rfl,rfl,hG,hH,hI,_,_,_,_⟩:=e_N hB;obtain ⟨cj,ck,cl,cm,_,_,_,_,_,_,_,_,_,_⟩:=g_F hC<|io (m:=wf.z) hD;refine dR z z (fd c_2 z)<|dR z z (l1 a_J z (hxr ho.eao<|Nat.lt_of_lt_of_le ((a_.lt hd) _ hE) kM)<|hA.at (j:=5) z)<|dM z z z<|dE z z (fS [(.const<|Str.v ⟨[112,49]⟩),.const<|Str.v ⟨[81]⟩,(.const<|Str.v ⟨[122]⟩)] Q_ z z z (G_ z) (lb z)<|lb z) (.inr λ_ _ h=>b_b<|h.2.below) ?_;rintro _ b3 ⟨rfl,bV⟩;have:=bV.below;have cn:Blk b3 wf.z [(Str.v (⟨[112,49]⟩:Str)),Str.v (⟨[81]⟩:Str),(Str.v (⟨[122]⟩:Str))]:=bV.blk;have ba:a_ b3 [wf.z] (sl (some ⟨wf.z,0,none⟩) 3 3) ([(⟨[112,49]⟩:Str),(⟨[81]⟩:Str),(⟨[122]⟩:Str)]:List Str):=e_c (l:=[(⟨[112,49]⟩:Str),(⟨[81]⟩:Str),(⟨[122]⟩:Str)]) cn (ac0 (lb z)<|ac0 (lb z)<|ac0 (lb z) an0) z;obtain ⟨hJ,hK,hL,hM,dn⟩:=i_ dm;refine dE z z (fc call12 z<|e_Z (B:=zn B wf.z b3.z) hM kB (b_1 kM lr) sQ (repS.mono kR a_I) ha hb<|or_ ba<|zin (B:=B) (i:=wf.z) sQ<|a_.lt ba) (.inr λ_ _ h=>h.1.mono λk _ hk=>(hxm ho.eao sQ<|sQN ho.gS) k hk) ?_;rintro _ hN ⟨_,rfl,bW,hO,hP,_⟩;refine dE z z (fS [(.tmp 113)] Q_ z z z (G_ z) (lb z)<|lb z) (.inr λ_ _ h=>b_b<|h.2.below) ?_;rintro _ hQ ⟨rfl,b4⟩;have:=b4.below;have co:Blk hQ hN.z [Str.v hJ]:=b4.blk;have:=a_a b4<|a_T bW;refine bdB dn λbX hR dp=>dE z z (a_o (α:=Str) Q_ hR z z kO ck co (a_T bW) an_ q_) (.inr λ_ _ h=>by obtain ⟨_,_,_,_,_,h,_⟩:=h;exact h.mono λk _ hk=>(hxm ho.eao sQ (λh=>ho.gN<|List.mem_append_right _<|List.mem_append_left _ h)) k hk) ?_;rintro _ hS ⟨hT,_,_,_,rfl,_,hU,hV,_⟩;refine dR z z (j_I J_ h_ z z ho)<|dR z z (fd c_2 z)<|dE0 z (j_J (α:=b_) c_y z z z z z ho (show Chg (· ∈ (bS++(hF++(bT++(bU++[g1]))))) wf hS from kW) (λk hk h=>(List.mem_append.1 h).elim (λh=>List.mem_append_left _ h) (λh=>(List.mem_append.1 h).elim (λh=>List.mem_append_right _<|List.mem_append_left _ h) (λh=>(List.mem_append.1 h).elim (λh=>List.mem_append_right _<|List.mem_append_right _<|List.mem_append_left _ h) (λh=>(List.mem_append.1 h).elim (λh=>List.mem_append_right _<|List.mem_append_right _<|List.mem_append_right _ h) (λh=>(λh=>absurd h<|sQN hk) h))))) (d_H (x:=(⟨W.name,W.kind,W.size,W.little,W.bytes,bX,W.tags,W.kids⟩:b_)) (S1:=bS) (S2:=hT) (S3:=bT) (S4:=bU) hG hH hI kO hU kO kO) (na_ cj (na_ hV (na_ cl cm sQ) sQ) sQ) sQ<|lb z) (.inl z) ?_;rintro _ _ ⟨hW,_,hX,hY,_⟩;exact pD<|λ_ q=>⟨hK,hL,rm.rules.set (ay).toNat (⟨W.name,W.kind,W.size,W.little,W.bytes,bX,W.tags,W.kids⟩:b_),som dp,hW,kaA q,kW,hO,hP,hX,hY,sQ,kB,kB⟩
         rintro hZ _ ⟨al,am,aJ,rfl,an,_,_,i0,i1,i2,i3,_,i4,i5⟩;revert hZ;exact λ_ q=>⟨al,am,aJ,som<|a_h dl,an,kaA q,kW,i0,i1,i2,i3,sQ,i4,i5⟩
        refine Ws<|Rq z z z<|Rw z<|bdB (ifF bq aS) λi6 bs bt=>Wt (λa w=>∃(ap:Int)(aq:Int)(aK:List b_),Sum.inl (ap,aq,aK)=i6/\∃(ar:List Nat),Sat 140 [(2,pt w0.z),(3,pt O.z)] a/\Chg (· ∈ ([g1]++I)) H w/\inI ap/\inI aq/\a_ w ar (sl G J L) aK/\ar.Nodup/\(∀k∈ar,k∈I∨H.z<=k)/\Blk w g1 [sl A0 N0 C0,vI ap,vI aq]/\Blk w O.z [sl G J L]) ?_ ?_
        .refine Wc z (λaT=>?_)<|λaT=>?_
         .refine bdB (ifT bs aT) λdq cx cy=>Wt (λa w=>∃(au:Int)(av:Int)(aL:List b_),(au,av,aL)=dq/\∃(aw:List Nat),Sat 140 [(2,pt w0.z),(3,pt O.z)] a/\Chg (· ∈ ([g1]++I)) H w/\inI au/\inI av/\a_ w aw (sl G J L) aL/\aw.Nodup/\(∀k∈aw,k∈I∨H.z<=k)/\Blk w g1 [sl A0 N0 C0,vI au,vI av]/\Blk w O.z [sl G J L]) ?_ ?_
          .refine Wd (X:=Hx ([g1]++I) G H.z) 65536 (pl_ 17 [10,11,12,13,16]) mo (by kernel_rfl) λwg ik _=>dR z z (fd H_ z)<|dR z z (l1 I_ z (e_V sQ<|Nat.lt_of_lt_of_le a1.lt kM) kBa)<|dM z z z<|dR z z (fd H_ z)<|dR z z (l1 I_ z (e_V sQ<|Nat.lt_of_lt_of_le a1.lt kM) kBa)<|dM z z z<|bdB cx λY bY cz=>dRX z z (e_d (α:=b_) J_ h_ z z kO bY) ?_;rintro _ ⟨_,dr,rfl⟩;obtain ⟨_,_,ds,dt,du,dv,dw,hp⟩:=j_H (w:=wg) dr kO hc bY;obtain ⟨_,_,_,_,_,_,_,_,_,_,_,_,bZ,c0,dx,c1,rfl,rfl,dy,dz,dA,_,_,_,_⟩:=e_N dt;obtain ⟨cp,cq,ct,cu,_,_,_,_,_,_,_,_,_,_⟩:=g_F du<|io (m:=wg.z) dv;refine dR z z (fd b_6 z)<|dR z z (l1 v_ z (hxr hp.eao<|Nat.lt_of_lt_of_le ((a_.lt hd) _ dw) kM)<|ds.at (j:=6) z)<|dM z z z<|dE z z (fS [(.const<|.int .i64 (-1)),.const<|.int .i64 0,.const<|.int .i64 5,.const<|.int .i64 256,(.const<|.int .i64 70000)] b_e z z z (G_ z) (lb z)<|lb z) (.inr λ_ _ h=>b_b<|h.2.below) ?_;rintro _ b5 ⟨rfl,c2⟩;have:=c2.below;have cv:Blk b5 wg.z [vI (-1),vI 0,vI 5,vI 256,vI 70000]:=c2.blk;have bb:a_ b5 [wg.z] (sl (some ⟨wg.z,0,none⟩) 5 5) ([(-1),0,5,256,70000]:List Int):=f_K (l:=[(-1),0,5,256,70000]) cv (ac0 (ii z)<|ac0 (ii z)<|ac0 (ii z)<|ac0 (ii z)<|ac0 (ii z) an0) z;obtain ⟨dB,dC,dD,dF,cA⟩:=i_ cz;refine dE z z (fc call54 z<|f_Q (B:=zn B wg.z b5.z) dF kB (b_1 kM lr) sQ (repS.mono kR a_I) ha hb<|or_ bb<|zin (B:=B) (i:=wg.z) sQ<|a_.lt bb) (.inr λ_ _ h=>h.1.mono λk _ hk=>(hxm hp.eao sQ<|sQN hp.gS) k hk) ?_;rintro _ dG ⟨_,rfl,c4,dH,dI,_⟩;refine dE z z (fS [(.tmp 131)] b_e z z z (G_ z) (lb z)<|lb z) (.inr λ_ _ h=>b_b<|h.2.below) ?_;rintro _ dJ ⟨rfl,b6⟩;have:=b6.below;have cw:Blk dJ dG.z [vI dB]:=b6.blk;have:=a_a b6<|b_m c4;refine bdB cA λc5 dK cB=>dE z z (a_o (α:=Int) b_e dK z z kO ct cw (b_m c4) an_ q_) (.inr λ_ _ h=>by obtain ⟨_,_,_,_,_,h,_⟩:=h;exact h.mono λk _ hk=>(hxm hp.eao sQ (λh=>hp.gN<|List.mem_append_right _<|List.mem_append_right _<|List.mem_append_left _ h)) k hk) ?_;rintro _ dL ⟨dN,_,_,_,rfl,_,dO,dP,_⟩;refine dR z z (j_I J_ h_ z z hp)<|dR z z (fd b_6 z)<|dE0 z (j_J (α:=b_) e_h z z z z z hp (show Chg (· ∈ (bZ++(c0++(dx++(c1++[g1]))))) wg dL from kW) (λk hk h=>(List.mem_append.1 h).elim (λh=>List.mem_append_left _ h) (λh=>(List.mem_append.1 h).elim (λh=>List.mem_append_right _<|List.mem_append_left _ h) (λh=>(List.mem_append.1 h).elim (λh=>List.mem_append_right _<|List.mem_append_right _<|List.mem_append_left _ h) (λh=>(List.mem_append.1 h).elim (λh=>List.mem_append_right _<|List.mem_append_right _<|List.mem_append_right _ h) (λh=>(λh=>absurd h<|sQN hk) h))))) (d_H (x:=(⟨Y.name,Y.kind,Y.size,Y.little,Y.bytes,Y.names,c5,Y.kids⟩:b_)) (S1:=bZ) (S2:=c0) (S3:=dN) (S4:=c1) dy dz dA kO kO dO kO) (na_ cp (na_ cq (na_ dP cu sQ) sQ) sQ) sQ<|lb z) (.inl z) ?_;rintro _ _ ⟨dT,_,dU,dV,_⟩;exact pD<|λ_ q=>⟨dC,dD,rm.rules.set (ay).toNat (⟨Y.name,Y.kind,Y.size,Y.little,Y.bytes,Y.names,c5,Y.kids⟩:b_),som cB,dT,kaA q,kW,dH,dI,dU,dV,sQ,kB,kB⟩
          rintro dW _ ⟨au,av,aL,rfl,aw,_,_,dX,dY,dZ,e0,_,e1,e2⟩;revert dW;exact λ_ q=>⟨au,av,aL,som<|a_h cy,aw,kaA q,kW,dX,dY,dZ,e0,sQ,e1,e2⟩
         have bu:=ifF bs aT;refine Ws<|Rq z z z<|Rw z<|Wc z (λaU=>?_) (λaU=>?_)
         .refine Ws<|R z (bQ [] [sN] n_x z z)<|E0q [sN] j_ z z kB z λil e3 _=>Wn ?_;obtain rfl:=som<|ifT bu aU;have cC:=elR bt;obtain rfl:=som cC;have cD:=elR br;obtain rfl:=som cD;have cE:=elR bp;obtain rfl:=som cE;have cF:=elR bn;obtain rfl:=som cF;have cG:=elR bk;obtain rfl:=som cG;have cH:=elR bi;obtain rfl:=som cH;have cI:=elR bg;obtain rfl:=som cI;have cJ:=elR be;exact Wr<|rtO<|rS1 cJ hr (o_ l_ j_ z e3 z) ⟨kW,none,0,0,[],z,onL,ha,hb,kB,q_,an_⟩
         exact M_<|λ_ q=>⟨bv,bw,rm.rules,som<|ifF bu aU,I,kaA q,cr ([g1]++I) H,ha,hb,kO,hc,sQ,f9,kB⟩
        rintro e4 _ ⟨ap,aq,aK,rfl,ar,_,_,e5,e6,e7,e8,_,e9,ea⟩;have cK:=elL bt;revert e4;exact λ_ q=>⟨ap,aq,aK,som<|a_h cK,ar,kaA q,kW,e5,e6,e7,e8,sQ,e9,ea⟩
       rintro eb _ ⟨ai,aj,aI,rfl,ak,_,_,ec,ed,ee,ef,_,eg,eh⟩;have cL:=elL br;revert eb;exact λ_ q=>⟨ai,aj,aI,som<|a_h cL,ak,kaA q,kW,ec,ed,ee,ef,sQ,eg,eh⟩
      rintro ei _ ⟨aa,ab,aG,rfl,ad,_,_,ej,ek,em,en,_,eo,ep⟩;have cM:=elL bp;revert ei;exact λ_ q=>⟨aa,ab,aG,som<|a_h cM,ad,kaA q,kW,ej,ek,em,en,sQ,eo,ep⟩
     rintro er _ ⟨a4,a5,aE,rfl,a6,_,_,es,eu,ew,ex,_,ey,ez⟩;have cN:=elL bn;revert er;exact λ_ q=>⟨a4,a5,aE,som<|a_h cN,a6,kaA q,kW,es,eu,ew,ex,sQ,ey,ez⟩
    rintro eA _ ⟨xz,a2,aD,rfl,a3,_,_,eB,eC,eD,eE,_,eF,eG⟩;have cO:=elL bk;revert eA;exact λ_ q=>⟨xz,a2,aD,som<|a_h cO,a3,kaA q,kW,eB,eC,eD,eE,sQ,eF,eG⟩
   rintro eH _ ⟨xv,xw,aC,rfl,Sx,_,_,eI,eJ,eK,eL,_,eM,eN⟩;have cP:=elL bi;revert eH;exact λ_ q=>⟨xv,xw,aC,som<|a_h cP,Sx,kaA q,kW,eI,eJ,eK,eL,sQ,eM,eN⟩
  rintro eO _ ⟨xs,xt,aB,rfl,Su,_,_,eP,eQ,eR,eS,_,eT,eU⟩;have cQ:=elL bg;revert eO;exact λ_ q=>⟨xs,xt,aB,som<|a_h cQ,Su,kaA q,kW,eP,eQ,eR,eS,sQ,eT,eU⟩
 rintro eV _ ⟨az,aA,aV,rfl,Sq,_,_,eW,eX,_,eY,_,_,_⟩;have cR:=elL be;revert eV;exact Wo<|Ws<|R z (lC [sl G J L] l_ j_ z)<|E0q [sl G J L] j_ z z kB z λim eZ _=>Wn<|Wr<|rS1 (a_h cR) hr (o_ l_ j_ z eZ z) ⟨kW,G,J,L,Sq,z,kO,eW,eX,kB,eY,sQ⟩
def Q13 (w0:World)(B:Zone)(r:c_×Bt×Str)(v:Value)(w':World):Prop:=Bw w0 w'/\un3 (λr1 r2 r3=>∃G H I S1 a2 J L S2,v = .tuple #[(.agg #[.slice G H I]),sl a2 J L,Str.v r3]/\a_ w' S1 (sl G H I) r1.rules/\a_ w' S2 (sl a2 J L) r2/\r3.b.length<=LEN/\(S1++S2).Nodup/\(∀k∈(S1++S2),w0.z<=k)) r
theorem W_w2i {x1:Bt}{res:c_×Bt×Str}(hm:h_M n x1=some res)(cb:B<=w0.z)(c9:rp w0 B A0 N0 C0 x1):f_ prog 9 [sl A0 N0 C0] w0 (Q13 w0 B res):=by
 unfold h_M at hm;refine goG func9 z z z λfn hr=>Ws<|EvZ [sN] z e_j z λcc _ _=>Ra z<|Rw z<|Wm z<|bdB hm λ_ aX aK=>E z (fc call10 z<|W_w1c (B:=B) aX kM kR) ?_;rintro _ wo ⟨_,G,ap,nq,cs,rfl,aY,_,aZ,b0,b1⟩;refine Rw z<|Wm z ?_;obtain ⟨b2,_,_,b3,aL⟩:=i_ aK;refine E z (fc call22 z<|W_w1e (B:=B) b3 aY kM sQ aZ b0 b1) ?_;rintro _ I ⟨_,W,Y,ca,ad,rfl,hb,b4,b5,_,b6,hc⟩;refine EvZ [sN] z e_j z λcd _ aM=>E0q [sl W Y ca] j_ z z aM z λJ b7 _=>Wn<|Wm z<|R z (lC [sl W Y ca] l_ j_ z)<|Rf z H_ z<|R z (l0 I_ z<|b7.at z)<|R z (lnR J_ z<|or_ kO<|zin (B:=B) hc<|a_.lt hb)<|R z (sb_ z z) ?_;obtain ⟨r3,_,_,b8,aN⟩:=i_ aL;refine E z (fc call23 z<|W_w0h.run (B:=zn B wo.z I.z) b8 kB (b_1 kM kM) sQ (repS.mono kR a_I) b4 b5 (or_ kO<|zin (B:=B) hc<|a_.lt hb) (iS _ _)<|ii z) ?_;rintro _ wr ⟨_,au,nt,cv,_,aw,nx,cy,_,rfl,ae,ah,ai,b9,ba,_,bb,bc⟩;obtain ⟨_,_,_,_,_⟩:=U_ bb bc;refine EvZ [vI 0,sN,sN] z a_9 z λce _ aJ=>E0q [vI r3.number,sl au nt cv,sl aw nx cy] e_ z z aJ z λbe cf _=>Wn<|Ws<|R z (lC [sl W Y ca] l_ j_ z)<|Rf z H_ z<|R z (l0 I_ z kBa)<|R z (lnR J_ z<|or_ kO<|zin (B:=B) hc<|a_.lt hb)<|R z (sb_ z z)<|R z (lC [vI r3.number,sl au nt cv,sl aw nx cy] s_ e_ z)<|bdB aN λaj bf aO=>E z (fc call24 z<|W_w0i.run (B:=zn (zn B wo.z I.z) J.z wr.z) bf (b_1 (b_1 kM kM) kM) (repS.mono (or_ kO<|zin (B:=B) hc<|a_.lt hb)<|zns (zt a_I<|a_I)<|znD<|znI lr lr) (iS _ _) ae (repS.mono (or_ (kO (l:=r3.bytes))<|zin (B:=B) (i:=J.z) sQ<|a_.lt ah)<|zns (zt a_I<|a_I)<|znI lr lr)<|repS.mono (or_ (kO (l:=r3.items))<|zin (B:=B) (i:=J.z) sQ<|a_.lt ai)<|zns (zt a_I<|a_I)<|znI lr lr) ?_;rintro _ bg ⟨_,ak,al,am,an,rfl,aq,bh,ar⟩;refine Rw z<|Wm z<|R z (lC [sl W Y ca] l_ j_ z)<|R z (lC [vI r3.number,sl au nt cv,sl aw nx cy] s_ e_ z) ?_;obtain ⟨rz,bi,bj,bk,aP⟩:=i_ aO;refine E z (fc call25 z<|W_w2f (B:=zn (zn B wo.z I.z) J.z wr.z) bk kB (b_1 (b_1 kM kM) kM) sQ (repS.mono kR<|zt a_I<|a_I) b9 ba (repS.mono (or_ kO<|zin (B:=B) hc<|a_.lt hb)<|zns (zt a_I<|a_I)<|znD<|znI lr lr) ae (repS.mono (or_ (kO (l:=r3.bytes))<|zin (B:=B) (i:=J.z) sQ<|a_.lt ah)<|zns (zt a_I<|a_I)<|znI lr lr)<|repS.mono (or_ (kO (l:=r3.items))<|zin (B:=B) (i:=J.z) sQ<|a_.lt ai)<|zns (zt a_I<|a_I)<|znI lr lr) ?_;rintro _ av ⟨_,rfl,bm,ax,ay,az⟩;refine Rw z<|Wq<|Wq<|bdB aP λbn a9 aQ=>Wt (λa w=>∃(a2:Bool)(xd:Int)(xe:Int),(a2,xd,xe)=bn/\Sat 49 [(2,pt w0.z),(5,pt G),(6,pt I.z),(8,sl ak al am),(9,Str.v rz),(38,vB a2)] a/\Cg [G] av w/\inI xd/\inI xe/\Blk w G [sl ap nq cs,vI xd,vI xe]) ?_ ?_
 .refine Wg<|Rm z<|R z (lnR k_ z<|or_ kO<|zin (B:=B) ar<|a_.lt aq)<|R z (a_2 z z)<|Rm z ?_;rcases bs (decide<|0<(aj.length:Int)) with H | H
  .refine Rh z H (mv z) ?_;obtain ⟨bo,bp,bq,br,aR⟩:=i_<|ifT a9 H;refine Eg z z H z (fc call11 z<|f_P (B:=B) br az kM sQ kR ax ay<|ii z) ?_;rintro _ _ ⟨_,rfl,bt,bu,bv⟩;exact R z (pT z H z)<|Wl (λ_ q=>⟨bo,bp,bq,som aR,kaA q,kW,bt,bu,bv⟩)
  exact Nh z H<|Nh z H<|R z (pF z H z)<|Wl (λ_ q=>⟨false,bi,bj,som<|ifF a9 H,kaA q,cr [G] av,ax,ay,az⟩)
 rintro bw a3 ⟨a2,xd,xe,rfl,_,_,aA,aB,aC⟩;revert bw;refine Wo<|bdB (a_h aQ) λbx aa aS=>Wt (λa w=>∃(a4:Bt)(xk:Int)(xl:Int),(a4,xk,xl)=bx/\∃af ng ch Si,Sat 49 [(2,pt w0.z),(5,pt G),(6,pt I.z),(8,sl af ng ch),(9,Str.v rz)] a/\Cg [G] a3 w/\a_ w Si (sl af ng ch) a4/\Si.Nodup/\(∀k∈Si,k∈an∨a3.z<=k)/\inI xk/\inI xl/\Blk w G [sl ap nq cs,vI xk,vI xl]) ?_ ?_
 .refine Wc z (λa0=>?_)<|λa0=>?_
  .refine Wg<|RM z z ?_;obtain ⟨bz,bA,bB,bC,aT⟩:=i_<|ifT aa a0;refine E z (fc call26 z<|W_w2g (B:=zn B be.z bg.z) bC aC (b_1 kM kM) sQ (repS.mono kR a_I) aA aB<|or_ kO<|zin (B:=B) ar<|a_.lt aq) ?_;rintro _ _ ⟨_,bD,bE,bF,bG,rfl,bH,bI,bJ,bK,bL,_⟩;exact Ra z<|Wl (λ_ q=>⟨bz,bA,bB,som aT,bD,bE,bF,bG,kaA q,kW,bH,bL,sQ,bI,bJ,bK⟩)
  exact M_<|λ_ q=>⟨aj,xd,xe,som<|ifF aa a0,ak,al,am,an,kaA q,cr [G] a3,kO,bh,sQ,aA,aB,aC⟩
 rintro bM _ ⟨a4,xk,xl,rfl,af,ng,ch,Si,_,_,_,bN,_,bO,bP,bR⟩;revert bM;refine Wo<|Wq<|Wm z ?_;obtain ⟨_,bS,bT,bU,aU⟩:=i_<|a_h aS;refine E z (fc call11 z<|f_P (B:=B) bU bR kM sQ kR bO bP<|ii z) ?_;rintro _ a6 ⟨_,rfl,aD,aE,aF⟩;refine Wn<|bdB aU λbV ab aV=>Wt (λa w=>∃(xm:Int)(xn:Int)(a7:List b_),(xm,xn,a7)=bV/\∃L O V Sj,Sat 49 [(2,pt w0.z),(6,pt I.z),(8,sl af ng ch),(9,Str.v rz)] a/\Chg (· ∈ ([G]++[I.z])) a6 w/\inI xm/\inI xn/\a_ w Sj (sl L O V) a7/\Sj.Nodup/\(∀k∈Sj,k∈ad∨a6.z<=k)/\Blk w G [sl ap nq cs,vI xm,vI xn]/\Blk w I.z [sl L O V]) ?_ ?_
 .refine Wc z (λa1=>?_)<|λa1=>?_
  .refine Wg<|Rm z ?_;obtain ⟨bW,bX,bY,bZ,aW⟩:=i_<|ifT ab a1;refine E z (fc call27 z<|W_w2h (B:=B) bZ aF kM sQ kR aD aE) ?_;rintro _ _ ⟨_,aG,aH,aI,c0,rfl,_,c1,c2,_,c3,_⟩;exact E0q [sl aG aH aI] j_ z z kB z λcg c4 _=>Wl<|λ_ q=>⟨bX,bY,bW.rules,som aW,aG,aH,aI,c0,kaA q,kW,c1,c2,kO,c3,sQ,kB,c4⟩
  exact M_<|λ_ q=>⟨bS,bT,b2.rules,som<|ifF ab a1,W,Y,ca,ad,kaA q,cr ([G]++[I.z]) a6,aD,aE,kO,b6,sQ,aF,kB⟩
 rintro c5 _ ⟨xm,xn,a7,rfl,L,O,V,Sj,_,_,_,_,_,c6,_,_,_⟩;revert c5;exact Wo<|Ws<|R z (lC [sl L O V] l_ j_ z)<|RM z z<|E0q [sl L O V] j_ z z kB z λci c8 _=>Ra z<|Rw z<|Wr<|rS3 (a_h aV) hr (o_ l_ j_ z c8 z) z z ⟨kW,L,O,V,Sj,af,ng,ch,Si,z,kO,kO,bm,na_ c6 bN sQ,sQ⟩
theorem W_w1h {x1:Str}{x2:UInt8}{res:(List Str)}(hm:h_o n x1 x2=some res)(aD:B<=w0.z)(Y:x1.b.length<=LEN):f_ prog 60 [Str.v x1,vU<|byteI x2] w0 (Q12 w0 B res):=by
 unfold h_o at hm;refine goG func60 z z z λfn hr=>Ws<|Rw z<|Ws<|E z (f0 (α:=Str) Q_) ?_;rintro _ V ⟨av,nw,cx,rfl,_,hy⟩;refine Rw z<|Ws<|Rw z<|Wq<|Ws<|Rw z ?_;obtain ⟨_,huz,hmp⟩:=bdS hm;refine c_a (σ:=(List Str)×Int×Int) (ρ:=List Str) (λs a w=>un3 (λO x6 x3=>∃I J L G,Sat 36 [(0,Str.v x1),(1,vU<|byteI x2),(5,sl I J L),(6,vI x6),(7,vI x3)] a/\Cg [w0.z] V w/\a_ w G (sl I J L) O/\G.Nodup/\(∀k∈G,k∈[w0.z]∨V.z<=k)/\inI x6/\inI x3) s) (λs a w=>un3 (λO x6 x3=>∃I J L G,Sat 36 [(5,sl I J L)] a/\Cg [w0.z] V w/\a_ w G (sl I J L) O/\G.Nodup/\(∀k∈G,k∈[w0.z]∨V.z<=k)/\inI x6/\inI x3) s) (rQ prog fn<|Q12 w0 B) huz ?_ ?_ ?_ ?_
 .exact λ_ q=>⟨av,nw,cx,[w0.z],kaA q,cr [w0.z] V,hy,a_j,sQ,ii z,ii z⟩
 .rintro ⟨O,x6,x3⟩ _ wc _ ⟨I,J,L,G,a2,_,hi,W,ad,hj,hq⟩ a3;have hmr:=a_h a3;refine Wu ?_ a2;refine Wq<|Wm z<|Rm z<|R z (lnT d_9 z)<|R z (b_S z z)<|Wx z (λhck=>?_) (λhck=>?_)
  .refine Wk<|Wq<|Wb<|Wq<|bdB (ifT hmr hck) λae hus a4=>Wt (λa w=>∃(xl:Bool),xl=ae/\Sat 36 [(0,Str.v x1),(1,vU<|byteI x2),(5,sl I J L),(6,vI x6),(7,vI x3),(25,vB xl)] a/\Below wc.z wc w) ?_ ?_
   .refine Wg<|RM z z<|R z (lnT d_9 z)<|Rq z z z<|Rm z ?_;rcases bs (x3==(x1.b.length:Int)) with H | H
    .iterate 5 refine Nh z H ?_
     exact R z (pT z H z)<|Wl (λ_ q=>⟨true,som<|ifT hus H,kaA q,br wc⟩)
    exact Rh z H (mv z)<|Rh z H (mv z)<|bdB (ifF hus H) λah et a5=>Rh z H (c_b d_9 z z (a_i et).1 (a_i et).2.1)<|Rh z H (mv z)<|Rh z H (eql z z)<|R z (pF z H z)<|Wl (λ_ q=>⟨(byteI ah)==(byteI x2),som a5,kaA q,br wc⟩)
   rintro ai wd ⟨xl,rfl,_,_⟩;revert ai;refine Wo<|bdB a4 λaj huu a6=>Wt (λa w=>∃(xe:List Str)(xa:Int),(xe,xa)=aj/\∃af ng ch Sb,Sat 36 [(0,Str.v x1),(1,vU<|byteI x2),(5,sl af ng ch),(6,vI xa),(7,vI x3)] a/\Cg G wd w/\a_ w Sb (sl af ng ch) xe/\Sb.Nodup/\(∀k∈Sb,k∈G∨wd.z<=k)/\inI xa) ?_ ?_
   .refine Wc z (λhcm=>?_)<|λhcm=>?_
    .refine Wm z<|RM z z<|Rm z<|bdB (ifT huu hcm) λak en a7=>R z (h_X d_9 z z z Y en)<|EvA z (fS [(.tmp 30)] Q_ z z z (G_ z) (lb z)<|lb z) λal ho=>have:=ho.below;have a0:Blk al wd.z [Str.v ak]:=ho.blk;have:=a_a ho<|a_T<|g_Z en Y;bdB a7 λam an a8=>E z (a_o (α:=Str) Q_ an z z kO W a0 (a_T<|g_Z en Y) an_ q_) ?_;rintro _ _ ⟨ap,aq,ar,au,rfl,_,aw,ax,_⟩;exact Rw z<|Wg<|Rm z<|R z (add_ z z)<|Ra z<|Wl (λ_ q=>⟨am,d_ x3 1,som a8,aq,ar,au,ap,kaA q,kW,aw,ax,sQ,iA _ _⟩)
    exact M_<|λ_ q=>⟨O,x6,som<|ifF huu hcm,I,J,L,G,kaA q,cr G wd,kO,W,sQ,hj⟩
   rintro ay _ ⟨xe,xa,rfl,af,ng,ch,Sb,_,_,az,aA,_,aB⟩;revert ay;exact Wo<|Wg<|Rm z<|R z (add_ z z)<|Ra z<|Wl (λ_ q=>⟨(xe,xa,d_ x3 1),(som<|a_F a6).symm,⟨af,ng,ch,Sb,kaA q,kW,az,aA,sQ,aB,iA _ _⟩⟩)
  exact We<|λ_ q=>b_I (som<|ifF hmr hck).symm ⟨I,J,L,G,kaA q,kW,hi,W,sQ,hj,hq⟩
 .rintro ⟨O,x6,x3⟩ aC _ rfl ⟨I,J,L,G,_,_,hi,W,ad,hj,hq⟩;have a9:=elL hmp;revert aC;refine Wo<|Wm z<|Rw z ?_;exact Wr<|rS1 (a_h a9) hr z ⟨kW,I,J,L,G,z,hi,W,sQ⟩
 exact lqA hmp λ_ _ h=>h.2
theorem l_n {x1:Str}{res:Bool}(hm:g_h x1=some res)(af:B<=w0.z)(Y:x1.b.length<=LEN):f_ prog 115 [Str.v x1] w0 (Q0 w0 B res):=by
 unfold g_h at hm;refine goG func115 z z z λfn hr=>Ws<|Rw z<|Wq<|Ws<|Rw z<|bdB hm λ_ hun hmc=>Wf (σ:=Unit) (ρ:=Bool) (λ(k4:Nat)(_:Unit) a w=>Sat 45 [(0,Str.v x1),(3,vI ((k4:Nat):Int))] a/\Below w0.z w0 w) (λ(_:Unit) a w=>Sat 45 [(0,Str.v x1)] a/\Below w0.z w0 w) (rQ prog fn<|Q0 w0 B) hun ?_ ?_ ?_ ?_ ?_
 .exact λ_ q=>⟨kaA q,br w0⟩
 .rintro k4 _ _ O _ hkd ⟨hSo,_⟩ hmp;refine Wu ?_ hSo;refine Wq<|Wm z<|Rm z<|R z (lnT d_9 z)<|Rl z z z<|Wx z (λ_=>?_) (λhc=>(R_ hkd hc).elim);refine Wk<|Wq<|Wb<|Wq<|bdB hmp λuq hur hms=>Wt (λa w=>∃(x5:Bool),x5=uq/\Sat 45 [(0,Str.v x1),(3,vI ((k4:Nat):Int)),(4,vB x5)] a/\Below O.z O w) ?_ ?_
  .refine Wg<|RM z z<|bdB hur λxt ee hmf=>R z (c_b d_9 z z (a_i ee).1 (a_i ee).2.1)<|R z (b_T z z)<|Rm z ?_;rcases bs (decide<|(byteI (97:UInt8))<=(byteI xt)) with H | H
   .exact Rh z H (mv z)<|Rh z H (mv z)<|bdB (ifT hmf H) λxu eg hmv=>Rh z H (c_b d_9 z z (a_i eg).1 (a_i eg).2.1)<|Rh z H (b_S z z)<|R z (pT z H z)<|Ra z<|Wl (λ_ q=>⟨decide<|(byteI xu)<=(byteI (122:UInt8)),som hmv,kaA q,br O⟩)
   iterate 4 refine Nh z H ?_
   exact R z (pF z H z)<|Ra z<|Wl (λ_ q=>⟨false,som<|ifF hmf H,kaA q,br O⟩)
  rintro aw V ⟨x5,rfl,_,_⟩;revert aw;refine Wo<|Wq<|bdB hms λux huy hmz=>Wt (λa w=>∃(W:Bool),W=ux/\Sat 45 [(0,Str.v x1),(3,vI ((k4:Nat):Int)),(4,vB x5),(5,vB W)] a/\Below V.z V w) ?_ ?_
  .refine Wg<|RM z z<|bdB huy λa6 eh hmi=>R z (c_b d_9 z z (a_i eh).1 (a_i eh).2.1)<|R z (b_T z z)<|Rm z ?_;rcases bs (decide<|(byteI (48:UInt8))<=(byteI a6)) with I | I
   .exact Rh z I (mv z)<|Rh z I (mv z)<|bdB (ifT hmi I) λa7 ej a0=>Rh z I (c_b d_9 z z (a_i ej).1 (a_i ej).2.1)<|Rh z I (b_S z z)<|R z (pT z I z)<|Ra z<|Wl (λ_ q=>⟨decide<|(byteI a7)<=(byteI (57:UInt8)),som a0,kaA q,br V⟩)
   iterate 4 refine Nh z I ?_
   exact R z (pF z I z)<|Ra z<|Wl (λ_ q=>⟨false,som<|ifF hmi I,kaA q,br V⟩)
  rintro a8 L ⟨W,rfl,_,_⟩;revert a8;refine Wo<|Wq<|bdB hmz λa9 huk hml=>Wt (λa w=>∃(xa:Bool),xa=a9/\Sat 45 [(0,Str.v x1),(3,vI ((k4:Nat):Int)),(41,vB xa)] a/\Below L.z L w) ?_ ?_
  .refine Wg<|Rm z<|R z (not_ z)<|Rm z ?_;rcases bs (!x5) with G | G
   .have hmm:=ifT huk G;refine Rh z G (mv z)<|Rh z G (not_ z)<|Rh z G (mv z) ?_;rcases bs (!W) with J | J
    .exact Nh z J<|Nh z J<|Rh z G (pT z J z)<|R z (pT z G z)<|Wl (λ_ q=>⟨true,som<|ifT hmm J,kaA q,br L⟩)
    exact Rh z J (mv z)<|Rh z J (eql z z)<|Rh z G (pF z J z)<|R z (pT z G z)<|Wl (λ_ q=>⟨((k4:Nat):Int)==0,som<|ifF hmm J,kaA q,br L⟩)
   iterate 3 refine Nh z G ?_
   exact Nv z<|Nv z<|Nh z G<|R z (pF z G z)<|Wl (λ_ q=>⟨false,som<|ifF huk G,kaA q,br L⟩)
  rintro aa _ ⟨xa,rfl,_,_⟩;revert aa;refine Wo<|Wc z (λhcb=>?_) (λhcb=>?_)
  .exact Ws<|Rw z<|Wr<|rtO<|qL (som<|ifT hml hcb).symm<|b_d hr z ⟨kW,z⟩
  exact Wk<|Wg<|Rm z<|R z (inc_ hkd (lt_ Y x_) z z)<|Ra z<|Wl (λ_ q=>⟨(),(som<|ifF hml hcb).symm,⟨kaA q,kW⟩⟩)
 .rintro _ _ _ ⟨a1,ab⟩;refine Wu ?_ a1;refine Wq<|Wm z<|Rm z<|R z (lnT d_9 z)<|Rl z z z<|Wx z (λhc=>(S_ hc).elim) (λ_=>?_);exact We<|λ_ q=>⟨rfl,⟨kaA q,ab⟩⟩
 .rintro _ ad _ rfl ⟨_,_⟩;have a2:=elL hmc;revert ad;exact Wo<|Wm z<|R z (lnT d_9 z)<|bdB a2 λ_ ae a3=>EcA z (fc call97 z<|b_F (B:=B) ae kM (a_S Y) (ii z)<|ii z) λ_ _=>Rw z<|Wr<|rS1 a3 hr z ⟨kW,z⟩
 exact lqA hmc λ_ _ h=>h.2
def Q14 (w0:World)(B:Zone)(r:Int×Bool)(v:Value)(w':World):Prop:=Bw w0 w'/\un2 (λr1 r2=>v = .tuple #[vI r1,vB r2]/\inI r1) r
theorem W_w1i {x1:Str}{res:Int×Bool}(hm:h_p n x1=some res)(a2:B<=w0.z)(W:x1.b.length<=LEN):f_ prog 95 [Str.v x1] w0 (Q14 w0 B res):=by
 unfold h_p at hm;refine goG func95 z z z λfn hr=>Ws<|Ra z<|Rw z<|Wq<|Wm z<|R z (lnT d_9 z)<|bdB hm λ_ ei Y=>EcA z (fc call97 z<|b_F (B:=B) ei a2 (a_S W) (ii z)<|ii z) λH sj=>R z (not_ z)<|Wx z (λI=>?_) (λI=>?_)
 .exact Ws<|Ra z<|Rw z<|Wr<|rS2 (ifT Y I) hr z z ⟨sj,z,ii z⟩
 refine Wk<|Ws<|Rw z<|Wq<|Ws<|Rw z<|bdB (ifF Y I) λ_ huk hma=>Wf (σ:=Int) (ρ:=Int×Bool) (λ(kb:Nat)(x0:Int) a w=>Sat 39 [(0,Str.v x1),(4,vI x0),(5,vI ((kb:Nat):Int))] a/\Below H.z H w/\inI x0) (λ(x0:Int) a w=>Sat 39 [(0,Str.v x1),(4,vI x0)] a/\Below H.z H w/\inI x0) (rQ prog fn<|Q14 w0 B) huk ?_ ?_ ?_ ?_ ?_
 .exact λ_ q=>⟨kaA q,br H,ii z⟩
 .rintro kb x0 _ _ _ hkc ⟨hSl,_,h3⟩ hmm;refine Wu ?_ hSl;refine Wq<|Wm z<|Rm z<|R z (lnT d_9 z)<|Rl z z z<|Wx z (λ_=>?_) (λhc=>(R_ hkc hc).elim);refine Wk<|Wq<|Wb<|Wq<|Wm z<|Rm z<|bdB hmm λ_ ed hmn=>R z (c_b d_9 z z (a_i ed).1 (a_i ed).2.1)<|R z (c_0 d_5 d_3 z)<|bdB hmn λ_ eo hme=>EcA z (fc call97 z<|b_F (B:=B) eo kM (l_7 _) (ii z)<|ii z) λ_ _=>R z (not_ z)<|Wx z (λJ=>?_) (λJ=>?_)
  .exact Ws<|Ra z<|Rw z<|Wr<|rtO<|qL (som<|ifT hme J).symm<|c_9 hr z z ⟨kW,z,ii z⟩
  exact Wk<|Wg<|Rm z<|R z (d_2 z z)<|RM z z<|bdB (ifF hme J) λxp ef hmq=>R z (c_b d_9 z z (a_i ef).1 (a_i ef).2.1)<|R z (n_i z z)<|R z (c_0 d_5 d_3 z)<|R z (add_ z z)<|Rw z<|Wg<|Rm z<|R z (inc_ hkc (lt_ W x_) z z)<|Ra z<|Wl (λ_ q=>⟨d_ (a_7 10 x0)<|byteI<|mkB (byteI xp - byteI (48:UInt8)),(som hmq).symm,⟨kaA q,kW,iA _ _⟩⟩)
 .rintro x0 _ _ ⟨hSr,ss,h3⟩;refine Wu ?_ hSr;refine Wq<|Wm z<|Rm z<|R z (lnT d_9 z)<|Rl z z z<|Wx z (λhc=>(S_ hc).elim) (λ_=>?_);exact We<|λ_ q=>⟨rfl,⟨kaA q,ss,h3⟩⟩
 .rintro x0 au O rfl ⟨_,_,h3⟩;have hmt:=elL hma;revert au;refine Wo<|Wq<|Wq<|bdB hmt λuv hug hmh=>Wt (λa w=>∃(V:Bool),V=uv/\Sat 39 [(4,vI x0),(37,vB V)] a/\Below O.z O w) ?_ ?_
  .refine Wg<|Rm z<|R z (a_2 z z)<|Rm z ?_;rcases bs (decide<|1000000000000<x0) with G | G
   .iterate 4 refine Nh z G ?_
    exact R z (pT z G z)<|Wl (λ_ q=>⟨true,som<|ifT hug G,kaA q,br O⟩)
   refine Rh z G (mv z)<|bdB (ifF hug G) λrx ew hmy=>Eg z z G z (fc call109 z<|f_O (B:=B) ew kM h3) ?_;rintro _ _ ⟨sz,rfl,_⟩;exact Rh z G (mv z)<|Rh z G (f_Z z z)<|R z (pF z G z)<|Wl (λ_ q=>⟨rx.b != x1.b,som hmy,kaA q,sz⟩)
  rintro a3 _ ⟨V,rfl,_,_⟩;revert a3;refine Wo<|Wc z (λL=>?_) (λL=>?_)
  .exact Ws<|Ra z<|Rw z<|Wr<|rS2 (ifT hmh L) hr z z ⟨kW,z,ii z⟩
  exact Wk<|Wm z<|Ra z<|Rw z<|Wr<|rS2 (ifF hmh L) hr z z ⟨kW,z,h3⟩
 exact lqA hma λ_ _ h=>h.2
theorem W_w1j {x1:Str}{res:Bool}(hm:e_A n x1=some res)(a0:B<=w0.z)(W:x1.b.length<=LEN):f_ prog 61 [Str.v x1] w0 (Q0 w0 B res):=by
 unfold e_A at hm;refine goG func61 z z z λfn hr=>Ws<|Rw z<|Wq<|Wq<|bdB hm λue huf Y=>Wt (λa w=>∃(x5:Bool),x5=ue/\Sat 31 [(0,Str.v x1),(18,vB x5)] a/\Below w0.z w0 w) ?_ ?_
 .refine Wg<|Rm z<|bdB huf λrg eh hma=>EcA z (fc call115 z<|l_n (B:=B) eh a0 W) λ_ s4=>Rm z ?_;rcases bs rg with H | H
  .exact Nh z H<|Nh z H<|R z (pT z H z)<|Rm z<|Nh z z<|Nh z z<|R z (pT z z z)<|Rm z<|Nh z z<|Nh z z<|R z (pT z z z)<|Wl (λ_ q=>⟨true,som<|ifT hma H,kaA q,s4⟩)
  have hmb:=ifF hma H;refine Rh z H (mv z)<|Rh z H (a_U z z)<|R z (pF z H z)<|Rm z ?_;rcases bs (x1.b==(⟨[42]⟩:Str).b) with I | I
  .exact Nh z I<|Nh z I<|R z (pT z I z)<|Rm z<|Nh z z<|Nh z z<|R z (pT z z z)<|Wl (λ_ q=>⟨true,som<|ifT hmb I,kaA q,s4⟩)
  have hmc:=ifF hmb I;refine Rh z I (mv z)<|Rh z I (a_U z z)<|R z (pF z I z)<|Rm z ?_;rcases bs (x1.b==(⟨[63]⟩:Str).b) with J | J
  .exact Nh z J<|Nh z J<|R z (pT z J z)<|Wl (λ_ q=>⟨true,som<|ifT hmc J,kaA q,s4⟩)
  exact Rh z J (mv z)<|Rh z J (a_U z z)<|R z (pF z J z)<|Wl (λ_ q=>⟨x1.b==(⟨[43]⟩:Str).b,som<|ifF hmc J,kaA q,s4⟩)
 rintro ai _ ⟨x5,rfl,_,sj⟩;revert ai;refine Wo<|Wc z (λL=>?_) (λL=>?_)
 .exact Ws<|Rw z<|Wr<|rS1 (ifT Y L) hr z ⟨sj,z⟩
 refine Wk<|Wm z ?_;obtain ⟨_,rk,el,hmm⟩:=a_t<|ifF Y L;refine E z (fc call95 z<|W_w1i (B:=B) el kM W) ?_;rintro _ O ⟨_,rfl,hn⟩;refine Rm z<|Re z z z<|Re z z z<|Ra z<|Rw z<|Wq<|bdB hmm λuo hud hmp=>Wt (λa w=>∃(V:Bool),V=uo/\Sat 31 [(2,vB V)] a/\Below O.z O w) ?_ ?_
 .refine Wg<|RM z z ?_;rcases bs rk with G | G
  .refine Rh z G (mv z)<|bdB (ifT hud G) λrq er hms=>Eg z z G z (fc call109 z<|f_O (B:=B) er kM hn) ?_;rintro _ _ ⟨st,rfl,_⟩;exact Rh z G (mv z)<|Rh z G (a_U z z)<|R z (pT z G z)<|Ra z<|Wl (λ_ q=>⟨rq.b==x1.b,som hms,kaA q,st⟩)
  iterate 4 refine Nh z G ?_
  exact R z (pF z G z)<|Ra z<|Wl (λ_ q=>⟨false,som<|ifF hud G,kaA q,br O⟩)
 rintro au _ ⟨V,rfl,_,_⟩;revert au;exact Wo<|Wr<|rS1 hmp hr z ⟨kW,z⟩
def Q15 (w0:World)(B:Zone)(r:(List Str)×Bool)(v:Value)(w':World):Prop:=Bw w0 w'/\un2 (λr1 r2=>∃G H I,v = .tuple #[sl G H I,vB r2]/\repS w' (zn B w0.z w'.z) (sl G H I) r1) r
theorem l_o {x1:Str}{res:(List Str)×Bool}(hm:g_i n x1=some res)(a3:B<=w0.z)(W:x1.b.length<=LEN):f_ prog 29 [Str.v x1] w0 (Q15 w0 B res):=by
 unfold g_i at hm;refine goG func29 z z z λfn hr=>Ws<|Ra z<|Rw z<|Wq<|Wm z<|R z (a_U z z)<|Wx z (λH=>?_) (λH=>?_)
 .refine Ws<|E z (f0 (α:=Str) Q_) ?_;rintro _ _ ⟨aj,nk,cl,rfl,sm,O⟩;exact Ra z<|Rw z<|Wr<|rS2 (ifT hm H) hr z z ⟨sm,aj,nk,cl,z,or_ O<|zin (B:=B) (i:=w0.z) sQ<|a_.lt O⟩
 refine Wk<|Wm z<|bdB (ifF hm H) λ_ en hmo=>E z (fc call60 z<|W_w1h (B:=B) en a3 W) ?_;rintro _ G ⟨_,V,na,cb,_,rfl,h2,_,h3⟩;refine Rw z<|Wq<|Wm z<|bdB hmo λ_ ep hmc=>xA (α:=Str) z C_ z_9 z z z (or_ h2<|zin (B:=B) h3<|a_.lt h2) ep λ_ _ _ hq ht _=>?_;obtain ⟨rfl,_⟩:=a_n ht;refine R z (l0 g_9 z<|hq.at0 z)<|R z (f_Z z z)<|Wx z (λI=>?_) (λI=>?_)
 .refine Ws<|E z (f0 (α:=Str) Q_) ?_;rintro _ _ ⟨ar,ns,cu,rfl,_,hd⟩;exact Ra z<|Rw z<|Wr<|rS2 (ifT hmc I) hr z z ⟨kW,ar,ns,cu,z,repS.mono (or_ hd<|zin (B:=B) (i:=G.z) sQ<|a_.lt hd)<|l_f kM lr⟩
 refine Wk<|Wq<|Ws<|Rw z<|bdB (ifF hmc I) λ_ huv hme=>c_a (σ:=Int) (ρ:=(List Str)×Bool) (λ(x0:Int) a w=>Sat 34 [(4,sl V na cb),(5,vI x0)] a/\Below G.z G w/\inI x0) (λ(x0:Int) a w=>Sat 34 [(4,sl V na cb)] a/\Below G.z G w/\inI x0) (rQ prog fn<|Q15 w0 B) huv ?_ ?_ ?_ ?_
 .exact λ_ q=>⟨kaA q,br G,ii z⟩
 .rintro x0 _ _ _ ⟨hSw,sx,hf⟩ hmg;refine Wu ?_ hSw;refine Wq<|Wm z<|Rm z<|R z (lnR C_ z<|or_ kO<|zin (B:=B) h3<|a_.lt h2)<|Rl z z z<|Wx z (λJ=>?_) (λJ=>?_)
  .refine Wk<|Wq<|Wb<|Wm z<|Rm z<|bdB (ifT hmg J) λ_ ey hmz=>xA (α:=Str) z C_ z_9 z z z (or_ kO<|zin (B:=B) h3<|a_.lt h2) ey λ_ _ _ a4 a5 _=>?_;obtain ⟨rfl,a6⟩:=a_n a5;refine R z (l0 g_9 z<|a4.at0 z)<|bdB hmz λ_ a7 hmh=>EcA z (fc call61 z<|W_w1j (B:=B) a7 kM a6) λa8 _=>R z (not_ z)<|Wx z (λL=>?_) (λL=>?_)
   .refine Ws<|E z (f0 (α:=Str) Q_) ?_;rintro _ _ ⟨aa,ab,ad,rfl,_,hi⟩;exact Ra z<|Rw z<|Wr<|rtO<|qL (som<|ifT hmh L).symm<|c_9 hr z z ⟨kW,aa,ab,ad,z,repS.mono (or_ hi<|zin (B:=B) (i:=a8.z) sQ<|a_.lt hi)<|l_f kM lr⟩
   exact Wk<|Wg<|Rm z<|R z (add_ z z)<|Ra z<|Wl (λ_ q=>⟨d_ x0 1,(som<|ifF hmh L).symm,⟨kaA q,kW,iA _ _⟩⟩)
  exact We<|λ_ q=>b_I (som<|ifF hmg J).symm ⟨kaA q,sx,hf⟩
 .rintro x0 ae _ rfl ⟨_,_,hf⟩;have Y:=elL hme;revert ae;refine Wo<|Wm z<|bdB Y λ_ af a0=>RX z (rX C_ z_9 z z (or_ kO<|zin (B:=B) h3<|a_.lt h2) z z af) ?_;rintro _ ⟨ah,ai,ak,rfl,al⟩;exact Rm z<|R z (lnR C_ z<|or_ kO<|zin (B:=B) h3<|a_.lt h2)<|R z (a_2 z z)<|Ra z<|Rw z<|Wr<|rS2 a0 hr z z ⟨kW,ah,ai,ak,z,repS.mono al<|l_f lr kM⟩
 exact lqA hme λ_ _ h=>h.2
theorem e_k {x1:b_}{x2:Bool}{x3:Bool}{x4:Bool}{x5:Bool}{x6:Int}{res:Bool}(hm:c_S x1 x2 x3 x4 x5 x6=some res)(ad:B<=w0.z)(a4:x1.name.b.length<=LEN)(a5:inI x1.kind)(a6:inI x1.size)(a7:rp w0 B AB NB CB x1.bytes)(a8:rp w0 B AA NA CA x1.names)(a9:rp w0 B AC NC CC x1.tags)(aa:rp w0 B AD ND CD x1.kids)(ab:inI x6):f_ prog 149 [(.agg #[Str.v x1.name,vI x1.kind,vI x1.size,vB x1.little,sl AB NB CB,sl AA NA CA,sl AC NC CC,sl AD ND CD]),vB x2,vB x3,vB x4,vB x5,vI x6] w0 (Q0 w0 B res):=by
 unfold c_S at hm;refine goG func149 z z z λfn hr=>Ws<|EvX (vR x1 AB NB CB AA NA CA AC NC CC AD ND CD) z z z λwb _ a1=>Rw z<|Wq<|bdB hm λuu huv hmw=>Wt (λa w=>∃(xc:Bool),xc=uu/\Sat 67 [(12,vB xc)] a/\Below wb.z wb w) ?_ ?_
 .refine Wg<|RM z z<|bdB huv λue huf hmx=>d_F 18 ue 4 ?_ ?_
  .rcases bs x2 with a0 | a0
   .iterate 3 refine Nh z a0 ?_
    exact R z (pT z a0 z)<|WLq 4 (ifT huf a0) z z z
   exact Rh z a0 (fd a_B z)<|Rh z a0 (l0 g_3 z<|a1.at z)<|Rh z a0 (eql z z)<|R z (pF z a0 z)<|WLq 4 (ifF huf a0) z z z
  refine Rm z<|bdB hmx λug huh hmy=>d_F 27 ug 8 ?_ ?_
  .rcases bs ue with H | H
   .have hmi:=ifT huh H;refine Rh z H (mv z)<|Rh z H (mv z) ?_;rcases bs x3 with V | V
    .iterate 4 refine Nh z V ?_
     exact Rh z H (pT z V z)<|R z (pT z H z)<|WLq 8 (ifT hmi V) z z z
    exact Rh z V (fd b_2 z)<|Rh z V (l0 K_ z<|a1.at z)<|Rh z V (lnR k_ z kR)<|Rh z V (eql z z)<|Rh z H (pF z V z)<|R z (pT z H z)<|WLq 8 (ifF hmi V) z z z
   exact Nh z H<|Nh z H<|Nv z<|Nv z<|Nv z<|Nv z<|Nh z H<|R z (pF z H z)<|WLq 8 (ifF huh H) z z z
  refine Rm z<|bdB hmy λuj huk hmz=>d_F 36 uj 8 ?_ ?_
  .rcases bs ug with I | I
   .have hml:=ifT huk I;refine Rh z I (mv z)<|Rh z I (mv z) ?_;rcases bs x4 with W | W
    .iterate 4 refine Nh z W ?_
     exact Rh z I (pT z W z)<|R z (pT z I z)<|WLq 8 (ifT hml W) z z z
    exact Rh z W (fd c_2 z)<|Rh z W (l0 a_J z<|a1.at z)<|Rh z W (lnR C_ z kR)<|Rh z W (eql z z)<|Rh z I (pF z W z)<|R z (pT z I z)<|WLq 8 (ifF hml W) z z z
   exact Nh z I<|Nh z I<|Nv z<|Nv z<|Nv z<|Nv z<|Nh z I<|R z (pF z I z)<|WLq 8 (ifF huk I) z z z
  refine Rm z<|bdB hmz λum hun a2=>d_F 45 um 8 ?_ ?_
  .rcases bs uj with J | J
   .have hmo:=ifT hun J;refine Rh z J (mv z)<|Rh z J (mv z) ?_;rcases bs x5 with Y | Y
    .iterate 4 refine Nh z Y ?_
     exact Rh z J (pT z Y z)<|R z (pT z J z)<|WLq 8 (ifT hmo Y) z z z
    exact Rh z Y (fd b_6 z)<|Rh z Y (l0 v_ z<|a1.at z)<|Rh z Y (lnR u_ z kR)<|Rh z Y (eql z z)<|Rh z J (pF z Y z)<|R z (pT z J z)<|WLq 8 (ifF hmo Y) z z z
   exact Nh z J<|Nh z J<|Nv z<|Nv z<|Nv z<|Nv z<|Nh z J<|R z (pF z J z)<|WLq 8 (ifF hun J) z z z
  refine Rm z<|bdB a2 λup huq hmr=>d_F 56 up 10 ?_ ?_
  .rcases bs um with L | L
   .have hms:=ifT huq L;refine Rh z L (mv z)<|Rh z L (lss z z)<|Rh z L (mv z) ?_;rcases bs (decide<|x6<0) with O | O
    .iterate 5 refine Nh z O ?_
     exact Rh z L (pT z O z)<|R z (pT z L z)<|WLq 10 (ifT hms O) z z z
    exact Rh z O (fd E_ z)<|Rh z O (l0 v_ z<|a1.at z)<|Rh z O (lnR u_ z kR)<|Rh z O (mv z)<|Rh z O (eql z z)<|Rh z L (pF z O z)<|R z (pT z L z)<|WLq 10 (ifF hms O) z z z
   iterate 3 refine Nh z L ?_
   exact Nv z<|Nv z<|Nv z<|Nv z<|Nv z<|Nh z L<|R z (pF z L z)<|WLq 10 (ifF huq L) z z z
  refine Rm z ?_;rcases bs up with G | G
  .have hmt:=ifT hmr G;refine Rh z G (fd d_0 z)<|Rh z G (l0 g_4 z<|a1.at z)<|Rh z G (not_ z)<|Rh z G (mv z) ?_;rcases bs (!x1.little) with hca | hca
   .iterate 3 refine Nh z hca ?_
    exact Rh z G (pT z hca z)<|R z (pT z G z)<|Ra z<|Wl (λ_ q=>⟨true,som<|ifT hmt hca,kaA q,br wb⟩)
   exact Rh z hca (fd a_l z)<|Rh z hca (l0 g_3 z<|a1.at z)<|Rh z hca (eql z z)<|Rh z G (pF z hca z)<|R z (pT z G z)<|Ra z<|Wl (λ_ q=>⟨x1.kind==1,som<|ifF hmt hca,kaA q,br wb⟩)
  iterate 4 refine Nh z G ?_
  exact Nv z<|Nv z<|Nv z<|Nh z G<|R z (pF z G z)<|Ra z<|Wl (λ_ q=>⟨false,som<|ifF hmr G,kaA q,br wb⟩)
 rintro a3 _ ⟨xc,rfl,_,_⟩;revert a3;exact Wo<|Wr<|rS1 hmw hr z ⟨kW,z⟩
theorem i_6 {x1:c_}{x2:Int}{res:Int}(hm:e_B x1 x2=some res)(a1:B<=w0.z)(a0:rp w0 B A0 N0 C0 x1.rules)(W:inI x2):f_ prog 150 [(.agg #[sl A0 N0 C0]),vI x2] w0 (Q9 w0 B res):=by
 unfold e_B at hm;refine goG func150 z z z λfn hr=>Ws<|EvX [sl A0 N0 C0] z z z λV _ Y=>Rw z<|Wq<|Wq<|bdB hm λua hub J=>Wt (λa w=>∃(x3:Bool),x3=ua/\Sat 39 [(1,vI x2),(2,pt w0.z),(30,vB x3)] a/\Below V.z V w) ?_ ?_
 .refine Wg<|Rm z<|Rf z H_ z<|R z (l0 I_ z<|Y.at z)<|R z (lnR J_ z kR)<|R z (sb_ z z)<|bdB hub λrc ed L=>EcA z (fc call97 z<|b_F (B:=B) ed kM W (ii z)<|iS _ _) λ_ s8=>R z (not_ z)<|Rm z ?_;rcases bs (!rc) with H | H
  .iterate 7 refine Nh z H ?_
   exact R z (pT z H z)<|Rm z<|Nh z z<|Nh z z<|Nh z z<|Nh z z<|Nh z z<|Nh z z<|Nh z z<|Nh z z<|R z (pT z z z)<|Wl (λ_ q=>⟨true,som<|ifT L H,kaA q,s8⟩)
  refine Rh z H (fd H_ z)<|Rh z H (l0 I_ z kBa)<|Rh z H (mv z)<|bdB (ifF L H) λxe ef O=>RXg z z H z (at_ (α:=b_) J_ h_ z z z kR ef) ?_;rintro _ ⟨_,_,_,rfl,hg,hh,_⟩;obtain ⟨_,_,_,_,_,_,_,_,_,_,_,_,rfl,_,_,_,_,_,_,_⟩:=a_x hh;refine Rh z H (fd a_l z)<|Rh z H (l0 g_3 z<|hg.at (j:=1) z)<|Rh z H (nq z z)<|R z (pF z H z)<|Rm z ?_;rcases bs (xe.kind != 1) with G | G
  .iterate 8 refine Nh z G ?_
   exact R z (pT z G z)<|Wl (λ_ q=>⟨true,som<|ifT O G,kaA q,s8⟩)
  refine Rh z G (fd H_ z)<|Rh z G (l0 I_ z kBa)<|Rh z G (mv z)<|bdB (ifF O G) λ_ ei hmj=>RXg z z G z (at_ (α:=b_) J_ h_ z z z kR ei) ?_;rintro _ ⟨_,_,_,rfl,hk,hl,_⟩;obtain ⟨_,_,_,_,_,_,_,_,_,_,_,_,rfl,_,_,hn,_,_,_,_⟩:=a_x hl;refine Rh z G (fd a_B z)<|Rh z G (l0 g_3 z<|hk.at (j:=2) z)<|bdB hmj λrm eo hmp=>Eg z z G z (fc call97 z<|b_F (B:=B) eo kM hn (ii z)<|ii z) ?_;rintro _ _ ⟨_,rfl⟩;exact Rh z G (not_ z)<|R z (pF z G z)<|Wl (λ_ q=>⟨!rm,som hmp,kaA q,kW⟩)
 rintro aq _ ⟨x3,rfl,_,_⟩;revert aq;refine Wo<|Wc z (λI=>?_) (λI=>?_)
 .exact Ws<|Rw z<|Wr<|rS1 (ifT J I) hr z ⟨kW,z,ii z⟩
 refine Wk<|Ws<|Rf z H_ z<|R z (l0 I_ z kBa)<|Rm z<|bdB (ifF J I) λ_ er hms=>xA (α:=b_) z J_ h_ z z z kR er λ_ _ _ ht hu _=>?_;obtain ⟨_,_,_,_,_,_,_,_,_,_,_,_,rfl,_,_,hv,_,_,_,_⟩:=a_x hu;refine Rf z a_B z<|R z (l0 g_3 z<|ht.at (j:=2) z)<|bdB hms λ_ ew hmx=>E z (fc call52 z<|j_T (B:=B) ew kM hv) ?_;rintro _ _ ⟨_,rfl,_⟩;exact R z (sb_ z z)<|Rw z<|Wr<|rS1 hmx hr z ⟨kW,z,iS _ _⟩
theorem W_w2j {x1:List Str}{x2:Str}{res:Bool}(hm:i_y x1 x2=some res)(a1:B<=w0.z)(L:rp w0 B A0 N0 C0 x1)(a0:x2.b.length<=LEN):f_ prog 170 [sl A0 N0 C0,Str.v x2] w0 (Q0 w0 B res):=by
 unfold i_y at hm;refine goG func170 z z z λfn hr=>Ws<|Rw z<|Wq<|Ws<|Rw z<|bdB hm λ_ O H=>Wf (σ:=Unit) (ρ:=Bool) (λ(k2:Nat)(_:Unit) a w=>Sat 18 [(0,sl A0 N0 C0),(1,Str.v x2),(5,vI ((k2:Nat):Int))] a/\Below w0.z w0 w) (λ(_:Unit) a w=>Sat 18 [] a/\Below w0.z w0 w) (rQ prog fn<|Q0 w0 B) O ?_ ?_ ?_ ?_ ?_
 .exact λ_ q=>⟨kaA q,br w0⟩
 .rintro k2 _ _ _ _ I ⟨V,s4⟩ W;refine Wu ?_ V;refine Wq<|Wm z<|Rm z<|R z (lnR C_ z kR)<|Rl z z z<|Wx z (λ_=>?_) (λhc=>(R_ I hc).elim);refine Wk<|Wq<|Wb<|Wm z<|Rm z<|bdB W λ_ Y J=>xA (α:=Str) z C_ z_9 z z z kR Y λ_ _ _ ha hb _=>?_;obtain ⟨rfl,_⟩:=a_n hb;refine R z (l0 g_9 z<|ha.at0 z)<|Rm z<|R z (a_U z z)<|Wx z (λG=>?_) (λG=>?_)
  .exact Ws<|Rw z<|Wr<|rtO<|qL (som<|ifT J G).symm<|b_d hr z ⟨s4,z⟩
  exact Wk<|Wg<|Rm z<|R z (inc_ I (lt_ (repS.len L) x_) z z)<|Ra z<|Wl (λ_ q=>⟨(),(som<|ifF J G).symm,⟨kaA q,s4⟩⟩)
 .rintro _ _ _ ⟨hSc,sd⟩;refine Wu ?_ hSc;refine Wq<|Wm z<|Rm z<|R z (lnR C_ z kR)<|Rl z z z<|Wx z (λhc=>(S_ hc).elim) (λ_=>?_);exact We<|λ_ q=>⟨rfl,⟨q.k sn,sd⟩⟩
 .rintro _ ae _ rfl ⟨_,sf⟩;have hmg:=elL H;revert ae;exact Wo<|Ws<|Rw z<|Wr<|rS1 hmg hr z ⟨sf,z⟩
 exact lqA H λ_ _ h=>h.2
theorem W_w2k {x1:List Str}{res:Bool}(hm:i_z x1=some res)(a5:B<=w0.z)(W:rp w0 B A0 N0 C0 x1):f_ prog 151 [sl A0 N0 C0] w0 (Q0 w0 B res):=by
 unfold i_z at hm;refine goG func151 z z z λfn hr=>Ws<|Rw z<|Wq<|Ws<|Rw z<|bdB hm λ_ a3 I=>Wf (σ:=Unit) (ρ:=Bool) (λ(k1:Nat)(_:Unit) a w=>Sat 29 [(0,sl A0 N0 C0),(3,vI ((k1:Nat):Int))] a/\Below w0.z w0 w) (λ(_:Unit) a w=>Sat 29 [(0,sl A0 N0 C0)] a/\Below w0.z w0 w) (rQ prog fn<|Q0 w0 B) a3 ?_ ?_ ?_ ?_ ?_
 .exact λ_ q=>⟨kaA q,br w0⟩
 .rintro k1 _ _ V _ J ⟨hSa,_⟩ hmb;refine Wu ?_ hSa;refine Wq<|Wm z<|Rm z<|R z (lnR C_ z kR)<|Rl z z z<|Wx z (λ_=>?_) (λhc=>(R_ J hc).elim);refine Wk<|Wq<|Wb<|Wq<|bdB hmb λuc hud L=>Wt (λa w=>∃(x2:Bool),x2=uc/\Sat 29 [(0,sl A0 N0 C0),(3,vI ((k1:Nat):Int)),(25,vB x2)] a/\Below V.z V w) ?_ ?_
  .refine Wd (X:=noX) 0 (pl_ 16 [4,14]) mo (by kernel_rfl) λa6 a7 _=>dM z z z<|dM z z z<|bdB hud λ_ ee hmf=>dxA (α:=Str) z z C_ z_9 z z z kR ee λ_ _ _ hg hh _=>?_;obtain ⟨rfl,hi⟩:=a_n hh;refine dR z z (l0 g_9 z<|hg.at0 z)<|bdB hmf λrj ek O=>dE z z (fc call115 z<|l_n (B:=B) ek kM hi) iB ?_;rintro _ _ ⟨_,rfl⟩;refine dR z z (not_ z)<|dM z z z ?_;rcases bs (!rj) with G | G
   .iterate 7 refine dRn z z z G z ?_
    exact dEn z z z G z<|dR z z (pT z G z)<|pD (λ_ q=>⟨true,som<|ifT O G,kaA q,kW⟩)
   refine dRg z z z G z (mv z)<|dRg z z z G z (mv z)<|bdB (ifF O G) λ_ el hmm=>b_s z z z G z (rX C_ z_9 z z kR z z el) ?_;rintro _ ⟨_,_,_,rfl,hn⟩;refine dRg z z z G z (mv z)<|dRg z z z G z (mv z)<|bdB hmm λ_ eo hmp=>b_s z z z G z (at_ (α:=Str) C_ z_9 z z z kR eo) ?_;rintro _ ⟨_,_,_,rfl,hq,ht,_⟩;obtain ⟨rfl,hu⟩:=a_n ht;refine dRg z z z G z (l0 g_9 z<|hq.at0 z)<|bdB hmp λrr es hmv=>dEg z z z G z (fc call170 z<|W_w2j (B:=B) es kM hn hu) iB ?_;rintro _ _ ⟨_,rfl⟩;exact dR z z (pF z G z)<|pD (λ_ q=>⟨rr,som hmv,kaA q,kW⟩)
  rintro aw _ ⟨x2,rfl,_,_⟩;revert aw;refine Wo<|Wc z (λH=>?_) (λH=>?_)
  .exact Ws<|Rw z<|Wr<|rtO<|qL (som<|ifT L H).symm<|b_d hr z ⟨kW,z⟩
  exact Wk<|Wg<|Rm z<|R z (inc_ J (lt_ (repS.len W) x_) z z)<|Ra z<|Wl (λ_ q=>⟨(),(som<|ifF L H).symm,⟨kaA q,kW⟩⟩)
 .rintro _ _ _ ⟨hSx,sy⟩;refine Wu ?_ hSx;refine Wq<|Wm z<|Rm z<|R z (lnR C_ z kR)<|Rl z z z<|Wx z (λhc=>(S_ hc).elim) (λ_=>?_);exact We<|λ_ q=>⟨rfl,⟨kaA q,sy⟩⟩
 .rintro _ az _ rfl ⟨_,_⟩;have Y:=elL I;revert az;exact Wo<|Wm z<|R z (lnR C_ z kR)<|bdB Y λ_ a4 a0=>EcA z (fc call97 z<|b_F (B:=B) a4 kM (a_S<|repS.len kR) (ii z)<|ii z) λ_ _=>Rw z<|Wr<|rS1 a0 hr z ⟨kW,z⟩
 exact lqA I λ_ _ h=>h.2
theorem W_w2l {x1:c_}{x2:b_}{res:Bool}(hm:i_A x1 x2=some res)(aG:B<=w0.z)(az:rp w0 B A0 N0 C0 x1.rules)(aA:x2.name.b.length<=LEN)(aB:inI x2.kind)(aC:inI x2.size)(aD:rp w0 B A2 N2 C2 x2.bytes)(aE:rp w0 B A3 N3 C3 x2.names)(a0:rp w0 B A1 N1 C1 x2.tags)(aF:rp w0 B A4 N4 C4 x2.kids):f_ prog 152 [(.agg #[sl A0 N0 C0]),(.agg #[Str.v x2.name,vI x2.kind,vI x2.size,vB x2.little,sl A2 N2 C2,sl A3 N3 C3,sl A1 N1 C1,sl A4 N4 C4])] w0 (Q0 w0 B res):=by
 unfold i_A at hm;refine goG func152 z z z λfn hr=>Ws<|EvX [sl A0 N0 C0] z z z λV _ _=>EvX (vR x2 A2 N2 C2 A3 N3 C3 A1 N1 C1 A4 N4 C4) z z z λW _ L=>Rw z<|Wq<|Wq<|bdB hm λul huc hme=>Wt (λa w=>∃(Y:Bool),Y=ul/\Sat 59 [(2,pt w0.z),(3,pt V.z),(20,vB Y)] a/\Below W.z W w) ?_ ?_
 .refine Wg<|Rf z E_ z<|R z (l0 v_ z<|L.at z)<|R z (lnR u_ z kR)<|Rf z b_6 z<|R z (l0 v_ z<|L.at z)<|R z (lnR u_ z kR)<|R z (add_ z z)<|R z (nq z z)<|Rm z ?_;rcases bs ((x2.kids.length:Int) != (d_ (x2.tags.length:Int) 1)) with I | I
  .iterate 5 refine Nh z I ?_
   exact R z (pT z I z)<|Wl (λ_ q=>⟨true,som<|ifT huc I,kaA q,br W⟩)
  refine Rh z I (fd b_6 z)<|Rh z I (l0 v_ z<|L.at z)<|Rh z I (lnR u_ z kR)<|bdB (ifF huc I) λrm en hmo=>Eg z z I z (fc call97 z<|b_F (B:=B) en kM (a_S<|repS.len kR) (ii z)<|ii z) ?_;rintro _ _ ⟨sp,rfl⟩;exact Rh z I (not_ z)<|R z (pF z I z)<|Wl (λ_ q=>⟨!rm,som hmo,kaA q,sp⟩)
 rintro aq J ⟨Y,rfl,_,_⟩;revert aq;refine Wo<|Wc z (λO=>?_) (λO=>?_)
 .exact Ws<|Rw z<|Wr<|rS1 (ifT hme O) hr z ⟨kW,z⟩
 refine Wk<|Wq<|Ws<|Rw z<|bdB (ifF hme O) λ_ hur hmf=>Wf (σ:=Unit) (ρ:=Bool) (λ(k6:Nat)(_:Unit) a w=>Sat 59 [(2,pt w0.z),(3,pt V.z),(5,vI ((k6:Nat):Int))] a/\Below J.z J w) (λ(_:Unit) a w=>Sat 59 [] a/\Below J.z J w) (rQ prog fn<|Q0 w0 B) hur ?_ ?_ ?_ ?_ ?_
 .exact λ_ q=>⟨kaA q,br J⟩
 .rintro k6 _ _ wg _ hkh ⟨hSs,_⟩ hmt;refine Wu ?_ hSs;refine Wq<|Wm z<|Rf z b_6 z<|R z (l0 v_ z kBa)<|R z (lnR u_ z kR)<|Rl z z z<|Wx z (λ_=>?_) (λhc=>(R_ hkh hc).elim);refine Wk<|Wq<|Wb<|Wq<|bdB hmt λuu huv hmi=>Wt (λa w=>∃(x9:Bool),x9=uu/\Sat 59 [(2,pt w0.z),(3,pt V.z),(5,vI ((k6:Nat):Int)),(58,vB x9)] a/\Below wg.z wg w) ?_ ?_
  .refine Wd (X:=noX) 0 (pl_ 31 [10,11]) mo (by kernel_rfl) λaH aI _=>dR z z (fd b_6 z)<|dR z z (l0 v_ z kBa)<|dM z z z<|bdB huv λ_ ew hmx=>dxA (α:=Int) z z u_ z_3 z z z kR ew λ_ _ _ hy hz _=>?_;obtain ⟨rfl,a9⟩:=a_u hz;refine dR z z (l0 g_3 z<|hy.at0 z)<|dR z z (lC [sl A0 N0 C0] l_ j_ z)<|dR z z (fd E_ z)<|dR z z (l0 v_ z kBa)<|bdB hmx λ_ aa a1=>dxA (α:=Int) z z u_ z_3 z z z kR aa λ_ _ _ ab ad _=>?_;obtain ⟨rfl,ae⟩:=a_u ad;refine dR z z (l0 g_3 z<|ab.at0 z)<|bdB a1 λ_ af a2=>dE z z (fc call150 z<|i_6 (B:=B) af kM kR ae) iB ?_;rintro _ _ ⟨_,rfl,ah⟩;refine bdB a2 λai aj hmj=>dE z z (fc call97 z<|b_F (B:=B) aj kM a9 (ii z) ah) iB ?_;rintro _ _ ⟨_,rfl⟩;refine dR z z (not_ z)<|dM z z z ?_;rcases bs (!ai) with H | H
   .iterate 3 refine dRn z z z H z ?_
    iterate 12 refine dRu z z z z ?_
    exact dRn z z z H z<|dR z z (pT z H z)<|pD (λ_ q=>⟨true,som<|ifT hmj H,kaA q,kW⟩)
   have hmk:=ifF hmj H;refine dRg z z z H z (mv z)<|dRg z z z H z (a_2 z z)<|dRg z z z H z (mv z) ?_;rcases bs (decide<|0<((k6:Nat):Int)) with G | G
   .refine dRg z z z G z (fd b_6 z)<|dRg z z z G z (l0 v_ z kBa)<|dRg z z z G z (mv z)<|dRg z z z G z (sb_ z z)<|bdB (ifT hmk G) λak al a3=>b_s z z z G z (at_ (α:=Int) u_ z_3 z z z kR al) ?_;rintro _ ⟨_,_,_,rfl,am,an,_⟩;obtain ⟨rfl,_⟩:=a_u an;refine dRg z z z G z (l0 g_3 z<|am.at0 z)<|dRg z z z G z (fd b_6 z)<|dRg z z z G z (l0 v_ z kBa)<|dRg z z z G z (mv z)<|bdB a3 λap ar a4=>b_s z z z G z (at_ (α:=Int) u_ z_3 z z z kR ar) ?_;rintro _ ⟨_,_,_,rfl,au,av,_⟩;obtain ⟨rfl,_⟩:=a_u av;exact dRg z z z G z (l0 g_3 z<|au.at0 z)<|dRg z z z G z (b_T z z)<|dRg z z z H z (pT z G z)<|dR z z (pF z H z)<|pD (λ_ q=>⟨decide<|ap<=ak,som a4,kaA q,kW⟩)
   iterate 12 refine dRn z z z G z ?_
   exact dRg z z z H z (pF z G z)<|dR z z (pF z H z)<|pD (λ_ q=>⟨false,som<|ifF hmk G,kaA q,kW⟩)
  rintro aw _ ⟨x9,rfl,_,_⟩;revert aw;refine Wo<|Wc z (λhca=>?_) (λhca=>?_)
  .exact Ws<|Rw z<|Wr<|rtO<|qL (som<|ifT hmi hca).symm<|b_d hr z ⟨kW,z⟩
  exact Wk<|Wg<|Rm z<|R z (inc_ hkh (lt_ (repS.len a0) x_) z z)<|Ra z<|Wl (λ_ q=>⟨(),(som<|ifF hmi hca).symm,⟨kaA q,kW⟩⟩)
 .rintro _ _ _ ⟨a5,ax⟩;refine Wu ?_ a5;refine Wq<|Wm z<|Rf z b_6 z<|R z (l0 v_ z kBa)<|R z (lnR u_ z kR)<|Rl z z z<|Wx z (λhc=>(S_ hc).elim) (λ_=>?_);exact We<|λ_ q=>⟨rfl,⟨q.k sn,ax⟩⟩
 .rintro _ ay _ rfl ⟨_,_⟩;have a6:=elL hmf;revert ay;exact Wo<|Ws<|Rw z<|Wr<|rS1 a6 hr z ⟨kW,z⟩
 exact lqA hmf λ_ _ h=>h.2
theorem W_w2m {x1:c_}{x2:b_}{res:Bool}(hm:i_B x1 x2=some res)(c9:B<=w0.z)(c4:rp w0 B A0 N0 C0 x1.rules)(V:x2.name.b.length<=LEN)(W:inI x2.kind)(L:inI x2.size)(c5:rp w0 B A2 N2 C2 x2.bytes)(c6:rp w0 B A3 N3 C3 x2.names)(c7:rp w0 B A1 N1 C1 x2.tags)(c8:rp w0 B A4 N4 C4 x2.kids):f_ prog 135 [(.agg #[sl A0 N0 C0]),(.agg #[Str.v x2.name,vI x2.kind,vI x2.size,vB x2.little,sl A2 N2 C2,sl A3 N3 C3,sl A1 N1 C1,sl A4 N4 C4])] w0 (Q0 w0 B res):=by
 unfold i_B at hm;refine goG func135 z z z λfn hr=>Ws<|EvX [sl A0 N0 C0] z z z λwc _ _=>EvX (vR x2 A2 N2 C2 A3 N3 C3 A1 N1 C1 A4 N4 C4) z z z λG _ a4=>Rw z<|Wq<|Ws<|Rf z a_l z<|R z (l0 g_3 z<|a4.at z)<|Wn<|Wb<|Ws<|Rq z z z<|Rw z<|Wc z (λhcd=>?_) (λhcd=>?_)
 .refine Wq<|bdB (ifT hm hcd) λaU au av=>Wt (λa w=>∃(xe:Bool),xe=aU/\Sat 114 [(4,vB xe)] a/\Below G.z G w) ?_ ?_
  .refine Wg<|R z (lN (vs:=vR x2 A2 N2 C2 A3 N3 C3 A1 N1 C1 A4 N4 C4) z_ h_ z z fid<|a4.row 0 8 z)<|bdB au λaV aW hmz=>EcA z (fc call149 z<|e_k (B:=B) aW kM V W L kR kR kR kR<|ii z) λ_ aX=>Rm z ?_;rcases bs aV with a1 | a1
   .refine Rh z a1 (fd a_B z)<|Rh z a1 (l0 g_3 z kBa)<|bdB (ifT hmz a1) λaY aZ a5=>Eg z z a1 z (fc call97 z<|b_F (B:=B) aZ kM L (ii z)<|ii z) ?_;rintro _ _ ⟨_,rfl⟩;refine R z (pT z a1 z)<|Rm z ?_;rcases bs aY with J | J
    .have a6:=ifT a5 J;refine Rh z J (fd d_0 z)<|Rh z J (l0 g_4 z kBa)<|Rh z J (not_ z)<|Rh z J (mv z) ?_;rcases bs (!x2.little) with a2 | a2
     .iterate 3 refine Nh z a2 ?_
      exact Rh z J (pT z a2 z)<|R z (pT z J z)<|Ra z<|Wl (λ_ q=>⟨true,som<|ifT a6 a2,kaA q,kW⟩)
     exact Rh z a2 (fd a_B z)<|Rh z a2 (l0 g_3 z kBa)<|Rh z a2 (a_2 z z)<|Rh z J (pF z a2 z)<|R z (pT z J z)<|Ra z<|Wl (λ_ q=>⟨decide<|1<x2.size,som<|ifF a6 a2,kaA q,kW⟩)
    iterate 4 refine Nh z J ?_
    exact Nv z<|Nv z<|Nv z<|Nh z J<|R z (pF z J z)<|Ra z<|Wl (λ_ q=>⟨false,som<|ifF a5 J,kaA q,kW⟩)
   iterate 3 refine Nh z a1 ?_
   exact R z (pF z a1 z)<|Rm z<|Nh z z<|Nh z z<|Nh z z<|Nh z z<|Nv z<|Nv z<|Nv z<|Nh z z<|R z (pF z z z)<|Ra z<|Wl (λ_ q=>⟨false,som<|ifF hmz a1,kaA q,aX⟩)
  rintro b0 _ ⟨xe,rfl,_,_⟩;revert b0;exact Wo<|Wr<|rtO<|rS1 av hr z ⟨kW,z⟩
 have a7:=ifF hm hcd;refine Ws<|Rq z z z<|Rw z<|Wc z (λhcf=>?_) (λhcf=>?_)
 .refine Wq<|bdB (ifT a7 hcf) λb1 aw ax=>Wt (λa w=>∃(xg:Bool),xg=b1/\Sat 114 [(4,vB xg)] a/\Below G.z G w) ?_ ?_
  .refine Wg<|R z (lN (vs:=vR x2 A2 N2 C2 A3 N3 C3 A1 N1 C1 A4 N4 C4) z_ h_ z z fid<|a4.row 0 8 z)<|bdB aw λb2 b3 a8=>EcA z (fc call149 z<|e_k (B:=B) b3 kM V W L kR kR kR kR<|ii z) λ_ b4=>Rm z ?_;rcases bs b2 with Y | Y
   .refine Rh z Y (fd b_2 z)<|Rh z Y (l0 K_ z kBa)<|Rh z Y (lnR k_ z kR)<|bdB (ifT a8 Y) λb5 b6 ay=>Eg z z Y z (fc call97 z<|b_F (B:=B) b6 kM (a_S<|repS.len kR) (ii z)<|ii z) ?_;rintro _ _ ⟨_,rfl⟩;exact R z (pT z Y z)<|Ra z<|Wl (λ_ q=>⟨b5,som ay,kaA q,kW⟩)
   iterate 4 refine Nh z Y ?_
   exact R z (pF z Y z)<|Ra z<|Wl (λ_ q=>⟨false,som<|ifF a8 Y,kaA q,b4⟩)
  rintro b7 _ ⟨xg,rfl,_,_⟩;revert b7;exact Wo<|Wr<|rtO<|rS1 ax hr z ⟨kW,z⟩
 have a9:=ifF a7 hcf;refine Ws<|Rq z z z<|Rw z<|Wc z (λhch=>?_) (λhch=>?_)
 .refine Wq<|bdB (ifT a9 hch) λb8 az aA=>Wt (λa w=>∃(xi:Bool),xi=b8/\Sat 114 [(4,vB xi)] a/\Below G.z G w) ?_ ?_
  .refine Wg<|R z (lN (vs:=vR x2 A2 N2 C2 A3 N3 C3 A1 N1 C1 A4 N4 C4) z_ h_ z z fid<|a4.row 0 8 z)<|bdB az λb9 ba aa=>EcA z (fc call149 z<|e_k (B:=B) ba kM V W L kR kR kR kR<|ii z) λ_ bb=>Rm z ?_;rcases bs b9 with a3 | a3
   .refine Rh z a3 (fd a_B z)<|Rh z a3 (l0 g_3 z kBa)<|bdB (ifT aa a3) λbc be aB=>Eg z z a3 z (fc call97 z<|b_F (B:=B) be kM L (ii z)<|ii z) ?_;rintro _ _ ⟨_,rfl⟩;exact R z (pT z a3 z)<|Ra z<|Wl (λ_ q=>⟨bc,som aB,kaA q,kW⟩)
   iterate 3 refine Nh z a3 ?_
   exact R z (pF z a3 z)<|Ra z<|Wl (λ_ q=>⟨false,som<|ifF aa a3,kaA q,bb⟩)
  rintro bf _ ⟨xi,rfl,_,_⟩;revert bf;exact Wo<|Wr<|rtO<|rS1 aA hr z ⟨kW,z⟩
 have ab:=ifF a9 hch;refine Ws<|Rq z z z<|Rw z<|Wc z (λhcj=>?_) (λhcj=>?_)
 .refine Wq<|bdB (ifT ab hcj) λbg aC aD=>Wt (λa w=>∃(xk:Bool),xk=bg/\Sat 114 [(4,vB xk)] a/\Below G.z G w) ?_ ?_
  .refine Wd (X:=noX) 0 (pl_ 12 [1,8]) mo (by kernel_rfl) λca cb _=>dR z z (lN (vs:=vR x2 A2 N2 C2 A3 N3 C3 A1 N1 C1 A4 N4 C4) z_ h_ z z fid<|kBr 0 8)<|bdB aC λbh bi ad=>dE z z (fc call149 z<|e_k (B:=B) bi kM V W L kR kR kR kR<|ii z) iB ?_;rintro _ _ ⟨_,rfl⟩;refine dM z z z ?_;rcases bs bh with H | H
   .refine dRg z z z H z (lC [sl A0 N0 C0] l_ j_ z)<|dRg z z z H z (fd E_ z)<|dRg z z z H z (l0 v_ z kBa)<|bdB (ifT ad H) λ_ bj aE=>b_s z z z H z (at_ (α:=Int) u_ z_3 z z z kR bj) ?_;rintro _ ⟨_,_,_,rfl,bk,bm,_⟩;obtain ⟨rfl,bn⟩:=a_u bm;refine dRg z z z H z (l0 g_3 z<|bk.at0 z)<|bdB aE λbo bp aF=>dEg z z z H z (fc call150 z<|i_6 (B:=B) bp kM kR bn) iB ?_;rintro _ _ ⟨_,rfl,_⟩;exact dRg z z z H z (a_2 z z)<|dR z z (pT z H z)<|dQ z z z<|pD (λ_ q=>⟨decide<|0<bo,som aF,kaA q,kW⟩)
   iterate 5 refine dRn z z z H z ?_
   exact dEn z z z H z<|dRn z z z H z<|dR z z (pF z H z)<|dQ z z z<|pD (λ_ q=>⟨false,som<|ifF ad H,kaA q,kW⟩)
  rintro bq _ ⟨xk,rfl,_,_⟩;revert bq;exact Wo<|Wr<|rtO<|rS1 aD hr z ⟨kW,z⟩
 have ae:=ifF ab hcj;refine Ws<|Rq z z z<|Rw z<|Wc z (λhcl=>?_) (λhcl=>?_)
 .refine Wq<|bdB (ifT ae hcl) λbt aG aH=>Wt (λa w=>∃(xm:Bool),xm=bt/\Sat 114 [(4,vB xm)] a/\Below G.z G w) ?_ ?_
  .refine Wd (X:=noX) 0 (pl_ 12 [1,8]) mo (by kernel_rfl) λcc cd _=>dR z z (lN (vs:=vR x2 A2 N2 C2 A3 N3 C3 A1 N1 C1 A4 N4 C4) z_ h_ z z fid<|kBr 0 8)<|bdB aG λbu bv af=>dE z z (fc call149 z<|e_k (B:=B) bv kM V W L kR kR kR kR<|ii z) iB ?_;rintro _ _ ⟨_,rfl⟩;refine dM z z z ?_;rcases bs bu with I | I
   .refine dRg z z z I z (lC [sl A0 N0 C0] l_ j_ z)<|dRg z z z I z (fd E_ z)<|dRg z z z I z (l0 v_ z kBa)<|bdB (ifT af I) λ_ bw aI=>b_s z z z I z (at_ (α:=Int) u_ z_3 z z z kR bw) ?_;rintro _ ⟨_,_,_,rfl,bx,bz,_⟩;obtain ⟨rfl,bA⟩:=a_u bz;refine dRg z z z I z (l0 g_3 z<|bx.at0 z)<|bdB aI λbB bC aJ=>dEg z z z I z (fc call150 z<|i_6 (B:=B) bC kM kR bA) iB ?_;rintro _ _ ⟨_,rfl,_⟩;exact dRg z z z I z (a_2 z z)<|dR z z (pT z I z)<|dQ z z z<|pD (λ_ q=>⟨decide<|0<bB,som aJ,kaA q,kW⟩)
   iterate 5 refine dRn z z z I z ?_
   exact dEn z z z I z<|dRn z z z I z<|dR z z (pF z I z)<|dQ z z z<|pD (λ_ q=>⟨false,som<|ifF af I,kaA q,kW⟩)
  rintro bD _ ⟨xm,rfl,_,_⟩;revert bD;exact Wo<|Wr<|rtO<|rS1 aH hr z ⟨kW,z⟩
 have ah:=ifF ae hcl;refine Ws<|Rq z z z<|Rw z<|Wc z (λhcn=>?_) (λhcn=>?_)
 .refine Wq<|bdB (ifT ah hcn) λbE aK aL=>Wt (λa w=>∃(xo:Bool),xo=bE/\Sat 114 [(4,vB xo)] a/\Below G.z G w) ?_ ?_
  .refine Wg<|R z (lN (vs:=vR x2 A2 N2 C2 A3 N3 C3 A1 N1 C1 A4 N4 C4) z_ h_ z z fid<|a4.row 0 8 z)<|Rf z c_2 z<|R z (l0 a_J z<|a4.at z)<|R z (lnR C_ z kR)<|bdB aK λbF bG ai=>EcA z (fc call149 z<|e_k (B:=B) bG kM V W L kR kR kR kR<|a_S<|repS.len kR) λ_ bH=>Rm z ?_;rcases bs bF with hca | hca
   .refine Rh z hca (fd c_2 z)<|Rh z hca (l0 a_J z kBa)<|bdB (ifT ai hca) λbI bJ aM=>Eg z z hca z (fc call151 z<|W_w2k (B:=B) bJ kM kR) ?_;rintro _ _ ⟨_,rfl⟩;exact R z (pT z hca z)<|Ra z<|Wl (λ_ q=>⟨bI,som aM,kaA q,kW⟩)
   iterate 3 refine Nh z hca ?_
   exact R z (pF z hca z)<|Ra z<|Wl (λ_ q=>⟨false,som<|ifF ai hca,kaA q,bH⟩)
  rintro bK _ ⟨xo,rfl,_,_⟩;revert bK;exact Wo<|Wr<|rtO<|rS1 aL hr z ⟨kW,z⟩
 have aj:=ifF ah hcn;refine Ws<|Rq z z z<|Rw z<|Wc z (λhcp=>?_) (λhcp=>?_)
 .refine Wq<|bdB (ifT aj hcp) λbL aN aO=>Wt (λa w=>∃(xq:Bool),xq=bL/\Sat 114 [(4,vB xq)] a/\Below G.z G w) ?_ ?_
  .refine Wg<|R z (lN (vs:=vR x2 A2 N2 C2 A3 N3 C3 A1 N1 C1 A4 N4 C4) z_ h_ z z fid<|a4.row 0 8 z)<|bdB aN λbM bN ak=>EcA z (fc call149 z<|e_k (B:=B) bN kM V W L kR kR kR kR<|ii z) λ_ bO=>Rm z ?_;rcases bs bM with hcb | hcb
   .refine Rh z hcb (lC [sl A0 N0 C0] l_ j_ z)<|Rh z hcb (lN (vs:=vR x2 A2 N2 C2 A3 N3 C3 A1 N1 C1 A4 N4 C4) z_ h_ z z fid<|kBr 0 8)<|bdB (ifT ak hcb) λbP bR aP=>Eg z z hcb z (fc call152 z<|W_w2l (B:=B) bR kM kR V W L kR kR kR kR) ?_;rintro _ _ ⟨_,rfl⟩;exact R z (pT z hcb z)<|Ra z<|Wl (λ_ q=>⟨bP,som aP,kaA q,kW⟩)
   iterate 3 refine Nh z hcb ?_
   exact R z (pF z hcb z)<|Ra z<|Wl (λ_ q=>⟨false,som<|ifF ak hcb,kaA q,bO⟩)
  rintro bS _ ⟨xq,rfl,_,_⟩;revert bS;exact Wo<|Wr<|rtO<|rS1 aO hr z ⟨kW,z⟩
 refine Wq<|Ws<|Rq z z z<|Rw z<|bdB (ifF aj hcp) λbT al am=>Wt (λa w=>∃(xr:Bool),xr=bT/\Sat 114 [(3,pt wc.z),(6,vI x2.kind),(92,vB xr)] a/\Below G.z G w) ?_ ?_
 .refine Wc z (λhcs=>?_)<|λhcs=>?_
  .exact M_<|λ_ q=>⟨x2.kind==8,som<|ifT al hcs,kaA q,br G⟩
  exact Wg<|Rq z z z<|Ra z<|Wl (λ_ q=>⟨x2.kind==9,som<|ifF al hcs,kaA q,br G⟩)
 rintro bU ar ⟨xr,rfl,_,_⟩;revert bU;refine Wo<|Wc z (λhct=>?_) (λhct=>?_)
 .exact Ws<|R z (lN (vs:=vR x2 A2 N2 C2 A3 N3 C3 A1 N1 C1 A4 N4 C4) z_ h_ z z fid<|kBr 0 8)<|bdB (ifT am hct) λ_ bV aQ=>EcA z (fc call149 z<|e_k (B:=B) bV kM V W L kR kR kR kR<|ii z) λ_ _=>Rw z<|Wr<|rtO<|rS1 aQ hr z ⟨kW,z⟩
 have an:=ifF am hct;refine Ws<|Rq z z z<|Rw z<|Wc z (λhcu=>?_) (λhcu=>?_)
 .refine Wq<|bdB (ifT an hcu) λbW aR aS=>Wt (λa w=>∃(xv:Bool),xv=bW/\Sat 114 [(4,vB xv)] a/\Below ar.z ar w) ?_ ?_
  .refine Wg<|R z (lN (vs:=vR x2 A2 N2 C2 A3 N3 C3 A1 N1 C1 A4 N4 C4) z_ h_ z z fid<|kBr 0 8)<|bdB aR λbX bY ap=>EcA z (fc call149 z<|e_k (B:=B) bY kM V W L kR kR kR kR<|ii z) λ_ sw=>Rm z ?_;rcases bs bX with a0 | a0
   .have aq:=ifT ap a0;refine Rh z a0 (fd b_2 z)<|Rh z a0 (l0 K_ z kBa)<|Rh z a0 (lnR k_ z kR)<|Rh z a0 (eql z z)<|R z (pT z a0 z)<|Rm z ?_;rcases bs ((x2.bytes.length:Int)==1) with O | O
    .refine Rh z O (fd b_2 z)<|Rh z O (l0 K_ z kBa)<|bdB (ifT aq O) λbZ c0 aT=>RXg z z O z (at_ (α:=UInt8) k_ z_5 z z z kR c0) ?_;rintro _ ⟨_,_,_,rfl,c1,c2,_⟩;obtain rfl:=u8 c2;exact Rh z O (l0 g_5 z<|c1.at0 z)<|Rh z O (nq z z)<|R z (pT z O z)<|Ra z<|Wl (λ_ q=>⟨(byteI bZ) != (byteI (92:UInt8)),som aT,kaA q,sw⟩)
    iterate 5 refine Nh z O ?_
    exact R z (pF z O z)<|Ra z<|Wl (λ_ q=>⟨false,som<|ifF aq O,kaA q,sw⟩)
   iterate 4 refine Nh z a0 ?_
   exact R z (pF z a0 z)<|Rm z<|Nh z z<|Nh z z<|Nh z z<|Nh z z<|Nh z z<|R z (pF z z z)<|Ra z<|Wl (λ_ q=>⟨false,som<|ifF ap a0,kaA q,sw⟩)
  rintro c3 _ ⟨xv,rfl,_,_⟩;revert c3;exact Wo<|Wr<|rtO<|rS1 aS hr z ⟨kW,z⟩
 exact Wk<|Ws<|Rw z<|Wr<|rS1 (ifF an hcu) hr z ⟨kW,z⟩
theorem W_w2n {x1:c_}{x2:Int}{res:Bool}(hm:i_C x1 x2=some res)(aU:B<=w0.z)(aT:rp w0 B A0 N0 C0 x1.rules)(a0:inI x2):f_ prog 96 [(.agg #[sl A0 N0 C0]),vI x2] w0 (Q0 w0 B res):=by
 unfold i_C at hm;refine goG func96 z z z λfn hr=>Ws<|EvX [sl A0 N0 C0] z z z λwz _ a1=>Rw z<|Wq<|Wm z<|Rf z H_ z<|R z (l0 I_ z<|a1.at z)<|R z (lnR J_ z kR)<|R z (sb_ z z)<|bdB hm λ_ au hmm=>EcA z (fc call97 z<|b_F (B:=B) au kM a0 (ii z)<|iS _ _) λJ _=>R z (not_ z)<|Wx z (λL=>?_) (λL=>?_)
 .exact Ws<|Rw z<|Wr<|rS1 (ifT hmm L) hr z ⟨kW,z⟩
 refine Wk<|Ws<|Rf z H_ z<|R z (l0 I_ z kBa)<|Rm z<|bdB (ifF hmm L) λx5 av a2=>xA (α:=b_) z J_ h_ z z z kR av λ_ _ _ aw ax _=>?_;obtain ⟨O,V,W,Y,na,cb,ac,nd,ce,af,ng,ch,rfl,hn,ay,az,_,_,_,aA⟩:=a_x ax;refine R z (lN (vs:=vR x5 O V W Y na cb ac nd ce af ng ch) z_ h_ z z fid aw)<|EvZ [(Str.v (⟨[]⟩:Str)),vI 0,vI 0,vB false,sN,sN,sN,sN] z b_E z λaV _ a3=>E0q (vR x5 O V W Y na cb ac nd ce af ng ch) h_ z z a3 z λH _ _=>Wn<|Wq<|Ws<|Rw z<|bdB a2 λ_ a4 hmp=>Wf (σ:=Unit) (ρ:=Bool) (λ(kq:Nat)(_:Unit) a w=>Sat 58 [(1,vI x2),(2,pt w0.z),(5,pt J.z),(6,vI ((kq:Nat):Int))] a/\Below H.z H w) (λ(_:Unit) a w=>Sat 58 [(1,vI x2),(2,pt w0.z),(5,pt J.z)] a/\Below H.z H w) (rQ prog fn<|Q0 w0 B) a4 ?_ ?_ ?_ ?_ ?_
 .exact λ_ q=>⟨kaA q,br H⟩
 .rintro kq _ _ _ _ hkr ⟨a5,_⟩ a7;refine Wu ?_ a5;refine Wq<|Wm z<|Rm z<|Rl z z z<|Wx z (λ_=>?_) (λhc=>(j_C hkr hc).elim);refine Wk<|Wq<|Wb<|Wq (Wd (X:=noX) 0 (pl_ 9 []) mo (by kernel_rfl) λaW aX _=>dR z z (fd H_ z)<|dR z z (l0 I_ z kBa)<|dM z z z ?_);refine bdB a7 λ_ aB hms=>dxA (α:=b_) z z J_ h_ z z z kR aB λ_ _ _ aC aD _=>?_;obtain ⟨_,_,_,_,_,_,_,_,_,_,_,_,rfl,_,_,_,_,_,_,_⟩:=a_x aD;refine dR z z (fd e_Y z)<|dR z z (l0 g_9 z<|aC.at (j:=0) z)<|dR z z (fd e_Y z)<|dR z z (l0 g_9 z kBa)<|dR z z (a_U z z)<|pD<|Wo<|Wc z (λhci=>?_) (λhci=>?_)
  .exact Ws<|Rw z<|Wr<|rtO<|qL (som<|ifT hms hci).symm<|b_d hr z ⟨kW,z⟩
  exact Wk<|Wg<|Rm z<|R z (inc_ hkr (tl_ a0) z z)<|Ra z<|Wl (λ_ q=>⟨(),(som<|ifF hms hci).symm,⟨kaA q,kW⟩⟩)
 .rintro _ _ _ ⟨a8,aE⟩;refine Wu ?_ a8;refine Wq<|Wm z<|Rm z<|Rl z z z<|Wx z (λhc=>(j_D hc).elim) (λ_=>?_);exact We<|λ_ q=>⟨rfl,⟨kaA q,aE⟩⟩
 .rintro _ aF I rfl ⟨_,_⟩;have aa:=elL hmp;revert aF;refine Wo<|Wq<|Ws<|Rw z<|bdB aa λ_ ab hmt=>Wf (σ:=Unit) (ρ:=Bool) (λ(ku:Nat)(_:Unit) a w=>Sat 58 [(1,vI x2),(2,pt w0.z),(5,pt J.z),(7,vI ((ku:Nat):Int))] a/\Below I.z I w) (λ(_:Unit) a w=>Sat 58 [(2,pt w0.z),(5,pt J.z)] a/\Below I.z I w) (rQ prog fn<|Q0 w0 B) ab ?_ ?_ ?_ ?_ ?_
  .exact λ_ q=>⟨kaA q,br I⟩
  .rintro ku _ _ _ _ hkv ⟨ad,_⟩ ae;refine Wu ?_ ad;refine Wq<|Wm z<|Rf z E_ z<|R z (l0 v_ z kBa)<|R z (lnR u_ z kR)<|Rl z z z<|Wx z (λ_=>?_) (λhc=>(R_ hkv hc).elim);refine Wk<|Wq<|Wb<|Ws<|Rf z E_ z<|R z (l0 v_ z kBa)<|Rm z<|bdB ae λ_ aG ah=>xI z u_ z_3 z z z kR aG λ_ _ aH aI=>R z (l0 g_3 z<|aH.at0 z)<|Rm z<|R z (sb_ z z)<|bdB ah λ_ aJ hmw=>EcA z (fc call97 z<|b_F (B:=B) aJ kM aI (ii z)<|iS _ _) λ_ _=>?_;refine R z (not_ z)<|Wx z (λhcj=>?_) (λhcj=>?_)
   .exact Ws<|Rw z<|Wr<|rtO<|qL (som<|ifT hmw hcj).symm<|b_d hr z ⟨kW,z⟩
   exact Wk<|Wg<|Rm z<|R z (inc_ hkv (lt_ (repS.len aA) x_) z z)<|Ra z<|Wl (λ_ q=>⟨(),(som<|ifF hmw hcj).symm,⟨kaA q,kW⟩⟩)
  .rintro _ _ _ ⟨ai,aK⟩;refine Wu ?_ ai;refine Wq<|Wm z<|Rf z E_ z<|R z (l0 v_ z kBa)<|R z (lnR u_ z kR)<|Rl z z z<|Wx z (λhc=>(S_ hc).elim) (λ_=>?_);exact We<|λ_ q=>⟨rfl,⟨kaA q,aK⟩⟩
  .rintro _ aL wx rfl ⟨_,_⟩;have aj:=elL hmt;revert aL;refine Wo<|Wq<|bdB aj λaM ak al=>Wt (λa w=>∃(xk:Bool),xk=aM/\Sat 58 [(4,vB xk)] a/\Below wx.z wx w) ?_ ?_
   .refine Wg<|Rf z e_Y z<|R z (l0 g_9 z kBa)<|bdB ak λaN aO hmy=>EcA z (fc call115 z<|l_n (B:=B) aO kM hn) λ_ aP=>Rm z ?_;rcases bs aN with G | G
    .refine Rh z G (lC [sl A0 N0 C0] l_ j_ z)<|Rh z G (lN (vs:=vR x5 O V W Y na cb ac nd ce af ng ch) z_ h_ z z fid<|kBr 0 8)<|bdB (ifT hmy G) λaQ aR am=>Eg z z G z (fc call135 z<|W_w2m (B:=B) aR kM kR hn ay az kR kR kR kR) ?_;rintro _ _ ⟨_,rfl⟩;exact R z (pT z G z)<|Ra z<|Wl (λ_ q=>⟨aQ,som am,kaA q,kW⟩)
    iterate 3 refine Nh z G ?_
    exact R z (pF z G z)<|Ra z<|Wl (λ_ q=>⟨false,som<|ifF hmy G,kaA q,aP⟩)
   rintro aS _ ⟨xk,rfl,_,_⟩;revert aS;exact Wo<|Wr<|rS1 al hr z ⟨kW,z⟩
  exact lqA hmt λ_ _ h=>h.2
 exact lqA hmp λ_ _ h=>h.2
theorem W_w1k {x1:c_}{res:Bool}(hm:h_q x1=some res)(a0:B<=w0.z)(J:rp w0 B A0 N0 C0 x1.rules):f_ prog 45 [(.agg #[sl A0 N0 C0])] w0 (Q0 w0 B res):=by
 unfold h_q at hm;refine goG func45 z z z λfn hr=>Ws<|EvX [sl A0 N0 C0] z z z λG _ _=>Rw z<|Wq<|Ws<|Rw z<|bdB hm λ_ V L=>Wf (σ:=Unit) (ρ:=Bool) (λ(k5:Nat)(_:Unit) a w=>Sat 19 [(1,pt w0.z),(3,vI ((k5:Nat):Int))] a/\Below G.z G w) (λ(_:Unit) a w=>Sat 19 [(1,pt w0.z)] a/\Below G.z G w) (rQ prog fn<|Q0 w0 B) V ?_ ?_ ?_ ?_ ?_
 .exact λ_ q=>⟨kaA q,br G⟩
 .rintro k5 _ _ _ _ H ⟨W,_⟩ Y;refine Wu ?_ W;refine Wq<|Wm z<|Rf z H_ z<|R z (l0 I_ z kBa)<|R z (lnR J_ z kR)<|Rl z z z<|Wx z (λ_=>?_) (λhc=>(R_ H hc).elim);refine Wk<|Wq<|Wb<|Ws<|R z (lC [sl A0 N0 C0] l_ j_ z)<|Rm z<|bdB Y λ_ ea O=>EcA z (fc call96 z<|W_w2n (B:=B) ea kM kR<|ic (Nat.le_of_lt H)<|lt_ (repS.len J) x_) λ_ _=>R z (not_ z)<|Wx z (λI=>?_) (λI=>?_)
  .exact Ws<|Rw z<|Wr<|rtO<|qL (som<|ifT O I).symm<|b_d hr z ⟨kW,z⟩
  exact Wk<|Wg<|Rm z<|R z (inc_ H (lt_ (repS.len J) x_) z z)<|Ra z<|Wl (λ_ q=>⟨(),(som<|ifF O I).symm,⟨kaA q,kW⟩⟩)
 .rintro _ _ _ ⟨hSb,sc⟩;refine Wu ?_ hSb;refine Wq<|Wm z<|Rf z H_ z<|R z (l0 I_ z kBa)<|R z (lnR J_ z kR)<|Rl z z z<|Wx z (λhc=>(S_ hc).elim) (λ_=>?_);exact We<|λ_ q=>⟨rfl,⟨kaA q,sc⟩⟩
 .rintro _ ad _ rfl ⟨_,_⟩;have hme:=elL L;revert ad;exact Wo<|Ws<|Rf z H_ z<|R z (l0 I_ z kBa)<|R z (lnR J_ z kR)<|bdB hme λ_ ef hmg=>EcA z (fc call97 z<|b_F (B:=B) ef kM (a_S<|repS.len kR) (ii z)<|ii z) λ_ _=>Rw z<|Wr<|rS1 hmg hr z ⟨kW,z⟩
 exact lqA L λ_ _ h=>h.2
theorem j_V {x1:c_}{res:Int}(hm:g_j x1=some res)(J:B<=w0.z)(I:rp w0 B A0 N0 C0 x1.rules):f_ prog 42 [(.agg #[sl A0 N0 C0])] w0 (Q9 w0 B res):=by
 unfold g_j at hm;exact goG func42 z z z λfn hr=>Ws<|EvX [sl A0 N0 C0] z z z λL G H=>Rw z<|Ws<|Rf z H_ z<|R z (l0 I_ z<|H.at z)<|R z (lnR J_ z kR)<|R z (sb_ z z)<|Rw z<|Wr<|rS1 hm hr z ⟨G,z,iS _ _⟩
theorem W_w2o {x1:Bt}{x2:Bool}{res:Int}(hm:i_D x1 x2=some res)(W:B<=w0.z)(H:rp w0 B A0 N0 C0 x1):f_ prog 134 [sl A0 N0 C0,vB x2] w0 (Q9 w0 B res):=by
 unfold i_D at hm;refine goG func134 z z z λfn hr=>Ws<|Rw z<|Ws<|Rw z<|Wq<|Wm z<|R z (lnR k_ z H)<|R z (a_2 z z)<|Wx z (λI=>?_) (λI=>?_)
 .exact Ws<|Rw z<|Wr<|rS1 (ifT hm I) hr z ⟨br w0,z,ii z⟩
 refine Wk<|Wq<|Ws<|Rw z<|bdB (ifF hm I) λ_ hua O=>Wf (σ:=Int) (ρ:=Int) (λ(k1:Nat)(x0:Int) a w=>Sat 33 [(0,sl A0 N0 C0),(1,vB x2),(5,vI x0),(6,vI ((k1:Nat):Int))] a/\Below w0.z w0 w/\inI x0) (λ(x0:Int) a w=>Sat 33 [(5,vI x0)] a/\Below w0.z w0 w/\inI x0) (rQ prog fn<|Q9 w0 B) hua ?_ ?_ ?_ ?_ ?_
 .exact λ_ q=>⟨kaA q,br w0,ii z⟩
 .rintro k1 x0 _ G _ J ⟨hSb,_,h3⟩ hmc;refine Wu ?_ hSb;refine Wq<|Wm z<|Rm z<|R z (lnR k_ z kR)<|Rl z z z<|Wx z (λ_=>?_) (λhc=>(R_ J hc).elim);refine Wk<|Wq<|Wb<|Wm z<|Rw z<|Wq<|Wm z<|Wn<|bdB hmc λud V hme=>Wt (λa w=>∃(x4:Int),x4=ud/\Sat 33 [(0,sl A0 N0 C0),(1,vB x2),(5,vI x0),(6,vI ((k1:Nat):Int)),(7,vI x4)] a/\Below G.z G w/\inI x4) ?_ ?_
  .refine Wc z (λL=>?_)<|λL=>?_
   .exact Wg<|Rm z<|R z (lnR k_ z kR)<|R z (sb_ z z)<|Rm z<|R z (sb_ z z)<|Ra z<|Wl (λ_ q=>⟨y_ (y_ (x1.length:Int) 1) ((k1:Nat):Int),som<|ifT V L,kaA q,br G,iS _ _⟩)
   exact M_<|λ_ q=>⟨((k1:Nat):Int),som<|ifF V L,kaA q,br G,ic (Nat.le_of_lt J)<|lt_ (repS.len H) x_⟩
  rintro af _ ⟨x4,rfl,_,_,_⟩;revert af;refine Wo<|Wg<|Rm z<|R z (d_2 z z)<|RM z z<|bdB hme λxg eh hmi=>xA (α:=UInt8) z k_ z_5 z z z kR eh λ_ _ _ hj hk _=>?_;obtain rfl:=u8 hk;exact R z (l0 g_5 z<|hj.at0 z)<|R z (c_0 d_5 d_3 z)<|R z (add_ z z)<|Rw z<|Wg<|Rm z<|R z (inc_ J (lt_ (repS.len H) x_) z z)<|Ra z<|Wl (λ_ q=>⟨d_ (a_7 x0 256)<|byteI xg,(som hmi).symm,⟨kaA q,kW,iA _ _⟩⟩)
 .rintro x0 _ _ ⟨hSl,sm,h3⟩;refine Wu ?_ hSl;refine Wq<|Wm z<|Rm z<|R z (lnR k_ z kR)<|Rl z z z<|Wx z (λhc=>(S_ hc).elim) (λ_=>?_);exact We<|λ_ q=>⟨rfl,⟨kaA q,sm,h3⟩⟩
 .rintro x0 an _ rfl ⟨_,so,h3⟩;have hmp:=elL O;revert an;exact Wo<|Wm z<|Rw z<|Wr<|rS1 hmp hr z ⟨so,z,h3⟩
 exact lqA O λ_ _ h=>h.2
def Q16 (w0:World)(B:Zone)(r:Int×Int×Bool)(v:Value)(w':World):Prop:=Bw w0 w'/\un3 (λr1 r2 r3=>v = .tuple #[vI r1,vI r2,vB r3]/\inI r1/\inI r2) r
theorem i_7 {x1:c_}{x2:Int}{x3:Bt}{x4:Int}{res:Int×Int×Bool}(hm:c_T x1 x2 x3 x4=some res)(a5:B<=w0.z)(a1:rp w0 B A0 N0 C0 x1.rules)(a2:inI x2)(a3:rp w0 B A9 N9 C9 x3)(W:inI x4):f_ prog 93 [(.agg #[sl A0 N0 C0]),vI x2,sl A9 N9 C9,vI x4] w0 (Q16 w0 B res):=by
 unfold c_T at hm;refine goG func93 z z z λfn hr=>Ws<|EvX [sl A0 N0 C0] z z z λw1 _ Y=>RA z z<|Rw z<|Ws<|Rf z H_ z<|R z (l0 I_ z<|Y.at z)<|Rm z<|bdB hm λx5 ei H=>xA (α:=b_) z J_ h_ z z z kR ei λ_ _ _ hj hk _=>?_;obtain ⟨I,J,L,O,V,ca,ab,nc,cd,ae,nf,cg,rfl,_,_,_,_,_,_,_⟩:=a_x hk;refine R z (lN (vs:=vR x5 I J L O V ca ab nc cd ae nf cg) z_ h_ z z fid hj)<|EvZ [(Str.v (⟨[]⟩:Str)),vI 0,vI 0,vB false,sN,sN,sN,sN] z b_E z λwl _ a0=>E0q (vR x5 I J L O V ca ab nc cd ae nf cg) h_ z z a0 z λa6 hn _=>Wn<|Wq<|Wm z<|R z (lnR k_ z kR)<|Rm z<|R z (sb_ z z)<|Rf z a_B z<|R z (l0 g_3 z<|hn.at z)<|Rl z z z<|Wx z (λG=>?_) (λG=>?_)
 .exact Wm z<|RA z z<|Rw z<|Wr<|rS3 (ifT H G) hr z z z ⟨kW,z,ii z,W⟩
 refine Wk<|Wq (Wd (X:=noX) 0 (.rd 0<|.rd 1<|.rd 2<|.rd 3<|.rd 4<|.rd 5<|.rd 6<|.rd 7<|.rd 8<|.rd 10<|.rd 11<|.rd 12<|.rd 13<|.ef 9<|.rd 14<|.rd 15<|.rd 16 .done) mo (by kernel_rfl) λa7 a9 _=>?_);iterate 3 refine dM z z z ?_
 refine dR z z (fd a_B z)<|dR z z (l0 g_3 z kBa)<|dR z z (add_ z z)<|bdB (ifF H G) λ_ eo hmp=>dRX z z (rX k_ z_5 z z kR z z eo) ?_;rintro _ ⟨_,_,_,rfl,hq⟩;refine dR z z (fd d_0 z)<|dR z z (l0 g_4 z kBa)<|dM z z z<|dR z z (fd a_B z)<|dR z z (l0 g_3 z kBa)<|dR z z (add_ z z)<|bdB hmp λ_ er hms=>dE z z (fc call134 z<|W_w2o (B:=B) er kM hq) iB ?_;rintro _ _ ⟨_,rfl,ht⟩;iterate 3 refine dQ z z z ?_
 exact pD<|Wo<|Wr<|rS3 hms hr z z z ⟨kW,z,ht,iA _ _⟩
def Q17 (w0:World)(B:Zone)(r:Int×Int×Int)(v:Value)(w':World):Prop:=Bw w0 w'/\un3 (λr1 r2 r3=>v = .tuple #[vI r1,vI r2,vI r3]/\inI r1/\inI r2/\inI r3) r
theorem W_w2p {x1:c_}{x2:b_}{x3:Bt}{x4:Int}{res:Int×Int×Int}(hm:f_f x1 x2 x3 x4=some res)(b1:B<=w0.z)(aV:rp w0 B A0 N0 C0 x1.rules)(a6:x2.name.b.length<=LEN)(a7:inI x2.kind)(a8:inI x2.size)(aW:rp w0 B A2 N2 C2 x2.bytes)(aX:rp w0 B A3 N3 C3 x2.names)(aY:rp w0 B A1 N1 C1 x2.tags)(aZ:rp w0 B A4 N4 C4 x2.kids)(b0:rp w0 B A9 N9 C9 x3)(O:inI x4):f_ prog 98 [(.agg #[sl A0 N0 C0]),.agg #[Str.v x2.name,vI x2.kind,vI x2.size,vB x2.little,sl A2 N2 C2,sl A3 N3 C3,sl A1 N1 C1,sl A4 N4 C4],sl A9 N9 C9,vI x4] w0 (Q17 w0 B res):=by
 unfold f_f at hm;refine goG func98 z z z λfn hr=>Ws<|EvX [sl A0 N0 C0] z z z λw5 _ _=>EvX (vR x2 A2 N2 C2 A3 N3 C3 A1 N1 C1 A4 N4 C4) z z z λI _ a9=>RA z z<|Rw z<|Wq<|Ws<|Rf z a_l z<|R z (l0 g_3 z<|a9.at z)<|Wn<|Wb<|Ws<|Rq z z z<|Rw z<|Wc z (λW=>?_) (λW=>?_)
 .refine Wq (Wd (X:=noX) 0 (pl_ 7 []) mo (by kernel_rfl) λb2 b3 _=>dM z z z<|dR z z (fd E_ z)<|dR z z (l0 v_ z kBa)<|dR z z (lnR u_ z kR) ?_);iterate 3 refine dQ z z z ?_
  exact pD<|Wo<|Wr<|rtO<|rS3 (ifT hm W) hr z z z ⟨kW,z,O,a_S<|repS.len kR,ii z⟩
 have hmr:=ifF hm W;refine Ws<|Rq z z z<|Rw z<|Wc z (λY=>?_) (λY=>?_)
 .exact Wm z<|RA z z<|Rw z<|Wr<|rtO<|rS3 (ifT hmr Y) hr z z z ⟨kW,z,O,ii z,ii z⟩
 refine Ws<|Rq z z z<|Rw z<|bdB (ifF hmr Y) λau hus V=>Wt (λa w=>Sum.inl ()=au/\Sat 81 [(3,vI x4)] a/\Below I.z I w) ?_ ?_
 .refine Wc z (λa0=>?_)<|λa0=>?_
  .refine Wq<|bdB (ifT hus a0) λav huu hmv=>Wt (λa w=>∃(xa:Bool),xa=av/\Sat 81 [(3,vI x4),(37,vB xa)] a/\Below I.z I w) ?_ ?_
   .refine Wg<|RM z z<|R z (lnR k_ z kR)<|Rl z z z<|Rm z ?_;rcases bs (decide<|x4<(x3.length:Int)) with G | G
    .refine Rh z G (mv z)<|Rh z G (mv z)<|bdB (ifT huu G) λaw ax aa=>RXg z z G z (at_ (α:=UInt8) k_ z_5 z z z kR ax) ?_;rintro _ ⟨_,_,_,rfl,ay,az,_⟩;obtain rfl:=u8 az;exact Rh z G (l0 g_5 z<|ay.at0 z)<|Rh z G (eql z z)<|R z (pT z G z)<|Wl (λ_ q=>⟨(byteI aw)==(byteI (1:UInt8)),som aa,kaA q,br I⟩)
    iterate 5 refine Nh z G ?_
    exact R z (pF z G z)<|Wl (λ_ q=>⟨false,som<|ifF huu G,kaA q,br I⟩)
   rintro aA _ ⟨xa,rfl,_,aB⟩;revert aA;refine Wo<|Wc z (λhcb=>?_) (λhcb=>?_)
   .refine Wm z<|R z (add_ z z)<|RA z z<|Rw z ?_;obtain rfl:=som<|ifT hmv hcb;have ab:=elR V;exact Wr<|rtO<|rS3 ab hr z z z ⟨kW,z,iA _ _,ii z,ii z⟩
   exact M_<|λ_ q=>⟨som<|ifF hmv hcb,kaA q,aB⟩
  refine Wq<|Ws<|Rq z z z<|Rw z<|bdB (ifF hus a0) λaC huw ad=>Wt (λa w=>∃(xc:Bool),xc=aC/\Sat 81 [(2,sl A9 N9 C9),(3,vI x4),(4,pt w0.z),(5,pt w5.z),(40,vB xc)] a/\Below I.z I w) ?_ ?_
  .refine Wc z (λhcd=>?_)<|λhcd=>?_
   .exact M_<|λ_ q=>⟨x2.kind==5,som<|ifT huw hcd,kaA q,br I⟩
   exact Wg<|Rq z z z<|Ra z<|Wl (λ_ q=>⟨x2.kind==7,som<|ifF huw hcd,kaA q,br I⟩)
  rintro aD we ⟨xc,rfl,_,_⟩;revert aD;refine Wo<|bdB ad λaE hux hmf=>Wt (λa w=>Sum.inl ()=aE/\Sat 81 [(3,vI x4)] a/\Below we.z we w) ?_ ?_
  .refine Wc z (λhcg=>?_)<|λhcg=>?_
   .refine Wq (Wd (X:=noX) 0 (pl_ 15 [7]) mo (by kernel_rfl) λb4 b5 _=>dR z z (lC [sl A0 N0 C0] l_ j_ z)<|dR z z (fd E_ z)<|dR z z (l0 v_ z kBa) ?_);refine bdB (ifT hux hcg) λ_ aF ae=>dxA (α:=Int) z z u_ z_3 z z z kR aF λ_ _ _ aG aH _=>?_;obtain ⟨rfl,aI⟩:=a_u aH;refine dR z z (l0 g_3 z<|aG.at0 z)<|dM z z z<|dM z z z ?_;obtain ⟨rh,ry,_,aJ,af⟩:=i_ ae;refine dE z z (fc call93 z<|i_7 (B:=B) aJ kM kR aI kR O) iB ?_;rintro _ L ⟨_,rfl,hi,hz⟩;refine dM z z z ?_;iterate 3 refine dR z z (ext_ z z) ?_
    iterate 3 refine dQ z z z ?_
    refine pD<|Wo<|Wb<|Wm z<|R z (not_ z)<|Rw z<|bdB af λaK a1 hmj=>Wt (λa w=>Sum.inl ()=aK/\Sat 81 [(3,vI x4)] a/\Below L.z L w) ?_ ?_
    .refine Wc z (λhck=>?_)<|λhck=>?_
     .exact M_<|λ_ q=>⟨som<|ifT a1 hck,kaA q,br L⟩
     refine Wq<|bdB (ifF a1 hck) λaL a2 a3=>Wt (λa w=>∃(xl:Bool),xl=aL/\Sat 81 [(3,vI x4),(5,pt w5.z),(11,vI rh),(12,vI ry),(58,vB xl)] a/\Below L.z L w) ?_ ?_
     .refine Wg<|Rf z a_l z<|R z (l0 g_3 z kBa)<|Rq z z z<|Rm z ?_;rcases bs (x2.kind==5) with J | J
      .exact Rh z J (mv z)<|Rh z J (b_S z z)<|R z (pT z J z)<|Ra z<|Wl (λ_ q=>⟨decide<|rh<=40,som<|ifT a2 J,kaA q,br L⟩)
      exact Nh z J<|Nh z J<|R z (pF z J z)<|Ra z<|Wl (λ_ q=>⟨false,som<|ifF a2 J,kaA q,br L⟩)
     rintro aM wm ⟨xl,rfl,_,_⟩;revert aM;refine Wo<|Wc z (λhcn=>?_) (λhcn=>?_)
     .refine Wm z<|Rm z<|RA z z<|Rw z ?_;obtain rfl:=som<|ifT a3 hcn;have ah:=elR hmj;obtain rfl:=som ah;have ai:=elR hmf;obtain rfl:=som ai;have aj:=elR V;obtain rfl:=som aj;exact Wr<|rtO<|rtO<|c_X hr z z z ⟨kW,z,hz,hi,ii z⟩
     refine Wq<|bdB (ifF a3 hcn) λaN a4 a5=>Wt (λa w=>∃(xo:Bool),xo=aN/\Sat 81 [(3,vI x4),(11,vI rh),(12,vI ry),(68,vB xo)] a/\Below wm.z wm w) ?_ ?_
     .refine Wg<|Rf z a_l z<|R z (l0 g_3 z kBa)<|Rq z z z<|Rm z ?_;rcases bs (x2.kind==7) with H | H
      .refine Rh z H (lN (vs:=vR x2 A2 N2 C2 A3 N3 C3 A1 N1 C1 A4 N4 C4) z_ h_ z z fid<|kBr 0 8)<|Rh z H (mv z)<|bdB (ifT a4 H) λaO aP ak=>Eg z z H z (fc call55 z<|d_n (B:=B) aP kM a6 a7 a8 kR kR kR kR hi<|ii z) ?_;rintro _ _ ⟨aQ,rfl,_⟩;exact Rh z H (b_T z z)<|R z (pT z H z)<|Ra z<|Wl (λ_ q=>⟨decide<|0<=aO,som ak,kaA q,aQ⟩)
      iterate 4 refine Nh z H ?_
      exact R z (pF z H z)<|Ra z<|Wl (λ_ q=>⟨false,som<|ifF a4 H,kaA q,br wm⟩)
     rintro aR _ ⟨xo,rfl,_,_⟩;revert aR;refine Wo<|Wc z (λhcp=>?_) (λhcp=>?_)
     .refine Wm z<|Rm z<|RA z z<|Rw z ?_;obtain rfl:=som<|ifT a5 hcp;have al:=elR hmj;obtain rfl:=som al;have am:=elR hmf;obtain rfl:=som am;have an:=elR V;obtain rfl:=som an;exact Wr<|rtO<|rtO<|c_X hr z z z ⟨kW,z,hz,ii z,hi⟩
     exact M_<|λ_ q=>⟨som<|ifF a5 hcp,kaA q,kW⟩
    rintro aS _ ⟨rfl,_,_⟩;have ap:=elL hmj;revert aS;exact λ_ q=>⟨som ap,kaA q,kW⟩
   exact M_<|λ_ q=>⟨som<|ifF hux hcg,kaA q,br we⟩
  rintro aT _ ⟨rfl,_,_⟩;have aq:=elL hmf;revert aT;exact λ_ q=>⟨som aq,kaA q,kW⟩
 rintro aU _ ⟨rfl,_,_⟩;have ar:=elL V;revert aU;exact Wo<|Wm z<|RA z z<|Rw z<|Wr<|rS3 ar hr z z z ⟨kW,z,O,ii z,ii z⟩
def Q18 (w0:World)(B:Zone)(r:Val×Int×Int)(v:Value)(w':World):Prop:=Bw w0 w'/\un3 (λr1 r2 r3=>∃G H I S1 a2 J L S2,v = .tuple #[(.agg #[vI r1.number,sl G H I,sl a2 J L]),vI r2,vI r3]/\inI r1.number/\a_ w' S1 (sl G H I) r1.bytes/\a_ w' S2 (sl a2 J L) r1.items/\inI r2/\inI r3/\(S1++S2).Nodup/\(∀k∈(S1++S2),w0.z<=k)) r
theorem W_w2q {x1:b_}{x2:Bt}{x3:Int}{res:Val×Int×Int}(hm:i_E x1 x2 x3=some res)(a7:B<=w0.z)(a0:x1.name.b.length<=LEN)(a1:inI x1.kind)(a2:inI x1.size)(W:rp w0 B AB NB CB x1.bytes)(a3:rp w0 B AA NA CA x1.names)(a4:rp w0 B AC NC CC x1.tags)(a5:rp w0 B AD ND CD x1.kids)(a6:rp w0 B A5 N5 C5 x2)(Y:inI x3):f_ prog 99 [(.agg #[Str.v x1.name,vI x1.kind,vI x1.size,vB x1.little,sl AB NB CB,sl AA NA CA,sl AC NC CC,sl AD ND CD]),sl A5 N5 C5,vI x3] w0 (Q18 w0 B res):=by
 unfold i_E at hm;refine goG func99 z z z λfn hr=>Ws<|EvX (vR x1 AB NB CB AA NA CA AC NC CC AD ND CD) z z z λJ _ _=>EvZ [vI 0,sN,sN] z a_9 z λG _ _=>Ra z<|Rw z<|Wq<|Ws<|Rw z<|bdB hm λ_ hub L=>Wf (σ:=Unit) (ρ:=Val×Int×Int) (λ(k7:Nat)(_:Unit) a w=>Sat 47 [(1,sl A5 N5 C5),(2,vI x3),(3,pt w0.z),(6,pt J.z),(9,vI ((k7:Nat):Int))] a/\Below G.z G w) (λ(_:Unit) a w=>Sat 47 [(2,vI x3),(3,pt w0.z),(6,pt J.z)] a/\Below G.z G w) (rQ prog fn<|Q18 w0 B) hub ?_ ?_ ?_ ?_ ?_
 .exact λ_ q=>⟨kaA q,br G⟩
 .rintro k7 _ _ _ _ O ⟨hSc,_⟩ V;refine Wu ?_ hSc;refine Wq<|Wm z<|Rf z b_2 z<|R z (l0 K_ z kBa)<|R z (lnR k_ z kR)<|Rl z z z<|Wx z (λ_=>?_) (λhc=>(R_ O hc).elim);refine Wk<|Wq<|Wb<|Wq<|Wm z<|Rm z<|R z (add_ z z)<|Rm z<|R z (lnR k_ z kR)<|R z (b_T z z)<|Wx z (λH=>?_) (λH=>?_)
  .exact Ws<|R z (bQ [] [vI 0,sN,sN] a_1 z z)<|Rm z<|E0q [vI 0,sN,sN] e_ z z kB z λa8 hd _=>Ra z<|Rw z<|Wr<|rtO<|qL (som<|ifT V H).symm<|c_X hr (o_ s_ e_ z hd z) z z ⟨kW,none,0,0,[],none,0,0,[],z,ii z,onL,onL,Y,ii z,nd0,sQ⟩
  refine Wk<|Wq (Wd (X:=noX) 0 (pl_ 12 []) mo (by kernel_rfl) λa9 aa _=>?_);iterate 3 refine dM z z z ?_
  refine dR z z (add_ z z)<|bdB (ifF V H) λ_ eg hmf=>dxA (α:=UInt8) z z k_ z_5 z z z kR eg λ_ _ _ hh hi _=>?_;obtain rfl:=u8 hi;refine dR z z (l0 g_5 z<|hh.at0 z)<|dR z z (fd b_2 z)<|dR z z (l0 K_ z kBa)<|dM z z z<|bdB hmf λ_ ej hma=>dxA (α:=UInt8) z z k_ z_5 z z z kR ej λ_ _ _ hk hl _=>?_;obtain rfl:=u8 hl;refine dR z z (l0 g_5 z<|hk.at0 z)<|dR z z (nq z z)<|pD<|Wo<|Wc z (λI=>?_) (λI=>?_)
  .exact Ws<|R z (bQ [] [vI 0,sN,sN] a_1 z z)<|RM z z<|R z (add_ z z)<|E0q [vI 0,sN,sN] e_ z z kB z λab hn _=>Ra z<|Rw z<|Wr<|rtO<|qL (som<|ifT hma I).symm<|c_X hr (o_ s_ e_ z hn z) z z ⟨kW,none,0,0,[],none,0,0,[],z,ii z,onL,onL,iA _ _,ii z,nd0,sQ⟩
  exact Wk<|Wg<|Rm z<|R z (inc_ O (lt_ (repS.len W) x_) z z)<|Ra z<|Wl (λ_ q=>⟨(),(som<|ifF hma I).symm,⟨kaA q,kW⟩⟩)
 .rintro _ _ _ ⟨hSo,sp⟩;refine Wu ?_ hSo;refine Wq<|Wm z<|Rf z b_2 z<|R z (l0 K_ z kBa)<|R z (lnR k_ z kR)<|Rl z z z<|Wx z (λhc=>(S_ hc).elim) (λ_=>?_);exact We<|λ_ q=>⟨rfl,⟨kaA q,sp⟩⟩
 .rintro _ aq _ rfl ⟨_,_⟩;have hmr:=elL L;revert aq;refine Wo<|Wq (Wd (X:=(· ∈ [J.z])) 0 (pl_ 9 [6]) mo (by kernel_rfl) λad ae _=>dR z z (bQ [] [vI 0,sN,sN] a_1 z z)<|dM z z z<|dR z z (fd b_2 z)<|dR z z (l1 K_ z sQ kBa)<|dR z z (lnR k_ z kR)<|dR z z (add_ z z)<|dE0 z (fs0 (cur':=[vI 0,sN,sN]) e_ z z kB z z z z) (.inr λ_ _ h=>chgIn (List.mem_singleton.2 z) h.2) ?_);rintro _ _ ⟨ht,ss⟩;have:=ss.one;exact dQ z z z<|dQ z z z<|pD<|Wo<|Wr<|rS3 hmr hr (o_ s_ e_ z ht z) z z ⟨kW,none,0,0,[],none,0,0,[],z,ii z,onL,onL,iA _ _,ii z,nd0,sQ⟩
 exact lqA L λ_ _ h=>h.2
theorem W_w1l {x1:Bt}{x2:Int}{x3:Int}{res:Val×Int×Int}(hm:h_r x1 x2 x3=some res)(a2:B<=w0.z)(Y:rp w0 B A0 N0 C0 x1)(L:inI x2)(a0:inI x3):f_ prog 100 [sl A0 N0 C0,vI x2,vI x3] w0 (Q18 w0 B res):=by
 unfold h_r at hm;refine goG func100 z z z λfn hr=>Ws<|EvZ [vI 0,sN,sN] z a_9 z λw5 _ O=>Ra z<|Rw z<|Wq<|Wm z<|R z (lnR k_ z kR)<|Rm z<|R z (sb_ z z)<|Rm z<|Rl z z z<|Wx z (λG=>?_) (λG=>?_)
 .exact Ws<|R z (bQ [] [vI 0,sN,sN] a_1 z z)<|Rm z<|E0q [vI 0,sN,sN] e_ z z O z λwj h6 _=>Ra z<|Rw z<|Wr<|rS3 (ifT hm G) hr (o_ s_ e_ z h6 z) z z ⟨kW,none,0,0,[],none,0,0,[],z,ii z,onL,onL,L,ii z,nd0,sQ⟩
 refine Wk<|Ws<|E z (f0 (α:=UInt8) Y_) ?_;rintro _ _ ⟨_,_,_,rfl,_,V⟩;refine RM z z<|RM z z<|R z (add_ z z)<|bdB (ifF hm G) λ_ W hma=>RX z (rX k_ z_5 z z kR z z W) ?_;rintro _ ⟨_,_,_,rfl,hb⟩;refine bdB hma λxc ed hme=>E z (fN (α:=UInt8) Y_ ed z z V a_j hb) ?_;rintro _ _ ⟨Sf,H,I,J,rfl,_,_,hg,_⟩;exact R z (bQ [(1,.tmp 24)] [vI 0,sl H I J,sN] a_1 z z)<|RM z z<|R z (add_ z z)<|E0q [vI 0,sl H I J,sN] e_ z z kB z λwx hh _=>Ra z<|Rw z<|Wr<|rS3 hme hr (o_ s_ e_ z hh z) z z ⟨kW,H,I,J,Sf,none,0,0,[],z,ii z,kO (l:=xc),onL,iA _ _,ii z,na_ hg q_ sQ,sQ⟩
def Q19 (w0:World)(B:Zone)(r:Bt×Int×Bool)(v:Value)(w':World):Prop:=Bw w0 w'/\un3 (λr1 r2 r3=>∃G H I S1,v = .tuple #[sl G H I,vI r2,vB r3]/\a_ w' S1 (sl G H I) r1/\inI r2/\S1.Nodup/\(∀k∈S1,w0.z<=k)) r
end Go.Vw
