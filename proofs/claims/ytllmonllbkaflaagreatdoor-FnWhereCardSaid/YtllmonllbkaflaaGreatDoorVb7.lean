
import Derived.Test.YtllmonllbkaflaaGreatDoorVb6
set_option linter.unusedVariables false
namespace Go.Vw
open Go.RowKit Dat Go.Proofs
set_option maxHeartbeats 1000000
open Go.Proofs.Tryz
open Go.Vw renaming a_c->Wq,a_E->Wg,WC.of_KC->Wo,a_f->Wl,b_Z->Wc,c_r->Wr,e_X->Wu,g_S->pT,g_T->pF,f_T->fd,b_w->l1,f_U->lN,b_8->mv,c_A->asg,e_T->lnR,e_n->lss,f_Y->eql,f_V->ext_,f_J->bP,f_W->add_,e_R->inc_,d_4->not_,d_O->at_,d_J->fc,a_O->fs,d_i->fb,c_u->fa,c_j->sr,f_H->cr,f_I->cM,c_1->bM,g_K->iS,g_J->iA,e_Q->br,b_0->oA,g_P->bs,f_B->lg,f_C->io,f_1->nq,h_6->lnT,h_7->sb_,g_R->ar_,g_Q->al_,b_B->ds,h_n->m1,f_F->nr_,f_E->nl_,d_N->aa_,c_w->an_,c_V->Wb,f_z->u8,g_y->pD,e_H->We,g_M->Wt,e_P->fS,e_G->or_,h_0->Wf,g_Y->qL,g_x->Wd,g_V->fN,f_D->na_,f_G->nj,d_P->f0,g_U->rX,g_W->tl_,g_X->ic
variable {A0:Option Addr}{N0 C0:Nat}{B:Zone}{w0:World}{n:Nat}{A5:Option Addr}{N5 C5:Nat}{AB:Option Addr}{AA:Option Addr}{AC:Option Addr}{AD:Option Addr}{NB CB:Nat}{NA CA:Nat}{NC CC:Nat}{ND CD:Nat}{A7:Option Addr}{A8:Option Addr}{N7 C7:Nat}{N8 C8:Nat}{A2:Option Addr}{A3:Option Addr}{A1:Option Addr}{A4:Option Addr}{N2 C2:Nat}{N3 C3:Nat}{N1 C1:Nat}{N4 C4:Nat}{A9:Option Addr}{N9 C9:Nat}{A6:Option Addr}{N6 C6:Nat}
theorem T_w24 (ih:h_4 n):l_J (i_V n<|a_G n):=by
 obtain ⟨a8,_,_,_,_⟩:=ih;constructor;intro A0 A6 A2 A3 A1 A4 N0 C0 N6 C6 g1 N2 C2 N3 C3 N1 C1 N4 C4 B x1 x2 x3 res w0 hm hB1 aA hBg aq ar a0 au av aw ax ay O az V;unfold i_V at hm;refine goG func157 z z z λfn hr=>Ws<|EvX (vR x2 A2 N2 C2 A3 N3 C3 A1 N1 C1 A4 N4 C4) z z z λY _ _=>EvZ [vI 0,vI 0] z b_R z λwi _ _=>Wn<|Wm z<|Rf z E_ z<|R z (l0 v_ z kBa)<|bdB hm λ_ ej hmk=>xI z u_ z_3 z z z kR ej λ_ _ hl ho=>R z (l0 g_3 z<|hl.at0 z)<|Rm z ?_;obtain ⟨rm,G,_,ep,W⟩:=i_ hmk;refine E z (fc call153 z<|k_1 (B:=B) ep kB kM sQ kR kR a0 ho V) ?_;rintro _ wa ⟨_,rfl,_,hb,hq,h3,_⟩;refine Rm z<|Re z z z<|Re z z z<|EvZ [vI 0,vI 0] z b_R z λwr _ a1=>Ra z<|E0q [vI G.at_,vI G.code] A_ z z a1 z λH he _=>Wn<|Wq<|Ws<|Rf z d_R z<|R z (l0 g_3 z<|he.at z)<|R z (nq z z)<|Wx z (λI=>?_) (λI=>?_)
 .exact Ws<|R z (lC [vI G.at_,vI G.code] a_p A_ z)<|E0q [vI G.at_,vI G.code] A_ z z kB z λaB ht _=>Wn<|Wr<|rS1 (ifT W I) hr (o_ a_p A_ z ht z) ⟨kW,z,hb,hq,h3,kB⟩
 refine Wk<|Wq<|Ws<|Rf z b_6 z<|R z (l0 v_ z kBa)<|R z (lnR u_ z kR)<|Rm z<|Wn<|bdB (ifF W I) λ_ huv hmc=>Wf (σ:=Unit) (ρ:=P_×Int) (λ(kf:Nat)(_:Unit) a w=>Sat 49 [(0,pt g1),(2,vI x3),(4,pt w0.z),(6,pt Y.z),(7,vI rm),(8,pt wa.z),(26,sl A1 N1 C1),(27,vI (x2.tags.length:Int)),(28,vI ((kf:Nat):Int))] a/\Below H.z H w) (λ(_:Unit) a w=>Sat 49 [(2,vI x3),(6,pt Y.z)] a/\Below H.z H w) (rQ prog fn<|Q31 w0 g1 B A0 N0 C0 A6 N6 C6 x1) huv ?_ ?_ ?_ ?_ ?_
 .exact λ_ q=>⟨kaA q,br H⟩
 .rintro kf _ _ _ _ J ⟨hSw,sx⟩ hmy;refine Wu ?_ hSw;refine Ws<|Rl z z z<|Wn<|Wq<|Wc z (λ_=>?_) (λhc=>(R_ J hc).elim);refine Wk<|Wq<|Wb<|Wm z<|bdB hmy λ_ ez hmg=>xI z u_ z_3 z z z kR ez λ_ _ a9 _=>R z (l0 g_3 z<|a9.at0 z)<|Ra z<|Rw z<|Wm z<|Rm z<|Rq z z z<|Wx z (λL=>?_) (λL=>?_)
  .refine Wq (Wd (X:=noX) 1536 (pl_ 11 [9,10]) mo (by kernel_rfl) λaC aD _=>dM z z z<|dR z z (fd E_ z)<|dR z z (l0 v_ z kBa)<|dM z z z<|dR z z (inc_ J (lt_ (repS.len O) x_) z z) ?_);refine bdB (ifT hmg L) λ_ aa a2=>dxA (α:=Int) z z u_ z_3 z z z kR aa λ_ _ _ ab ad _=>?_;obtain ⟨rfl,ae⟩:=a_u ad;refine dR z z (l0 g_3 z<|ab.at0 z)<|dR z z (fd d_m z)<|dR z z (l0 g_3 z kBa) ?_;obtain ⟨rh,_,af,a3⟩:=a_t a2;refine dE z z (fc call137 z<|a8.run (B:=B) af kB kM sQ kR kR h3 ae hb) (.inl z) ?_;rintro _ _ ⟨_,rfl,ah,ai,aj,_⟩;refine dE0 z (fs0 (cur':=[vI rh.at_,vI rh.code]) A_ z z kB z z z z) (.inl z) ?_;rintro _ _ ⟨ak,al⟩;have:=al.one;exact pD<|Wo<|Wr<|rtO<|qL (som a3).symm<|b_d hr (o_ a_p A_ z ak z) ⟨kW,z,ah,ai,aj,kB⟩
  exact Wk<|Wg<|R z (inc_ J (lt_ (repS.len O) x_) z z)<|Rm z<|Wl (λ_ q=>⟨(),(som<|ifF hmg L).symm,⟨kaA q,sx⟩⟩)
 .rintro _ _ _ ⟨a4,am⟩;refine Wu ?_ a4;refine Ws<|Rl z z z<|Wn<|Wq<|Wc z (λhc=>(S_ hc).elim) (λ_=>?_);exact We<|λ_ q=>⟨rfl,⟨kaA q,am⟩⟩
 .rintro _ an _ rfl ⟨_,_⟩;have a5:=elL hmc;revert an;exact Wo<|Wm z<|R z (bQ [(0,.tmp 47),(1,.const<|.int .i64 3)] [vI x3,vI 3] c_Z z z)<|E0q [vI x3,vI 3] A_ z z kB z λaE ap _=>Wn<|Wr<|rS1 a5 hr (o_ a_p A_ z ap z) ⟨kW,z,V,ii z,h3,kB⟩
 exact lqA hmc λ_ _ h=>h.2
theorem T_w25 (ih:h_4 n):l_K (i_W n<|a_G n):=by
 obtain ⟨a1,_,_,_,_⟩:=ih;constructor;intro A0 A6 A2 A3 A1 A4 N0 C0 N6 C6 g1 N2 C2 N3 C3 N1 C1 N4 C4 B x1 x2 x3 res w0 hm hB1 V hBg ad ae H af ah ai aj ak al am O;unfold i_W at hm;refine goG func158 z z z λfn hr=>Ws<|EvX (vR x2 A2 N2 C2 A3 N3 C3 A1 N1 C1 A4 N4 C4) z z z λw3 _ _=>EvZ [vI 0,vI 0] z b_R z λwg _ _=>Wn<|Wm z<|Rm z<|bdB hm λr1 eh hmi=>E z (fc call155 z<|i_9 (B:=w0.z) eh (a_5 kM) (repS.mono kR V) (repS.mono kR V) H (kBr 0 3) (Blk.lt hB1) O<|ii z) ?_;rintro _ w9 ⟨_,rfl,ha,hj⟩;refine EvZ [vI 0,vI 0] z b_R z λwk _ W=>E0q [vI r1.at_,vI r1.code] A_ z z W z λI hl _=>Wn<|Wq<|Wb<|Wq<|bdB hmi λun huc hmd=>Wt (λa w=>∃(x4:Bool),x4=un/\Sat 45 [(0,pt g1),(2,vI x3),(4,pt w0.z),(6,pt w3.z),(7,pt w9.z),(11,vB x4)] a/\Below I.z I w) ?_ ?_
 .refine Wg<|Rf z d_R z<|R z (l0 g_3 z<|hl.at z)<|R z (nq z z)<|Rm z ?_;rcases bs (r1.code != 0) with G | G
  .iterate 8 refine Nh z G ?_
   exact R z (pT z G z)<|Ra z<|Wl (λ_ q=>⟨true,som<|ifT huc G,kaA q,br I⟩)
  refine Rh z G (mv z)<|Rh z G (B_ z)<|Rh z G (fd e_g z)<|Rh z G (l0 K_ z kBa)<|Rh z G (mv z)<|bdB (ifF huc G) λxo ep hmq=>RXg z z G z (at_ (α:=UInt8) k_ z_5 z z z kR ep) ?_;rintro _ ⟨_,_,_,rfl,ht,hu,_⟩;obtain rfl:=u8 hu;exact Rh z G (l0 g_5 z<|ht.at0 z)<|Rh z G (eql z z)<|R z (pF z G z)<|Ra z<|Wl (λ_ q=>⟨(byteI xo)==(byteI (0:UInt8)),som hmq,kaA q,br I⟩)
 rintro ar _ ⟨x4,rfl,_,_⟩;revert ar;refine Wo<|Wc z (λJ=>?_) (λJ=>?_)
 .exact Ws<|R z (lC [vI r1.at_,vI r1.code] a_p A_ z)<|E0q [vI r1.at_,vI r1.code] A_ z z kB z λan hv _=>Wn<|Wr<|rtO<|rS1 (ifT hmd J) hr (o_ a_p A_ z hv z) ⟨kW,z,ha,hj,H,kB⟩
 refine Wm z<|R z (B_ z)<|Rf z e_g z<|R z (l0 K_ z kBa)<|Rm z<|bdB (ifF hmd J) λ_ ew hme=>xA (α:=UInt8) z k_ z_5 z z z kR ew λ_ _ _ hx hy _=>?_;obtain rfl:=u8 hy;refine R z (l0 g_5 z<|hx.at0 z)<|R z (a_2 z z)<|Rw z<|Wc z (λL=>?_) (λL=>?_)
 .exact Wm z<|R z (bQ [(0,.tmp 35),(1,.const<|.int .i64 4)] [vI x3,vI 4] c_Z z z)<|E0q [vI x3,vI 4] A_ z z kB z λap hz _=>Wn<|Wr<|rtO<|rS1 (ifT hme L) hr (o_ a_p A_ z hz z) ⟨kW,z,O,ii z,H,kB⟩
 refine Wk<|Wq (Wd (X:=noX) 384 (pl_ 9 [7,8]) mo (by kernel_rfl) λaq au _=>dM z z z<|dR z z (fd E_ z)<|dR z z (l0 v_ z kBa) ?_);refine bdB (ifF hme L) λ_ a2 Y=>dxA (α:=Int) z z u_ z_3 z z z kR a2 λ_ _ _ a3 a4 _=>?_;obtain ⟨rfl,a5⟩:=a_u a4;refine dR z z (l0 g_3 z<|a3.at0 z)<|dR z z (fd d_m z)<|dR z z (l0 g_3 z kBa) ?_;obtain ⟨rf,_,a6,a0⟩:=a_t Y;refine dE z z (fc call137 z<|a1.run (B:=B) a6 kB kM sQ kR kR H a5 ha) (.inl z) ?_;rintro _ _ ⟨_,rfl,a7,a8,a9,_⟩;refine dE0 z (fs0 (cur':=[vI rf.at_,vI rf.code]) A_ z z kB z z z z) (.inl z) ?_;rintro _ _ ⟨aa,ab⟩;have:=ab.one;exact pD<|Wo<|Wr<|rS1 a0 hr (o_ a_p A_ z aa z) ⟨kW,z,a7,a8,a9,kB⟩
theorem T_w26 (ih:h_4 n):l_L (i_X n<|a_G n):=by
 obtain ⟨a3,_,_,_,_⟩:=ih;constructor;intro A0 A6 A2 A3 A1 A4 N0 C0 N6 C6 g1 N2 C2 N3 C3 N1 C1 N4 C4 B x1 x2 x3 res w0 hm hB1 L hBg aj ak V al am an ap aq ar au W;unfold i_X at hm;refine goG func159 z z z λfn hr=>Ws<|EvX (vR x2 A2 N2 C2 A3 N3 C3 A1 N1 C1 A4 N4 C4) z z z λw4 _ _=>EvZ [vI 0,vI 0] z b_R z λwk _ _=>Wn<|Wm z<|Rf z E_ z<|R z (l0 v_ z kBa)<|bdB hm λ_ el hmm=>xI z u_ z_3 z z z kR el λ_ _ hn hp=>R z (l0 g_3 z<|hn.at0 z)<|Rm z ?_;obtain ⟨r1,_,eq,hmc⟩:=a_t hmm;refine E z (fc call137 z<|a3.run (B:=B) eq kB kM sQ kR kR V hp W) ?_;rintro _ wd ⟨_,rfl,h5,ht,h3,_⟩;refine EvZ [vI 0,vI 0] z b_R z λwr _ Y=>E0q [vI r1.at_,vI r1.code] A_ z z Y z λav h6 _=>Wn<|Wq<|Ws<|Rf z d_R z<|R z (l0 g_3 z<|h6.at z)<|R z (nq z z)<|Wx z (λH=>?_) (λH=>?_)
 .exact Ws<|R z (lC [vI r1.at_,vI r1.code] a_p A_ z)<|E0q [vI r1.at_,vI r1.code] A_ z z kB z λaw hu _=>Wn<|Wr<|rS1 (ifT hmc H) hr (o_ a_p A_ z hu z) ⟨kW,z,h5,ht,h3,kB⟩
 refine Wk<|Wm z<|Rf z d_m z<|R z (l0 g_3 z<|h6.at z)<|bdB (ifF hmc H) λr2 ew hmx=>E z (fc call155 z<|i_9 (B:=w0.z) ew (a_5 kM) (repS.mono kR L) (repS.mono kR L) h3 (kBr 0 3) (Blk.lt hB1) h5<|ii z) ?_;rintro _ wf ⟨_,rfl,hy,hz⟩;refine EvZ [vI 0,vI 0] z b_R z λax _ O=>E0q [vI r2.at_,vI r2.code] A_ z z O z λwh _ _=>Wn<|Wq<|Wq<|bdB hmx λa4 hui hmj=>Wt (λa w=>∃(J:Bool),J=a4/\Sat 52 [(6,pt w4.z),(7,pt wd.z),(8,pt wf.z),(47,vB J)] a/\Below wh.z wh w) ?_ ?_
 .refine Wd (X:=noX) 0 (pl_ 24 [21]) mo (by kernel_rfl) λay a5 _=>dR z z (fd d_R z)<|dR z z (l0 g_3 z kBa)<|dR z z (eql z z)<|dM z z z ?_;rcases bs (r2.code==0) with G | G
  .refine dRg z z z G z (mv z)<|dRg z z z G z (B_ z)<|dRg z z z G z (fd e_g z)<|dRg z z z G z (l0 K_ z kBa)<|dRg z z z G z (fd d_m z)<|dRg z z z G z (l0 g_3 z kBa)<|bdB (ifT hui G) λa6 a7 a0=>b_s z z z G z (at_ (α:=UInt8) k_ z_5 z z z kR a7) ?_;rintro _ ⟨_,_,_,rfl,a8,a9,_⟩;obtain rfl:=u8 a9;refine dRg z z z G z (l0 g_5 z<|a8.at0 z)<|dRg z z z G z (c_0 d_5 d_3 z)<|dRg z z z G z (mv z)<|dRg z z z G z (B_ z)<|dRg z z z G z (fd e_g z)<|dRg z z z G z (l0 K_ z kBa)<|dRg z z z G z (mv z)<|dRg z z z G z (fd d_m z)<|dRg z z z G z (l0 g_3 z kBa)<|bdB a0 λ_ aa a1=>b_s z z z G z (rX k_ z_5 z z kR z z aa) ?_;rintro _ ⟨_,_,_,rfl,ab⟩;refine bdB a1 λad ae a2=>dEg z z z G z (fc call126 z<|W_w1w (B:=B) ae kM ab) iB ?_;rintro _ _ ⟨_,rfl,_⟩;exact dRg z z z G z (nq z z)<|dR z z (pT z G z)<|pD (λ_ q=>⟨(byteI a6) != ad,som a2,kaA q,kW⟩)
  iterate 17 refine dRn z z z G z ?_
  exact dEn z z z G z<|dRn z z z G z<|dR z z (pF z G z)<|pD (λ_ q=>⟨false,som<|ifF hui G,kaA q,a5⟩)
 rintro af _ ⟨J,rfl,_,_⟩;revert af;refine Wo<|Wc z (λI=>?_) (λI=>?_)
 .exact Ws<|Rf z d_m z<|R z (l0 g_3 z kBa)<|R z (bQ [(0,.tmp 49),(1,.const<|.int .i64 5)] [vI r1.at_,vI 5] c_Z z z)<|E0q [vI r1.at_,vI 5] A_ z z kB z λaz ah _=>Wn<|Wr<|rS1 (ifT hmj I) hr (o_ a_p A_ z ah z) ⟨kW,z,h5,ii z,h3,kB⟩
 exact Wk<|Ws<|R z (lC [vI r2.at_,vI r2.code] a_p A_ z)<|E0q [vI r2.at_,vI r2.code] A_ z z kB z λaA ai _=>Wn<|Wr<|rS1 (ifF hmj I) hr (o_ a_p A_ z ai z) ⟨kW,z,hy,hz,h3,kB⟩
theorem d_T:∀n,h_4 n
  | 0=>⟨⟨λhm=>by intros;exact nomatch (show none=some _ from hm)⟩,⟨λhm=>by intros;exact nomatch (show none=some _ from hm)⟩,⟨λhm=>by intros;exact nomatch (show none=some _ from hm)⟩,⟨λhm=>by intros;exact nomatch (show none=some _ from hm)⟩,⟨λhm=>by intros;exact nomatch (show none=some _ from hm)⟩⟩
  | n+1=>⟨T_w04<|d_T n,T_w23<|d_T n,T_w24<|d_T n,T_w25<|d_T n,T_w26<|d_T n⟩
theorem W_w04:l_H (a_G n).impl_checker_value:=(d_T n).1
theorem W_w23:l_I (a_G n).impl_checker_array:=(d_T n).2.1
theorem W_w24:l_J (a_G n).impl_checker_choice:=(d_T n).2.2.1
theorem W_w25:l_K (a_G n).impl_checker_option:=(d_T n).2.2.2.1
theorem W_w26:l_L (a_G n).impl_checker_checked:=(d_T n).2.2.2.2
def Q32 (w0:World)(B:Zone)(r:Int×Int)(v:Value)(w':World):Prop:=Bw w0 w'/\un2 (λr1 r2=>v = .tuple #[vI r1,vI r2]/\inI r1/\inI r2) r
theorem W_w3b {x1:c_}{x2:Int}{x3:Bt}{x4:Int}{res:Int×Int}(hm:h_A n x1 x2 x3 x4=some res)(a5:B<=w0.z)(a2:rp w0 B A0 N0 C0 x1.rules)(L:inI x2)(a3:rp w0 B A9 N9 C9 x3)(Y:inI x4):f_ prog 116 [(.agg #[sl A0 N0 C0]),vI x2,sl A9 N9 C9,vI x4] w0 (Q32 w0 B res):=by
 unfold h_A at hm;refine goG func116 z z z λfn hr=>Ws<|EvX [sl A0 N0 C0] z z z λW _ a4=>Ra z<|Rw z<|Wq<|Wq<|bdB hm λuf hug O=>Wt (λa w=>∃(x5:Bool),x5=uf/\Sat 43 [(1,vI x2),(2,sl A9 N9 C9),(3,vI x4),(4,pt w0.z),(30,vB x5)] a/\Below W.z W w) ?_ ?_
 .refine Wg<|R z (lC [sl A0 N0 C0] l_ j_ z)<|Rm z<|bdB hug λrh ei V=>EcA z (fc call35 z<|j_X (B:=B) ei kM kR L) λ_ s3=>R z (not_ z)<|Rm z ?_;rcases bs (!rh) with H | H
  .exact Nh z H<|Nh z H<|R z (pT z H z)<|Rm z<|Nh z z<|Nh z z<|Nh z z<|Nh z z<|R z (pT z z z)<|Rm z<|Nh z z<|Nh z z<|Nh z z<|R z (pT z z z)<|Wl (λ_ q=>⟨true,som<|ifT V H,kaA q,s3⟩)
  have hma:=ifF V H;refine Rh z H (mv z)<|Rh z H (lss z z)<|R z (pF z H z)<|Rm z ?_;rcases bs (decide<|x4<0) with G | G
  .iterate 4 refine Nh z G ?_
   exact R z (pT z G z)<|Rm z<|Nh z z<|Nh z z<|Nh z z<|R z (pT z z z)<|Wl (λ_ q=>⟨true,som<|ifT hma G,kaA q,s3⟩)
  have hmb:=ifF hma G;refine Rh z G (mv z)<|Rh z G (mv z)<|Rh z G (lnR k_ z kR)<|Rh z G (a_2 z z)<|R z (pF z G z)<|Rm z ?_;rcases bs (decide<|(x3.length:Int)<x4) with I | I
  .iterate 3 refine Nh z I ?_
   exact R z (pT z I z)<|Wl (λ_ q=>⟨true,som<|ifT hmb I,kaA q,s3⟩)
  exact Rh z I (mv z)<|Rh z I (lnR k_ z kR)<|Rh z I (a_2 z z)<|R z (pF z I z)<|Wl (λ_ q=>⟨decide<|400<(x3.length:Int),som<|ifF hmb I,kaA q,s3⟩)
 rintro aj _ ⟨x5,rfl,_,_⟩;revert aj;refine Wo<|Wc z (λJ=>?_) (λJ=>?_)
 .exact Ws<|Ra z<|Rw z<|Wr<|rS2 (ifT O J) hr z z ⟨kW,z,ii z,ii z⟩
 refine Wk<|Ws<|R z (lC [sl A0 N0 C0] l_ j_ z)<|Rm z<|R z (bQ [(0,.tmp 31),(1,.tmp 32)] [sl A0 N0 C0,sl A9 N9 C9,vI 0] r_Y z z)<|EvX [sl A0 N0 C0,sl A9 N9 C9,vI 0] z z z λwl _ a0=>Rw z<|Wm z<|RM z z ?_;obtain ⟨re,_,em,hmn⟩:=a_t<|ifF O J;refine E z (fc call137 z<|W_w04.run (B:=B) em a0 kM sQ kR kR (ii z) L Y) ?_;rintro _ _ ⟨_,rfl,hp,hq,_,_⟩;refine EvZ [vI 0,vI 0] z b_R z λwr _ a1=>E0q [vI re.at_,vI re.code] A_ z z a1 z λa6 _ _=>Wn<|Wq (Wd (X:=noX) 0 (pl_ 6 []) mo (by kernel_rfl) λa7 a8 _=>dR z z (fd d_m z)<|dR z z (l0 g_3 z kBa)<|dR z z (fd d_R z)<|dR z z (l0 g_3 z kBa)<|dQ z z z<|dQ z z z<|pD<|Wo ?_);exact Wr<|rS2 hmn hr z z ⟨kW,z,hp,hq⟩
theorem l_M {x1:Int}{res:Str}(hm:g_r x1=some res)(H:B<=w0.z)(hG:Gl w0 B)(G:inI x1):f_ prog 88 [vI x1] w0 (Q4 w0 B res):=by
 unfold g_r at hm;refine goG func88 z z z λfn hr=>Ws<|Rw z<|Wm z<|bdB hm λ_ J I=>E z (fc call131 z<|r_i (B:=B) J H hG G) ?_;rintro _ _ ⟨s2,rfl,h3⟩;exact Rw z<|Wr<|rS1 I hr z ⟨s2,z,h3⟩
theorem W_w3c {x1:c_}{x2:Int}{x3:Int}{res:Str}(hm:g_s n x1 x2 x3=some res)(ax:B<=w0.z)(hG:Gl w0 B)(av:rp w0 B A0 N0 C0 x1.rules)(a2:inI x2)(a3:inI x3):f_ prog 117 [(.agg #[sl A0 N0 C0]),vI x2,vI x3] w0 (Q4 w0 B res):=by
 unfold g_s at hm;refine goG func117 z z z λfn hr=>Ws<|EvX [sl A0 N0 C0] z z z λw3 _ aw=>Rw z<|Wq<|Wq<|bdB hm λa8 a4 hmg=>Wt (λa w=>∃(x5:Bool),x5=a8/\Sat 58 [(1,vI x2),(2,vI x3),(3,pt w0.z),(15,vB x5)] a/\Below w3.z w3 w) ?_ ?_
 .refine Wg<|R z (lC [sl A0 N0 C0] l_ j_ z)<|Rm z<|bdB a4 λa9 aa hmh=>EcA z (fc call35 z<|j_X (B:=B) aa kM kR a2) λ_ si=>R z (not_ z)<|Rm z ?_;rcases bs (!a9) with H | H
  .exact Nh z H<|Nh z H<|R z (pT z H z)<|Wl (λ_ q=>⟨true,som<|ifT hmh H,kaA q,si⟩)
  exact Rh z H (mv z)<|Rh z H (lss z z)<|R z (pF z H z)<|Wl (λ_ q=>⟨decide<|x3<0,som<|ifF hmh H,kaA q,si⟩)
 rintro ab wj ⟨x5,rfl,_,_⟩;revert ab;refine Wo<|Wc z (λJ=>?_) (λJ=>?_)
 .exact Ws<|Rw z<|Wr<|rS1 (ifT hmg J) hr z ⟨kW,z,lb z⟩
 refine Wk<|Ws<|Rf z H_ z<|R z (l0 I_ z kBa)<|Rm z<|bdB (ifF hmg J) λx4 ad hmk=>xA (α:=b_) z J_ h_ z z z kR ad λ_ _ _ ae af _=>?_;obtain ⟨al,nm,cn,ao,np,cq,ar,ns,ct,au,nv,cw,rfl,_,_,_,_,_,_,_⟩:=a_x af;refine R z (lN (vs:=vR x4 al nm cn ao np cq ar ns ct au nv cw) z_ h_ z z fid ae)<|EvZ [(Str.v (⟨[]⟩:Str)),vI 0,vI 0,vB false,sN,sN,sN,sN] z b_E z λay _ a5=>E0q (vR x4 al nm cn ao np cq ar ns ct au nv cw) h_ z z a5 z λI O _=>Wn<|Wq<|Wb<|Ws<|Rf z a_l z<|R z (l0 g_3 z<|O.at z)<|Rq z z z<|Rw z<|Wc z (λL=>?_) (λL=>?_)
 .refine Wm z<|bdB (ifT hmk L) λ_ ah a6=>E z (fc call88 z<|l_M (B:=B) ah kM kG a3) ?_;rintro _ _ ⟨_,rfl,ai⟩;exact Rw z<|Wr<|rtO<|rS1 a6 hr z ⟨kW,z,ai⟩
 refine Wq<|bdB (ifF hmk L) λaj huy hmz=>Wt (λa w=>∃(V:Bool),V=aj/\Sat 58 [(2,vI x3),(7,pt wj.z),(27,vB V)] a/\Below I.z I w) ?_ ?_
 .refine Wg<|Rf z a_l z<|R z (l0 g_3 z<|O.at z)<|Rq z z z<|Rm z ?_;rcases bs (x4.kind==6) with G | G
  .exact Rh z G (mv z)<|Rh z G (fd c_2 z)<|Rh z G (l0 a_J z<|O.at z)<|Rh z G (lnR C_ z kR)<|Rh z G (lss z z)<|R z (pT z G z)<|Ra z<|Wl (λ_ q=>⟨decide<|x3<(x4.names.length:Int),som<|ifT huy G,kaA q,br I⟩)
  iterate 5 refine Nh z G ?_
  exact R z (pF z G z)<|Ra z<|Wl (λ_ q=>⟨false,som<|ifF huy G,kaA q,br I⟩)
 rintro ak _ ⟨V,rfl,_,_⟩;revert ak;refine Wo<|Wc z (λhca=>?_) (λhca=>?_)
 .refine Ws<|Rf z c_2 z<|R z (l0 a_J z kBa)<|Rm z<|bdB (ifT hmz hca) λ_ am a7=>xA (α:=Str) z C_ z_9 z z z kR am λ_ _ _ an ap _=>?_;obtain ⟨rfl,aq⟩:=a_n ap;exact R z (l0 g_9 z<|an.at0 z)<|Rw z<|Wr<|rtO<|rS1 a7 hr z ⟨kW,z,aq⟩
 have W:=ifF hmz hca;refine Wm z<|R z (a_2 z z)<|Rw z<|Wc z (λhcb=>?_) (λhcb=>?_)
 .exact Ws<|Rw z<|Wr<|rtO<|rS1 (ifT W hcb) hr z ⟨kW,z,lb z⟩
 have Y:=ifF W hcb;refine Ws<|Rf z a_l z<|R z (l0 g_3 z kBa)<|Rq z z z<|Rw z<|Wc z (λhcc=>?_) (λhcc=>?_)
 .exact Ws<|Rw z<|Wr<|rtO<|rS1 (ifT Y hcc) hr z ⟨kW,z,lb z⟩
 have a0:=ifF Y hcc;refine Ws<|Rf z a_l z<|R z (l0 g_3 z kBa)<|Rq z z z<|Rw z<|Wc z (λhcd=>?_) (λhcd=>?_)
 .exact Ws<|Rw z<|Wr<|rtO<|rS1 (ifT a0 hcd) hr z ⟨kW,z,lb z⟩
 have a1:=ifF a0 hcd;refine Ws<|Rf z a_l z<|R z (l0 g_3 z kBa)<|Rq z z z<|Rw z<|Wc z (λhce=>?_) (λhce=>?_)
 .exact Ws<|Rw z<|Wr<|rtO<|rS1 (ifT a1 hce) hr z ⟨kW,z,lb z⟩
 exact Wk<|Ws<|Rw z<|Wr<|rS1 (ifF a1 hce) hr z ⟨kW,z,lb z⟩
theorem l_N {x1:c_}{x2:Int}{x3:Val}{b3 o3:Nat}{x4:Int}{res:Int}(hm:e_F x1 x2 x3 x4=some res)(aQ:B<=w0.z)(aK:rp w0 B A0 N0 C0 x1.rules)(aL:inI x2)(aM:inI x3.number)(aN:rp w0 B A7 N7 C7 x3.bytes)(aO:rp w0 B A8 N8 C8 x3.items)(hC3:t_ w0 b3 o3 [vI x3.number,sl A7 N7 C7,sl A8 N8 C8])(hC3b:B b3)(aP:inI x4):f_ prog 86 [(.agg #[sl A0 N0 C0]),vI x2,pq b3 o3,vI x4] w0 (Q9 w0 B res):=by
 unfold e_F at hm;refine goG func86 z z z λfn hr=>Ws<|EvX [sl A0 N0 C0] z z z λG V W=>Rw z<|Ws<|Rf z H_ z<|R z (l0 I_ z<|W.at z)<|Rm z<|bdB hm λx5 es hmi=>xA (α:=b_) z J_ h_ z z z kR es λbj o2 _ H ht _=>?_;obtain ⟨_,_,_,_,_,_,au,nv,cw,_,_,_,rfl,_,_,_,_,_,h4,h6⟩:=a_x ht;refine Rw z<|Wq<|Wm z<|R z (B_ z)<|Rf z a_l z<|R z (l0 g_3 z<|H.at (j:=1) z)<|Wn<|Wb<|Ws<|Rq z z z<|Rw z<|Wc z (λJ=>?_) (λJ=>?_)
 .exact Wm z<|R z (B_ z)<|Rf z E_ z<|R z (l0 v_ z<|H.at (j:=7) z)<|bdB (ifT hmi J) λ_ ey hmx=>xI z u_ z_3 z z z h6 ey λ_ _ hz ai=>R z (l0 g_3 z<|hz.at0 z)<|Rw z<|Wr<|rtO<|rS1 hmx hr z ⟨V,z,ai⟩
 refine Ws<|Rq z z z<|Rw z<|bdB (ifF hmi J) λaj huk I=>Wt (λa w=>Sum.inl ()=aj/\Sat 80 [] a/\Below G.z G w) ?_ ?_
 .refine Wc z (λL=>?_)<|λL=>?_
  .have hml:=ifT huk L;refine Wm z<|Rm z<|R z (B_ z)<|Rf z E_ z<|R z (l0 v_ z<|H.at (j:=7) z)<|R z (lnR u_ z h6)<|Rl z z z<|Wx z (λO=>?_) (λO=>?_)
   .refine Wm z<|R z (B_ z)<|Rf z E_ z<|R z (l0 v_ z<|H.at (j:=7) z)<|Rm z<|bdB (ifT hml O) λ_ ak Y=>xI z u_ z_3 z z z h6 ak λ_ _ al am=>R z (l0 g_3 z<|al.at0 z)<|Rw z ?_;obtain rfl:=som Y;have a0:=elR I;exact Wr<|rtO<|rS1 a0 hr z ⟨V,z,am⟩
   exact M_<|λ_ q=>⟨som<|ifF hml O,q.k sn,br G⟩
  refine Ws<|Rq z z z<|Rw z<|bdB (ifF huk L) λan hum hma=>Wt (λa w=>Sum.inl ()=an/\Sat 80 [] a/\Below G.z G w) ?_ ?_
  .refine Wc z (λhcb=>?_)<|λhcb=>?_
   .refine Wm z<|R z (B_ z)<|Rf z b_6 z<|R z (l0 v_ z<|H.at (j:=6) z)<|R z (lnR u_ z h4)<|Rm z<|Wn<|bdB (ifT hum hcb) λ_ a1 hmn=>Wf (σ:=Unit) (ρ:=Int) (λ(ko:Nat)(_:Unit) a w=>Sat 80 [(2,.pointer<|some ⟨b3,o3,none⟩),(9,.pointer<|some ⟨bj,o2,none⟩),(49,sl au nv cw),(50,vI (x5.tags.length:Int)),(51,vI ((ko:Nat):Int))] a/\Below G.z G w) (λ(_:Unit) a w=>Sat 80 [] a/\Below G.z G w) (rQ prog fn<|Q9 w0 B) a1 ?_ ?_ ?_ ?_ ?_
    .exact λ_ q=>⟨kaA q,br G⟩
    .rintro ko _ _ _ _ hkc ⟨a2,ap⟩ a3;refine Wu ?_ a2;refine Ws<|Rl z z z<|Wn<|Wq<|Wc z (λ_=>?_) (λhc=>(R_ hkc hc).elim);refine Wk<|Wq<|Wb<|Wm z<|bdB a3 λ_ aq hmp=>xI z u_ z_3 z z z kR aq λ_ _ ar _=>R z (l0 g_3 z<|ar.at0 z)<|Ra z<|Rw z<|Wm z<|Rm z<|R z (B_ z)<|Rf z b_4 z<|R z (l0 g_3 z<|kCa (o:=o3) (j:=0))<|Rq z z z<|Wx z (λhcd=>?_) (λhcd=>?_)
     .exact Wm z<|R z (B_ z)<|Rf z E_ z<|R z (l0 v_ z<|kCa (o:=o2) (j:=7))<|Rm z<|R z (inc_ hkc (lt_ (repS.len h4) x_) z z)<|bdB (ifT hmp hcd) λ_ av a4=>xI z u_ z_3 z z z kR av λ_ _ aw ax=>R z (l0 g_3 z<|aw.at0 z)<|Rw z<|Wr<|rtO<|qL (som a4).symm<|b_d hr z ⟨kW,z,ax⟩
     exact Wk<|Wg<|R z (inc_ hkc (lt_ (repS.len h4) x_) z z)<|Rm z<|Wl (λ_ q=>⟨(),(som<|ifF hmp hcd).symm,⟨kaA q,ap⟩⟩)
    .rintro _ _ _ ⟨a5,ay⟩;refine Wu ?_ a5;refine Ws<|Rl z z z<|Wn<|Wq<|Wc z (λhc=>(S_ hc).elim) (λ_=>?_);exact We<|λ_ q=>⟨rfl,⟨q.k sn,ay⟩⟩
    .rintro _ az _ rfl ⟨_,aA⟩;have a6:=elL hmn;revert az;exact λ_ q=>⟨som a6,q.k sn,aA⟩
    rintro _ _ _ _ rfl ⟨rfl,a7⟩;have a8:=elR hmn;obtain rfl:=som a8;have a9:=elR hma;obtain rfl:=som a9;have aa:=elR I;obtain rfl:=som aa;exact ⟨a7,z⟩
   refine Wq<|Ws<|Rq z z z<|Rw z<|bdB (ifF hum hcb) λaB huq hmr=>Wt (λa w=>∃(xe:Bool),xe=aB/\Sat 80 [(9,.pointer<|some ⟨bj,o2,none⟩),(71,vB xe)] a/\Below G.z G w) ?_ ?_
   .refine Wc z (λhcf=>?_)<|λhcf=>?_
    .exact M_<|λ_ q=>⟨x5.kind==8,som<|ifT huq hcf,kaA q,br G⟩
    exact Wg<|Rq z z z<|Ra z<|Wl (λ_ q=>⟨x5.kind==9,som<|ifF huq hcf,kaA q,br G⟩)
   rintro aC _ ⟨xe,rfl,_,aD⟩;revert aC;refine Wo<|Wc z (λhcg=>?_) (λhcg=>?_)
   .refine Wm z<|R z (B_ z)<|Rf z E_ z<|R z (l0 v_ z<|kCa (o:=o2) (j:=7))<|bdB (ifT hmr hcg) λ_ aE ab=>xI z u_ z_3 z z z kR aE λ_ _ aF aG=>R z (l0 g_3 z<|aF.at0 z)<|Rw z ?_;obtain rfl:=som ab;have ad:=elR hma;obtain rfl:=som ad;have ae:=elR I;exact Wr<|rtO<|rS1 ae hr z ⟨kW,z,aG⟩
   exact M_<|λ_ q=>⟨som<|ifF hmr hcg,q.k sn,aD⟩
  rintro aH _ ⟨rfl,_,aI⟩;have af:=elL hma;revert aH;exact λ_ q=>⟨som af,q.k sn,aI⟩
 rintro aJ _ ⟨rfl,_,_⟩;have ah:=elL I;revert aJ;exact Wo<|Ws<|Rw z<|Wr<|rS1 ah hr z ⟨kW,z,ii z⟩
def Q33 (w0:World)(g1:Nat)(B:Zone)(A0:Option Addr)(N0 C0:Nat)(A6:Option Addr)(N6 C6:Nat)(AG:Option Addr)(NG CG:Nat)(S1_2:List Nat)(x1:d_I)(r:Int×(List g_))(v:Value)(w':World):Prop:=Chg (· ∈ ([g1]++S1_2)) w0 w'/\un2 (λr1 r2=>∃G H I S1,(vI r1)=v/\inI r1/\a_ w' S1 (sl G H I) r2/\S1.Nodup/\(∀k∈S1,k∈S1_2∨w0.z<=k)/\Blk w' g1 [sl A0 N0 C0,sl A6 N6 C6,sl G H I]) r
structure l_O (f:d_I->Str->Int->Val->Int->Option (Int×(List g_))):Prop where
  run:∀{A0 A6 AG AI AJ:Option Addr}{N0 C0 N6 C6 NG CG g1 NI CI NJ CJ b4 o4:Nat}{S1_2:List Nat}{B:Zone}{x1:d_I}{x2:Str}{x3:Int}{x4:Val}{x5:Int}{res:Int×(List g_)}{w0:World}(hm:f x1 x2 x3 x4 x5=some res)(hB1:Blk w0 g1 [sl A0 N0 C0,sl A6 N6 C6,sl AG NG CG])(hBw:B<=w0.z)(hBg:¬B g1)(hG:Gl w0 B)(p1_0:rp w0 B A0 N0 C0 x1.d.rules)(p1_1:rp w0 B A6 N6 C6 x1.b)(p1_2:a_ w0 S1_2 (sl AG NG CG) x1.list_)(p1_2n:S1_2.Nodup)(p1_2g:∀k∈S1_2,¬B k)(p1_2d:∀k∈S1_2,k∉[g1])(p2_0:x2.b.length<=LEN)(p3_0:inI x3)(p4_0:inI x4.number)(p4_1:rp w0 B AI NI CI x4.bytes)(p4_2:rp w0 B AJ NJ CJ x4.items)(hC4:t_ w0 b4 o4 [vI x4.number,sl AI NI CI,sl AJ NJ CJ])(hC4b:B b4)(p5_0:inI x5),f_ prog 63 [pt g1,Str.v x2,vI x3,pq b4 o4,vI x5] w0<|Q33 w0 g1 B A0 N0 C0 A6 N6 C6 AG NG CG S1_2 x1 res
abbrev n_H (n:Nat):Prop:=l_O (f_q n).impl_indexer_part
theorem T_w0l (aW:n_H n):l_O (j_9 n<|f_q n):=by
 constructor;intro A0 A6 AG AI AJ N0 C0 N6 C6 NG CG g1 NI CI NJ CJ b4 o4 S1_2 B x1 x2 x3 x4 x5 res w0 hm hB1 c2 hBg hG bZ c0 am p1_2n p1_2g p1_2d a3 W an c1 a2 hC4 hC4b a0;unfold j_9 at hm;refine goG func63 z z z λfn hr=>Ws<|Rw z<|Wm z<|R z (B_ z)<|Rf z i_1 z<|R z (l0 g_31 z<|hB1.at z)<|R z (lnR c_z z<|a_.rep am)<|Rw z<|Wm z<|Rm z<|R z (B_ z)<|Rf z i_1 z<|R z (l0 g_31 z<|hB1.at z)<|RM z z<|Rm z<|R z (bQ [(0,.tmp 27),(1,.tmp 28),(2,.tmp 29)] [Str.v x2,vI x3,vI x5,vI 0] h_1 z z)<|E z (fS [(.tmp 30)] c_K z z z (G_ z) (lb z)<|lb z) ?_;rintro _ aX ⟨rfl,hj⟩;have:=hj.below;have aq:Blk aX w0.z [Str.v x2,vI x3,vI x5,vI 0]:=hj.blk;have:=a_a hj<|e_O (x:=(⟨x2,x3,x5,0⟩:g_)) a3 W a0<|ii z;refine bdB hm λ_ aY ar=>E z (a_o (α:=g_) c_K aY z z kO p1_2n aq (e_O (x:=(⟨x2,x3,x5,0⟩:g_)) a3 W a0<|ii z) an_ q_) ?_;rintro _ _ ⟨S4,ap,nq,ct,rfl,aZ,_,b0,_⟩;refine R z (B_ z)<|Rf z i_1 z<|E0q [sl A0 N0 C0,sl A6 N6 C6,sl ap nq ct] z_31 z z kB z λc4 _ au=>Wn<|Wq (Wd (X:=noX) 0 (pl_ 16 [10]) mo (by kernel_rfl) λc5 b1 _=>dM z z z<|dR z z (B_ z)<|dR z z (fd i_0 z)<|dR z z (lN (vs:=[sl A0 N0 C0]) l_ j_ z z fid<|kBr 0 1)<|dM z z z<|dM z z z<|dR z z (B_ z)<|dR z z (fd s_3 z)<|dR z z (l0 K_ z kBa)<|dM z z z ?_);obtain ⟨L,_,b2,aw⟩:=a_t ar;refine dE z z (fc call116 z<|W_w3b (B:=B) (x1:=(⟨x1.d.rules⟩:c_)) b2 kM kR W kR a0) iB ?_;rintro _ wr ⟨b3,rfl,hu,_⟩;refine dM z z z<|dR z z (ext_ z z)<|dR z z (ext_ z z)<|dQ z z z<|dQ z z z<|pD<|Wo<|Wm z<|Rw z<|Wq<|Wm z<|R z (B_ z)<|Rf z i_0 z<|Rf z H_ z<|R z (l0 I_ z kBa)<|Rm z ?_;refine bdB aw λY b5 ay=>xA (α:=b_) z J_ h_ z z z kR b5 λ_ _ _ b6 b7 _=>?_;obtain ⟨av,ns,cw,ax,ny,cz,a8,a9,aa,ab,ad,ae,rfl,_,_,_,_,_,_,_⟩:=a_x b7;refine R z (lN (vs:=vR Y av ns cw ax ny cz a8 a9 aa ab ad ae) z_ h_ z z fid b6)<|EvZ [(Str.v (⟨[]⟩:Str)),vI 0,vI 0,vB false,sN,sN,sN,sN] z b_E z λc6 az aA=>E0q (vR Y av ns cw ax ny cz a8 a9 aa ab ad ae) h_ z z aA z λwc b8 aB=>Wn<|Ws<|Rf z a_l z<|R z (l0 g_3 z<|b8.at z)<|Wn<|Wb<|Wq<|Ws<|Rq z z z<|Rw z<|bdB ay λb9 a4 aC=>?_;refine Wt (λa w=>∃(xk:Bool),xk=b9/\Sat 126 [(0,pt g1),(1,Str.v x2),(2,vI x3),(3,.pointer<|some ⟨b4,o4,none⟩),(11,vI (x1.list_.length:Int)),(12,vI L),(14,vI x5),(15,pt wr.z),(59,vI Y.kind),(60,vB xk)] a/\Below wc.z wc w) ?_ ?_
 .refine Wc z (λhcl=>?_)<|λhcl=>?_
  .exact M_<|λ_ q=>⟨Y.kind==5,som<|ifT a4 hcl,q.k<|sc z<|sc z<|sc z<|sc z<|sc z<|sc z<|sc z<|sc z<|sc z<|sc z sn,br wc⟩
  exact Wg<|Rq z z z<|Ra z<|Wl (λ_ q=>⟨Y.kind==7,som<|ifF a4 hcl,q.k<|sc z<|sc z<|sc z<|sc z<|sc z<|sc z<|sc z<|sc z<|sc z<|sc z sn,br wc⟩)
 rintro ba O ⟨xk,rfl,_,bb⟩;revert ba;refine Wo<|bdB aC λbc a5 aD=>Wt (λa w=>∃(xf:Int),xf=bc/\Sat 126 [(0,pt g1),(1,Str.v x2),(2,vI x3),(3,.pointer<|some ⟨b4,o4,none⟩),(11,vI (x1.list_.length:Int)),(12,vI L),(14,vI xf)] a/\Below O.z O w/\inI xf) ?_ ?_
 .refine Wc z (λhcm=>?_)<|λhcm=>?_
  .refine Wd (X:=noX) 0 (pl_ 15 []) mo (by kernel_rfl) λc7 be _=>dM z z z<|dM z z z<|dR z z (B_ z)<|dR z z (fd i_0 z)<|dR z z (fd H_ z)<|dR z z (l0 I_ z kBa)<|dR z z (fd E_ z)<|dR z z (l0 v_ z kBa)<|bdB (ifT a5 hcm) λ_ bf aE=>dxA (α:=Int) z z u_ z_3 z z z kR bf λ_ _ _ bg bh _=>?_;obtain ⟨rfl,_⟩:=a_u bh;refine dR z z (l0 g_3 z<|bg.at0 z)<|bdB aE λbi bj aF=>dxA (α:=b_) z z J_ h_ z z z kR bj λ_ _ _ bk bm _=>?_;obtain ⟨_,_,_,_,_,_,_,_,_,_,_,_,rfl,_,_,_,_,_,_,_⟩:=a_x bm;exact dR z z (fd a_B z)<|dR z z (l0 g_3 z<|bk.at (j:=2) z)<|dR z z (add_ z z)<|dQ z z z<|pD (λ_ q=>⟨d_ x5 bi.size,som aF,kaA q,be,iA _ _⟩)
  refine Ws<|Rq z z z<|Rw z<|bdB (ifF a5 hcm) λbn a6 aG=>Wt (λa w=>∃(xa:Int),xa=bn/\Sat 126 [(0,pt g1),(1,Str.v x2),(2,vI x3),(3,.pointer<|some ⟨b4,o4,none⟩),(11,vI (x1.list_.length:Int)),(12,vI L),(14,vI xa)] a/\Below O.z O w/\inI xa) ?_ ?_
  .refine Wc z (λhcn=>?_)<|λhcn=>?_
   .exact Wg<|Rm z<|R z (add_ z z)<|Ra z<|Wl (λ_ q=>⟨d_ x5 1,som<|ifT a6 hcn,kaA q,br O,iA _ _⟩)
   exact M_<|λ_ q=>⟨x5,som<|ifF a6 hcn,kaA q,br O,a0⟩
  rintro bo _ ⟨xa,rfl,_,bp,bq⟩;revert bo;exact λ_ q=>⟨xa,som aG,kaA q,bp,bq⟩
 rintro bs wb ⟨xf,rfl,_,bt,bu⟩;revert bs;refine Wo<|Wq<|Wm z<|R z (B_ z)<|Rf z a_4 z<|have af:=(((((((t_.chg kC aZ<|sQB hC4b).c au<|sQB hC4b).e b1).e b3).e az).c aB<|sQB hC4b).e bb).e bt;R z (l0 a_k z<|af.at (j:=2) z)<|R z (lnR a_v z kR)<|Rm z<|Wn ?_;obtain ⟨_,aH,a7⟩:=bdS aD;refine Wf (σ:=Int×(List g_)) (ρ:=Int×(List g_)) (λ(ah:Nat) s a w=>un2 (λx6 V=>∃H I J G,Sat 126 [(0,pt g1),(1,Str.v x2),(2,vI x3),(3,.pointer<|some ⟨b4,o4,none⟩),(11,vI (x1.list_.length:Int)),(12,vI L),(14,vI x6),(85,vI (x4.items.length:Int)),(86,vI ((ah:Nat):Int))] a/\Chg (· ∈ ([g1]++S4)) wb w/\inI x6/\a_ w G (sl H I J) V/\G.Nodup/\(∀k∈G,k∈S4∨wb.z<=k)/\Blk w g1 [sl A0 N0 C0,sl A6 N6 C6,sl H I J]) s) (λs a w=>un2 (λx6 V=>∃H I J G,Sat 126 [(0,pt g1),(11,vI (x1.list_.length:Int)),(12,vI L)] a/\Chg (· ∈ ([g1]++S4)) wb w/\inI x6/\a_ w G (sl H I J) V/\G.Nodup/\(∀k∈G,k∈S4∨wb.z<=k)/\Blk w g1 [sl A0 N0 C0,sl A6 N6 C6,sl H I J]) s) (rQ prog fn<|Q33 w0 g1 B A0 N0 C0 A6 N6 C6 AG NG CG S1_2 x1) aH ?_ ?_ ?_ ?_ ?_
 .exact λ_ q=>⟨ap,nq,ct,S4,kaA q,cr ([g1]++S4) wb,bu,kO,b0,sQ,kB⟩
 .rintro ah ⟨x6,V⟩ _ _ _ hkg ⟨H,I,J,G,aI,bv,hh,hd,he,ai,hi⟩ aJ;refine Wu ?_ aI;refine Ws<|Rl z z z<|Wn<|Wq<|Wc z (λ_=>?_) (λhc=>(R_ hkg hc).elim);refine Wk<|Wq<|Wb<|Wm z<|Ra z<|Wn (Wd (X:=noX) 67108864 (.rd 0<|.rd 1<|.rd 2<|.rd 3<|.rd 4<|.rd 5<|.rd 6<|.rd 7<|.rd 8<|.rd 11<|.rd 12<|.rd 13<|.rd 14<|.rd 15<|.rd 16<|.rd 17<|.rd 19<|.rd 20<|.rd 21<|.rd 22<|.rd 23<|.rd 24<|.rd 25<|.ef 9<|.rd 10<|.ef 18<|.ef 26<|.rd 27 .done) mo (by kernel_rfl) λc8 bw _=>dM z z z<|dM z z z ?_);refine bdB (a_F aJ) λ_ bx aK=>dR z z (a_d z z bx)<|dM z z z<|dR z z (B_ z)<|dR z z (fd i_0 z)<|dR z z (lN (vs:=[sl A0 N0 C0]) l_ j_ z z fid<|kBr 0 1) ?_;iterate 3 refine dM z z z ?_
  refine dR z z (B_ z)<|dR z z (fd i_0 z)<|dR z z (lN (vs:=[sl A0 N0 C0]) l_ j_ z z fid<|kBr 0 1) ?_;iterate 4 refine dM z z z ?_
  refine dR z z (B_ z)<|dR z z (fd a_4 z)<|have aj:=(af.c bv<|sQB hC4b).e bw;dR z z (l0 a_k z<|aj.at (j:=2) z)<|dM z z z<|bdB aK λ_ bz aL=>dxA (α:=Val) z z a_v e_ z z z kR bz λ_ _ _ _ bA bB=>?_;obtain ⟨_,_,_,_,_,_,rfl,bC,_,_⟩:=g_v bA;refine dM z z z<|bdB aL λ_ bD aM=>dE z z (fc call117 z<|W_w3c (B:=B) (x1:=(⟨x1.d.rules⟩:c_)) bD kM kG kR W<|ic (Nat.le_of_lt hkg)<|lt_ (repS.len a2) x_) iB ?_;rintro _ _ ⟨bE,rfl,_⟩;refine bdB aM λ_ ak aN=>dR z z (a_d z z ak)<|bdB aN λ_ bF aO=>dE z z (fc call86 z<|l_N (B:=B) (x1:=(⟨x1.d.rules⟩:c_)) bF kM kR W an kR kR (aj.e bE) hC4b<|ic (Nat.le_of_lt hkg)<|lt_ (repS.len a2) x_) iB ?_;rintro _ _ ⟨_,rfl,bG⟩;obtain ⟨bH,bI,bJ,aP⟩:=a_t aO;refine dE z z (fc call63 z<|aW.run (B:=B) bJ kB kM sQ kG kR kR kO he sQ sQ (a_W ak) bG bC kR kR kC bB hh) (.inl z) ?_;rintro _ _ ⟨_,bK,bL,bM,bN,rfl,bO,bP,bR,_,bS⟩;exact dQ z z z<|pD<|Wo<|Wg<|R z (inc_ hkg (lt_ (repS.len a2) x_) z z)<|Rm z<|Wl (λ_ q=>⟨(bH,bI),(som aP).symm,⟨bK,bL,bM,bN,kaA q,kW,bO,bP,bR,sQ,bS⟩⟩)
 .rintro ⟨x6,V⟩ _ _ ⟨H,I,J,G,aQ,_,hh,hd,he,ai,hi⟩;refine Wu ?_ aQ;refine Ws<|Rl z z z<|Wn<|Wq<|Wc z (λhc=>(S_ hc).elim) (λ_=>?_);exact We<|λ_ q=>⟨rfl,⟨H,I,J,G,kaA q,kW,hh,hd,he,sQ,hi⟩⟩
 .rintro ⟨x6,V⟩ bT _ rfl ⟨H,I,J,G,_,_,hh,hd,he,ai,hi⟩;have aR:=elL a7;revert bT;refine Wo<|Wm z<|R z (B_ z)<|Rf z i_1 z<|R z (l0 g_31 z<|hi.at z)<|RM z z ?_;refine bdB (a_F aR) λxo al aS=>RX z (e_d (α:=g_) c_z b_i z z hd al) ?_;rintro _ ⟨_,bU,rfl⟩;refine Rf z f_35_3 z<|bdB aS λ_ bV aT=>E0 (h_T (α:=g_) (v':=(⟨xo.path,xo.rule,xo.start,L⟩:g_)) z_3 z bU z z z z al bV hd he (lb z)<|λ_ _ _ h=>q_u h hu) ?_;rintro _ _ ⟨bW,_,bX,bY,_⟩;exact Wn<|Wm z<|Rw z<|Wr<|rS1 aT hr z ⟨kW,H,I,J,bW,z,hu,bX,bY,sQ,kB⟩
 exact lqA a7 λ_ _ h=>h.2
theorem A_w0l:∀n,n_H n
  | 0=>⟨λhm=>by intros;exact nomatch (show none=some _ from hm)⟩
  | n+1=>T_w0l<|A_w0l n
theorem W_w0l:l_O (f_q n).impl_indexer_part:=A_w0l n
def Q34 (w0:World)(B:Zone)(r:(List g_)×Bool)(v:Value)(w':World):Prop:=Bw w0 w'/\un2 (λr1 r2=>∃G H I S1,v = .tuple #[sl G H I,vB r2]/\a_ w' S1 (sl G H I) r1/\S1.Nodup/\(∀k∈S1,w0.z<=k)) r
theorem W_w3d {x1:c_}{x2:Bt}{res:(List g_)×Bool}(hm:j_b n x1 x2=some res)(a3:B<=w0.z)(hG:Gl w0 B)(a0:rp w0 B A0 N0 C0 x1.rules)(a1:rp w0 B A5 N5 C5 x2):f_ prog 31 [(.agg #[sl A0 N0 C0]),sl A5 N5 C5] w0 (Q34 w0 B res):=by
 unfold j_b at hm;refine goG func31 z z z λfn hr=>Ws<|EvX [sl A0 N0 C0] z z z λw7 _ a2=>Ra z<|Rw z<|Ws<|R z (lC [sl A0 N0 C0] l_ j_ z)<|Rm z ?_;obtain ⟨W,_,_,Y,I⟩:=i_ hm;refine E z (fc call62 z<|W_w39 (B:=B) Y kM kG kR kR) ?_;rintro _ _ ⟨_,ab,nc,cd,_,ae,nf,cg,_,rfl,hh,hi,hj,_,_,hk,hl⟩;obtain ⟨_,_,_,_,_⟩:=U_ hk hl;refine Rm z ?_;iterate 3 refine Re z z z ?_
 refine EvZ [vI 0,sN,sN] z a_9 z λw3 _ H=>E0q [vI W.number,sl ab nc cd,sl ae nf cg] e_ z z H z λw5 _ _=>Ra z<|Rw z<|Wq<|Wm z<|R z (nq z z)<|Wx z (λG=>?_) (λG=>?_)
 .refine Ws<|E z (f0 (α:=g_) c_K) ?_;rintro _ _ ⟨an,no,cp,rfl,_,hq⟩;exact Ra z<|Rw z<|Wr<|rS2 (ifT I G) hr z z ⟨kW,an,no,cp,[w5.z],z,hq,a_j,sQ⟩
 refine Wk<|Ws<|R z (lC [sl A0 N0 C0] l_ j_ z)<|Rm z<|R z (bQ [(0,.tmp 20),(1,.tmp 21)] [sl A0 N0 C0,sl A5 N5 C5,sN] r_P z z)<|EvX [sl A0 N0 C0,sl A5 N5 C5,sN] z z z λwr _ _=>Rw z<|Wm z<|R z (lC [sl A0 N0 C0] l_ j_ z)<|bdB (ifF I G) λ_ es hmt=>E z (fc call64 z<|l_y (B:=B) es kM kR) ?_;rintro _ _ ⟨_,rfl,hu⟩;obtain ⟨_,_,ev,hmw⟩:=a_t hmt;refine E z (fc call63 z<|W_w0l.run (B:=w3.z) ev kB (a_5 kM) sQ (GlW.mono kG kM) (repS.mono kR kM) (repS.mono kR kM) onL q_ sQ an_ (lb z) hu hh (repS.mono (or_ kO<|a_.lt hi)<|a_5 kM) (repS.mono (or_ kO<|a_.lt hj)<|a_5 kM) (kBr 0 3) H.lt<|ii z) ?_;rintro _ _ ⟨_,ax,ny,cz,J,rfl,_,L,O,_,V⟩;exact Wn<|Wm z<|R z (B_ z)<|Rf z i_1 z<|R z (l0 g_31 z<|V.at z)<|Ra z<|Rw z<|Wr<|rS2 hmw hr z z ⟨kW,ax,ny,cz,J,z,L,O,sQ⟩
theorem W_w27 {x1:Str}{x2:UInt8}{res:(List Str)}(hm:f_h x1 x2=some res)(aI:B<=w0.z)(L:x1.b.length<=LEN):f_ prog 161 [Str.v x1,vU<|byteI x2] w0 (Q12 w0 B res):=by
 unfold f_h at hm;refine goG func161 z z z λfn hr=>Ws<|Rw z<|Ws<|E z (f0 (α:=Str) Q_) ?_;rintro _ O ⟨au,ns,ct,rfl,_,hv⟩;refine Rw z<|Ws<|Rw z<|Wq<|Ws<|Rw z ?_;obtain ⟨_,huw,hmo⟩:=bdS hm;refine Wf (σ:=(List Str)×Int) (ρ:=List Str) (λ(ka:Nat) s a w=>un2 (λx5 x4=>∃H I J G,Sat 35 [(0,Str.v x1),(1,vU<|byteI x2),(5,sl H I J),(6,vI x4),(7,vI ((ka:Nat):Int))] a/\Cg [w0.z] O w/\a_ w G (sl H I J) x5/\G.Nodup/\(∀k∈G,k∈[w0.z]∨O.z<=k)/\inI x4) s) (λs a w=>un2 (λx5 x4=>∃H I J G,Sat 35 [(0,Str.v x1),(5,sl H I J),(6,vI x4)] a/\Cg [w0.z] O w/\a_ w G (sl H I J) x5/\G.Nodup/\(∀k∈G,k∈[w0.z]∨O.z<=k)/\inI x4) s) (rQ prog fn<|Q12 w0 B) huw ?_ ?_ ?_ ?_ ?_
 .exact λ_ q=>⟨au,ns,ct,[w0.z],kaA q,cr [w0.z] O,hv,a_j,sQ,ii z⟩
 .rintro ka ⟨x5,x4⟩ _ wb _ hkc ⟨H,I,J,G,hSx,_,hd,h6,hp,he⟩ hmy;refine Wu ?_ hSx;refine Wq<|Wm z<|Rm z<|R z (lnT d_9 z)<|Rl z z z<|Wx z (λ_=>?_) (λhc=>(R_ hkc hc).elim);refine Wk<|Wq<|Wb<|Wm z<|Rm z<|bdB (a_F hmy) λ_ eq a2=>R z (c_b d_9 z z (a_i eq).1 (a_i eq).2.1)<|Rm z<|Rq z z z<|Wn<|bdB a2 λad hur a3=>Wt (λa w=>∃(xf:List Str)(V:Int),(xf,V)=ad/\∃ag nh ci W,Sat 35 [(0,Str.v x1),(1,vU<|byteI x2),(5,sl ag nh ci),(6,vI V),(7,vI ((ka:Nat):Int))] a/\Cg G wb w/\a_ w W (sl ag nh ci) xf/\W.Nodup/\(∀k∈W,k∈G∨wb.z<=k)/\inI V) ?_ ?_
  .refine Wc z (λhcj=>?_)<|λhcj=>?_
   .refine Wm z<|RM z z<|Rm z<|bdB (ifT hur hcj) λae ek a4=>R z (h_X d_9 z z z L ek)<|EvA z (fS [(.tmp 24)] Q_ z z z (G_ z) (lb z)<|lb z) λaf hl=>have:=hl.below;have Y:Blk af wb.z [Str.v ae]:=hl.blk;have:=a_a hl<|a_T<|g_Z ek L;bdB a4 λah ai a5=>E z (a_o (α:=Str) Q_ ai z z kO h6 Y (a_T<|g_Z ek L) an_ q_) ?_;rintro _ _ ⟨aj,ak,al,am,rfl,_,an,ap,_⟩;exact Rw z<|Wg<|Rm z<|R z (inc_ hkc (lt_ L x_) z z)<|Ra z<|Wl (λ_ q=>⟨ah,((ka+1:Nat):Int),som a5,ak,al,am,aj,kaA q,kW,an,ap,sQ,ic (Nat.succ_le_of_lt hkc)<|lt_ L x_⟩)
   exact M_<|λ_ q=>⟨x5,x4,som<|ifF hur hcj,H,I,J,G,kaA q,cr G wb,hd,h6,sQ,he⟩
  rintro aq _ ⟨xf,V,rfl,ag,nh,ci,W,_,_,ar,av,_,aw⟩;revert aq;exact Wo<|Wg<|Rm z<|R z (inc_ hkc (lt_ L x_) z z)<|Ra z<|Wl (λ_ q=>⟨(xf,V),(som<|a_F a3).symm,⟨ag,nh,ci,W,kaA q,kW,ar,av,sQ,aw⟩⟩)
 .rintro ⟨x5,x4⟩ _ _ ⟨H,I,J,G,a6,_,hd,h6,hp,he⟩;refine Wu ?_ a6;refine Wq<|Wm z<|Rm z<|R z (lnT d_9 z)<|Rl z z z<|Wx z (λhc=>(S_ hc).elim) (λ_=>?_);exact We<|λ_ q=>⟨rfl,⟨H,I,J,G,kaA q,kW,hd,h6,sQ,he⟩⟩
 .rintro ⟨x5,x4⟩ ax ay rfl ⟨H,I,J,G,_,_,hd,h6,hp,he⟩;have a7:=elL hmo;revert ax;refine Wo<|Wm z<|RM z z ?_;refine bdB (a_F a7) λaz em a8=>R z (h_X d_9 z z z L em)<|EvA z (fS [(.tmp 32)] Q_ z z z (G_ z) (lb z)<|lb z) λaA hn=>have:=hn.below;have a0:Blk aA ay.z [Str.v az]:=hn.blk;have:=a_a hn<|a_T<|g_Z em L;bdB a8 λ_ aB a9=>E z (a_o (α:=Str) Q_ aB z z kO h6 a0 (a_T<|g_Z em L) an_ q_) ?_;rintro _ _ ⟨aC,aD,aE,aF,rfl,_,aG,aH,_⟩;exact Rw z<|Wr<|rS1 a9 hr z ⟨kW,aD,aE,aF,aC,z,aG,aH,sQ⟩
 exact lqA hmo λ_ _ h=>h.2
theorem W_w28 {x1:Str}{res:Int×Bool}(hm:g_l x1=some res)(ad:B<=w0.z)(a0:x1.b.length<=LEN):f_ prog 140 [Str.v x1] w0 (Q14 w0 B res):=by
 unfold g_l at hm;refine goG func140 z z z λfn hr=>Ws<|Ra z<|Rw z<|Wq<|Wq<|bdB hm λur hue hmf=>Wt (λa w=>∃(Y:Bool),Y=ur/\Sat 50 [(0,Str.v x1),(22,vB Y)] a/\Below w0.z w0 w) ?_ ?_
 .refine Wg<|Rm z<|R z (a_U z z)<|Rm z ?_;rcases bs (x1.b==(⟨[]⟩:Str).b) with I | I
  .iterate 3 refine Nh z I ?_
   exact R z (pT z I z)<|Rm z<|Nh z z<|Nh z z<|Nh z z<|Nh z z<|Nv z<|Nv z<|Nv z<|Nh z z<|R z (pT z z z)<|Wl (λ_ q=>⟨true,som<|ifT hue I,kaA q,br w0⟩)
  have hmg:=ifF hue I;refine Rh z I (mv z)<|Rh z I (lnT d_9 z)<|Rh z I (a_2 z z)<|R z (pF z I z)<|Rm z ?_;rcases bs (decide<|13<(x1.b.length:Int)) with G | G
  .iterate 4 refine Nh z G ?_
   exact Nv z<|Nv z<|Nv z<|Nh z G<|R z (pT z G z)<|Wl (λ_ q=>⟨true,som<|ifT hmg G,kaA q,br w0⟩)
  refine Rh z G (mv z)<|bdB (ifF hmg G) λxs eh hmi=>Rh z G (c_b d_9 z z (a_i eh).1 (a_i eh).2.1)<|Rh z G (eql z z)<|Rh z G (mv z) ?_;rcases bs ((byteI xs)==(byteI (48:UInt8))) with J | J
  .exact Rh z J (mv z)<|Rh z J (lnT d_9 z)<|Rh z J (a_2 z z)<|Rh z G (pT z J z)<|R z (pF z G z)<|Wl (λ_ q=>⟨decide<|1<(x1.b.length:Int),som<|ifT hmi J,kaA q,br w0⟩)
  iterate 3 refine Nh z J ?_
  exact Rh z G (pF z J z)<|R z (pF z G z)<|Wl (λ_ q=>⟨false,som<|ifF hmi J,kaA q,br w0⟩)
 rintro au L ⟨Y,rfl,_,st⟩;revert au;refine Wo<|Wc z (λW=>?_) (λW=>?_)
 .exact Ws<|Ra z<|Rw z<|Wr<|rS2 (ifT hmf W) hr z z ⟨st,z,ii z⟩
 refine Wk<|Ws<|Rw z<|Wq<|Ws<|Rw z<|bdB (ifF hmf W) λ_ huv hmj=>Wf (σ:=Int) (ρ:=Int×Bool) (λ(ka:Nat)(x2:Int) a w=>Sat 50 [(0,Str.v x1),(4,vI x2),(5,vI ((ka:Nat):Int))] a/\Below L.z L w/\inI x2) (λ(x2:Int) a w=>Sat 50 [(4,vI x2)] a/\Below L.z L w/\inI x2) (rQ prog fn<|Q14 w0 B) huv ?_ ?_ ?_ ?_ ?_
 .exact λ_ q=>⟨kaA q,br L,ii z⟩
 .rintro ka x2 _ O _ hkk ⟨hSw,_,V⟩ hmx;refine Wu ?_ hSw;refine Wq<|Wm z<|Rm z<|R z (lnT d_9 z)<|Rl z z z<|Wx z (λ_=>?_) (λhc=>(R_ hkk hc).elim);refine Wk<|Wq<|Wb<|Wq<|Wq<|bdB hmx λuy huz hml=>Wt (λa w=>∃(xb:Bool),xb=uy/\Sat 50 [(0,Str.v x1),(4,vI x2),(5,vI ((ka:Nat):Int)),(38,vB xb)] a/\Below O.z O w) ?_ ?_
  .refine Wg<|RM z z<|bdB huz λa6 em hmn=>R z (c_b d_9 z z (a_i em).1 (a_i em).2.1)<|Rl z z z<|Rm z ?_;rcases bs (decide<|(byteI a6)<(byteI (48:UInt8))) with H | H
   .iterate 4 refine Nh z H ?_
    exact R z (pT z H z)<|Wl (λ_ q=>⟨true,som<|ifT hmn H,kaA q,br O⟩)
   exact Rh z H (mv z)<|Rh z H (mv z)<|bdB (ifF hmn H) λa7 eo a1=>Rh z H (c_b d_9 z z (a_i eo).1 (a_i eo).2.1)<|Rh z H (a_2 z z)<|R z (pF z H z)<|Wl (λ_ q=>⟨decide<|(byteI (57:UInt8))<(byteI a7),som a1,kaA q,br O⟩)
  rintro a8 _ ⟨xb,rfl,_,_⟩;revert a8;refine Wo<|Wc z (λhcc=>?_) (λhcc=>?_)
  .exact Ws<|Ra z<|Rw z<|Wr<|rtO<|qL (som<|ifT hml hcc).symm<|c_9 hr z z ⟨kW,z,ii z⟩
  exact Wk<|Wg<|Rm z<|R z (d_2 z z)<|RM z z<|bdB (ifF hml hcc) λa9 ep a2=>R z (c_b d_9 z z (a_i ep).1 (a_i ep).2.1)<|R z (n_i z z)<|R z (c_0 d_5 d_3 z)<|R z (add_ z z)<|Rw z<|Wg<|Rm z<|R z (inc_ hkk (lt_ a0 x_) z z)<|Ra z<|Wl (λ_ q=>⟨d_ (a_7 10 x2)<|byteI<|mkB (byteI a9 - byteI (48:UInt8)),(som a2).symm,⟨kaA q,kW,iA _ _⟩⟩)
 .rintro x2 _ _ ⟨a3,aa,V⟩;refine Wu ?_ a3;refine Wq<|Wm z<|Rm z<|R z (lnT d_9 z)<|Rl z z z<|Wx z (λhc=>(S_ hc).elim) (λ_=>?_);exact We<|λ_ q=>⟨rfl,⟨kaA q,aa,V⟩⟩
 .rintro x2 ab _ rfl ⟨_,_,V⟩;have hmq:=elL hmj;revert ab;refine Wo<|Wq<|Wm z<|R z (a_2 z z)<|Wx z (λhcd=>?_) (λhcd=>?_)
  .exact Ws<|Ra z<|Rw z<|Wr<|rS2 (ifT hmq hcd) hr z z ⟨kW,z,ii z⟩
  exact Wk<|Wm z<|Ra z<|Rw z<|Wr<|rS2 (ifF hmq hcd) hr z z ⟨kW,z,V⟩
 exact lqA hmj λ_ _ h=>h.2
theorem W_w29 {x1:Str}{res:Bool}(hm:f_j n x1=some res)(a0:B<=w0.z)(L:x1.b.length<=LEN):f_ prog 120 [Str.v x1] w0 (Q0 w0 B res):=by
 unfold f_j at hm;refine goG func120 z z z λfn hr=>Ws<|Rw z<|Wq<|Wq<|bdB hm λua hub O=>Wt (λa w=>∃(x4:Bool),x4=ua/\Sat 25 [(0,Str.v x1),(18,vB x4)] a/\Below w0.z w0 w) ?_ ?_
 .refine Wg<|Rm z<|bdB hub λrc ed V=>EcA z (fc call139 z<|l_A (B:=B) ed a0 L) λ_ s3=>Rm z ?_;rcases bs rc with G | G
  .exact Nh z G<|Nh z G<|R z (pT z G z)<|Rm z<|Nh z z<|Nh z z<|R z (pT z z z)<|Rm z<|Nh z z<|Nh z z<|R z (pT z z z)<|Wl (λ_ q=>⟨true,som<|ifT V G,kaA q,s3⟩)
  have W:=ifF V G;refine Rh z G (mv z)<|Rh z G (a_U z z)<|R z (pF z G z)<|Rm z ?_;rcases bs (x1.b==(⟨[42]⟩:Str).b) with H | H
  .exact Nh z H<|Nh z H<|R z (pT z H z)<|Rm z<|Nh z z<|Nh z z<|R z (pT z z z)<|Wl (λ_ q=>⟨true,som<|ifT W H,kaA q,s3⟩)
  have Y:=ifF W H;refine Rh z H (mv z)<|Rh z H (a_U z z)<|R z (pF z H z)<|Rm z ?_;rcases bs (x1.b==(⟨[63]⟩:Str).b) with I | I
  .exact Nh z I<|Nh z I<|R z (pT z I z)<|Wl (λ_ q=>⟨true,som<|ifT Y I,kaA q,s3⟩)
  exact Rh z I (mv z)<|Rh z I (a_U z z)<|R z (pF z I z)<|Wl (λ_ q=>⟨x1.b==(⟨[43]⟩:Str).b,som<|ifF Y I,kaA q,s3⟩)
 rintro ae _ ⟨x4,rfl,_,sf⟩;revert ae;refine Wo<|Wc z (λJ=>?_) (λJ=>?_)
 .exact Ws<|Rw z<|Wr<|rS1 (ifT O J) hr z ⟨sf,z⟩
 refine Wk<|Wm z ?_;obtain ⟨_,_,eg,hmh⟩:=a_t<|ifF O J;refine E z (fc call140 z<|W_w28 (B:=B) eg kM L) ?_;rintro _ _ ⟨_,rfl,_⟩;exact Rm z<|Re z z z<|Re z z z<|Ra z<|Rw z<|Wm z<|Rw z<|Wr<|rS1 hmh hr z ⟨kW,z⟩
theorem W_w3e {x1:Str}{res:Bool}(hm:g_t n x1=some res)(O:B<=w0.z)(L:x1.b.length<=LEN):f_ prog 119 [Str.v x1] w0 (Q0 w0 B res):=by
 unfold g_t at hm;refine goG func119 z z z λfn hr=>Ws<|Rw z<|Wq<|bdB hm λY V W=>Wt (λa w=>∃(x2:Bool),x2=Y/\Sat 13 [(2,vB x2)] a/\Below w0.z w0 w) ?_ ?_
 .refine Wg<|Rm z<|bdB V λr9 ea I=>EcA z (fc call120 z<|W_w29 (B:=B) ea O L) λ_ s3=>Rm z ?_;rcases bs r9 with G | G
  .exact Nh z G<|Nh z G<|R z (pT z G z)<|Rm z<|Nh z z<|Nh z z<|R z (pT z z z)<|Ra z<|Wl (λ_ q=>⟨true,som<|ifT I G,kaA q,s3⟩)
  have J:=ifF I G;refine Rh z G (mv z)<|Rh z G (a_U z z)<|R z (pF z G z)<|Rm z ?_;rcases bs (x1.b==(⟨[35]⟩:Str).b) with H | H
  .exact Nh z H<|Nh z H<|R z (pT z H z)<|Ra z<|Wl (λ_ q=>⟨true,som<|ifT J H,kaA q,s3⟩)
  exact Rh z H (mv z)<|Rh z H (a_U z z)<|R z (pF z H z)<|Ra z<|Wl (λ_ q=>⟨x1.b==(⟨[46,46]⟩:Str).b,som<|ifF J H,kaA q,s3⟩)
 rintro ab _ ⟨x2,rfl,_,sc⟩;revert ab;exact Wo<|Wr<|rS1 W hr z ⟨sc,z⟩
def Q35 (w0:World)(B:Zone)(r:(List Str)×Bool)(v:Value)(w':World):Prop:=Bw w0 w'/\un2 (λr1 r2=>∃(G:Option Addr)(H I:Nat)(S1:List Nat),v = .tuple #[(sl G H I),(vB r2)]/\a_ w' S1 (sl G H I) r1/\S1.Nodup/\(∀k∈S1,w0.heap.size<=k)) r
theorem s_j {w:World}{gp b:Nat}{s:Str}{l0 parts:List Str}(hs:s.b.length<=LEN)(hm:f_h s (47:UInt8)=some l0)(hsl:slc l0 1 (l0.length:Int)=some parts)(hp:Blk w gp [Str.v s])(hb:b<w.heap.size)(hrow:∀g,c_f w b g->g<w.heap.size) :
    SeqStopsK (α:={x:Str // x∈parts/\x.b.length<=LEN}) Fence.wide 1 Tryz.prog 160 [pt gp].toArray (λx=>#[x.1.v]) (KpS b) (λxs=>xs.map (·.1)=parts) (λ_=>True) parts.length w:=by
  intro l J Jx W hW hJ hJx hY h0;have hpW:=hp.ext hW
  have hrowW:∀g,c_f W b g->g<W.heap.size:=λg ⟨n,c,h⟩=>by
    have h':w.cell? ⟨b,0,none⟩=some (sl (some ⟨g,0,none⟩) n c):=(World.cell?_of_block (w:=w) (w':=W) (a:=⟨b,0,none⟩)<|hW.block b hb).symm.trans h;exact Nat.lt_of_lt_of_le (hrow g ⟨n,c,h'⟩) hW.size
  have hbW:=Nat.lt_of_lt_of_le hb hW.size
  have hc:f_ Tryz.prog 160 [.func (.yield l) #[] #[],pt gp] W (λ_ W'=>(∃xs:List {x:Str // x∈parts/\x.b.length<=LEN},xs.map (·.1)=parts/\J xs W')∨(∃pre,True/\Jx pre W')):=by
    obtain ⟨fn,hf,hbd,hN,hr⟩:=fnE Tryz.func160;refine h_V hf (hbd.trans rfl) (hN.trans rfl) (Nat.le_of_ble_eq_true rfl) ?_;refine a_c<|a_E ?_;refine R rfl (b_w g_9 rfl (λh=>h)<|hpW.at rfl) ?_;refine E rfl (d_J Tryz.call161 rfl<|W_w27 (B:=W.heap.size) hm zr hs) ?_;rintro _ W1 ⟨s1,a1,n1,c1,S1,rfl,ho,nd,hge⟩;refine RX rfl (p_T C_ z_9 rfl ho rfl rfl hsl) ?_;intro v7 hv7;obtain ⟨ao7,c7,rfl,_⟩:=id hv7;refine R rfl (e_T C_ rfl<|hv7.repS (B:=W1.heap.size)<|λk hk=>ho.lt k hk) ?_;refine R rfl (b_8 rfl) ?_;refine a_f<|WC.of_KC ?_;have hJ1:J [] W1:=hJ [] W W1 none h0 (Below.grows s1) (λr h=>by cases h);have hb1:b∉S1:=λh=>absurd (hge b h)<|Nat.not_le.2 hbW
    have hr1:∀g,c_f W1 b g->g∉S1:=λg ⟨n,c,h⟩ hg=>by
      have h':W.cell? ⟨b,0,none⟩=some (sl (some ⟨g,0,none⟩) n c):=(World.cell?_of_block (w:=W) (w':=W1) (a:=⟨b,0,none⟩)<|s1.block b hbW).symm.trans h;exact absurd (hge g hg)<|Nat.not_le.2<|hrowW g ⟨n,c,h'⟩
    have hlenL:parts.length<=9223372036854775807:=Nat.le_trans (by obtain ⟨_,_,_,_,h,_⟩:=hv7;exact h) x_;refine c_V λa ha=>?_
    refine Code.wp_mono (Q:=Exit.then noK<|λex a w=>(ex = .exit 0/\b_C Tryz.prog fn (λ_ W'=>(∃xs:List {x:Str // x∈parts/\x.b.length<=LEN},xs.map (·.1)=parts/\J xs W')∨(∃pre,True/\Jx pre W')) a w)∨(ex = .ret/\b_C Tryz.prog fn (λ_ W'=>(∃xs:List {x:Str // x∈parts/\x.b.length<=LEN},xs.map (·.1)=parts/\J xs W')∨(∃pre,True/\Jx pre W')) a w)) (λex a' w' q=>?_)<|wp_loop_ghost (λm a w=>∃(k:Nat)(pre:List {x:Str // x∈parts/\x.b.length<=LEN}),k+m=parts.length/\pre.map (·.1)=parts.take k/\Sat 18 [(9,vI (k:Int)),(8,vI (parts.length:Int)),(7,sl ao7 parts.length c7),(0,.func (.yield l) #[] #[])] a/\J pre w/\a_ w S1 (sl a1 n1 c1) l0/\(∀g,c_f w b g->g∉S1)/\d_z w (· ∈ S1) (sl ao7 parts.length c7) parts) parts.length ?_ ?_
    . cases ex with
      | normal=>exact (show False from q).elim
      | exit i =>
        rcases q with ⟨h,q⟩ | ⟨h,_⟩
        . cases h;exact q
        . cases h
      | ret =>
        rcases q with ⟨h,_⟩ | ⟨_,q⟩
        . cases h
        . exact q
      | _=>rcases q with ⟨h,_⟩ | ⟨h,_⟩ <;> cases h
    . exact ⟨0,[],by omega,by simp,ha.weaken<|sc rfl<|sc rfl<|sc rfl<|sc rfl sn,hJ1,ho,hr1,hv7⟩
    . rintro m a w ⟨k,pre,hkm,hpre,hsat,hJw,how,hrw,hvw⟩
      refine e_X (N:=18) (e:=[(9,vI (k:Int)),(8,vI (parts.length:Int)),(7,sl ao7 parts.length c7),(0,.func (.yield l) #[] #[])]) ?_ hsat;refine a_c<|a_E<|R rfl (e_n rfl rfl)<|a_f<|WC.of_KC ?_;refine a_c<|b_Z rfl (λhc=>?_)<|λhc=>?_
      . have hk:k<parts.length:=by simpa using hc
        obtain ⟨m,rfl⟩:∃m',m=m'+1:=⟨m - 1,by omega⟩;refine M_<|WC.of_KC ?_;refine a_c<|c_V ?_;refine a_c<|a_E ?_;have hrep:=hvw.repS (B:=w.heap.size)<|λk hk=>how.lt k hk;have hidx:idx parts (k:Int)=some parts[k]:=by rw [l_5];simp [hk]
        refine RX rfl (d_O (α:=Str) C_ z_9 rfl rfl rfl hrep hidx) ?_;rintro _ ⟨bb,oo,cs,rfl,hc1,hrr,hlt⟩;obtain ⟨rfl,hxl⟩:=a_n hrr;refine R rfl (b_w g_9 rfl (λh=>h)<|hc1.at0 rfl) ?_;refine R rfl (c_A rfl) ?_;refine a_f<|WC.of_KC ?_;refine a_c<|p_O ?_;refine f_e rfl (b_8 rfl) ?_;refine f_e rfl (b_8 rfl) ?_
        have hpl:pre.length=k:=by
          have:=congrArg List.length hpre
          simp at this;omega
        refine p_P (S:=λv w'=>(v=vB true/\J (pre++[⟨parts[k],List.getElem_mem hk,hxl⟩]) w'/\KpS b w w')∨(v=vB false/\Jx (pre++[⟨parts[k],List.getElem_mem hk,hxl⟩]) w')) rfl rfl rfl (hY pre ⟨parts[k],List.getElem_mem hk,hxl⟩ w hJw (by omega)) (λe w' h=>?_) ?_
        . rcases h with ⟨rfl,h⟩ | ⟨rfl,h⟩
          . exact ⟨_,rfl,.inl ⟨rfl,h⟩⟩
          . exact ⟨_,rfl,.inr ⟨rfl,h⟩⟩
        rintro v w' (⟨rfl,hJ',hK⟩ | ⟨rfl,hX⟩)
        . refine f_e rfl (d_4 rfl) ?_
          refine k_F<|WC.of_KC ?_;refine b_Z rfl (λh=>by cases h)<|λ_=>?_;refine M_<|WC.of_KC ?_;refine a_E<|R rfl (e_R hk hlenL rfl rfl)<|R rfl (b_8 rfl) ?_;obtain ⟨ho',hr'⟩:=hK.own how hb1 hrw
          have hv':d_z w' (· ∈ S1) (sl ao7 parts.length c7) parts:=hvw.stay λg hg=>hK.chg.block g (how.lt g hg) λhm=>by
            rcases hm with rfl | hm | ⟨o,ho2,hcl⟩
            . exact hb1 hg
            . exact hrw g hm hg
            . obtain ⟨cur,hB⟩:=e_4 how g hg
              rw [hB.isCells ho2] at hcl;cases hcl
          refine a_f λa' ha'=>⟨m,Nat.lt_succ_self _,k+1,pre++[⟨parts[k],List.getElem_mem hk,hxl⟩],by omega,?_,ha'.weaken<|sc rfl<|sc rfl<|sc rfl<|sc rfl sn,hJ',ho',hr',hv'⟩
          rw [List.map_append,hpre,List.take_add_one,List.getElem?_eq_getElem hk];rfl
        . refine f_e rfl (d_4 rfl) ?_
          refine k_F<|WC.of_KC ?_;refine b_Z rfl (λ_=>?_) (λh=>by cases h);exact c_r<|rtO λa' ha'=>.inr ⟨rfl,ret0 hr (.inr ⟨_,trivial,hX⟩) a' ha'⟩
      . have hk:¬k<parts.length:=by simpa using hc
        have:k=parts.length:=by omega
        subst this;refine e_H λa' ha'=>.inl ⟨rfl,ret0 hr (.inl ⟨pre,?_,hJw⟩) a' ha'⟩
        rw [hpre,List.take_length]
  refine callsIn_wide.2<|hc.run.mono λe w' ⟨v,he,h⟩=>⟨⟨v,he⟩,h⟩
theorem n_I {w0 W W':World}{row:Option Nat}(h:Below w0.heap.size w0 W)(hg:W.grownBy W' row)(hr:∀r,row=some r->w0.heap.size<=r):Below w0.heap.size w0 W':=c_i h (k_G hg) λk hk e=>absurd (hr k e)<|Nat.not_le.2 hk
def s_k (w0:World)(s:Str)(v:Value)(w':World):Prop:=v = .func (.func 160) #[] #[pt w0.heap.size]/\Blk w' w0.heap.size [Str.v s]/\Bw w0 w'
theorem s_l {w0:World}{s:Str}:f_ Tryz.prog 138 [Str.v s] w0 (s_k w0 s):=by
  obtain ⟨_,hf,hb,hN,hr⟩:=fnE Tryz.func138;refine h_V hf (hb.trans rfl) (hN.trans rfl) (Nat.le_of_ble_eq_true rfl) ?_;refine a_c<|a_E ?_;refine E rfl (d_i rfl) ?_;rintro _ G ⟨rfl,h1⟩;refine R rfl (c_A rfl) ?_;refine a_f<|WC.of_KC ?_;refine a_c<|a_E ?_;refine R rfl (j_z rfl) ?_;refine R rfl (c_A rfl) ?_;refine a_f<|WC.of_KC ?_;exact c_r<|b_d hr rfl ⟨rfl,(h1.blk:Blk G w0.heap.size [Str.v s]),h1.below⟩
theorem W_w3f {n:Nat}{B:Zone}{x1:Str}{res:(List Str)×Bool}{w0:World}(hm:k_P n x1=some res)(hBw:B<=w0.heap.size)(p1_0:x1.b.length<=LEN):f_ Tryz.prog 118 [(Str.v x1),.func (.func 119) #[] #[]] w0 (Q35 w0 B res):=by
  unfold k_P at hm
  obtain ⟨fn,hf,hb,hN,hr⟩:=fnE Tryz.func118;refine p_R hf (hb.trans rfl) (hN.trans rfl) (Nat.le_of_ble_eq_true rfl) ?_
  -- the cells
  refine a_c<|a_E ?_;refine E rfl (d_i rfl) ?_;rintro _ w1 ⟨rfl,h1⟩;have b3:Blk w1 w0.heap.size [.func (.func 119) #[] #[]]:=h1.blk;refine E rfl (c_u j_S) ?_;rintro _ w2 ⟨rfl,h2⟩;have b4:Blk w2 w1.heap.size [.slice none 0 0]:=h2.blk;refine E rfl (c_u n_C) ?_;rintro _ w3 ⟨rfl,h3⟩;have b5:Blk w3 w2.heap.size [vB false]:=h3.blk;refine a_f<|WC.of_KC ?_;refine a_c<|a_E ?_;refine E rfl (d_P (α:=Str) Q_) ?_;rintro _ w4 ⟨a,m,c,rfl,s4,ho4⟩;refine E rfl (c_u j_S) ?_;rintro _ w5 ⟨rfl,h5⟩;have b6:Blk w5 w4.heap.size [.slice none 0 0]:=h5.blk;refine E0 (a_O (cur':=[.slice a m c]) c_y rfl rfl b6 rfl (Nat.le_of_ble_eq_true rfl) (b_0 rfl) rfl) ?_;rintro _ w6 ⟨c6,s6⟩;have t6:=s6.one;refine a_f<|WC.of_KC ?_
  -- what is known behind
  have g1:=h1.below;have g2:=h2.below;have g3:=h3.below;have g5:=h5.below;have z1:=h1.size;have z2:=h2.size;have z3:=h3.size;have z5:=h5.size;have z4:=s4.size;have z6:=s6.size
  have hz:w0.heap.size<w1.heap.size/\w1.heap.size<w2.heap.size/\w2.heap.size<w3.heap.size/\w3.heap.size<w4.heap.size/\w4.heap.size<w6.heap.size:=by
    have:=ho4.lt _ List.mem_cons_self
    omega
  have k3:Blk w6 w0.heap.size [.func (.func 119) #[] #[]]:=((((b3.ext g2).ext g3).ext s4).ext g5).chg s6 (by omega);have k4:Blk w6 w1.heap.size [.slice none 0 0]:=(((b4.ext g3).ext s4).ext g5).chg s6 (by omega);have k5:Blk w6 w2.heap.size [vB false]:=((b5.ext s4).ext g5).chg s6 (by omega);have kS:a_ w6 [w3.heap.size] (sl a m c) ([]:List Str):=(ho4.ext g5).chg s6 (λk hk=>by have:=List.mem_singleton.1 hk;omega);have kB:Below w0.heap.size w0 w6:=c_1 (bup (bup (bup (bup g1 g2) g3) s4) g5) t6 (λk hk=>by have:=List.mem_singleton.1 hk;omega)
  clear b3 b4 b5 b6 ho4 h1 h2 h3 h5 s4 s6 t6 g1 g2 g3 g5 z1 z2 z3 z4 z5 z6
  -- the first look
  refine a_c<|a_c<|a_E ?_;refine R rfl (b_8 rfl) ?_;refine R rfl (a_U rfl rfl) ?_;refine a_f<|WC.of_KC ?_;refine b_Z rfl (λhc=>?_)<|λhc=>?_
  . obtain rfl:=som (ifT hm hc)
    refine a_c<|a_E ?_;refine R rfl (b_w a_J rfl (λh=>h)<|c6.at rfl) ?_;refine E0 (a_O (cur':=[.slice a m c]) c_y rfl rfl k4 rfl (Nat.le_of_ble_eq_true rfl) (b_0 rfl) rfl) ?_;rintro _ w7 ⟨c7,s7⟩;refine E0 (a_O (cur':=[vB true]) z_4 rfl rfl (k5.chg s7 (by omega)) rfl (Nat.le_of_ble_eq_true rfl) (b_0 rfl) rfl) ?_;rintro _ w8 ⟨c8,s8⟩;refine a_f<|WC.of_KC ?_;refine c_r λa' ha'=>retM<|c_9 hr (c_8 (n:=1) a_J rfl<|c7.chg s8 (by omega)) (c_8 (n:=1) g_4 rfl c8) ⟨c_1 (c_1 kB s7.one (λk hk=>by have:=List.mem_singleton.1 hk;omega)) s8.one (λk hk=>by have:=List.mem_singleton.1 hk;omega),?_⟩ a' ha'
    exact ⟨a,m,c,_,rfl,(kS.chg s7 (λk hk=>by have:=List.mem_singleton.1 hk;omega)).chg s8 (λk hk=>by have:=List.mem_singleton.1 hk;omega),(by simp),λk hk=>by have:=List.mem_singleton.1 hk;omega⟩
  replace hm:=ifF hm hc;refine M_<|WC.of_KC ?_
  -- the first byte
  refine a_c<|a_c<|a_E ?_;refine R rfl (b_8 rfl) ?_;obtain ⟨x13,e13,hm⟩:=bdS hm;refine R rfl (c_b d_9 rfl rfl (a_i e13).1 (a_i e13).2.1) ?_;refine R rfl (f_1 rfl rfl) ?_;refine a_f<|WC.of_KC ?_;refine b_Z rfl (λhc=>?_)<|λhc=>?_
  . obtain rfl:=som (ifT hm hc)
    refine a_c<|a_E ?_;refine R rfl (b_w a_J rfl (λh=>h)<|c6.at rfl) ?_;refine E0 (a_O (cur':=[.slice a m c]) c_y rfl rfl k4 rfl (Nat.le_of_ble_eq_true rfl) (b_0 rfl) rfl) ?_;rintro _ w7 ⟨c7,s7⟩;refine E0 (a_O (cur':=[vB false]) z_4 rfl rfl (k5.chg s7 (by omega)) rfl (Nat.le_of_ble_eq_true rfl) (b_0 rfl) rfl) ?_;rintro _ w8 ⟨c8,s8⟩;refine a_f<|WC.of_KC ?_;refine c_r λa' ha'=>retM<|c_9 hr (c_8 (n:=1) a_J rfl<|c7.chg s8 (by omega)) (c_8 (n:=1) g_4 rfl c8) ⟨c_1 (c_1 kB s7.one (λk hk=>by have:=List.mem_singleton.1 hk;omega)) s8.one (λk hk=>by have:=List.mem_singleton.1 hk;omega),?_⟩ a' ha'
    exact ⟨a,m,c,_,rfl,(kS.chg s7 (λk hk=>by have:=List.mem_singleton.1 hk;omega)).chg s8 (λk hk=>by have:=List.mem_singleton.1 hk;omega),(by simp),λk hk=>by have:=List.mem_singleton.1 hk;omega⟩
  replace hm:=ifF hm hc;refine M_<|WC.of_KC ?_;obtain ⟨l0,hsp,hm⟩:=bdS hm;obtain ⟨parts,hsl,hm⟩:=bdS hm;obtain ⟨oks,hok,hm⟩:=bdS hm
  split at hm
  case isFalse=>cases hm
  rename_i hlim
  obtain rfl:=som hm;obtain ⟨hacc,hall⟩:=m_N hok
  -- the loop
  refine a_c<|a_c<|a_E ?_;refine R rfl (b_8 rfl) ?_;refine E rfl (d_J Tryz.call138 rfl s_l) ?_;rintro _ w7 ⟨rfl,bp,s7⟩;refine a_f<|WC.of_KC ?_;replace k3:=k3.ext s7;replace k4:=k4.ext s7;replace k5:=k5.ext s7;replace c6:=c6.ext s7;replace kS:=kS.ext s7;replace kB:=bup kB<|s7.mono<|Nat.le_refl _;have z7:=s7.size
  have hrow:∀g,c_f w7 w4.heap.size g->g<w7.heap.size:=λg hg=>by
    have h1:=m_M c6 hg;exact kS.lt _<|(i_x kS).2 g 0 none h1
  generalize w1.heap.size=q4 at *
  generalize w2.heap.size=q5 at *
  generalize w4.heap.size=q6 at *
  refine p_S (α:={x:Str // x∈parts/\x.b.length<=LEN}) (f:=λx=>x.1) (gf:=160) (lb:=[pt w6.heap.size]) (b:=q6) (M:=parts.length) (S:=λxs=>xs.map (·.1)=parts) (Sp:=λ_=>True) rfl Tryz.call160 rfl rfl (by omega)
    (s_j p1_0 hsp hsl bp (by omega) hrow)
    (λpre W=>(∀x∈pre,(g_t n x.1).getD false=true)/\(∃(a:Option Addr)(m c:Nat)(S:List Nat),Blk W q6 [.slice a m c]/\a_ W S (sl a m c) (pre.map (·.1))/\S.Nodup/\(∀k∈S,q5<k/\k ≠ q6))/\Blk W w0.heap.size [.func (.func 119) #[] #[]]/\Blk W q4 [.slice none 0 0]/\Blk W q5 [vB false]/\Below w0.heap.size w0 W)
    (λpre W=>(∃x∈pre,(g_t n x.1).getD false=false)/\(∃(a:Option Addr)(m c:Nat)(S:List Nat),Blk W q4 [.slice a m c]/\a_ W S (sl a m c) ([]:List Str)/\S.Nodup/\(∀k∈S,w0.heap.size<=k))/\Blk W q5 [vB false]/\Below w0.heap.size w0 W)
    ?_ ?_ ?_ ?_ ?_ ?_
  . rintro pre W W' row ⟨h1,⟨a,m,c,S,h2,h3,h4,h5⟩,h6,h7,h8,h9⟩ hg hr
    have hr':=λr e=>(hr r e).2
    exact ⟨h1,⟨a,m,c,S,h2.grown hg hr',k_J h3 hg hr',h4,h5⟩,h6.grown hg hr',h7.grown hg hr',h8.grown hg hr',n_I h9 hg λr e=>Nat.le_trans (by omega) (hr r e).1⟩
  . rintro pre W W' row ⟨h1,⟨a,m,c,S,h2,h3,h4,h5⟩,h8,h9⟩ hg hr
    have hr':=λr e=>(hr r e).2
    exact ⟨h1,⟨a,m,c,S,h2.grown hg hr',k_J h3 hg hr',h4,h5⟩,h8.grown hg hr',n_I h9 hg λr e=>Nat.le_trans (by omega) (hr r e).1⟩
  . exact ⟨λx hx=>(by cases hx),⟨a,m,c,_,c6,kS,(by simp),λk hk=>by have:=List.mem_singleton.1 hk;omega⟩,k3,k4,k5,kB⟩
  . rintro l pre ⟨x,hx,hxl⟩ W ⟨h1,⟨a,m,c,S,h2,h3,h4,h5⟩,h6,h7,h8,h9⟩ hlt
    refine p_N<|h_m<|h_m<|h_l rfl (λ_ _ h=>by cases h.1) ?_;refine R rfl (b_w g_107 rfl (λh=>h)<|h6.at rfl) ?_;refine R rfl (b_8 rfl) ?_;refine E rfl (e_9 (caps:=[]) Tryz.call119 rfl rfl<|W_w3e (hacc x hx) zr hxl) ?_;rintro _ W1 ⟨s1,rfl⟩;refine R rfl (d_4 rfl) ?_;refine a_f<|WCI.of_KC ?_;have y1:=s1.size;have hq6:=h2.lt;have hw0.heap.size:=h6.lt;have hq4:=h7.lt;have hq5:=h8.lt;refine p_K rfl (λhc=>?_)<|λhc=>?_
    . refine h_m (h_l rfl (λ_ _ h=>by cases h.1) ?_)
      refine E rfl (d_P (α:=Str) Q_) ?_;rintro _ W2 ⟨a2,m2,c2,rfl,s2,ho2⟩;refine E0 (a_O (cur':=[.slice a2 m2 c2]) c_y rfl rfl ((h7.ext s1).ext s2) rfl (Nat.le_of_ble_eq_true rfl) (b_0 rfl) rfl) ?_;rintro _ W3 ⟨c3,s3⟩;refine E0 (a_O (cur':=[vB false]) z_4 rfl rfl (((h8.ext s1).ext s2).chg s3 (by omega)) rfl (Nat.le_of_ble_eq_true rfl) (b_0 rfl) rfl) ?_;rintro _ W4 ⟨c4,s4⟩;refine a_f<|WCI.of_KC ?_;have hW:Below W.heap.size W W2:=bup s1 s2
      have hc4:Chg (λk=>k=q4∨k=q5) W W4:=by
        have e1:Chg (λk=>k=q4∨k=q5) W W2:=(Chg.refl _ W).ext hW;refine (e1.comp s3 λk _ hk=>.inl hk).comp s4 λk _ hk=>.inr hk
      refine p_M λ_ q=>⟨rfl,k_I hc4 λk _ hk=>?_,⟨⟨x,hx,hxl⟩,by simp,by simpa using hc⟩,⟨a2,m2,c2,_,c3.chg s4 (by omega),(ho2.chg s3 λk hk=>by have:=List.mem_singleton.1 hk;omega).chg s4 λk hk=>by have:=List.mem_singleton.1 hk;omega,(by simp),λk hk=>by have:=List.mem_singleton.1 hk;omega⟩,c4,?_⟩
      . rcases hk with rfl | rfl
        . exact ⟨_,h7⟩
        . exact ⟨_,h8⟩
      . exact c_i h9 hc4 λk hk hm=>by rcases hm with rfl | rfl <;> omega
    . refine p_L (WCI.of_KC ?_)
      refine h_l rfl (λ_ _ h=>by cases h.1) ?_
      have hpsh:psh (pre.map (·.1)) x=some (pre.map (·.1)++[x]):=by
        unfold psh
        rw [if_pos (by rw [List.length_map];omega)]
      refine R rfl (b_w a_J rfl (λh=>h)<|(h2.ext s1).at rfl) ?_;refine R rfl (b_8 rfl) ?_;refine E rfl (e_P [(.tmp 25)] Q_ rfl rfl rfl (G_ rfl) (Nat.le_of_ble_eq_true rfl)<|Nat.le_of_ble_eq_true rfl) ?_;rintro _ W2 ⟨rfl,hb⟩;have s2:=hb.below;have y2:=s2.size;refine E rfl (a_o (α:=Str) Q_ hpsh rfl rfl ((h3.ext s1).ext s2) h4 hb.blk (a_T hxl) c_w q_) ?_;rintro _ W3 ⟨S',a',n',c',rfl,s3,ho3,nd3,hs3⟩;have y3:=s3.size
      have n3:∀k,k<W.heap.size->k<=q5∨k=q6->k∉S':=λk hk hq hm=>by
        rcases hs3 k hm with h | h | h
        . have:=h5 k h;omega
        . cases h
        . omega
      refine E0 (a_O (cur':=[.slice a' n' c']) c_y rfl rfl (((h2.ext s1).ext s2).chg s3 (λhm=>(h5 _ hm).2 rfl)) rfl (Nat.le_of_ble_eq_true rfl) (b_0 rfl) rfl) ?_;rintro _ W4 ⟨c4,s4⟩;have hW:Below W.heap.size W W2:=bup s1 s2
      have hc4:Chg (λk=>k=q6∨k∈S) W W4:=by
        have e1:Chg (λk=>k=q6∨k∈S) W W2:=(Chg.refl _ W).ext hW;refine (e1.comp s3 λk _ hk=>.inr hk).comp s4 λk _ hk=>.inl hk
      have ho4:a_ W4 S' (sl a' n' c') (pre.map (·.1)++[x]):=ho3.chg s4 λk hk he=>n3 q6 hq6 (.inr rfl)<|he ▸ hk
      have hs4:∀k∈S',k∈S∨W.heap.size<=k:=λk hk=>by
        rcases hs3 k hk with h | h | h
        . exact .inl h
        . cases h
        . exact .inr (by omega)
      have k4:∀k,k<=q5->¬(k=q6∨k∈S):=λk hk hm=>by
        rcases hm with rfl | hm
        . omega
        . have:=h5 k hm;omega
      refine a_f λa'' ha''=>⟨k_I hc4 λk _ hk=>?_,KpS.of_chg h2 h3 c4 ho4 hs4 hc4,λy hy=>?_,⟨a',n',c',S',c4,by simpa using ho4,nd3,λk hk=>?_⟩,h6.chg hc4<|k4 _ (by omega),h7.chg hc4<|k4 _ (by omega),h8.chg hc4<|k4 _ (by omega),c_i h9 hc4 λk hk hm=>k4 k (by omega) hm⟩
      . rcases hk with rfl | hk
        . exact ⟨_,h2⟩
        . exact e_4 h3 k hk
      . rcases List.mem_append.1 hy with hy | hy
        . exact h1 y hy
        . obtain rfl:=List.mem_singleton.1 hy
          simpa using hc
      . rcases hs4 k hk with h | h
        . exact h5 k h
        . omega
  . rintro D xs W hD hxs ⟨h1,⟨a,m,c,S,h2,h3,h4,h5⟩,h6,h7,h8,h9⟩ hdef a0 ha0
    have hw0.heap.size:=h6.lt;have hq4:=h7.lt;have hq5:=h8.lt;refine tailD ?_ ha0;refine R rfl (b_w a_J rfl (λh=>h)<|h2.at rfl) ?_;refine E0 (a_O (cur':=[.slice a m c]) c_y rfl rfl h7 rfl (Nat.le_of_ble_eq_true rfl) (b_0 rfl) rfl) ?_;rintro _ W1 ⟨c7,s7⟩;refine E0 (a_O (cur':=[vB true]) z_4 rfl rfl (h8.chg s7 (by omega)) rfl (Nat.le_of_ble_eq_true rfl) (b_0 rfl) rfl) ?_;rintro _ W2 ⟨c8,s8⟩;have hDlt:=(Array.getElem?_eq_some_iff.1 hdef).1;have hdef2:W2.heap[D]? = some (.deferred<|some []):=((s8.block D (Nat.lt_of_lt_of_le hDlt s7.size) (by omega)).trans (s7.block D hDlt (by omega))).trans hdef
    have hDS:∀k∈S,k ≠ D:=λk hk e=>by
      obtain ⟨cur,hB⟩:=e_4 h3 k hk;have:=(e ▸ hB).isCells hdef
      cases this
    have hoks:oks.all id=true:=hall.2 λy hy=>by
      rw [← hxs] at hy
      obtain ⟨z,hz,rfl⟩:=List.mem_map.1 hy;exact h1 z hz
    rw [if_pos hoks]
    refine a_f λa' ha'=>⟨ha'.defers,hdef2,?_⟩
    have hp:=k_H W2 D<|.deferred none;obtain ⟨_,v,e1,e2⟩:=c_9 (R:=Q35 w0 B (parts,true)) hr (c_8 (n:=1) a_J rfl<|(c7.chg s8 (by omega)).chg hp (by omega)) (c_8 (n:=1) g_4 rfl<|c8.chg hp (by omega)) ⟨c_i (c_i (c_i h9 s7 λk hk e=>by omega) s8 λk hk e=>by omega) hp λk hk e=>by omega,a,m,c,S,rfl,((hxs ▸ h3).chg s7 λk hk e=>by have:=h5 k hk;omega).chg s8 (λk hk e=>by have:=h5 k hk;omega) |>.chg hp λk hk e=>hDS k hk e,h4,λk hk=>by have:=h5 k hk;omega⟩ a' ha';exact ⟨v,e1,e2⟩
  . rintro D pre W hD _ ⟨⟨⟨x,hx,hxl⟩,hxm,hxb⟩,⟨a,m,c,S,h2,h3,h4,h5⟩,h8,h9⟩ hdef a0 ha0
    have hq4:=h2.lt;have hq5:=h8.lt
    have hDS:∀k∈S,k ≠ D:=λk hk e=>by
      obtain ⟨cur,hB⟩:=e_4 h3 k hk;have:=(e ▸ hB).isCells hdef
      cases this
    have hoks:¬oks.all id=true:=λh=>by
      have:=hall.1 h x hx
      rw [this] at hxb;cases hxb
    rw [if_neg hoks]
    have hp:=k_H W D<|.deferred none;obtain ⟨_,v,e1,e2⟩:=c_9 (R:=Q35 w0 B ([],false)) hr (c_8 (n:=1) a_J rfl<|h2.chg hp (by omega)) (c_8 (n:=1) g_4 rfl<|h8.chg hp (by omega)) ⟨c_i h9 hp λk hk e=>by omega,a,m,c,S,rfl,h3.chg hp λk hk e=>hDS k hk e,h4,h5⟩ a0 ha0;exact retD ha0.defers hdef e1 e2
def Q36 (w0:World)(B:Zone)(r:(List Str)×Bool)(v:Value)(w':World):Prop:=Bw w0 w'/\un2 (λr1 r2=>∃G H I S1,v = .tuple #[sl G H I,vB r2]/\a_ w' S1 (sl G H I) r1/\S1.Nodup/\(∀k∈S1,w0.z<=k)) r
theorem W_w3g {x1:Str}{res:(List Str)×Bool}(hm:j_g n x1=some res)(H:B<=w0.z)(G:x1.b.length<=LEN):f_ prog 65 [Str.v x1] w0 (Q36 w0 B res):=by
 unfold j_g at hm;refine goG func65 z z z λfn hr=>Ws<|Ra z<|Rw z<|Wm z ?_;obtain ⟨_,_,J,I⟩:=a_t hm;refine E z (fc call118 z<|W_w3f (B:=B) J H G) ?_;rintro _ _ ⟨s2,L,O,V,W,rfl,Y,h8,h9⟩;exact Re z z z<|Re z z z<|Ra z<|Rw z<|Wr<|rS2 I hr z z ⟨s2,L,O,V,W,z,Y,h8,h9⟩
def Q37 (w0:World)(B:Zone)(r:(List Str)×Bool)(v:Value)(w':World):Prop:=Bw w0 w'/\un2 (λr1 r2=>∃(G:Option Addr)(H I:Nat)(S1:List Nat),v = .tuple #[(sl G H I),(vB r2)]/\a_ w' S1 (sl G H I) r1/\S1.Nodup/\(∀k∈S1,w0.heap.size<=k)) r
theorem s_m {w:World}{gp b:Nat}{s:Str}{l0 parts:List Str}(hs:s.b.length<=LEN)(hm:f_h s (47:UInt8)=some l0)(hsl:slc l0 1 (l0.length:Int)=some parts)(hp:Blk w gp [Str.v s])(hb:b<w.heap.size)(hrow:∀g,c_f w b g->g<w.heap.size) :
    SeqStopsK (α:={x:Str // x∈parts/\x.b.length<=LEN}) Fence.wide 1 Tryz.prog 160 [pt gp].toArray (λx=>#[x.1.v]) (KpS b) (λxs=>xs.map (·.1)=parts) (λ_=>True) parts.length w:=by
  intro l J Jx W hW hJ hJx hY h0;have hpW:=hp.ext hW
  have hrowW:∀g,c_f W b g->g<W.heap.size:=λg ⟨n,c,h⟩=>by
    have h':w.cell? ⟨b,0,none⟩=some (sl (some ⟨g,0,none⟩) n c):=(World.cell?_of_block (w:=w) (w':=W) (a:=⟨b,0,none⟩)<|hW.block b hb).symm.trans h;exact Nat.lt_of_lt_of_le (hrow g ⟨n,c,h'⟩) hW.size
  have hbW:=Nat.lt_of_lt_of_le hb hW.size
  have hc:f_ Tryz.prog 160 [.func (.yield l) #[] #[],pt gp] W (λ_ W'=>(∃xs:List {x:Str // x∈parts/\x.b.length<=LEN},xs.map (·.1)=parts/\J xs W')∨(∃pre,True/\Jx pre W')):=by
    obtain ⟨fn,hf,hbd,hN,hr⟩:=fnE Tryz.func160;refine h_V hf (hbd.trans rfl) (hN.trans rfl) (Nat.le_of_ble_eq_true rfl) ?_;refine a_c<|a_E ?_;refine R rfl (b_w g_9 rfl (λh=>h)<|hpW.at rfl) ?_;refine E rfl (d_J Tryz.call161 rfl<|W_w27 (B:=W.heap.size) hm zr hs) ?_;rintro _ W1 ⟨s1,a1,n1,c1,S1,rfl,ho,nd,hge⟩;refine RX rfl (p_T C_ z_9 rfl ho rfl rfl hsl) ?_;intro v7 hv7;obtain ⟨ao7,c7,rfl,_⟩:=id hv7;refine R rfl (e_T C_ rfl<|hv7.repS (B:=W1.heap.size)<|λk hk=>ho.lt k hk) ?_;refine R rfl (b_8 rfl) ?_;refine a_f<|WC.of_KC ?_;have hJ1:J [] W1:=hJ [] W W1 none h0 (Below.grows s1) (λr h=>by cases h);have hb1:b∉S1:=λh=>absurd (hge b h)<|Nat.not_le.2 hbW
    have hr1:∀g,c_f W1 b g->g∉S1:=λg ⟨n,c,h⟩ hg=>by
      have h':W.cell? ⟨b,0,none⟩=some (sl (some ⟨g,0,none⟩) n c):=(World.cell?_of_block (w:=W) (w':=W1) (a:=⟨b,0,none⟩)<|s1.block b hbW).symm.trans h;exact absurd (hge g hg)<|Nat.not_le.2<|hrowW g ⟨n,c,h'⟩
    have hlenL:parts.length<=9223372036854775807:=Nat.le_trans (by obtain ⟨_,_,_,_,h,_⟩:=hv7;exact h) x_;refine c_V λa ha=>?_
    refine Code.wp_mono (Q:=Exit.then noK<|λex a w=>(ex = .exit 0/\b_C Tryz.prog fn (λ_ W'=>(∃xs:List {x:Str // x∈parts/\x.b.length<=LEN},xs.map (·.1)=parts/\J xs W')∨(∃pre,True/\Jx pre W')) a w)∨(ex = .ret/\b_C Tryz.prog fn (λ_ W'=>(∃xs:List {x:Str // x∈parts/\x.b.length<=LEN},xs.map (·.1)=parts/\J xs W')∨(∃pre,True/\Jx pre W')) a w)) (λex a' w' q=>?_)<|wp_loop_ghost (λm a w=>∃(k:Nat)(pre:List {x:Str // x∈parts/\x.b.length<=LEN}),k+m=parts.length/\pre.map (·.1)=parts.take k/\Sat 18 [(9,vI (k:Int)),(8,vI (parts.length:Int)),(7,sl ao7 parts.length c7),(0,.func (.yield l) #[] #[])] a/\J pre w/\a_ w S1 (sl a1 n1 c1) l0/\(∀g,c_f w b g->g∉S1)/\d_z w (· ∈ S1) (sl ao7 parts.length c7) parts) parts.length ?_ ?_
    . cases ex with
      | normal=>exact (show False from q).elim
      | exit i =>
        rcases q with ⟨h,q⟩ | ⟨h,_⟩
        . cases h;exact q
        . cases h
      | ret =>
        rcases q with ⟨h,_⟩ | ⟨_,q⟩
        . cases h
        . exact q
      | _=>rcases q with ⟨h,_⟩ | ⟨h,_⟩ <;> cases h
    . exact ⟨0,[],by omega,by simp,ha.weaken<|sc rfl<|sc rfl<|sc rfl<|sc rfl sn,hJ1,ho,hr1,hv7⟩
    . rintro m a w ⟨k,pre,hkm,hpre,hsat,hJw,how,hrw,hvw⟩
      refine e_X (N:=18) (e:=[(9,vI (k:Int)),(8,vI (parts.length:Int)),(7,sl ao7 parts.length c7),(0,.func (.yield l) #[] #[])]) ?_ hsat;refine a_c<|a_E<|R rfl (e_n rfl rfl)<|a_f<|WC.of_KC ?_;refine a_c<|b_Z rfl (λhc=>?_)<|λhc=>?_
      . have hk:k<parts.length:=by simpa using hc
        obtain ⟨m,rfl⟩:∃m',m=m'+1:=⟨m - 1,by omega⟩;refine M_<|WC.of_KC ?_;refine a_c<|c_V ?_;refine a_c<|a_E ?_;have hrep:=hvw.repS (B:=w.heap.size)<|λk hk=>how.lt k hk;have hidx:idx parts (k:Int)=some parts[k]:=by rw [l_5];simp [hk]
        refine RX rfl (d_O (α:=Str) C_ z_9 rfl rfl rfl hrep hidx) ?_;rintro _ ⟨bb,oo,cs,rfl,hc1,hrr,hlt⟩;obtain ⟨rfl,hxl⟩:=a_n hrr;refine R rfl (b_w g_9 rfl (λh=>h)<|hc1.at0 rfl) ?_;refine R rfl (c_A rfl) ?_;refine a_f<|WC.of_KC ?_;refine a_c<|p_O ?_;refine f_e rfl (b_8 rfl) ?_;refine f_e rfl (b_8 rfl) ?_
        have hpl:pre.length=k:=by
          have:=congrArg List.length hpre
          simp at this;omega
        refine p_P (S:=λv w'=>(v=vB true/\J (pre++[⟨parts[k],List.getElem_mem hk,hxl⟩]) w'/\KpS b w w')∨(v=vB false/\Jx (pre++[⟨parts[k],List.getElem_mem hk,hxl⟩]) w')) rfl rfl rfl (hY pre ⟨parts[k],List.getElem_mem hk,hxl⟩ w hJw (by omega)) (λe w' h=>?_) ?_
        . rcases h with ⟨rfl,h⟩ | ⟨rfl,h⟩
          . exact ⟨_,rfl,.inl ⟨rfl,h⟩⟩
          . exact ⟨_,rfl,.inr ⟨rfl,h⟩⟩
        rintro v w' (⟨rfl,hJ',hK⟩ | ⟨rfl,hX⟩)
        . refine f_e rfl (d_4 rfl) ?_
          refine k_F<|WC.of_KC ?_;refine b_Z rfl (λh=>by cases h)<|λ_=>?_;refine M_<|WC.of_KC ?_;refine a_E<|R rfl (e_R hk hlenL rfl rfl)<|R rfl (b_8 rfl) ?_;obtain ⟨ho',hr'⟩:=hK.own how hb1 hrw
          have hv':d_z w' (· ∈ S1) (sl ao7 parts.length c7) parts:=hvw.stay λg hg=>hK.chg.block g (how.lt g hg) λhm=>by
            rcases hm with rfl | hm | ⟨o,ho2,hcl⟩
            . exact hb1 hg
            . exact hrw g hm hg
            . obtain ⟨cur,hB⟩:=e_4 how g hg
              rw [hB.isCells ho2] at hcl;cases hcl
          refine a_f λa' ha'=>⟨m,Nat.lt_succ_self _,k+1,pre++[⟨parts[k],List.getElem_mem hk,hxl⟩],by omega,?_,ha'.weaken<|sc rfl<|sc rfl<|sc rfl<|sc rfl sn,hJ',ho',hr',hv'⟩
          rw [List.map_append,hpre,List.take_add_one,List.getElem?_eq_getElem hk];rfl
        . refine f_e rfl (d_4 rfl) ?_
          refine k_F<|WC.of_KC ?_;refine b_Z rfl (λ_=>?_) (λh=>by cases h);exact c_r<|rtO λa' ha'=>.inr ⟨rfl,ret0 hr (.inr ⟨_,trivial,hX⟩) a' ha'⟩
      . have hk:¬k<parts.length:=by simpa using hc
        have:k=parts.length:=by omega
        subst this;refine e_H λa' ha'=>.inl ⟨rfl,ret0 hr (.inl ⟨pre,?_,hJw⟩) a' ha'⟩
        rw [hpre,List.take_length]
  refine callsIn_wide.2<|hc.run.mono λe w' ⟨v,he,h⟩=>⟨⟨v,he⟩,h⟩
theorem n_J {w0 W W':World}{row:Option Nat}(h:Below w0.heap.size w0 W)(hg:W.grownBy W' row)(hr:∀r,row=some r->w0.heap.size<=r):Below w0.heap.size w0 W':=c_i h (k_G hg) λk hk e=>absurd (hr k e)<|Nat.not_le.2 hk
def s_n (w0:World)(s:Str)(v:Value)(w':World):Prop:=v = .func (.func 160) #[] #[pt w0.heap.size]/\Blk w' w0.heap.size [Str.v s]/\Bw w0 w'
theorem s_o {w0:World}{s:Str}:f_ Tryz.prog 138 [Str.v s] w0 (s_n w0 s):=by
  obtain ⟨_,hf,hb,hN,hr⟩:=fnE Tryz.func138;refine h_V hf (hb.trans rfl) (hN.trans rfl) (Nat.le_of_ble_eq_true rfl) ?_;refine a_c<|a_E ?_;refine E rfl (d_i rfl) ?_;rintro _ G ⟨rfl,h1⟩;refine R rfl (c_A rfl) ?_;refine a_f<|WC.of_KC ?_;refine a_c<|a_E ?_;refine R rfl (j_z rfl) ?_;refine R rfl (c_A rfl) ?_;refine a_f<|WC.of_KC ?_;exact c_r<|b_d hr rfl ⟨rfl,(h1.blk:Blk G w0.heap.size [Str.v s]),h1.below⟩
theorem W_w3h {n:Nat}{B:Zone}{x1:Str}{res:(List Str)×Bool}{w0:World}(hm:k_K n x1=some res)(hBw:B<=w0.heap.size)(p1_0:x1.b.length<=LEN):f_ Tryz.prog 118 [(Str.v x1),.func (.func 120) #[] #[]] w0 (Q37 w0 B res):=by
  unfold k_K at hm
  obtain ⟨fn,hf,hb,hN,hr⟩:=fnE Tryz.func118;refine p_R hf (hb.trans rfl) (hN.trans rfl) (Nat.le_of_ble_eq_true rfl) ?_
  -- the cells
  refine a_c<|a_E ?_;refine E rfl (d_i rfl) ?_;rintro _ w1 ⟨rfl,h1⟩;have b3:Blk w1 w0.heap.size [.func (.func 120) #[] #[]]:=h1.blk;refine E rfl (c_u j_S) ?_;rintro _ w2 ⟨rfl,h2⟩;have b4:Blk w2 w1.heap.size [.slice none 0 0]:=h2.blk;refine E rfl (c_u n_C) ?_;rintro _ w3 ⟨rfl,h3⟩;have b5:Blk w3 w2.heap.size [vB false]:=h3.blk;refine a_f<|WC.of_KC ?_;refine a_c<|a_E ?_;refine E rfl (d_P (α:=Str) Q_) ?_;rintro _ w4 ⟨a,m,c,rfl,s4,ho4⟩;refine E rfl (c_u j_S) ?_;rintro _ w5 ⟨rfl,h5⟩;have b6:Blk w5 w4.heap.size [.slice none 0 0]:=h5.blk;refine E0 (a_O (cur':=[.slice a m c]) c_y rfl rfl b6 rfl (Nat.le_of_ble_eq_true rfl) (b_0 rfl) rfl) ?_;rintro _ w6 ⟨c6,s6⟩;have t6:=s6.one;refine a_f<|WC.of_KC ?_
  -- what is known behind
  have g1:=h1.below;have g2:=h2.below;have g3:=h3.below;have g5:=h5.below;have z1:=h1.size;have z2:=h2.size;have z3:=h3.size;have z5:=h5.size;have z4:=s4.size;have z6:=s6.size
  have hz:w0.heap.size<w1.heap.size/\w1.heap.size<w2.heap.size/\w2.heap.size<w3.heap.size/\w3.heap.size<w4.heap.size/\w4.heap.size<w6.heap.size:=by
    have:=ho4.lt _ List.mem_cons_self
    omega
  have k3:Blk w6 w0.heap.size [.func (.func 120) #[] #[]]:=((((b3.ext g2).ext g3).ext s4).ext g5).chg s6 (by omega);have k4:Blk w6 w1.heap.size [.slice none 0 0]:=(((b4.ext g3).ext s4).ext g5).chg s6 (by omega);have k5:Blk w6 w2.heap.size [vB false]:=((b5.ext s4).ext g5).chg s6 (by omega);have kS:a_ w6 [w3.heap.size] (sl a m c) ([]:List Str):=(ho4.ext g5).chg s6 (λk hk=>by have:=List.mem_singleton.1 hk;omega);have kB:Below w0.heap.size w0 w6:=c_1 (bup (bup (bup (bup g1 g2) g3) s4) g5) t6 (λk hk=>by have:=List.mem_singleton.1 hk;omega)
  clear b3 b4 b5 b6 ho4 h1 h2 h3 h5 s4 s6 t6 g1 g2 g3 g5 z1 z2 z3 z4 z5 z6
  -- the first look
  refine a_c<|a_c<|a_E ?_;refine R rfl (b_8 rfl) ?_;refine R rfl (a_U rfl rfl) ?_;refine a_f<|WC.of_KC ?_;refine b_Z rfl (λhc=>?_)<|λhc=>?_
  . obtain rfl:=som (ifT hm hc)
    refine a_c<|a_E ?_;refine R rfl (b_w a_J rfl (λh=>h)<|c6.at rfl) ?_;refine E0 (a_O (cur':=[.slice a m c]) c_y rfl rfl k4 rfl (Nat.le_of_ble_eq_true rfl) (b_0 rfl) rfl) ?_;rintro _ w7 ⟨c7,s7⟩;refine E0 (a_O (cur':=[vB true]) z_4 rfl rfl (k5.chg s7 (by omega)) rfl (Nat.le_of_ble_eq_true rfl) (b_0 rfl) rfl) ?_;rintro _ w8 ⟨c8,s8⟩;refine a_f<|WC.of_KC ?_;refine c_r λa' ha'=>retM<|c_9 hr (c_8 (n:=1) a_J rfl<|c7.chg s8 (by omega)) (c_8 (n:=1) g_4 rfl c8) ⟨c_1 (c_1 kB s7.one (λk hk=>by have:=List.mem_singleton.1 hk;omega)) s8.one (λk hk=>by have:=List.mem_singleton.1 hk;omega),?_⟩ a' ha'
    exact ⟨a,m,c,_,rfl,(kS.chg s7 (λk hk=>by have:=List.mem_singleton.1 hk;omega)).chg s8 (λk hk=>by have:=List.mem_singleton.1 hk;omega),(by simp),λk hk=>by have:=List.mem_singleton.1 hk;omega⟩
  replace hm:=ifF hm hc;refine M_<|WC.of_KC ?_
  -- the first byte
  refine a_c<|a_c<|a_E ?_;refine R rfl (b_8 rfl) ?_;obtain ⟨x13,e13,hm⟩:=bdS hm;refine R rfl (c_b d_9 rfl rfl (a_i e13).1 (a_i e13).2.1) ?_;refine R rfl (f_1 rfl rfl) ?_;refine a_f<|WC.of_KC ?_;refine b_Z rfl (λhc=>?_)<|λhc=>?_
  . obtain rfl:=som (ifT hm hc)
    refine a_c<|a_E ?_;refine R rfl (b_w a_J rfl (λh=>h)<|c6.at rfl) ?_;refine E0 (a_O (cur':=[.slice a m c]) c_y rfl rfl k4 rfl (Nat.le_of_ble_eq_true rfl) (b_0 rfl) rfl) ?_;rintro _ w7 ⟨c7,s7⟩;refine E0 (a_O (cur':=[vB false]) z_4 rfl rfl (k5.chg s7 (by omega)) rfl (Nat.le_of_ble_eq_true rfl) (b_0 rfl) rfl) ?_;rintro _ w8 ⟨c8,s8⟩;refine a_f<|WC.of_KC ?_;refine c_r λa' ha'=>retM<|c_9 hr (c_8 (n:=1) a_J rfl<|c7.chg s8 (by omega)) (c_8 (n:=1) g_4 rfl c8) ⟨c_1 (c_1 kB s7.one (λk hk=>by have:=List.mem_singleton.1 hk;omega)) s8.one (λk hk=>by have:=List.mem_singleton.1 hk;omega),?_⟩ a' ha'
    exact ⟨a,m,c,_,rfl,(kS.chg s7 (λk hk=>by have:=List.mem_singleton.1 hk;omega)).chg s8 (λk hk=>by have:=List.mem_singleton.1 hk;omega),(by simp),λk hk=>by have:=List.mem_singleton.1 hk;omega⟩
  replace hm:=ifF hm hc;refine M_<|WC.of_KC ?_;obtain ⟨l0,hsp,hm⟩:=bdS hm;obtain ⟨parts,hsl,hm⟩:=bdS hm;obtain ⟨oks,hok,hm⟩:=bdS hm
  split at hm
  case isFalse=>cases hm
  rename_i hlim
  obtain rfl:=som hm;obtain ⟨hacc,hall⟩:=m_N hok
  -- the loop
  refine a_c<|a_c<|a_E ?_;refine R rfl (b_8 rfl) ?_;refine E rfl (d_J Tryz.call138 rfl s_o) ?_;rintro _ w7 ⟨rfl,bp,s7⟩;refine a_f<|WC.of_KC ?_;replace k3:=k3.ext s7;replace k4:=k4.ext s7;replace k5:=k5.ext s7;replace c6:=c6.ext s7;replace kS:=kS.ext s7;replace kB:=bup kB<|s7.mono<|Nat.le_refl _;have z7:=s7.size
  have hrow:∀g,c_f w7 w4.heap.size g->g<w7.heap.size:=λg hg=>by
    have h1:=m_M c6 hg;exact kS.lt _<|(i_x kS).2 g 0 none h1
  generalize w1.heap.size=q4 at *
  generalize w2.heap.size=q5 at *
  generalize w4.heap.size=q6 at *
  refine p_S (α:={x:Str // x∈parts/\x.b.length<=LEN}) (f:=λx=>x.1) (gf:=160) (lb:=[pt w6.heap.size]) (b:=q6) (M:=parts.length) (S:=λxs=>xs.map (·.1)=parts) (Sp:=λ_=>True) rfl Tryz.call160 rfl rfl (by omega)
    (s_m p1_0 hsp hsl bp (by omega) hrow)
    (λpre W=>(∀x∈pre,(f_j n x.1).getD false=true)/\(∃(a:Option Addr)(m c:Nat)(S:List Nat),Blk W q6 [.slice a m c]/\a_ W S (sl a m c) (pre.map (·.1))/\S.Nodup/\(∀k∈S,q5<k/\k ≠ q6))/\Blk W w0.heap.size [.func (.func 120) #[] #[]]/\Blk W q4 [.slice none 0 0]/\Blk W q5 [vB false]/\Below w0.heap.size w0 W)
    (λpre W=>(∃x∈pre,(f_j n x.1).getD false=false)/\(∃(a:Option Addr)(m c:Nat)(S:List Nat),Blk W q4 [.slice a m c]/\a_ W S (sl a m c) ([]:List Str)/\S.Nodup/\(∀k∈S,w0.heap.size<=k))/\Blk W q5 [vB false]/\Below w0.heap.size w0 W)
    ?_ ?_ ?_ ?_ ?_ ?_
  . rintro pre W W' row ⟨h1,⟨a,m,c,S,h2,h3,h4,h5⟩,h6,h7,h8,h9⟩ hg hr
    have hr':=λr e=>(hr r e).2
    exact ⟨h1,⟨a,m,c,S,h2.grown hg hr',k_J h3 hg hr',h4,h5⟩,h6.grown hg hr',h7.grown hg hr',h8.grown hg hr',n_J h9 hg λr e=>Nat.le_trans (by omega) (hr r e).1⟩
  . rintro pre W W' row ⟨h1,⟨a,m,c,S,h2,h3,h4,h5⟩,h8,h9⟩ hg hr
    have hr':=λr e=>(hr r e).2
    exact ⟨h1,⟨a,m,c,S,h2.grown hg hr',k_J h3 hg hr',h4,h5⟩,h8.grown hg hr',n_J h9 hg λr e=>Nat.le_trans (by omega) (hr r e).1⟩
  . exact ⟨λx hx=>(by cases hx),⟨a,m,c,_,c6,kS,(by simp),λk hk=>by have:=List.mem_singleton.1 hk;omega⟩,k3,k4,k5,kB⟩
  . rintro l pre ⟨x,hx,hxl⟩ W ⟨h1,⟨a,m,c,S,h2,h3,h4,h5⟩,h6,h7,h8,h9⟩ hlt
    refine p_N<|h_m<|h_m<|h_l rfl (λ_ _ h=>by cases h.1) ?_;refine R rfl (b_w g_107 rfl (λh=>h)<|h6.at rfl) ?_;refine R rfl (b_8 rfl) ?_;refine E rfl (e_9 (caps:=[]) Tryz.call120 rfl rfl<|W_w29 (hacc x hx) zr hxl) ?_;rintro _ W1 ⟨s1,rfl⟩;refine R rfl (d_4 rfl) ?_;refine a_f<|WCI.of_KC ?_;have y1:=s1.size;have hq6:=h2.lt;have hw0.heap.size:=h6.lt;have hq4:=h7.lt;have hq5:=h8.lt;refine p_K rfl (λhc=>?_)<|λhc=>?_
    . refine h_m (h_l rfl (λ_ _ h=>by cases h.1) ?_)
      refine E rfl (d_P (α:=Str) Q_) ?_;rintro _ W2 ⟨a2,m2,c2,rfl,s2,ho2⟩;refine E0 (a_O (cur':=[.slice a2 m2 c2]) c_y rfl rfl ((h7.ext s1).ext s2) rfl (Nat.le_of_ble_eq_true rfl) (b_0 rfl) rfl) ?_;rintro _ W3 ⟨c3,s3⟩;refine E0 (a_O (cur':=[vB false]) z_4 rfl rfl (((h8.ext s1).ext s2).chg s3 (by omega)) rfl (Nat.le_of_ble_eq_true rfl) (b_0 rfl) rfl) ?_;rintro _ W4 ⟨c4,s4⟩;refine a_f<|WCI.of_KC ?_;have hW:Below W.heap.size W W2:=bup s1 s2
      have hc4:Chg (λk=>k=q4∨k=q5) W W4:=by
        have e1:Chg (λk=>k=q4∨k=q5) W W2:=(Chg.refl _ W).ext hW;refine (e1.comp s3 λk _ hk=>.inl hk).comp s4 λk _ hk=>.inr hk
      refine p_M λ_ q=>⟨rfl,k_I hc4 λk _ hk=>?_,⟨⟨x,hx,hxl⟩,by simp,by simpa using hc⟩,⟨a2,m2,c2,_,c3.chg s4 (by omega),(ho2.chg s3 λk hk=>by have:=List.mem_singleton.1 hk;omega).chg s4 λk hk=>by have:=List.mem_singleton.1 hk;omega,(by simp),λk hk=>by have:=List.mem_singleton.1 hk;omega⟩,c4,?_⟩
      . rcases hk with rfl | rfl
        . exact ⟨_,h7⟩
        . exact ⟨_,h8⟩
      . exact c_i h9 hc4 λk hk hm=>by rcases hm with rfl | rfl <;> omega
    . refine p_L (WCI.of_KC ?_)
      refine h_l rfl (λ_ _ h=>by cases h.1) ?_
      have hpsh:psh (pre.map (·.1)) x=some (pre.map (·.1)++[x]):=by
        unfold psh
        rw [if_pos (by rw [List.length_map];omega)]
      refine R rfl (b_w a_J rfl (λh=>h)<|(h2.ext s1).at rfl) ?_;refine R rfl (b_8 rfl) ?_;refine E rfl (e_P [(.tmp 25)] Q_ rfl rfl rfl (G_ rfl) (Nat.le_of_ble_eq_true rfl)<|Nat.le_of_ble_eq_true rfl) ?_;rintro _ W2 ⟨rfl,hb⟩;have s2:=hb.below;have y2:=s2.size;refine E rfl (a_o (α:=Str) Q_ hpsh rfl rfl ((h3.ext s1).ext s2) h4 hb.blk (a_T hxl) c_w q_) ?_;rintro _ W3 ⟨S',a',n',c',rfl,s3,ho3,nd3,hs3⟩;have y3:=s3.size
      have n3:∀k,k<W.heap.size->k<=q5∨k=q6->k∉S':=λk hk hq hm=>by
        rcases hs3 k hm with h | h | h
        . have:=h5 k h;omega
        . cases h
        . omega
      refine E0 (a_O (cur':=[.slice a' n' c']) c_y rfl rfl (((h2.ext s1).ext s2).chg s3 (λhm=>(h5 _ hm).2 rfl)) rfl (Nat.le_of_ble_eq_true rfl) (b_0 rfl) rfl) ?_;rintro _ W4 ⟨c4,s4⟩;have hW:Below W.heap.size W W2:=bup s1 s2
      have hc4:Chg (λk=>k=q6∨k∈S) W W4:=by
        have e1:Chg (λk=>k=q6∨k∈S) W W2:=(Chg.refl _ W).ext hW;refine (e1.comp s3 λk _ hk=>.inr hk).comp s4 λk _ hk=>.inl hk
      have ho4:a_ W4 S' (sl a' n' c') (pre.map (·.1)++[x]):=ho3.chg s4 λk hk he=>n3 q6 hq6 (.inr rfl)<|he ▸ hk
      have hs4:∀k∈S',k∈S∨W.heap.size<=k:=λk hk=>by
        rcases hs3 k hk with h | h | h
        . exact .inl h
        . cases h
        . exact .inr (by omega)
      have k4:∀k,k<=q5->¬(k=q6∨k∈S):=λk hk hm=>by
        rcases hm with rfl | hm
        . omega
        . have:=h5 k hm;omega
      refine a_f λa'' ha''=>⟨k_I hc4 λk _ hk=>?_,KpS.of_chg h2 h3 c4 ho4 hs4 hc4,λy hy=>?_,⟨a',n',c',S',c4,by simpa using ho4,nd3,λk hk=>?_⟩,h6.chg hc4<|k4 _ (by omega),h7.chg hc4<|k4 _ (by omega),h8.chg hc4<|k4 _ (by omega),c_i h9 hc4 λk hk hm=>k4 k (by omega) hm⟩
      . rcases hk with rfl | hk
        . exact ⟨_,h2⟩
        . exact e_4 h3 k hk
      . rcases List.mem_append.1 hy with hy | hy
        . exact h1 y hy
        . obtain rfl:=List.mem_singleton.1 hy
          simpa using hc
      . rcases hs4 k hk with h | h
        . exact h5 k h
        . omega
  . rintro D xs W hD hxs ⟨h1,⟨a,m,c,S,h2,h3,h4,h5⟩,h6,h7,h8,h9⟩ hdef a0 ha0
    have hw0.heap.size:=h6.lt;have hq4:=h7.lt;have hq5:=h8.lt;refine tailD ?_ ha0;refine R rfl (b_w a_J rfl (λh=>h)<|h2.at rfl) ?_;refine E0 (a_O (cur':=[.slice a m c]) c_y rfl rfl h7 rfl (Nat.le_of_ble_eq_true rfl) (b_0 rfl) rfl) ?_;rintro _ W1 ⟨c7,s7⟩;refine E0 (a_O (cur':=[vB true]) z_4 rfl rfl (h8.chg s7 (by omega)) rfl (Nat.le_of_ble_eq_true rfl) (b_0 rfl) rfl) ?_;rintro _ W2 ⟨c8,s8⟩;have hDlt:=(Array.getElem?_eq_some_iff.1 hdef).1;have hdef2:W2.heap[D]? = some (.deferred<|some []):=((s8.block D (Nat.lt_of_lt_of_le hDlt s7.size) (by omega)).trans (s7.block D hDlt (by omega))).trans hdef
    have hDS:∀k∈S,k ≠ D:=λk hk e=>by
      obtain ⟨cur,hB⟩:=e_4 h3 k hk;have:=(e ▸ hB).isCells hdef
      cases this
    have hoks:oks.all id=true:=hall.2 λy hy=>by
      rw [← hxs] at hy
      obtain ⟨z,hz,rfl⟩:=List.mem_map.1 hy;exact h1 z hz
    rw [if_pos hoks]
    refine a_f λa' ha'=>⟨ha'.defers,hdef2,?_⟩
    have hp:=k_H W2 D<|.deferred none;obtain ⟨_,v,e1,e2⟩:=c_9 (R:=Q37 w0 B (parts,true)) hr (c_8 (n:=1) a_J rfl<|(c7.chg s8 (by omega)).chg hp (by omega)) (c_8 (n:=1) g_4 rfl<|c8.chg hp (by omega)) ⟨c_i (c_i (c_i h9 s7 λk hk e=>by omega) s8 λk hk e=>by omega) hp λk hk e=>by omega,a,m,c,S,rfl,((hxs ▸ h3).chg s7 λk hk e=>by have:=h5 k hk;omega).chg s8 (λk hk e=>by have:=h5 k hk;omega) |>.chg hp λk hk e=>hDS k hk e,h4,λk hk=>by have:=h5 k hk;omega⟩ a' ha';exact ⟨v,e1,e2⟩
  . rintro D pre W hD _ ⟨⟨⟨x,hx,hxl⟩,hxm,hxb⟩,⟨a,m,c,S,h2,h3,h4,h5⟩,h8,h9⟩ hdef a0 ha0
    have hq4:=h2.lt;have hq5:=h8.lt
    have hDS:∀k∈S,k ≠ D:=λk hk e=>by
      obtain ⟨cur,hB⟩:=e_4 h3 k hk;have:=(e ▸ hB).isCells hdef
      cases this
    have hoks:¬oks.all id=true:=λh=>by
      have:=hall.1 h x hx
      rw [this] at hxb;cases hxb
    rw [if_neg hoks]
    have hp:=k_H W D<|.deferred none;obtain ⟨_,v,e1,e2⟩:=c_9 (R:=Q37 w0 B ([],false)) hr (c_8 (n:=1) a_J rfl<|h2.chg hp (by omega)) (c_8 (n:=1) g_4 rfl<|h8.chg hp (by omega)) ⟨c_i h9 hp λk hk e=>by omega,a,m,c,S,rfl,h3.chg hp λk hk e=>hDS k hk e,h4,h5⟩ a0 ha0;exact retD ha0.defers hdef e1 e2
theorem W_w3i {x1:Str}{res:(List Str)×Bool}(hm:h_v n x1=some res)(H:B<=w0.z)(G:x1.b.length<=LEN):f_ prog 66 [Str.v x1] w0 (Q36 w0 B res):=by
 unfold h_v at hm;refine goG func66 z z z λfn hr=>Ws<|Ra z<|Rw z<|Wm z ?_;obtain ⟨_,_,J,I⟩:=a_t hm;refine E z (fc call118 z<|W_w3h (B:=B) J H G) ?_;rintro _ _ ⟨s2,L,O,V,W,rfl,Y,h8,h9⟩;exact Re z z z<|Re z z z<|Ra z<|Rw z<|Wr<|rS2 I hr z z ⟨s2,L,O,V,W,z,Y,h8,h9⟩
theorem W_w3j {x1:List Str}{x2:Int}{x3:Str}{res:Bool}(hm:j_h x1 x2 x3=some res)(L:B<=w0.z)(H:rp w0 B A0 N0 C0 x1)(a0:inI x2)(J:x3.b.length<=LEN):f_ prog 141 [sl A0 N0 C0,vI x2,Str.v x3] w0 (Q0 w0 B res):=by
 unfold j_h at hm;refine goG func141 z z z λfn hr=>Ws<|Rw z<|Wq<|Wm z<|Rm z<|bdB hm λ_ W I=>xA (α:=Str) z j_R z_9 z z z H W λ_ _ _ h3 h4 _=>?_;obtain ⟨rfl,_⟩:=a_n h4;refine R z (l0 g_9 z<|h3.at0 z)<|R z (a_U z z)<|Wx z (λG=>?_) (λG=>?_)
 .refine Wm z ?_;obtain ⟨_,_,Y,O⟩:=a_t<|ifT I G;refine E z (fc call140 z<|W_w28 (B:=B) Y L J) ?_;rintro _ _ ⟨s7,rfl,_⟩;exact Rm z<|Re z z z<|Re z z z<|Ra z<|Rw z<|Wm z<|Rw z<|Wr<|rS1 O hr z ⟨s7,z⟩
 refine Wk<|Wm z<|Rm z<|bdB (ifF I G) λ_ e8 V=>xA (α:=Str) z j_R z_9 z z z H e8 λ_ _ _ ha hb _=>?_;obtain ⟨rfl,_⟩:=a_n hb;exact R z (l0 g_9 z<|ha.at0 z)<|Rm z<|R z (a_U z z)<|Rw z<|Wr<|rS1 V hr z ⟨br w0,z⟩
theorem W_w3k {x1:List Str}{x2:List Str}{res:Bool}(hm:k_Q x1 x2=some res)(cg:B<=w0.z)(Y:rp w0 B A0 N0 C0 x1)(ak:rp w0 B A5 N5 C5 x2):f_ prog 121 [sl A0 N0 C0,sl A5 N5 C5] w0 (Q0 w0 B res):=by
 unfold k_Q at hm;refine goG func121 z z z λfn hr=>Ws<|Rw z<|Wm z<|R z (lnR C_ z ak)<|R z (add_ z z)<|bdB hm λ_ aV al=>E z (h_P (α:=Bool) j_L (λ_=>b_A) aV z z) ?_;rintro _ _ ⟨aW,aX,aY,rfl,_,hz⟩;refine Rw z<|Wm z<|bdB al λ_ aa am=>RX z (b_O (α:=Bool) b_j z_4 z z hz aa) ?_;rintro _ ⟨_,aZ,rfl⟩;refine E0 (b_P (α:=Bool) z_4 z aZ z z z aa hz a_j b_A an_ q_) ?_;rintro _ wi ⟨Su,_,b0,b1,_⟩;refine Wn<|Wq<|Wm z<|R z (lnR j_R z kR)<|Rm z<|Wn<|bdB am λ_ an a0=>Wf (σ:=List Bool) (ρ:=Bool) (λ(k5:Nat)(xa:List Bool) a w=>∃H I J Sb,Sat 82 [(0,sl A0 N0 C0),(1,sl A5 N5 C5),(5,sl H I J),(16,vI (x1.length:Int)),(17,vI ((k5:Nat):Int))] a/\Below wi.z wi w/\a_ w Sb (sl H I J) xa/\Sb.Nodup/\(∀k∈Sb,k∈Su∨wi.z<=k)) (λ(xa:List Bool) a w=>∃H I J Sb,Sat 82 [(1,sl A5 N5 C5),(5,sl H I J)] a/\Below wi.z wi w/\a_ w Sb (sl H I J) xa/\Sb.Nodup/\(∀k∈Sb,k∈Su∨wi.z<=k)) (rQ prog fn<|Q0 w0 B) an ?_ ?_ ?_ ?_ ?_
 .exact λ_ q=>⟨aW,aX,aY,Su,kaA q,br wi,b0,b1,sQ⟩
 .rintro k5 xa _ wk _ hkv ⟨H,I,J,Sb,ap,_,hg,hw,ab⟩ aq;refine Wu ?_ ap;refine Ws<|Rl z z z<|Wn<|Wq<|Wc z (λ_=>?_) (λhc=>(R_ hkv hc).elim);refine Wk<|Wq<|Wb<|Wm z<|Rw z<|Wm z<|R z (lnR C_ z kR)<|R z (add_ z z)<|bdB aq λ_ b2 ar=>E z (h_P (α:=Bool) j_L (λ_=>b_A) b2 z z) ?_;rintro _ wl ⟨O,V,W,rfl,_,b3⟩;refine Rw z<|Wq<|Wm z<|R z (lnR b_j z<|or_ kO<|a_.lt hg)<|Rm z<|Wn<|bdB ar λ_ au a2=>Wf (σ:=List Bool) (ρ:=Bool) (λ(kj:Nat)(xh:List Bool) a w=>∃(G:List Nat),Sat 82 [(0,sl A0 N0 C0),(1,sl A5 N5 C5),(5,sl H I J),(6,vI ((k5:Nat):Int)),(7,sl O V W),(16,vI (x1.length:Int)),(17,vI ((k5:Nat):Int)),(25,vI (xa.length:Int)),(26,vI ((kj:Nat):Int))] a/\Cg [wk.z] wl w/\a_ w G (sl O V W) xh/\G.Nodup/\(∀k∈G,k∈[wk.z]∨wl.z<=k)) (λ(xh:List Bool) a w=>∃(G:List Nat),Sat 82 [(0,sl A0 N0 C0),(1,sl A5 N5 C5),(7,sl O V W),(16,vI (x1.length:Int)),(17,vI ((k5:Nat):Int))] a/\Cg [wk.z] wl w/\a_ w G (sl O V W) xh/\G.Nodup/\(∀k∈G,k∈[wk.z]∨wl.z<=k)) (rQ prog fn<|Q0 w0 B) au ?_ ?_ ?_ ?_ ?_
  .exact λ_ q=>⟨[wk.z],kaA q,cr [wk.z] wl,b3,a_j,sQ⟩
  .rintro kj xh _ wf _ a3 ⟨G,av,_,h4,he,ad⟩ aw;refine Wu ?_ av;refine Ws<|Rl z z z<|Wn<|Wq<|Wc z (λ_=>?_) (λhc=>(R_ a3 hc).elim);refine Wk<|Wq<|Wb<|Wm z<|Rw z<|Wb<|Wm z<|Rm z<|bdB aw λ_ b4 ax=>xA (α:=Str) z j_R z_9 z z z kR b4 λ_ _ _ b5 b6 _=>?_;obtain ⟨rfl,_⟩:=a_n b6;refine R z (l0 g_9 z<|b5.at0 z)<|R z (a_U z z)<|Rw z<|bdB ax λb7 a4 ay=>Wt (λa w=>∃(xq:List Bool),xq=b7/\∃(Sm:List Nat),Sat 82 [(0,sl A0 N0 C0),(1,sl A5 N5 C5),(5,sl H I J),(6,vI ((k5:Nat):Int)),(7,sl O V W),(16,vI (x1.length:Int)),(17,vI ((k5:Nat):Int)),(25,vI (xa.length:Int)),(26,vI ((kj:Nat):Int))] a/\Cg G wf w/\a_ w Sm (sl O V W) xq/\Sm.Nodup/\(∀k∈Sm,k∈G∨wf.z<=k)) ?_ ?_
   .refine Wc z (λhcx=>?_)<|λhcx=>?_
    .refine bdB (ifT a4 hcx) λb8 az aA=>Wt (λa w=>∃(xr:List Bool),xr=b8/\∃(Sn:List Nat),Sat 82 [(0,sl A0 N0 C0),(1,sl A5 N5 C5),(5,sl H I J),(6,vI ((k5:Nat):Int)),(7,sl O V W),(16,vI (x1.length:Int)),(17,vI ((k5:Nat):Int)),(25,vI (xa.length:Int)),(26,vI ((kj:Nat):Int))] a/\Cg G wf w/\a_ w Sn (sl O V W) xr/\Sn.Nodup/\(∀k∈Sn,k∈G∨wf.z<=k)) ?_ ?_
     .refine Wg<|RM z z<|RM z z<|bdB az λb9 ba a5=>xA (α:=Bool) z b_j z_4 z z z (or_ kO<|a_.lt hg) ba λ_ _ _ bb bc _=>?_;obtain rfl:=e_a bc;refine R z (l0 g_4 z<|bb.at0 z)<|Rm z ?_;rcases bs b9 with L | L
      .iterate 3 refine Nh z L ?_
       refine Nv z<|Nv z<|Nv z<|Nv z<|Nv z<|Nh z L<|R z (pT z L z)<|bdB (ifT a5 L) λbe ae aB=>RX z (b_O (α:=Bool) b_j z_4 z z h4 ae) ?_;rintro _ ⟨_,bf,rfl⟩;refine E0 (b_P (α:=Bool) z_4 z bf z z z ae h4 he b_A an_ q_) ?_;rintro _ _ ⟨bg,_,bh,bi,_⟩;exact Wl<|λ_ q=>⟨be,som aB,bg,kaA q,kW,bh,bi,sQ⟩
      have a7:=ifF a5 L;refine Rh z L (mv z)<|Rh z L (a_2 z z)<|Rh z L (mv z) ?_;rcases bs (decide<|0<((kj:Nat):Int)) with hcc | hcc
      .refine Rh z hcc (mv z)<|Rh z hcc (mv z)<|Rh z hcc (sb_ z z)<|bdB (ifT a7 hcc) λ_ bj aC=>RXg z z hcc z (at_ (α:=Bool) b_j z_4 z z z (a_.rep h4) bj) ?_;rintro _ ⟨_,_,_,rfl,bk,bm,_⟩;obtain rfl:=e_a bm;refine Rh z hcc (l0 g_4 z<|bk.at0 z)<|Rh z L (pT z hcc z)<|R z (pF z L z)<|bdB aC λbn af aD=>RX z (b_O (α:=Bool) b_j z_4 z z h4 af) ?_;rintro _ ⟨_,bo,rfl⟩;refine E0 (b_P (α:=Bool) z_4 z bo z z z af h4 he b_A an_ q_) ?_;rintro _ _ ⟨bp,_,bq,bt,_⟩;exact Wl<|λ_ q=>⟨bn,som aD,bp,kaA q,kW,bq,bt,sQ⟩
      iterate 5 refine Nh z hcc ?_
      refine Rh z L (pF z hcc z)<|R z (pF z L z)<|bdB (ifF a7 hcc) λbu ah aE=>RX z (b_O (α:=Bool) b_j z_4 z z h4 ah) ?_;rintro _ ⟨_,bv,rfl⟩;refine E0 (b_P (α:=Bool) z_4 z bv z z z ah h4 he b_A an_ q_) ?_;rintro _ _ ⟨bw,_,bx,bz,_⟩;exact Wl<|λ_ q=>⟨bu,som aE,bw,kaA q,kW,bx,bz,sQ⟩
     rintro bA _ ⟨xr,rfl,Sn,_,_,bB,bC,_⟩;revert bA;exact λ_ q=>⟨xr,som aA,Sn,kaA q,kW,bB,bC,sQ⟩
    refine Wm z<|R z (a_2 z z)<|Rw z<|bdB (ifF a4 hcx) λbD a8 aF=>Wt (λa w=>∃(xs:List Bool),xs=bD/\∃(So:List Nat),Sat 82 [(0,sl A0 N0 C0),(1,sl A5 N5 C5),(5,sl H I J),(6,vI ((k5:Nat):Int)),(7,sl O V W),(16,vI (x1.length:Int)),(17,vI ((k5:Nat):Int)),(25,vI (xa.length:Int)),(26,vI ((kj:Nat):Int))] a/\Cg G wf w/\a_ w So (sl O V W) xs/\So.Nodup/\(∀k∈So,k∈G∨wf.z<=k)) ?_ ?_
    .refine Wc z (λhcy=>?_)<|λhcy=>?_
     .refine bdB (ifT a8 hcy) λbE aG aH=>Wt (λa w=>∃(xt:List Bool),xt=bE/\∃(Sp:List Nat),Sat 82 [(0,sl A0 N0 C0),(1,sl A5 N5 C5),(5,sl H I J),(6,vI ((k5:Nat):Int)),(7,sl O V W),(16,vI (x1.length:Int)),(17,vI ((k5:Nat):Int)),(25,vI (xa.length:Int)),(26,vI ((kj:Nat):Int))] a/\Cg G wf w/\a_ w Sp (sl O V W) xt/\Sp.Nodup/\(∀k∈Sp,k∈G∨wf.z<=k)) ?_ ?_
      .refine Wg<|RM z z<|RM z z<|R z (sb_ z z)<|bdB aG λbF bG a9=>xA (α:=Bool) z b_j z_4 z z z (or_ kO<|a_.lt hg) bG λ_ _ _ bH bI _=>?_;obtain rfl:=e_a bI;refine R z (l0 g_4 z<|bH.at0 z)<|Rm z ?_;rcases bs bF with hcd | hcd
       .iterate 4 refine Rh z hcd (mv z) ?_
        refine Rh z hcd (sb_ z z)<|bdB (ifT a9 hcd) λ_ bJ aI=>RXg z z hcd z (at_ (α:=Str) C_ z_9 z z z kR bJ) ?_;rintro _ ⟨_,_,_,rfl,bK,bL,_⟩;obtain ⟨rfl,bM⟩:=a_n bL;refine Rh z hcd (l0 g_9 z<|bK.at0 z)<|bdB aI λ_ bN aJ=>Eg z z hcd z (fc call141 z<|W_w3j (B:=B) bN kM kR (ic (Nat.le_of_lt hkv)<|lt_ (repS.len Y) x_) bM) ?_;rintro _ _ ⟨_,rfl⟩;refine R z (pT z hcd z)<|bdB aJ λbO ai aK=>RX z (b_O (α:=Bool) b_j z_4 z z kO ai) ?_;rintro _ ⟨_,bP,rfl⟩;refine E0 (b_P (α:=Bool) z_4 z bP z z z ai kO he b_A an_ q_) ?_;rintro _ _ ⟨bR,_,bS,bT,_⟩;exact Wl<|λ_ q=>⟨bO,som aK,bR,kaA q,kW,bS,bT,sQ⟩
       iterate 8 refine Nh z hcd ?_
       refine R z (pF z hcd z)<|bdB (ifF a9 hcd) λbU aj aL=>RX z (b_O (α:=Bool) b_j z_4 z z h4 aj) ?_;rintro _ ⟨_,bV,rfl⟩;refine E0 (b_P (α:=Bool) z_4 z bV z z z aj h4 he b_A an_ q_) ?_;rintro _ _ ⟨bW,_,bX,bY,_⟩;exact Wl<|λ_ q=>⟨bU,som aL,bW,kaA q,kW,bX,bY,sQ⟩
      rintro bZ _ ⟨xt,rfl,Sp,_,_,c0,c1,_⟩;revert bZ;exact λ_ q=>⟨xt,som aH,Sp,kaA q,kW,c0,c1,sQ⟩
     exact M_<|λ_ q=>⟨xh,som<|ifF a8 hcy,G,kaA q,cr G wf,h4,he,sQ⟩
    rintro c2 _ ⟨xs,rfl,So,_,_,c4,c5,_⟩;revert c2;exact λ_ q=>⟨xs,som aF,So,kaA q,kW,c4,c5,sQ⟩
   rintro c6 _ ⟨xq,rfl,Sm,_,_,c7,c9,_⟩;revert c6;exact Wo<|Wg<|R z (inc_ a3 (lt_ (a_.len hg) x_) z z)<|Rm z<|Wl (λ_ q=>⟨xq,(som ay).symm,⟨Sm,kaA q,kW,c7,c9,sQ⟩⟩)
  .rintro xh _ _ ⟨G,aM,_,h4,he,ad⟩;refine Wu ?_ aM;refine Ws<|Rl z z z<|Wn<|Wq<|Wc z (λhc=>(S_ hc).elim) (λ_=>?_);exact We<|λ_ q=>⟨rfl,⟨G,kaA q,kW,h4,he,sQ⟩⟩
  .rintro xh ca _ rfl ⟨G,_,_,h4,he,ad⟩;have aN:=elL a2;revert ca;exact Wo<|Wg<|Rm z<|Rw z<|Wg<|R z (inc_ hkv (lt_ (repS.len Y) x_) z z)<|Rm z<|Wl (λ_ q=>⟨xh,(som aN).symm,⟨O,V,W,G,kaA q,kW,h4,he,sQ⟩⟩)
  rintro _ _ _ _ rfl ⟨rfl,aO⟩;have aP:=elR a2;exact ⟨inbR<|l_9 (som aP).symm ⟨rfl,aO⟩,z⟩
 .rintro xa _ _ ⟨H,I,J,Sb,aQ,cb,hg,hw,ab⟩;refine Wu ?_ aQ;refine Ws<|Rl z z z<|Wn<|Wq<|Wc z (λhc=>(S_ hc).elim) (λ_=>?_);exact We<|λ_ q=>⟨rfl,⟨H,I,J,Sb,kaA q,cb,hg,hw,sQ⟩⟩
 .rintro xa cc _ rfl ⟨H,I,J,Sb,_,_,hg,hw,ab⟩;have aR:=elL a0;revert cc;refine Wo<|Wm z<|Rm z<|R z (lnR C_ z kR)<|bdB aR λ_ cd aS=>xA (α:=Bool) z b_j z_4 z z z (a_.rep hg) cd λ_ _ _ ce cf _=>?_;obtain rfl:=e_a cf;exact R z (l0 g_4 z<|ce.at0 z)<|Rw z<|Wr<|rS1 aS hr z ⟨kW,z⟩
 exact lqA a0 λ_ _ h=>h.2
theorem W_w3l {x1:List Str}{x2:List Str}{res:Bool}(hm:j_i x1 x2=some res)(I:B<=w0.z)(G:rp w0 B A0 N0 C0 x1)(H:rp w0 B A5 N5 C5 x2):f_ prog 67 [sl A0 N0 C0,sl A5 N5 C5] w0 (Q0 w0 B res):=by
 unfold j_i at hm;exact goG func67 z z z λfn hr=>Ws<|Rw z<|Wm z<|Rm z<|bdB hm λ_ L J=>EcA z (fc call121 z<|W_w3k (B:=B) L I G H) λ_ s2=>Rw z<|Wr<|rS1 J hr z ⟨s2,z⟩
theorem W_w3m {x1:Str}{x2:Str}{res:Bool}(hm:j_j n x1 x2=some res)(W:B<=w0.z)(O:x1.b.length<=LEN)(V:x2.b.length<=LEN):f_ prog 34 [Str.v x1,Str.v x2] w0 (Q0 w0 B res):=by
 unfold j_j at hm;refine goG func34 z z z λfn hr=>Ws<|Rw z<|Wm z ?_;obtain ⟨_,r6,e7,Y⟩:=a_t hm;refine E z (fc call65 z<|W_w3g (B:=B) e7 W O) ?_;rintro _ _ ⟨_,_,_,_,_,rfl,h9,_,_⟩;refine Rm z<|Re z z z<|Re z z z<|Ra z<|Rw z<|Wm z ?_;obtain ⟨_,ra,eb,hmc⟩:=a_t Y;refine E z (fc call66 z<|W_w3i (B:=B) eb kM V) ?_;rintro _ I ⟨_,_,_,_,_,rfl,hd,_,_⟩;refine Rm z<|Re z z z<|Re z z z<|Ra z<|Rw z<|Wq<|bdB hmc λue J hmf=>Wt (λa w=>∃(x3:Bool),x3=ue/\Sat 28 [(4,vB x3)] a/\Below I.z I w) ?_ ?_
 .refine Wg<|RM z z ?_;rcases bs r6 with H | H
  .have L:=ifT J H;refine Rh z H (mv z)<|R z (pT z H z)<|Rm z ?_;rcases bs ra with G | G
   .refine Rh z G (mv z)<|Rh z G (mv z)<|bdB (ifT L G) λrg eh hmi=>Eg z z G z (fc call67 z<|W_w3l (B:=I.z) eh zr (repS.mono (or_ kO<|a_.lt h9)<|a_5 kM)<|a_.rep hd) ?_;rintro _ _ ⟨sj,rfl⟩;exact R z (pT z G z)<|Ra z<|Wl (λ_ q=>⟨rg,som hmi,kaA q,sj⟩)
   iterate 3 refine Nh z G ?_
   exact R z (pF z G z)<|Ra z<|Wl (λ_ q=>⟨false,som<|ifF L G,kaA q,br I⟩)
  exact Nh z H<|R z (pF z H z)<|Rm z<|Nh z z<|Nh z z<|Nh z z<|R z (pF z z z)<|Ra z<|Wl (λ_ q=>⟨false,som<|ifF J H,kaA q,br I⟩)
 rintro ak _ ⟨x3,rfl,_,_⟩;revert ak;exact Wo<|Wr<|rS1 hmf hr z ⟨kW,z⟩
theorem W_w3n {x1:g_}{x2:Str}{b2 o2:Nat}{res:Bool}(hm:k_R n x1 x2=some res)(Y:B<=w0.z)(G:x1.path.b.length<=LEN)(O:inI x1.rule)(V:inI x1.start)(W:inI x1.end_)(H:x2.b.length<=LEN)(hC2:t_ w0 b2 o2 [Str.v x2])(hC2b:B b2):f_ prog 33 [(.agg #[Str.v x1.path,vI x1.rule,vI x1.start,vI x1.end_]),(pq b2 o2)] w0 (Q0 w0 B res):=by
 unfold k_R at hm;exact goG func33 z z z λfn hr=>Ws<|EvX [Str.v x1.path,vI x1.rule,vI x1.start,vI x1.end_] z z z λw1 _ I=>Rw z<|Ws<|R z (l0 g_9 z kC0)<|Rf z i_2 z<|R z (l0 g_9 z<|I.at z)<|bdB hm λ_ L J=>EcA z (fc call34 z<|W_w3m (B:=B) L kM H G) λ_ _=>Rw z<|Wr<|rS1 J hr z ⟨kW,z⟩
def Q38 (w0:World)(B:Zone)(r:(List g_))(v:Value)(w':World):Prop:=Bw w0 w'/\(λr1=>∃G H I S1,(sl G H I)=v/\a_ w' S1 (sl G H I) r1/\S1.Nodup/\(∀k∈S1,w0.z<=k)) r
theorem W_w3o {x1:List g_}{Y:Str}{I O:Nat}{res:(List g_)}(hm:k_S n x1 Y=some res)(aD:B<=w0.z)(a5:rp w0 B A0 N0 C0 x1)(p2c0_0:Y.b.length<=LEN)(aC:t_ w0 I O [Str.v Y])(W:B I):f_ prog 32 [sl A0 N0 C0,(.func (.func 33) #[] #[(pq I O)])] w0 (Q38 w0 B res):=by
 unfold k_S at hm;refine goG func32 z z z λfn hr=>Ws<|Rw z<|Ws<|E z (f0 (α:=g_) c_K) ?_;rintro _ J ⟨ar,ns,ct,rfl,_,hu⟩;refine Rw z<|Wq<|Wm z<|R z (lnR c_z z kR)<|Rm z<|Wn<|bdB hm λ_ huv hmm=>Wf (σ:=List g_) (ρ:=List g_) (λ(kf:Nat)(x5:List g_) a w=>∃a2 G H S1,Sat 24 [(1,.func (.func 33) #[] #[(.pointer<|some ⟨I,O,none⟩)]),(5,sl a2 G H),(9,sl A0 N0 C0),(10,vI (x1.length:Int)),(11,vI ((kf:Nat):Int))] a/\Cg [w0.z] J w/\a_ w S1 (sl a2 G H) x5/\S1.Nodup/\(∀k∈S1,k∈[w0.z]∨J.z<=k)) (λ(x5:List g_) a w=>∃a2 G H S1,Sat 24 [(5,sl a2 G H)] a/\Cg [w0.z] J w/\a_ w S1 (sl a2 G H) x5/\S1.Nodup/\(∀k∈S1,k∈[w0.z]∨J.z<=k)) (rQ prog fn<|Q38 w0 B) huv ?_ ?_ ?_ ?_ ?_
 .exact λ_ q=>⟨ar,ns,ct,[w0.z],kaA q,cr [w0.z] J,hu,a_j,sQ⟩
 .rintro kf x5 _ _ _ hkn ⟨a2,G,H,S1,hSx,sy,V,h6,ho⟩ hmz;refine Wu ?_ hSx;refine Ws<|Rl z z z<|Wn<|Wq<|Wc z (λ_=>?_) (λhc=>(R_ hkn hc).elim);refine Wk<|Wq<|Wb<|Ws<|bdB hmz λx0 af a6=>xA (α:=g_) z c_z b_i z z z kR af λ_ _ _ ah ai _=>?_;obtain ⟨rfl,hg,hh,hi,hj⟩:=g_C ai;refine R z (lN (vs:=[Str.v x0.path,vI x0.rule,vI x0.start,vI x0.end_]) e_f b_i z z fid ah)<|EvZ [(Str.v (⟨[]⟩:Str)),vI 0,vI 0,vI 0] z i_3 z λaE a0 a1=>E0q [Str.v x0.path,vI x0.rule,vI x0.start,vI x0.end_] b_i z z a1 z λaF aG a3=>Wn<|Wm z<|R z (lC [Str.v x0.path,vI x0.rule,vI x0.start,vI x0.end_] e_f b_i z)<|bdB a6 λ_ aj a7=>E z (e_9 call33 z z<|W_w3n (B:=B) aj kM hg hh hi hj p2c0_0 (((t_.chg kC sy<|sQB W).e a0).c a3<|sQB W) W) ?_;rintro _ wa ⟨_,rfl⟩;refine Wn<|bdB a7 λak huq a8=>Wt (λa w=>∃(xb:List g_),xb=ak/\∃ac nd ce L,Sat 24 [(1,.func (.func 33) #[] #[(.pointer<|some ⟨I,O,none⟩)]),(5,sl ac nd ce),(9,sl A0 N0 C0),(10,vI (x1.length:Int)),(11,vI ((kf:Nat):Int))] a/\Cg S1 wa w/\a_ w L (sl ac nd ce) xb/\L.Nodup/\(∀k∈L,k∈S1∨wa.z<=k)) ?_ ?_
  .refine Wc z (λhck=>?_)<|λhck=>?_
   .refine Wg<|Rm z<|R z (lC [Str.v x0.path,vI x0.rule,vI x0.start,vI x0.end_] e_f b_i z)<|EvA z (fS [(.tmp 19)] c_K z z z (G_ z) (lb z)<|lb z) λal hl=>?_;have:=hl.below;have a4:Blk al wa.z [Str.v x0.path,vI x0.rule,vI x0.start,vI x0.end_]:=hl.blk;have:=a_a hl<|e_O (x:=x0) hg hh hi hj;refine bdB (ifT huq hck) λam an a9=>E z (a_o (α:=g_) c_K an z z kO h6 a4 (e_O (x:=x0) hg hh hi hj) an_ q_) ?_;rintro _ _ ⟨ap,aq,au,av,rfl,_,aw,ax,_⟩;exact Ra z<|Wl (λ_ q=>⟨am,som a9,aq,au,av,ap,kaA q,kW,aw,ax,sQ⟩)
   exact M_<|λ_ q=>⟨x5,som<|ifF huq hck,a2,G,H,S1,kaA q,cr S1 wa,kO,h6,sQ⟩
  rintro ay _ ⟨xb,rfl,ac,nd,ce,L,_,_,az,aA,_⟩;revert ay;exact Wo<|Wg<|R z (inc_ hkn (lt_ (repS.len a5) x_) z z)<|Rm z<|Wl (λ_ q=>⟨xb,(som a8).symm,⟨ac,nd,ce,L,kaA q,kW,az,aA,sQ⟩⟩)
 .rintro x5 _ _ ⟨a2,G,H,S1,aa,_,V,h6,ho⟩;refine Wu ?_ aa;refine Ws<|Rl z z z<|Wn<|Wq<|Wc z (λhc=>(S_ hc).elim) (λ_=>?_);exact We<|λ_ q=>⟨rfl,⟨a2,G,H,S1,kaA q,kW,V,h6,sQ⟩⟩
 .rintro x5 aB _ rfl ⟨a2,G,H,S1,_,_,V,h6,ho⟩;have ab:=elL hmm;revert aB;exact Wo<|Wm z<|Rw z<|Wr<|rS1 ab hr z ⟨kW,a2,G,H,S1,z,V,h6,sQ⟩
 exact lqA hmm λ_ _ h=>h.2
theorem W_w3p {x1:c_}{x2:Bt}{x3:Str}{res:(List g_)}(hm:j_k n x1 x2 x3=some res)(a1:B<=w0.z)(hG:Gl w0 B)(Y:rp w0 B A0 N0 C0 x1.rules)(a0:rp w0 B A5 N5 C5 x2)(J:x3.b.length<=LEN):f_ prog 14 [(.agg #[sl A0 N0 C0]),sl A5 N5 C5,Str.v x3] w0 (Q38 w0 B res):=by
 unfold j_k at hm;refine goG func14 z z z λfn hr=>Ws<|EvX [sl A0 N0 C0] z z z λw1 _ _=>EvX [Str.v x3] z z z λw6 _ L=>Rw z<|Ws<|R z (lC [sl A0 N0 C0] l_ j_ z)<|Rm z ?_;obtain ⟨_,_,O,H⟩:=a_t hm;refine E z (fc call31 z<|W_w3d (B:=B) O kM kG kR kR) ?_;rintro _ I ⟨_,_,_,_,_,rfl,V,_,_⟩;refine Rm z<|Re z z z<|Re z z z<|Ra z<|Rw z<|Wq<|Wm z<|R z (not_ z)<|Wx z (λG=>?_) (λG=>?_)
 .refine Ws<|E z (f0 (α:=g_) c_K) ?_;rintro _ _ ⟨W,na,cb,rfl,_,hc⟩;exact Rw z<|Wr<|rS1 (ifT H G) hr z ⟨kW,W,na,cb,[I.z],z,hc,a_j,sQ⟩
 refine Wk<|Wm z<|R z (j_z z)<|bdB (ifF H G) λ_ ed hme=>E z (fc call32 z<|W_w3o (B:=I.z) ed zr (a_.rep V) J (kBr 0 1)<|zap' (a_5 kM) L.lt) ?_;rintro _ _ ⟨_,af,ng,ch,Si,rfl,hj,hk,_⟩;exact Rw z<|Wr<|rS1 hme hr z ⟨kW,af,ng,ch,Si,z,hj,hk,sQ⟩
theorem W_w3q {x1:Int}{x2:Int}{res:Bool}(hm:j_l x1 x2=some res)(I:B<=w0.z)(G:inI x1)(H:inI x2):f_ prog 166 [vI x1,vI x2] w0 (Q0 w0 B res):=by
 unfold j_l at hm;exact goG func166 z z z λfn hr=>Ws<|Rw z<|Wm z<|Rm z<|Rl z z z<|Rw z<|Wr<|rS1 hm hr z ⟨br w0,z⟩
theorem W_w3r {x2:Int}{x3:List Int}{res:Int}(hm:k_T x2 x3=some res)(Y:B<=w0.z)(W:inI x2)(I:rp w0 B A9 N9 C9 x3):f_ prog 165 [(.func (.func 166) #[] #[]),vI x2,sl A9 N9 C9] w0 (Q9 w0 B res):=by
 unfold k_T at hm;refine goG func165 z z z λfn hr=>Ws<|Rw z<|Wq<|Wm z<|R z (lnR u_ z I)<|Rm z<|Wn<|bdB hm λ_ hua J=>Wf (σ:=Int) (ρ:=Int) (λ(k3:Nat)(x0:Int) a w=>Sat 22 [(0,.func (.func 166) #[] #[]),(1,vI x0),(9,sl A9 N9 C9),(10,vI (x3.length:Int)),(11,vI ((k3:Nat):Int))] a/\Below w0.z w0 w/\inI x0) (λ(x0:Int) a w=>Sat 22 [(1,vI x0)] a/\Below w0.z w0 w/\inI x0) (rQ prog fn<|Q9 w0 B) hua ?_ ?_ ?_ ?_ ?_
 .exact λ_ q=>⟨kaA q,br w0,W⟩
 .rintro k3 x0 _ _ _ L ⟨hSb,_,h1⟩ hmc;refine Wu ?_ hSb;refine Ws<|Rl z z z<|Wn<|Wq<|Wc z (λ_=>?_) (λhc=>(R_ L hc).elim);refine Wk<|Wq<|Wb<|Ws<|bdB hmc λxd ee hmf=>xI z u_ z_3 z z z kR ee λ_ _ hg V=>R z (l0 g_3 z<|hg.at0 z)<|Rw z<|Wm z<|RM z z<|bdB hmf λ_ ei hmj=>E z (e_9 call166 z z<|W_w3q (B:=B) ei kM V h1) ?_;rintro _ G ⟨_,rfl⟩;refine Wn<|bdB hmj λuk O hml=>Wt (λa w=>∃(x4:Int),x4=uk/\Sat 22 [(0,.func (.func 166) #[] #[]),(1,vI x4),(9,sl A9 N9 C9),(10,vI (x3.length:Int)),(11,vI ((k3:Nat):Int))] a/\Below G.z G w/\inI x4) ?_ ?_
  .refine Wc z (λH=>?_)<|λH=>?_
   .exact Wg<|Rm z<|Ra z<|Wl (λ_ q=>⟨xd,som<|ifT O H,kaA q,br G,V⟩)
   exact M_<|λ_ q=>⟨x0,som<|ifF O H,kaA q,br G,h1⟩
  rintro am _ ⟨x4,rfl,_,_,hn⟩;revert am;exact Wo<|Wg<|R z (inc_ L (lt_ (repS.len I) x_) z z)<|Rm z<|Wl (λ_ q=>⟨x4,(som hml).symm,⟨kaA q,kW,hn⟩⟩)
 .rintro x0 _ _ ⟨hSo,sp,h1⟩;refine Wu ?_ hSo;refine Ws<|Rl z z z<|Wn<|Wq<|Wc z (λhc=>(S_ hc).elim) (λ_=>?_);exact We<|λ_ q=>⟨rfl,⟨kaA q,sp,h1⟩⟩
 .rintro x0 aq _ rfl ⟨_,sr,h1⟩;have hms:=elL J;revert aq;exact Wo<|Wm z<|Rw z<|Wr<|rS1 hms hr z ⟨sr,z,h1⟩
 exact lqA J λ_ _ h=>h.2
theorem W_w2a {x1:Int}{x2:Int}{res:Int}(hm:h_D x1 x2=some res)(W:B<=w0.z)(I:inI x1)(J:inI x2):f_ prog 144 [vI x1,vI x2] w0 (Q9 w0 B res):=by
 unfold h_D at hm;refine goG func144 z z z λfn hr=>Ws<|Rw z<|Wm z<|Rm z<|EvA z (fS [(.tmp 6)] b_e z z z (G_ z) (lb z)<|lb z) λH G=>have:=G.below;have:Blk H w0.z [vI x2]:=G.blk;have L:=a_a G<|b_m J;bdB hm λ_ V O=>E z (fc call165 z<|W_w3r (B:=H.z) V zr I<|a_.rep L) ?_;rintro _ _ ⟨_,rfl,h4⟩;exact Rw z<|Wr<|rS1 O hr z ⟨kW,z,h4⟩
theorem W_w3s {x1:c_}{x2:Int}{x3:Val}{b3 o3:Nat}{res:Bool}(hm:j_q x1 x2 x3=some res)(cu:B<=w0.z)(cq:rp w0 B A0 N0 C0 x1.rules)(aA:inI x2)(aB:inI x3.number)(cr:rp w0 B A7 N7 C7 x3.bytes)(ct:rp w0 B A8 N8 C8 x3.items)(hC3:t_ w0 b3 o3 [vI x3.number,sl A7 N7 C7,sl A8 N8 C8])(hC3b:B b3):f_ prog 130 [(.agg #[sl A0 N0 C0]),vI x2,(pq b3 o3)] w0 (Q0 w0 B res):=by
 unfold j_q at hm;refine goG func130 z z z λfn hr=>Ws<|EvX [sl A0 N0 C0] z z z λG _ aC=>Rw z<|Ws<|Rf z H_ z<|R z (l0 I_ z<|aC.at z)<|Rm z<|bdB hm λx9 b0 aD=>xA (α:=b_) z J_ h_ z z z kR b0 λW H _ aw b1 _=>?_;obtain ⟨_,_,_,_,_,_,_,_,_,_,_,_,rfl,_,_,b2,_,_,_,ax⟩:=a_x b1;refine Rw z<|Ws<|RA z z<|Rw z<|Wq<|Wm z<|R z (B_ z)<|Rf z a_l z<|R z (l0 g_3 z<|aw.at (j:=1) z)<|Wn<|Wb<|Ws<|Rq z z z<|Rw z<|bdB aD λb4 a9 aa=>?_;refine Wt (λa w=>∃(xb:Int)(xa:Int)(Y:Int),Sum.inl (xb,xa,Y)=b4/\Sat 136 [(2,.pointer<|some ⟨b3,o3,none⟩),(7,.pointer<|some ⟨W,H,none⟩),(8,vI xb),(9,vI xa),(10,vI Y)] a/\Below G.z G w/\inI xb/\inI xa/\inI Y) ?_ ?_
 .refine Wc z (λhcu=>?_)<|λhcu=>?_
  .refine Wg<|R z (lC [sl A0 N0 C0] l_ j_ z)<|Rm z<|bdB (ifT a9 hcu) λb5 b6 aE=>E z (fc call143 z<|f_R (B:=B) b6 kM kR aA) ?_;rintro _ _ ⟨b8,rfl,b9⟩;exact Ra z<|Wl (λ_ q=>⟨b5,0,0,som aE,kaA q,b8,b9,ii z,ii z⟩)
  refine Ws<|Rq z z z<|Rw z<|bdB (ifF a9 hcu) λba ab ad=>Wt (λa w=>∃(xc:Int)(xd:Int)(xe:Int),Sum.inl (xc,xd,xe)=ba/\Sat 136 [(2,.pointer<|some ⟨b3,o3,none⟩),(7,.pointer<|some ⟨W,H,none⟩),(8,vI xc),(9,vI xd),(10,vI xe)] a/\Below G.z G w/\inI xc/\inI xd/\inI xe) ?_ ?_
  .refine Wc z (λhcv=>?_)<|λhcv=>?_
   .have ae:=ifT ab hcv;refine Wq<|Wq (Wd (X:=noX) 0 (pl_ 10 []) mo (by kernel_rfl) λcv bb _=>dM z z z<|dR z z (B_ z)<|dR z z (fd b_5 z)<|dR z z (l0 K_ z<|kCa (o:=o3) (j:=1))<|dR z z (lnR k_ z kR)<|dM z z z<|dR z z (B_ z)<|dR z z (fd a_B z)<|dR z z (l0 g_3 z<|kCa (o:=H) (j:=2))<|dR z z (nq z z)<|pD<|Wo<|Wc z (λhcw=>?_) (λhcw=>?_))
    .refine Ws<|Rw z ?_;obtain rfl:=som<|ifT ae hcw;have aF:=elR ad;obtain rfl:=som aF;have aG:=elR aa;exact Wr<|rtO<|rS1 aG hr z ⟨kW,z⟩
    exact Wk<|Wg<|Rm z<|R z (B_ z)<|Rf z a_B z<|R z (l0 g_3 z<|kCa (o:=H) (j:=2))<|Ra z<|Wl (λ_ q=>⟨0,x9.size,0,som<|ifF ae hcw,kaA q,bb,ii z,b2,ii z⟩)
   refine Ws<|Rq z z z<|Rw z<|bdB (ifF ab hcv) λbc af aH=>Wt (λa w=>∃(xf:Int)(xg:Int)(xh:Int),(xf,xg,xh)=bc/\Sat 136 [(2,.pointer<|some ⟨b3,o3,none⟩),(7,.pointer<|some ⟨W,H,none⟩),(8,vI xf),(9,vI xg),(10,vI xh)] a/\Below G.z G w/\inI xf/\inI xg/\inI xh) ?_ ?_
   .refine Wc z (λhcx=>?_)<|λhcx=>?_
    .refine Wd (X:=noX) 0 (pl_ 10 [7,8]) mo (by kernel_rfl) λcw cx _=>dR z z (lC [sl A0 N0 C0] l_ j_ z)<|dM z z z<|dR z z (B_ z)<|dR z z (fd E_ z)<|dR z z (l0 v_ z<|kCa (o:=H) (j:=7))<|bdB (ifT af hcx) λ_ be aI=>dxA (α:=Int) z z u_ z_3 z z z kR be λ_ _ _ bf bg _=>?_;obtain ⟨rfl,bh⟩:=a_u bg;refine dR z z (l0 g_3 z<|bf.at0 z)<|bdB aI λ_ bi aJ=>dE z z (fc call143 z<|f_R (B:=B) bi kM kR bh) iB ?_;rintro _ _ ⟨_,rfl,bj⟩;refine bdB aJ λbk bm aK=>dE z z (fc call144 z<|W_w2a (B:=B) bm kM (ii z) bj) iB ?_;rintro _ _ ⟨_,rfl,bn⟩;exact dQ z z z<|pD (λ_ q=>⟨0,bk,0,som aK,kaA q,kW,ii z,bn,ii z⟩)
    refine Ws<|Rq z z z<|Rw z<|bdB (ifF af hcx) λbo ah aL=>Wt (λa w=>∃(xi:Int)(xj:Int)(xk:Int),(xi,xj,xk)=bo/\Sat 136 [(2,.pointer<|some ⟨b3,o3,none⟩),(7,.pointer<|some ⟨W,H,none⟩),(8,vI xi),(9,vI xj),(10,vI xk)] a/\Below G.z G w/\inI xi/\inI xj/\inI xk) ?_ ?_
    .refine Wc z (λhcy=>?_)<|λhcy=>?_
     .exact Wg<|Ra z<|Wl (λ_ q=>⟨0,400,0,som<|ifT ah hcy,kaA q,br G,ii z,ii z,ii z⟩)
     refine Ws<|Rq z z z<|Rw z<|bdB (ifF ah hcy) λbp ai aM=>Wt (λa w=>∃(xl:Int)(xm:Int),(xl,xm)=bp/\Sat 136 [(2,.pointer<|some ⟨b3,o3,none⟩),(7,.pointer<|some ⟨W,H,none⟩),(8,vI xl),(9,vI 0),(10,vI xm)] a/\Below G.z G w/\inI xl/\inI xm) ?_ ?_
     .refine Wc z (λhcz=>?_)<|λhcz=>?_
      .refine Wd (X:=noX) 0 (pl_ 10 [7,8]) mo (by kernel_rfl) λcy cz _=>dR z z (lC [sl A0 N0 C0] l_ j_ z)<|dM z z z<|dR z z (B_ z)<|dR z z (fd E_ z)<|dR z z (l0 v_ z<|kCa (o:=H) (j:=7))<|bdB (ifT ai hcz) λ_ bq aN=>dxA (α:=Int) z z u_ z_3 z z z kR bq λ_ _ _ bt bu _=>?_;obtain ⟨rfl,bv⟩:=a_u bu;refine dR z z (l0 g_3 z<|bt.at0 z)<|bdB aN λ_ bw aO=>dE z z (fc call143 z<|f_R (B:=B) bw kM kR bv) iB ?_;rintro _ _ ⟨_,rfl,bx⟩;refine bdB aO λbz bA aP=>dE z z (fc call144 z<|W_w2a (B:=B) bA kM (ii z) bx) iB ?_;rintro _ _ ⟨_,rfl,bB⟩;exact dQ z z z<|pD (λ_ q=>⟨0,bz,som aP,kaA q,kW,ii z,bB⟩)
      refine Ws<|Rq z z z<|Rw z<|bdB (ifF ai hcz) λbC aj aQ=>Wt (λa w=>∃(xn:Int)(xo:Int),(xn,xo)=bC/\Sat 136 [(2,.pointer<|some ⟨b3,o3,none⟩),(7,.pointer<|some ⟨W,H,none⟩),(8,vI xn),(9,vI 0),(10,vI xo)] a/\Below G.z G w/\inI xn/\inI xo) ?_ ?_
      .refine Wc z (λa0=>?_)<|λa0=>?_
       .exact Wg<|Rm z<|R z (B_ z)<|Rf z E_ z<|R z (l0 v_ z<|aw.at (j:=7) z)<|R z (lnR u_ z ax)<|Ra z<|Wl (λ_ q=>⟨0,(x9.kids.length:Int),som<|ifT aj a0,kaA q,br G,ii z,a_S<|repS.len ax⟩)
       refine Ws<|Rq z z z<|Rw z<|bdB (ifF aj a0) λbD ak aR=>Wt (λa w=>∃(xp:Int)(xq:Int),(xp,xq)=bD/\Sat 136 [(2,.pointer<|some ⟨b3,o3,none⟩),(7,.pointer<|some ⟨W,H,none⟩),(8,vI xp),(9,vI 0),(10,vI xq)] a/\Below G.z G w/\inI xp/\inI xq) ?_ ?_
       .refine Wc z (λa1=>?_)<|λa1=>?_
        .refine Wd (X:=noX) 0 (pl_ 10 [7]) mo (by kernel_rfl) λcA cB _=>dR z z (lC [sl A0 N0 C0] l_ j_ z)<|dM z z z<|dR z z (B_ z)<|dR z z (fd E_ z)<|dR z z (l0 v_ z<|kCa (o:=H) (j:=7))<|bdB (ifT ak a1) λ_ bE aS=>dxA (α:=Int) z z u_ z_3 z z z kR bE λ_ _ _ bF bG _=>?_;obtain ⟨rfl,bH⟩:=a_u bG;refine dR z z (l0 g_3 z<|bF.at0 z)<|bdB aS λbI bJ aT=>dE z z (fc call143 z<|f_R (B:=B) bJ kM kR bH) iB ?_;rintro _ _ ⟨_,rfl,bK⟩;exact dQ z z z<|dQ z z z<|pD (λ_ q=>⟨bI,1,som aT,kaA q,kW,bK,ii z⟩)
        refine Wq<|Ws<|Rq z z z<|Rw z<|bdB (ifF ak a1) λbL al aU=>Wt (λa w=>∃(a5:Bool),a5=bL/\Sat 136 [(2,.pointer<|some ⟨b3,o3,none⟩),(7,.pointer<|some ⟨W,H,none⟩),(8,vI 0),(9,vI 0),(10,vI 0),(81,vB a5)] a/\Below G.z G w) ?_ ?_
        .refine Wc z (λa2=>?_)<|λa2=>?_
         .exact M_<|λ_ q=>⟨x9.kind==8,som<|ifT al a2,kaA q,br G⟩
         exact Wg<|Rq z z z<|Ra z<|Wl (λ_ q=>⟨x9.kind==9,som<|ifF al a2,kaA q,br G⟩)
        rintro bM wt ⟨a5,rfl,_,_⟩;revert bM;refine Wo<|bdB aU λbN am aV=>Wt (λa w=>∃(xr:Int),xr=bN/\Sat 136 [(2,.pointer<|some ⟨b3,o3,none⟩),(7,.pointer<|some ⟨W,H,none⟩),(8,vI 0),(9,vI 0),(10,vI xr)] a/\Below wt.z wt w/\inI xr) ?_ ?_
        .refine Wc z (λa3=>?_)<|λa3=>?_
         .exact Wg<|Ra z<|Wl (λ_ q=>⟨1,som<|ifT am a3,kaA q,br wt,ii z⟩)
         exact M_<|λ_ q=>⟨0,som<|ifF am a3,kaA q,br wt,ii z⟩
        rintro bO _ ⟨xr,rfl,_,_,bP⟩;revert bO;exact λ_ q=>⟨0,xr,som aV,kaA q,kW,ii z,bP⟩
       rintro bR _ ⟨xp,xq,rfl,_,bS,bT,bU⟩;revert bR;exact λ_ q=>⟨xp,xq,som<|a_F aR,kaA q,bS,bT,bU⟩
      rintro bV _ ⟨xn,xo,rfl,_,bW,bX,bY⟩;revert bV;exact λ_ q=>⟨xn,xo,som<|a_F aQ,kaA q,bW,bX,bY⟩
     rintro bZ _ ⟨xl,xm,rfl,_,c0,c1,c2⟩;revert bZ;exact λ_ q=>⟨xl,0,xm,som<|a_F aM,kaA q,c0,c1,ii z,c2⟩
    rintro c3 _ ⟨xi,xj,xk,rfl,_,c4,c5,c6,c7⟩;revert c3;exact λ_ q=>⟨xi,xj,xk,som<|a_h aL,kaA q,c4,c5,c6,c7⟩
   rintro c8 _ ⟨xf,xg,xh,rfl,_,c9,ca,cb,cc⟩;revert c8;exact λ_ q=>⟨xf,xg,xh,som<|a_h aH,kaA q,c9,ca,cb,cc⟩
  rintro cd _ ⟨xc,xd,xe,rfl,_,ce,cf,cg,ch⟩;have aW:=elL ad;revert cd;exact λ_ q=>⟨xc,xd,xe,som<|a_h aW,kaA q,ce,cf,cg,ch⟩
 rintro ci ws ⟨xb,xa,Y,rfl,_,_,cj,_,_⟩;have aX:=elL aa;revert ci;refine Wo<|Wq<|Wq<|bdB (a_h aX) λck an ap=>Wt (λa w=>∃(a6:Bool),a6=ck/\Sat 136 [(2,.pointer<|some ⟨b3,o3,none⟩),(8,vI xb),(9,vI xa),(10,vI Y),(111,vB a6)] a/\Below ws.z ws w) ?_ ?_
 .refine Wg<|Rm z<|R z (B_ z)<|Rf z a_l z<|R z (l0 g_3 z<|kCa (o:=H) (j:=1))<|Rq z z z<|Rm z ?_;rcases bs (x9.kind==6) with O | O
  .iterate 5 refine Nh z O ?_
   exact R z (pT z O z)<|Rm z<|Nh z z<|Nh z z<|Nh z z<|Nh z z<|Nh z z<|R z (pT z z z)<|Rm z<|Rh z z (mv z)<|Rh z z (B_ z)<|Rh z z (fd a_4 z)<|Rh z z (l0 a_k z<|kCa (o:=o3) (j:=2))<|Rh z z (lnR a_v z kR)<|Rh z z (mv z)<|Rh z z (nq z z)<|R z (pT z z z)<|Wl (λ_ q=>⟨(x3.items.length:Int) != Y,som<|ifT an O,kaA q,br ws⟩)
  refine Rh z O (mv z)<|Rh z O (B_ z)<|Rh z O (fd a_l z)<|Rh z O (l0 g_3 z<|kCa (o:=H) (j:=1))<|Rh z O (eql z z)<|R z (pF z O z)<|Rm z<|bdB (ifF an O) λay aq ar=>d_F 102 ay 6 ?_ ?_
  .rcases bs (x9.kind==7) with V | V
   .iterate 5 refine Nh z V ?_
    exact R z (pT z V z)<|WLq 6 (ifT aq V) z z z
   exact Rh z V (mv z)<|Rh z V (B_ z)<|Rh z V (fd a_l z)<|Rh z V (l0 g_3 z<|kCa (o:=H) (j:=1))<|Rh z V (eql z z)<|R z (pF z V z)<|WLq 6 (ifF aq V) z z z
  refine Rm z ?_;rcases bs ay with I | I
  .exact Rh z I (mv z)<|Rh z I (B_ z)<|Rh z I (fd a_4 z)<|Rh z I (l0 a_k z<|kCa (o:=o3) (j:=2))<|Rh z I (lnR a_v z kR)<|Rh z I (mv z)<|Rh z I (nq z z)<|R z (pT z I z)<|Wl (λ_ q=>⟨(x3.items.length:Int) != Y,som<|ifT ar I,kaA q,br ws⟩)
  iterate 7 refine Nh z I ?_
  exact R z (pF z I z)<|Wl (λ_ q=>⟨false,som<|ifF ar I,kaA q,br ws⟩)
 rintro cl az ⟨a6,rfl,_,_⟩;revert cl;refine Wo<|Wc z (λa4=>?_) (λa4=>?_)
 .exact Ws<|Rw z<|Wr<|rS1 (ifT ap a4) hr z ⟨kW,z⟩
 refine Wk<|Wq<|bdB (ifF ap a4) λcm aY aZ=>Wt (λa w=>∃(a7:Bool),a7=cm/\Sat 136 [(6,vB a7)] a/\Below az.z az w) ?_ ?_
 .refine Wg<|Rm z<|R z (B_ z)<|Rf z b_4 z<|R z (l0 g_3 z<|kCa (o:=o3) (j:=0))<|Rm z<|bdB aY λcn co au=>EcA z (fc call122 z<|e_l (B:=B) co kM aB (ii z) cj) λ_ a8=>Rm z ?_;rcases bs cn with J | J
  .have av:=ifT au J;refine Rh z J (mv z)<|Rh z J (B_ z)<|Rh z J (fd b_5 z)<|Rh z J (l0 K_ z<|kCa (o:=o3) (j:=1))<|Rh z J (lnR k_ z kR)<|Rh z J (mv z)<|Rh z J (b_S z z)<|R z (pT z J z)<|Rm z ?_;rcases bs (decide<|(x3.bytes.length:Int)<=xa) with L | L
   .exact Rh z L (mv z)<|Rh z L (B_ z)<|Rh z L (fd a_4 z)<|Rh z L (l0 a_k z<|kCa (o:=o3) (j:=2))<|Rh z L (lnR a_v z kR)<|Rh z L (mv z)<|Rh z L (b_S z z)<|R z (pT z L z)<|Ra z<|Wl (λ_ q=>⟨decide<|(x3.items.length:Int)<=Y,som<|ifT av L,kaA q,a8⟩)
   iterate 7 refine Nh z L ?_
   exact R z (pF z L z)<|Ra z<|Wl (λ_ q=>⟨false,som<|ifF av L,kaA q,a8⟩)
  iterate 7 refine Nh z J ?_
  exact R z (pF z J z)<|Rm z<|Nh z z<|Nh z z<|Nh z z<|Nh z z<|Nh z z<|Nh z z<|Nh z z<|R z (pF z z z)<|Ra z<|Wl (λ_ q=>⟨false,som<|ifF au J,kaA q,a8⟩)
 rintro cp _ ⟨a7,rfl,_,_⟩;revert cp;exact Wo<|Wr<|rS1 aZ hr z ⟨kW,z⟩
structure l_P (f:c_->Int->Val->Option Bool):Prop where
  run:∀{A0 A7 A8:Option Addr}{N0 C0 N7 C7 N8 C8 b3 o3:Nat}{B:Zone}{x1:c_}{x2:Int}{x3:Val}{res:Bool}{w0:World}(hm:f x1 x2 x3=some res)(hBw:B<=w0.z)(p1_0:rp w0 B A0 N0 C0 x1.rules)(p2_0:inI x2)(p3_0:inI x3.number)(p3_1:rp w0 B A7 N7 C7 x3.bytes)(p3_2:rp w0 B A8 N8 C8 x3.items)(hC3:t_ w0 b3 o3 [vI x3.number,sl A7 N7 C7,sl A8 N8 C8])(hC3b:B b3),f_ prog 84 [(.agg #[sl A0 N0 C0]),vI x2,(pq b3 o3)] w0<|Q0 w0 B res
abbrev n_K (n:Nat):Prop:=l_P (g_w n).impl_validValue
end Go.Vw
