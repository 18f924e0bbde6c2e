
import Derived.Test.YtpjplgfnhbjjjaaGreatDoorVba
set_option linter.unusedVariables false
namespace Go.Vw
open Go.RowKit Dat Go.Proofs
set_option maxHeartbeats 4000000
set_option maxRecDepth 4000
open Go.Proofs.Tryz
open Go.Vw renaming S_->Wq,a_b->Wg,WC.of_KC->Wo,a_5->Wl,b_F->Wc,b_E->Wr,e_r->Wu,f_c->pT,f_d->pF,f_o->fd,c_c->l1,b_a->lN,a_c->mv,a_u->asg,f_e->lnR,d_A->lss,g_p->eql,c_R->ext_,g_e->bP,g_o->add_,f_8->inc_,c_S->not_,d_Z->at_,b_q->fc,b_0->fs,c_o->fb,c_H->fa,c_P->sr,g_b->cr,g_c->cM,d_8->bM,h_8->iS,h_7->iA,f_7->br,b_h->oA,g_0->bs,g_1->lg,g_6->io,g_q->nq,h_n->lnT,h_o->sb_,h_d->ar_,h_c->al_,b_y->ds,h_R->m1,g_8->nr_,g_7->nl_,d_x->aa_,c_8->an_,d_r->Wb,f_Y->u8,d_V->pD,f_1->We,f_W->Wt,f_U->fS,e_Z->or_,g_j->Wf,g_f->qL,e_i->Wd,h_f->fN,f_b->na_,g_a->nj,f_f->f0,h_e->rX,h_g->tl_,h_h->ic
variable {A0:Option Addr}{N0 C0:Nat}{B:Zone}{w0:World}{n:Nat}{AA:Option Addr}{NA CA:Nat}{AF:Option Addr}{AC:Option Addr}{AG:Option Addr}{AH:Option Addr}{NF CF:Nat}{NC CC:Nat}{NG CG:Nat}{NH CH:Nat}{A8:Option Addr}{A4:Option Addr}{N8 C8:Nat}{N4 C4:Nat}{A5:Option Addr}{A6:Option Addr}{A3:Option Addr}{A7:Option Addr}{N5 C5:Nat}{N6 C6:Nat}{N3 C3:Nat}{N7 C7:Nat}{A1:Option Addr}{A2:Option Addr}{N1 C1:Nat}{N2 C2:Nat}{AD:Option Addr}{AE:Option Addr}{ND CD:Nat}{NE CE:Nat}{AB:Option Addr}{NB CB:Nat}{A9:Option Addr}{N9 C9:Nat}{AP:Option Addr}{NP CP:Nat}
theorem W_w2k {x1:Str}{res:Bool}(hm:g_N n x1=some res)(a0:B<=w0.z)(W:x1.b.length<=LEN):g_ prog 93 [Str.v x1] w0 (Q0 w0 B res):=by
 unfold g_N at hm;refine goG func93 z z z λfn hr=>Ws<|Rw z<|Wq<|Wq<|bdB hm λue huf Y=>Wt (λa w=>∃(x5:Bool),x5=ue/\Sat 31 [(0,Str.v x1),(18,vB x5)] a/\Below w0.z w0 w) ?_ ?_
 .refine Wg<|Rm z<|bdB huf λrg eh hma=>EcA z (fc call127 z<|m_c (B:=B) eh a0 W) λ_ s4=>Rm z ?_;rcases bs rg with H | H
  .exact Nh z H<|Nh z H<|R z (pT z H z)<|Rm z<|Nh z z<|Nh z z<|R z (pT z z z)<|Rm z<|Nh z z<|Nh z z<|R z (pT z z z)<|Wl (λ_ q=>⟨true,som<|ifT hma H,kaA q,s4⟩)
  have hmb:=ifF hma H;refine Rh z H (mv z)<|Rh z H (b_J z z)<|R z (pF z H z)<|Rm z ?_;rcases bs (x1.b==(⟨[42]⟩:Str).b) with I | I
  .exact Nh z I<|Nh z I<|R z (pT z I z)<|Rm z<|Nh z z<|Nh z z<|R z (pT z z z)<|Wl (λ_ q=>⟨true,som<|ifT hmb I,kaA q,s4⟩)
  have hmc:=ifF hmb I;refine Rh z I (mv z)<|Rh z I (b_J z z)<|R z (pF z I z)<|Rm z ?_;rcases bs (x1.b==(⟨[63]⟩:Str).b) with J | J
  .exact Nh z J<|Nh z J<|R z (pT z J z)<|Wl (λ_ q=>⟨true,som<|ifT hmc J,kaA q,s4⟩)
  exact Rh z J (mv z)<|Rh z J (b_J z z)<|R z (pF z J z)<|Wl (λ_ q=>⟨x1.b==(⟨[43]⟩:Str).b,som<|ifF hmc J,kaA q,s4⟩)
 rintro ai _ ⟨x5,rfl,_,sj⟩;revert ai;refine Wo<|Wc z (λL=>?_) (λL=>?_)
 .exact Ws<|Rw z<|Wr<|rS1 (ifT Y L) hr z ⟨sj,z⟩
 refine Wk<|Wm z ?_;obtain ⟨_,rk,el,hmm⟩:=b_k<|ifF Y L;refine E z (fc call128 z<|W_w2j (B:=B) el kM W) ?_;rintro _ O ⟨_,rfl,hn⟩;refine Rm z<|Re z z z<|Re z z z<|Ra z<|Rw z<|Wq<|bdB hmm λuo hud hmp=>Wt (λa w=>∃(V:Bool),V=uo/\Sat 31 [(2,vB V)] a/\Below O.z O w) ?_ ?_
 .refine Wg<|RM z z ?_;rcases bs rk with G | G
  .refine Rh z G (mv z)<|bdB (ifT hud G) λrq er hms=>Eg z z G z (fc call98 z<|i_T (B:=B) er kM hn) ?_;rintro _ _ ⟨st,rfl,_⟩;exact Rh z G (mv z)<|Rh z G (b_J z z)<|R z (pT z G z)<|Ra z<|Wl (λ_ q=>⟨rq.b==x1.b,som hms,kaA q,st⟩)
  iterate 4 refine Nh z G ?_
  exact R z (pF z G z)<|Ra z<|Wl (λ_ q=>⟨false,som<|ifF hud G,kaA q,br O⟩)
 rintro au _ ⟨V,rfl,_,_⟩;revert au;exact Wo<|Wr<|rS1 hmp hr z ⟨kW,z⟩
def Q13 (w0:World)(B:Zone)(r:(List Str)×Bool)(v:Value)(w':World):Prop:=Bw w0 w'/\un2 (λr1 r2=>∃G H I,v = .tuple #[sl G H I,vB r2]/\repS w' (zn B w0.z w'.z) (sl G H I) r1) r
theorem W_w1m {x1:Str}{res:(List Str)×Bool}(hm:h_S n x1=some res)(a3:B<=w0.z)(W:x1.b.length<=LEN):g_ prog 56 [Str.v x1] w0 (Q13 w0 B res):=by
 unfold h_S at hm;refine goG func56 z z z λfn hr=>Ws<|Ra z<|Rw z<|Wq<|Wm z<|R z (b_J z z)<|Wx z (λH=>?_) (λH=>?_)
 .refine Ws<|E z (f0 (α:=Str) a_E) ?_;rintro _ _ ⟨aj,nk,cl,rfl,sm,O⟩;exact Ra z<|Rw z<|Wr<|rS2 (ifT hm H) hr z z ⟨sm,aj,nk,cl,z,or_ O<|zin (B:=B) (i:=w0.z) sQ<|a_.lt O⟩
 refine Wk<|Wm z<|bdB (ifF hm H) λ_ en hmo=>E z (fc call92 z<|W_w2i (B:=B) en a3 W) ?_;rintro _ G ⟨_,V,na,cb,_,rfl,h2,_,h3⟩;refine Rw z<|Wq<|Wm z<|bdB hmo λ_ ep hmc=>xA (α:=Str) z a_2 z_9 z z z (or_ h2<|zin (B:=B) h3<|a_.lt h2) ep λ_ _ _ hq ht _=>?_;obtain ⟨rfl,_⟩:=b_l ht;refine R z (l0 g_9 z<|hq.at0 z)<|R z (k_0 z z)<|Wx z (λI=>?_) (λI=>?_)
 .refine Ws<|E z (f0 (α:=Str) a_E) ?_;rintro _ _ ⟨ar,ns,cu,rfl,_,hd⟩;exact Ra z<|Rw z<|Wr<|rS2 (ifT hmc I) hr z z ⟨kW,ar,ns,cu,z,repS.mono (or_ hd<|zin (B:=B) (i:=G.z) sQ<|a_.lt hd)<|a_M kM lr⟩
 refine Wk<|Wq<|Ws<|Rw z<|bdB (ifF hmc I) λ_ huv hme=>c_q (σ:=Int) (ρ:=(List Str)×Bool) (λ(x0:Int) a w=>Sat 34 [(4,sl V na cb),(5,vI x0)] a/\Below G.z G w/\inI x0) (λ(x0:Int) a w=>Sat 34 [(4,sl V na cb)] a/\Below G.z G w/\inI x0) (rQ prog fn<|Q13 w0 B) huv ?_ ?_ ?_ ?_
 .exact λ_ q=>⟨kaA q,br G,ii z⟩
 .rintro x0 _ _ _ ⟨hSw,sx,hf⟩ hmg;refine Wu ?_ hSw;refine Wq<|Wm z<|Rm z<|R z (lnR a_2 z<|or_ kO<|zin (B:=B) h3<|a_.lt h2)<|Rl z z z<|Wx z (λJ=>?_) (λJ=>?_)
  .refine Wk<|Wq<|Wb<|Wm z<|Rm z<|bdB (ifT hmg J) λ_ ey hmz=>xA (α:=Str) z a_2 z_9 z z z (or_ kO<|zin (B:=B) h3<|a_.lt h2) ey λ_ _ _ a4 a5 _=>?_;obtain ⟨rfl,a6⟩:=b_l a5;refine R z (l0 g_9 z<|a4.at0 z)<|bdB hmz λ_ a7 hmh=>EcA z (fc call93 z<|W_w2k (B:=B) a7 kM a6) λa8 _=>R z (not_ z)<|Wx z (λL=>?_) (λL=>?_)
   .refine Ws<|E z (f0 (α:=Str) a_E) ?_;rintro _ _ ⟨aa,ab,ad,rfl,_,hi⟩;exact Ra z<|Rw z<|Wr<|rtO<|qL (som<|ifT hmh L).symm<|b_A hr z z ⟨kW,aa,ab,ad,z,repS.mono (or_ hi<|zin (B:=B) (i:=a8.z) sQ<|a_.lt hi)<|a_M kM lr⟩
   exact Wk<|Wg<|Rm z<|R z (add_ z z)<|Ra z<|Wl (λ_ q=>⟨i_ x0 1,(som<|ifF hmh L).symm,⟨kaA q,kW,iA _ _⟩⟩)
  exact We<|λ_ q=>c_0 (som<|ifF hmg J).symm ⟨kaA q,sx,hf⟩
 .rintro x0 ae _ rfl ⟨_,_,hf⟩;have Y:=elL hme;revert ae;refine Wo<|Wm z<|bdB Y λ_ af a0=>RX z (rX a_2 z_9 z z (or_ kO<|zin (B:=B) h3<|a_.lt h2) z z af) ?_;rintro _ ⟨ah,ai,ak,rfl,al⟩;exact Rm z<|R z (lnR a_2 z<|or_ kO<|zin (B:=B) h3<|a_.lt h2)<|R z (a_n z z)<|Ra z<|Rw z<|Wr<|rS2 a0 hr z z ⟨kW,ah,ai,ak,z,repS.mono al<|a_M lr kM⟩
 exact lqA hme λ_ _ h=>h.2
theorem e_S {x1:d_}{x2:Bool}{x3:Bool}{x4:Bool}{x5:Bool}{x6:Int}{res:Bool}(hm:d_0 x1 x2 x3 x4 x5 x6=some res)(ad:B<=w0.z)(a4:x1.name.b.length<=LEN)(a5:inI x1.kind)(a6:inI x1.size)(a7:rp w0 B AF NF CF x1.bytes)(a8:rp w0 B AC NC CC x1.names)(a9:rp w0 B AG NG CG x1.tags)(aa:rp w0 B AH NH CH x1.kids)(ab:inI x6):g_ prog 149 [(.agg #[Str.v x1.name,vI x1.kind,vI x1.size,vB x1.little,sl AF NF CF,sl AC NC CC,sl AG NG CG,sl AH NH CH]),vB x2,vB x3,vB x4,vB x5,vI x6] w0 (Q0 w0 B res):=by
 unfold d_0 at hm;refine goG func149 z z z λfn hr=>Ws<|EvX (vR x1 AF NF CF AC NC CC AG NG CG AH NH CH) z z z λwb _ a1=>Rw z<|Wq<|bdB hm λuu huv hmw=>Wt (λa w=>∃(xc:Bool),xc=uu/\Sat 67 [(12,vB xc)] a/\Below wb.z wb w) ?_ ?_
 .refine Wg<|RM z z<|bdB huv λue huf hmx=>d_W 18 ue 4 ?_ ?_
  .rcases bs x2 with a0 | a0
   .iterate 3 refine Nh z a0 ?_
    exact R z (pT z a0 z)<|WLq 4 (ifT huf a0) z z z
   exact Rh z a0 (fd a_P z)<|Rh z a0 (l0 g_3 z<|a1.at z)<|Rh z a0 (eql z z)<|R z (pF z a0 z)<|WLq 4 (ifF huf a0) z z z
  refine Rm z<|bdB hmx λug huh hmy=>d_W 27 ug 8 ?_ ?_
  .rcases bs ue with H | H
   .have hmi:=ifT huh H;refine Rh z H (mv z)<|Rh z H (mv z) ?_;rcases bs x3 with V | V
    .iterate 4 refine Nh z V ?_
     exact Rh z H (pT z V z)<|R z (pT z H z)<|WLq 8 (ifT hmi V) z z z
    exact Rh z V (fd b_s z)<|Rh z V (l0 P_ z<|a1.at z)<|Rh z V (lnR q_ z kR)<|Rh z V (eql z z)<|Rh z H (pF z V z)<|R z (pT z H z)<|WLq 8 (ifF hmi V) z z z
   exact Nh z H<|Nh z H<|Nv z<|Nv z<|Nv z<|Nv z<|Nh z H<|R z (pF z H z)<|WLq 8 (ifF huh H) z z z
  refine Rm z<|bdB hmy λuj huk hmz=>d_W 36 uj 8 ?_ ?_
  .rcases bs ug with I | I
   .have hml:=ifT huk I;refine Rh z I (mv z)<|Rh z I (mv z) ?_;rcases bs x4 with W | W
    .iterate 4 refine Nh z W ?_
     exact Rh z I (pT z W z)<|R z (pT z I z)<|WLq 8 (ifT hml W) z z z
    exact Rh z W (fd c_z z)<|Rh z W (l0 b_n z<|a1.at z)<|Rh z W (lnR a_2 z kR)<|Rh z W (eql z z)<|Rh z I (pF z W z)<|R z (pT z I z)<|WLq 8 (ifF hml W) z z z
   exact Nh z I<|Nh z I<|Nv z<|Nv z<|Nv z<|Nv z<|Nh z I<|R z (pF z I z)<|WLq 8 (ifF huk I) z z z
  refine Rm z<|bdB hmz λum hun a2=>d_W 45 um 8 ?_ ?_
  .rcases bs uj with J | J
   .have hmo:=ifT hun J;refine Rh z J (mv z)<|Rh z J (mv z) ?_;rcases bs x5 with Y | Y
    .iterate 4 refine Nh z Y ?_
     exact Rh z J (pT z Y z)<|R z (pT z J z)<|WLq 8 (ifT hmo Y) z z z
    exact Rh z Y (fd b_o z)<|Rh z Y (l0 E_ z<|a1.at z)<|Rh z Y (lnR A_ z kR)<|Rh z Y (eql z z)<|Rh z J (pF z Y z)<|R z (pT z J z)<|WLq 8 (ifF hmo Y) z z z
   exact Nh z J<|Nh z J<|Nv z<|Nv z<|Nv z<|Nv z<|Nh z J<|R z (pF z J z)<|WLq 8 (ifF hun J) z z z
  refine Rm z<|bdB a2 λup huq hmr=>d_W 56 up 10 ?_ ?_
  .rcases bs um with L | L
   .have hms:=ifT huq L;refine Rh z L (mv z)<|Rh z L (lss z z)<|Rh z L (mv z) ?_;rcases bs (decide<|x6<0) with O | O
    .iterate 5 refine Nh z O ?_
     exact Rh z L (pT z O z)<|R z (pT z L z)<|WLq 10 (ifT hms O) z z z
    exact Rh z O (fd R_ z)<|Rh z O (l0 E_ z<|a1.at z)<|Rh z O (lnR A_ z kR)<|Rh z O (mv z)<|Rh z O (eql z z)<|Rh z L (pF z O z)<|R z (pT z L z)<|WLq 10 (ifF hms O) z z z
   iterate 3 refine Nh z L ?_
   exact Nv z<|Nv z<|Nv z<|Nv z<|Nv z<|Nh z L<|R z (pF z L z)<|WLq 10 (ifF huq L) z z z
  refine Rm z ?_;rcases bs up with G | G
  .have hmt:=ifT hmr G;refine Rh z G (fd e_Q z)<|Rh z G (l0 g_4 z<|a1.at z)<|Rh z G (not_ z)<|Rh z G (mv z) ?_;rcases bs (!x1.little) with hca | hca
   .iterate 3 refine Nh z hca ?_
    exact Rh z G (pT z hca z)<|R z (pT z G z)<|Ra z<|Wl (λ_ q=>⟨true,som<|ifT hmt hca,kaA q,br wb⟩)
   exact Rh z hca (fd a_F z)<|Rh z hca (l0 g_3 z<|a1.at z)<|Rh z hca (eql z z)<|Rh z G (pF z hca z)<|R z (pT z G z)<|Ra z<|Wl (λ_ q=>⟨x1.kind==1,som<|ifF hmt hca,kaA q,br wb⟩)
  iterate 4 refine Nh z G ?_
  exact Nv z<|Nv z<|Nv z<|Nh z G<|R z (pF z G z)<|Ra z<|Wl (λ_ q=>⟨false,som<|ifF hmr G,kaA q,br wb⟩)
 rintro a3 _ ⟨xc,rfl,_,_⟩;revert a3;exact Wo<|Wr<|rS1 hmw hr z ⟨kW,z⟩
theorem i_X {x1:c_}{x2:Int}{res:Int}(hm:e_Y x1 x2=some res)(a1:B<=w0.z)(a0:rp w0 B A0 N0 C0 x1.rules)(W:inI x2):g_ prog 101 [(.agg #[sl A0 N0 C0]),vI x2] w0 (Q9 w0 B res):=by
 unfold e_Y at hm;refine goG func101 z z z λfn hr=>Ws<|EvX [sl A0 N0 C0] z z z λV _ Y=>Rw z<|Wq<|Wq<|bdB hm λua hub J=>Wt (λa w=>∃(x3:Bool),x3=ua/\Sat 39 [(1,vI x2),(2,pt w0.z),(30,vB x3)] a/\Below V.z V w) ?_ ?_
 .refine Wg<|Rm z<|Rf z Q_ z<|R z (l0 U_ z<|Y.at z)<|R z (lnR Y_ z kR)<|R z (sb_ z z)<|bdB hub λrc ed L=>EcA z (fc call50 z<|b_D (B:=B) ed kM W (ii z)<|iS _ _) λ_ s8=>R z (not_ z)<|Rm z ?_;rcases bs (!rc) with H | H
  .iterate 7 refine Nh z H ?_
   exact R z (pT z H z)<|Rm z<|Nh z z<|Nh z z<|Nh z z<|Nh z z<|Nh z z<|Nh z z<|Nh z z<|Nh z z<|R z (pT z z z)<|Wl (λ_ q=>⟨true,som<|ifT L H,kaA q,s8⟩)
  refine Rh z H (fd Q_ z)<|Rh z H (l0 U_ z kBa)<|Rh z H (mv z)<|bdB (ifF L H) λxe ef O=>RXg z z H z (at_ (α:=d_) Y_ o_ z z z kR ef) ?_;rintro _ ⟨_,_,_,rfl,hg,hh,_⟩;obtain ⟨_,_,_,_,_,_,_,_,_,_,_,_,rfl,_,_,_,_,_,_,_⟩:=a_G hh;refine Rh z H (fd a_F z)<|Rh z H (l0 g_3 z<|hg.at (j:=1) z)<|Rh z H (nq z z)<|R z (pF z H z)<|Rm z ?_;rcases bs (xe.kind != 1) with G | G
  .iterate 8 refine Nh z G ?_
   exact R z (pT z G z)<|Wl (λ_ q=>⟨true,som<|ifT O G,kaA q,s8⟩)
  refine Rh z G (fd Q_ z)<|Rh z G (l0 U_ z kBa)<|Rh z G (mv z)<|bdB (ifF O G) λ_ ei hmj=>RXg z z G z (at_ (α:=d_) Y_ o_ z z z kR ei) ?_;rintro _ ⟨_,_,_,rfl,hk,hl,_⟩;obtain ⟨_,_,_,_,_,_,_,_,_,_,_,_,rfl,_,_,hn,_,_,_,_⟩:=a_G hl;refine Rh z G (fd a_P z)<|Rh z G (l0 g_3 z<|hk.at (j:=2) z)<|bdB hmj λrm eo hmp=>Eg z z G z (fc call50 z<|b_D (B:=B) eo kM hn (ii z)<|ii z) ?_;rintro _ _ ⟨_,rfl⟩;exact Rh z G (not_ z)<|R z (pF z G z)<|Wl (λ_ q=>⟨!rm,som hmp,kaA q,kW⟩)
 rintro aq _ ⟨x3,rfl,_,_⟩;revert aq;refine Wo<|Wc z (λI=>?_) (λI=>?_)
 .exact Ws<|Rw z<|Wr<|rS1 (ifT J I) hr z ⟨kW,z,ii z⟩
 refine Wk<|Ws<|Rf z Q_ z<|R z (l0 U_ z kBa)<|Rm z<|bdB (ifF J I) λ_ er hms=>xA (α:=d_) z Y_ o_ z z z kR er λ_ _ _ ht hu _=>?_;obtain ⟨_,_,_,_,_,_,_,_,_,_,_,_,rfl,_,_,hv,_,_,_,_⟩:=a_G hu;refine Rf z a_P z<|R z (l0 g_3 z<|ht.at (j:=2) z)<|bdB hms λ_ ew hmx=>E z (fc call67 z<|k_E (B:=B) ew kM hv) ?_;rintro _ _ ⟨_,rfl,_⟩;exact R z (sb_ z z)<|Rw z<|Wr<|rS1 hmx hr z ⟨kW,z,iS _ _⟩
theorem W_w2l {x1:List Str}{x2:Str}{res:Bool}(hm:j_3 x1 x2=some res)(a1:B<=w0.z)(L:rp w0 B A0 N0 C0 x1)(a0:x2.b.length<=LEN):g_ prog 159 [sl A0 N0 C0,Str.v x2] w0 (Q0 w0 B res):=by
 unfold j_3 at hm;refine goG func159 z z z λfn hr=>Ws<|Rw z<|Wq<|Ws<|Rw z<|bdB hm λ_ O H=>Wf (σ:=Unit) (ρ:=Bool) (λ(k2:Nat)(_:Unit) a w=>Sat 18 [(0,sl A0 N0 C0),(1,Str.v x2),(5,vI ((k2:Nat):Int))] a/\Below w0.z w0 w) (λ(_:Unit) a w=>Sat 18 [] a/\Below w0.z w0 w) (rQ prog fn<|Q0 w0 B) O ?_ ?_ ?_ ?_ ?_
 .exact λ_ q=>⟨kaA q,br w0⟩
 .rintro k2 _ _ _ _ I ⟨V,s4⟩ W;refine Wu ?_ V;refine Wq<|Wm z<|Rm z<|R z (lnR a_2 z kR)<|Rl z z z<|Wx z (λ_=>?_) (λhc=>(Z_ I hc).elim);refine Wk<|Wq<|Wb<|Wm z<|Rm z<|bdB W λ_ Y J=>xA (α:=Str) z a_2 z_9 z z z kR Y λ_ _ _ ha hb _=>?_;obtain ⟨rfl,_⟩:=b_l hb;refine R z (l0 g_9 z<|ha.at0 z)<|Rm z<|R z (b_J z z)<|Wx z (λG=>?_) (λG=>?_)
  .exact Ws<|Rw z<|Wr<|rtO<|qL (som<|ifT J G).symm<|a_R hr z ⟨s4,z⟩
  exact Wk<|Wg<|Rm z<|R z (inc_ I (lt_ (repS.len L) y_) z z)<|Ra z<|Wl (λ_ q=>⟨(),(som<|ifF J G).symm,⟨kaA q,s4⟩⟩)
 .rintro _ _ _ ⟨hSc,sd⟩;refine Wu ?_ hSc;refine Wq<|Wm z<|Rm z<|R z (lnR a_2 z kR)<|Rl z z z<|Wx z (λhc=>(a_0 hc).elim) (λ_=>?_);exact We<|λ_ q=>⟨rfl,⟨q.k sn,sd⟩⟩
 .rintro _ ae _ rfl ⟨_,sf⟩;have hmg:=elL H;revert ae;exact Wo<|Ws<|Rw z<|Wr<|rS1 hmg hr z ⟨sf,z⟩
 exact lqA H λ_ _ h=>h.2
theorem W_w2m {x1:List Str}{res:Bool}(hm:j_4 x1=some res)(a5:B<=w0.z)(W:rp w0 B A0 N0 C0 x1):g_ prog 150 [sl A0 N0 C0] w0 (Q0 w0 B res):=by
 unfold j_4 at hm;refine goG func150 z z z λfn hr=>Ws<|Rw z<|Wq<|Ws<|Rw z<|bdB hm λ_ a3 I=>Wf (σ:=Unit) (ρ:=Bool) (λ(k1:Nat)(_:Unit) a w=>Sat 29 [(0,sl A0 N0 C0),(3,vI ((k1:Nat):Int))] a/\Below w0.z w0 w) (λ(_:Unit) a w=>Sat 29 [(0,sl A0 N0 C0)] a/\Below w0.z w0 w) (rQ prog fn<|Q0 w0 B) a3 ?_ ?_ ?_ ?_ ?_
 .exact λ_ q=>⟨kaA q,br w0⟩
 .rintro k1 _ _ V _ J ⟨hSa,_⟩ hmb;refine Wu ?_ hSa;refine Wq<|Wm z<|Rm z<|R z (lnR a_2 z kR)<|Rl z z z<|Wx z (λ_=>?_) (λhc=>(Z_ J hc).elim);refine Wk<|Wq<|Wb<|Wq<|bdB hmb λuc hud L=>Wt (λa w=>∃(x2:Bool),x2=uc/\Sat 29 [(0,sl A0 N0 C0),(3,vI ((k1:Nat):Int)),(25,vB x2)] a/\Below V.z V w) ?_ ?_
  .refine Wd (X:=noX) 0 (pl_ 16 [4,14]) mo (by kernel_rfl) λa6 a7 _=>dM z z z<|dM z z z<|bdB hud λ_ ee hmf=>dxA (α:=Str) z z a_2 z_9 z z z kR ee λ_ _ _ hg hh _=>?_;obtain ⟨rfl,hi⟩:=b_l hh;refine dR z z (l0 g_9 z<|hg.at0 z)<|bdB hmf λrj ek O=>dE z z (fc call127 z<|m_c (B:=B) ek kM hi) iB ?_;rintro _ _ ⟨_,rfl⟩;refine dR z z (not_ z)<|dM z z z ?_;rcases bs (!rj) with G | G
   .iterate 7 refine dRn z z z G z ?_
    exact dEn z z z G z<|dR z z (pT z G z)<|pD (λ_ q=>⟨true,som<|ifT O G,kaA q,kW⟩)
   refine dRg z z z G z (mv z)<|dRg z z z G z (mv z)<|bdB (ifF O G) λ_ el hmm=>d_7 z z z G z (rX a_2 z_9 z z kR z z el) ?_;rintro _ ⟨_,_,_,rfl,hn⟩;refine dRg z z z G z (mv z)<|dRg z z z G z (mv z)<|bdB hmm λ_ eo hmp=>d_7 z z z G z (at_ (α:=Str) a_2 z_9 z z z kR eo) ?_;rintro _ ⟨_,_,_,rfl,hq,ht,_⟩;obtain ⟨rfl,hu⟩:=b_l ht;refine dRg z z z G z (l0 g_9 z<|hq.at0 z)<|bdB hmp λrr es hmv=>dEg z z z G z (fc call159 z<|W_w2l (B:=B) es kM hn hu) iB ?_;rintro _ _ ⟨_,rfl⟩;exact dR z z (pF z G z)<|pD (λ_ q=>⟨rr,som hmv,kaA q,kW⟩)
  rintro aw _ ⟨x2,rfl,_,_⟩;revert aw;refine Wo<|Wc z (λH=>?_) (λH=>?_)
  .exact Ws<|Rw z<|Wr<|rtO<|qL (som<|ifT L H).symm<|a_R hr z ⟨kW,z⟩
  exact Wk<|Wg<|Rm z<|R z (inc_ J (lt_ (repS.len W) y_) z z)<|Ra z<|Wl (λ_ q=>⟨(),(som<|ifF L H).symm,⟨kaA q,kW⟩⟩)
 .rintro _ _ _ ⟨hSx,sy⟩;refine Wu ?_ hSx;refine Wq<|Wm z<|Rm z<|R z (lnR a_2 z kR)<|Rl z z z<|Wx z (λhc=>(a_0 hc).elim) (λ_=>?_);exact We<|λ_ q=>⟨rfl,⟨kaA q,sy⟩⟩
 .rintro _ az _ rfl ⟨_,_⟩;have Y:=elL I;revert az;exact Wo<|Wm z<|R z (lnR a_2 z kR)<|bdB Y λ_ a4 a0=>EcA z (fc call50 z<|b_D (B:=B) a4 kM (a_T<|repS.len kR) (ii z)<|ii z) λ_ _=>Rw z<|Wr<|rS1 a0 hr z ⟨kW,z⟩
 exact lqA I λ_ _ h=>h.2
theorem W_w2n {x1:c_}{x2:d_}{res:Bool}(hm:j_5 x1 x2=some res)(aG:B<=w0.z)(az:rp w0 B A0 N0 C0 x1.rules)(aA:x2.name.b.length<=LEN)(aB:inI x2.kind)(aC:inI x2.size)(aD:rp w0 B A5 N5 C5 x2.bytes)(aE:rp w0 B A6 N6 C6 x2.names)(a0:rp w0 B A3 N3 C3 x2.tags)(aF:rp w0 B A7 N7 C7 x2.kids):g_ prog 151 [(.agg #[sl A0 N0 C0]),(.agg #[Str.v x2.name,vI x2.kind,vI x2.size,vB x2.little,sl A5 N5 C5,sl A6 N6 C6,sl A3 N3 C3,sl A7 N7 C7])] w0 (Q0 w0 B res):=by
 unfold j_5 at hm;refine goG func151 z z z λfn hr=>Ws<|EvX [sl A0 N0 C0] z z z λV _ _=>EvX (vR x2 A5 N5 C5 A6 N6 C6 A3 N3 C3 A7 N7 C7) z z z λW _ L=>Rw z<|Wq<|Wq<|bdB hm λul huc hme=>Wt (λa w=>∃(Y:Bool),Y=ul/\Sat 59 [(2,pt w0.z),(3,pt V.z),(20,vB Y)] a/\Below W.z W w) ?_ ?_
 .refine Wg<|Rf z R_ z<|R z (l0 E_ z<|L.at z)<|R z (lnR A_ z kR)<|Rf z b_o z<|R z (l0 E_ z<|L.at z)<|R z (lnR A_ z kR)<|R z (add_ z z)<|R z (nq z z)<|Rm z ?_;rcases bs ((x2.kids.length:Int) != (i_ (x2.tags.length:Int) 1)) with I | I
  .iterate 5 refine Nh z I ?_
   exact R z (pT z I z)<|Wl (λ_ q=>⟨true,som<|ifT huc I,kaA q,br W⟩)
  refine Rh z I (fd b_o z)<|Rh z I (l0 E_ z<|L.at z)<|Rh z I (lnR A_ z kR)<|bdB (ifF huc I) λrm en hmo=>Eg z z I z (fc call50 z<|b_D (B:=B) en kM (a_T<|repS.len kR) (ii z)<|ii z) ?_;rintro _ _ ⟨sp,rfl⟩;exact Rh z I (not_ z)<|R z (pF z I z)<|Wl (λ_ q=>⟨!rm,som hmo,kaA q,sp⟩)
 rintro aq J ⟨Y,rfl,_,_⟩;revert aq;refine Wo<|Wc z (λO=>?_) (λO=>?_)
 .exact Ws<|Rw z<|Wr<|rS1 (ifT hme O) hr z ⟨kW,z⟩
 refine Wk<|Wq<|Ws<|Rw z<|bdB (ifF hme O) λ_ hur hmf=>Wf (σ:=Unit) (ρ:=Bool) (λ(k6:Nat)(_:Unit) a w=>Sat 59 [(2,pt w0.z),(3,pt V.z),(5,vI ((k6:Nat):Int))] a/\Below J.z J w) (λ(_:Unit) a w=>Sat 59 [] a/\Below J.z J w) (rQ prog fn<|Q0 w0 B) hur ?_ ?_ ?_ ?_ ?_
 .exact λ_ q=>⟨kaA q,br J⟩
 .rintro k6 _ _ wg _ hkh ⟨hSs,_⟩ hmt;refine Wu ?_ hSs;refine Wq<|Wm z<|Rf z b_o z<|R z (l0 E_ z kBa)<|R z (lnR A_ z kR)<|Rl z z z<|Wx z (λ_=>?_) (λhc=>(Z_ hkh hc).elim);refine Wk<|Wq<|Wb<|Wq<|bdB hmt λuu huv hmi=>Wt (λa w=>∃(x9:Bool),x9=uu/\Sat 59 [(2,pt w0.z),(3,pt V.z),(5,vI ((k6:Nat):Int)),(58,vB x9)] a/\Below wg.z wg w) ?_ ?_
  .refine Wd (X:=noX) 0 (pl_ 31 [10,11]) mo (by kernel_rfl) λaH aI _=>dR z z (fd b_o z)<|dR z z (l0 E_ z kBa)<|dM z z z<|bdB huv λ_ ew hmx=>dxA (α:=Int) z z A_ z_3 z z z kR ew λ_ _ _ hy hz _=>?_;obtain ⟨rfl,a9⟩:=a_U hz;refine dR z z (l0 g_3 z<|hy.at0 z)<|dR z z (lC [sl A0 N0 C0] h_ f_ z)<|dR z z (fd R_ z)<|dR z z (l0 E_ z kBa)<|bdB hmx λ_ aa a1=>dxA (α:=Int) z z A_ z_3 z z z kR aa λ_ _ _ ab ad _=>?_;obtain ⟨rfl,ae⟩:=a_U ad;refine dR z z (l0 g_3 z<|ab.at0 z)<|bdB a1 λ_ af a2=>dE z z (fc call101 z<|i_X (B:=B) af kM kR ae) iB ?_;rintro _ _ ⟨_,rfl,ah⟩;refine bdB a2 λai aj hmj=>dE z z (fc call50 z<|b_D (B:=B) aj kM a9 (ii z) ah) iB ?_;rintro _ _ ⟨_,rfl⟩;refine dR z z (not_ z)<|dM z z z ?_;rcases bs (!ai) with H | H
   .iterate 3 refine dRn z z z H z ?_
    iterate 12 refine dRu z z z z ?_
    exact dRn z z z H z<|dR z z (pT z H z)<|pD (λ_ q=>⟨true,som<|ifT hmj H,kaA q,kW⟩)
   have hmk:=ifF hmj H;refine dRg z z z H z (mv z)<|dRg z z z H z (a_n z z)<|dRg z z z H z (mv z) ?_;rcases bs (decide<|0<((k6:Nat):Int)) with G | G
   .refine dRg z z z G z (fd b_o z)<|dRg z z z G z (l0 E_ z kBa)<|dRg z z z G z (mv z)<|dRg z z z G z (sb_ z z)<|bdB (ifT hmk G) λak al a3=>d_7 z z z G z (at_ (α:=Int) A_ z_3 z z z kR al) ?_;rintro _ ⟨_,_,_,rfl,am,an,_⟩;obtain ⟨rfl,_⟩:=a_U an;refine dRg z z z G z (l0 g_3 z<|am.at0 z)<|dRg z z z G z (fd b_o z)<|dRg z z z G z (l0 E_ z kBa)<|dRg z z z G z (mv z)<|bdB a3 λap ar a4=>d_7 z z z G z (at_ (α:=Int) A_ z_3 z z z kR ar) ?_;rintro _ ⟨_,_,_,rfl,au,av,_⟩;obtain ⟨rfl,_⟩:=a_U av;exact dRg z z z G z (l0 g_3 z<|au.at0 z)<|dRg z z z G z (c_2 z z)<|dRg z z z H z (pT z G z)<|dR z z (pF z H z)<|pD (λ_ q=>⟨decide<|ap<=ak,som a4,kaA q,kW⟩)
   iterate 12 refine dRn z z z G z ?_
   exact dRg z z z H z (pF z G z)<|dR z z (pF z H z)<|pD (λ_ q=>⟨false,som<|ifF hmk G,kaA q,kW⟩)
  rintro aw _ ⟨x9,rfl,_,_⟩;revert aw;refine Wo<|Wc z (λhca=>?_) (λhca=>?_)
  .exact Ws<|Rw z<|Wr<|rtO<|qL (som<|ifT hmi hca).symm<|a_R hr z ⟨kW,z⟩
  exact Wk<|Wg<|Rm z<|R z (inc_ hkh (lt_ (repS.len a0) y_) z z)<|Ra z<|Wl (λ_ q=>⟨(),(som<|ifF hmi hca).symm,⟨kaA q,kW⟩⟩)
 .rintro _ _ _ ⟨a5,ax⟩;refine Wu ?_ a5;refine Wq<|Wm z<|Rf z b_o z<|R z (l0 E_ z kBa)<|R z (lnR A_ z kR)<|Rl z z z<|Wx z (λhc=>(a_0 hc).elim) (λ_=>?_);exact We<|λ_ q=>⟨rfl,⟨q.k sn,ax⟩⟩
 .rintro _ ay _ rfl ⟨_,_⟩;have a6:=elL hmf;revert ay;exact Wo<|Ws<|Rw z<|Wr<|rS1 a6 hr z ⟨kW,z⟩
 exact lqA hmf λ_ _ h=>h.2
theorem W_w2o {x1:c_}{x2:d_}{res:Bool}(hm:j_6 x1 x2=some res)(cb:B<=w0.z)(c6:rp w0 B A0 N0 C0 x1.rules)(V:x2.name.b.length<=LEN)(W:inI x2.kind)(L:inI x2.size)(c7:rp w0 B A5 N5 C5 x2.bytes)(c8:rp w0 B A6 N6 C6 x2.names)(c9:rp w0 B A3 N3 C3 x2.tags)(ca:rp w0 B A7 N7 C7 x2.kids):g_ prog 134 [(.agg #[sl A0 N0 C0]),(.agg #[Str.v x2.name,vI x2.kind,vI x2.size,vB x2.little,sl A5 N5 C5,sl A6 N6 C6,sl A3 N3 C3,sl A7 N7 C7])] w0 (Q0 w0 B res):=by
 unfold j_6 at hm;refine goG func134 z z z λfn hr=>Ws<|EvX [sl A0 N0 C0] z z z λwc _ _=>EvX (vR x2 A5 N5 C5 A6 N6 C6 A3 N3 C3 A7 N7 C7) z z z λG _ a4=>Rw z<|Wq<|Ws<|Rf z a_F z<|R z (l0 g_3 z<|a4.at z)<|Wn<|Wb<|Ws<|Rq z z z<|Rw z<|Wc z (λhcd=>?_) (λhcd=>?_)
 .refine Wq<|bdB (ifT hm hcd) λaU au av=>Wt (λa w=>∃(xe:Bool),xe=aU/\Sat 114 [(4,vB xe)] a/\Below G.z G w) ?_ ?_
  .refine Wg<|R z (lN (vs:=vR x2 A5 N5 C5 A6 N6 C6 A3 N3 C3 A7 N7 C7) I_ o_ z z fid<|a4.row 0 8 z)<|bdB au λaV aW hmz=>EcA z (fc call149 z<|e_S (B:=B) aW kM V W L kR kR kR kR<|ii z) λ_ aX=>Rm z ?_;rcases bs aV with a1 | a1
   .refine Rh z a1 (fd a_P z)<|Rh z a1 (l0 g_3 z kBa)<|bdB (ifT hmz a1) λaY aZ a5=>Eg z z a1 z (fc call50 z<|b_D (B:=B) aZ kM L (ii z)<|ii z) ?_;rintro _ _ ⟨_,rfl⟩;refine R z (pT z a1 z)<|Rm z ?_;rcases bs aY with J | J
    .have a6:=ifT a5 J;refine Rh z J (fd e_Q z)<|Rh z J (l0 g_4 z kBa)<|Rh z J (not_ z)<|Rh z J (mv z) ?_;rcases bs (!x2.little) with a2 | a2
     .iterate 3 refine Nh z a2 ?_
      exact Rh z J (pT z a2 z)<|R z (pT z J z)<|Ra z<|Wl (λ_ q=>⟨true,som<|ifT a6 a2,kaA q,kW⟩)
     exact Rh z a2 (fd a_P z)<|Rh z a2 (l0 g_3 z kBa)<|Rh z a2 (a_n z z)<|Rh z J (pF z a2 z)<|R z (pT z J z)<|Ra z<|Wl (λ_ q=>⟨decide<|1<x2.size,som<|ifF a6 a2,kaA q,kW⟩)
    iterate 4 refine Nh z J ?_
    exact Nv z<|Nv z<|Nv z<|Nh z J<|R z (pF z J z)<|Ra z<|Wl (λ_ q=>⟨false,som<|ifF a5 J,kaA q,kW⟩)
   iterate 3 refine Nh z a1 ?_
   exact R z (pF z a1 z)<|Rm z<|Nh z z<|Nh z z<|Nh z z<|Nh z z<|Nv z<|Nv z<|Nv z<|Nh z z<|R z (pF z z z)<|Ra z<|Wl (λ_ q=>⟨false,som<|ifF hmz a1,kaA q,aX⟩)
  rintro b0 _ ⟨xe,rfl,_,_⟩;revert b0;exact Wo<|Wr<|rtO<|rS1 av hr z ⟨kW,z⟩
 have a7:=ifF hm hcd;refine Ws<|Rq z z z<|Rw z<|Wc z (λhcf=>?_) (λhcf=>?_)
 .refine Wq<|bdB (ifT a7 hcf) λb3 aw ax=>Wt (λa w=>∃(xg:Bool),xg=b3/\Sat 114 [(4,vB xg)] a/\Below G.z G w) ?_ ?_
  .refine Wg<|R z (lN (vs:=vR x2 A5 N5 C5 A6 N6 C6 A3 N3 C3 A7 N7 C7) I_ o_ z z fid<|a4.row 0 8 z)<|bdB aw λb4 b5 a8=>EcA z (fc call149 z<|e_S (B:=B) b5 kM V W L kR kR kR kR<|ii z) λ_ b6=>Rm z ?_;rcases bs b4 with Y | Y
   .refine Rh z Y (fd b_s z)<|Rh z Y (l0 P_ z kBa)<|Rh z Y (lnR q_ z kR)<|bdB (ifT a8 Y) λb7 b8 ay=>Eg z z Y z (fc call50 z<|b_D (B:=B) b8 kM (a_T<|repS.len kR) (ii z)<|ii z) ?_;rintro _ _ ⟨_,rfl⟩;exact R z (pT z Y z)<|Ra z<|Wl (λ_ q=>⟨b7,som ay,kaA q,kW⟩)
   iterate 4 refine Nh z Y ?_
   exact R z (pF z Y z)<|Ra z<|Wl (λ_ q=>⟨false,som<|ifF a8 Y,kaA q,b6⟩)
  rintro b9 _ ⟨xg,rfl,_,_⟩;revert b9;exact Wo<|Wr<|rtO<|rS1 ax hr z ⟨kW,z⟩
 have a9:=ifF a7 hcf;refine Ws<|Rq z z z<|Rw z<|Wc z (λhch=>?_) (λhch=>?_)
 .refine Wq<|bdB (ifT a9 hch) λba az aA=>Wt (λa w=>∃(xi:Bool),xi=ba/\Sat 114 [(4,vB xi)] a/\Below G.z G w) ?_ ?_
  .refine Wg<|R z (lN (vs:=vR x2 A5 N5 C5 A6 N6 C6 A3 N3 C3 A7 N7 C7) I_ o_ z z fid<|a4.row 0 8 z)<|bdB az λbb bc aa=>EcA z (fc call149 z<|e_S (B:=B) bc kM V W L kR kR kR kR<|ii z) λ_ be=>Rm z ?_;rcases bs bb with a3 | a3
   .refine Rh z a3 (fd a_P z)<|Rh z a3 (l0 g_3 z kBa)<|bdB (ifT aa a3) λbf bg aB=>Eg z z a3 z (fc call50 z<|b_D (B:=B) bg kM L (ii z)<|ii z) ?_;rintro _ _ ⟨_,rfl⟩;exact R z (pT z a3 z)<|Ra z<|Wl (λ_ q=>⟨bf,som aB,kaA q,kW⟩)
   iterate 3 refine Nh z a3 ?_
   exact R z (pF z a3 z)<|Ra z<|Wl (λ_ q=>⟨false,som<|ifF aa a3,kaA q,be⟩)
  rintro bh _ ⟨xi,rfl,_,_⟩;revert bh;exact Wo<|Wr<|rtO<|rS1 aA hr z ⟨kW,z⟩
 have ab:=ifF a9 hch;refine Ws<|Rq z z z<|Rw z<|Wc z (λhcj=>?_) (λhcj=>?_)
 .refine Wq<|bdB (ifT ab hcj) λbi aC aD=>Wt (λa w=>∃(xk:Bool),xk=bi/\Sat 114 [(4,vB xk)] a/\Below G.z G w) ?_ ?_
  .refine Wd (X:=noX) 0 (pl_ 12 [1,8]) mo (by kernel_rfl) λcc cd _=>dR z z (lN (vs:=vR x2 A5 N5 C5 A6 N6 C6 A3 N3 C3 A7 N7 C7) I_ o_ z z fid<|kBr 0 8)<|bdB aC λbj bk ad=>dE z z (fc call149 z<|e_S (B:=B) bk kM V W L kR kR kR kR<|ii z) iB ?_;rintro _ _ ⟨_,rfl⟩;refine dM z z z ?_;rcases bs bj with H | H
   .refine dRg z z z H z (lC [sl A0 N0 C0] h_ f_ z)<|dRg z z z H z (fd R_ z)<|dRg z z z H z (l0 E_ z kBa)<|bdB (ifT ad H) λ_ bm aE=>d_7 z z z H z (at_ (α:=Int) A_ z_3 z z z kR bm) ?_;rintro _ ⟨_,_,_,rfl,bn,bo,_⟩;obtain ⟨rfl,bp⟩:=a_U bo;refine dRg z z z H z (l0 g_3 z<|bn.at0 z)<|bdB aE λbq bt aF=>dEg z z z H z (fc call101 z<|i_X (B:=B) bt kM kR bp) iB ?_;rintro _ _ ⟨_,rfl,_⟩;exact dRg z z z H z (a_n z z)<|dR z z (pT z H z)<|dQ z z z<|pD (λ_ q=>⟨decide<|0<bq,som aF,kaA q,kW⟩)
   iterate 5 refine dRn z z z H z ?_
   exact dEn z z z H z<|dRn z z z H z<|dR z z (pF z H z)<|dQ z z z<|pD (λ_ q=>⟨false,som<|ifF ad H,kaA q,kW⟩)
  rintro bu _ ⟨xk,rfl,_,_⟩;revert bu;exact Wo<|Wr<|rtO<|rS1 aD hr z ⟨kW,z⟩
 have ae:=ifF ab hcj;refine Ws<|Rq z z z<|Rw z<|Wc z (λhcl=>?_) (λhcl=>?_)
 .refine Wq<|bdB (ifT ae hcl) λbv aG aH=>Wt (λa w=>∃(xm:Bool),xm=bv/\Sat 114 [(4,vB xm)] a/\Below G.z G w) ?_ ?_
  .refine Wd (X:=noX) 0 (pl_ 12 [1,8]) mo (by kernel_rfl) λce cf _=>dR z z (lN (vs:=vR x2 A5 N5 C5 A6 N6 C6 A3 N3 C3 A7 N7 C7) I_ o_ z z fid<|kBr 0 8)<|bdB aG λbw bx af=>dE z z (fc call149 z<|e_S (B:=B) bx kM V W L kR kR kR kR<|ii z) iB ?_;rintro _ _ ⟨_,rfl⟩;refine dM z z z ?_;rcases bs bw with I | I
   .refine dRg z z z I z (lC [sl A0 N0 C0] h_ f_ z)<|dRg z z z I z (fd R_ z)<|dRg z z z I z (l0 E_ z kBa)<|bdB (ifT af I) λ_ bz aI=>d_7 z z z I z (at_ (α:=Int) A_ z_3 z z z kR bz) ?_;rintro _ ⟨_,_,_,rfl,bA,bB,_⟩;obtain ⟨rfl,bC⟩:=a_U bB;refine dRg z z z I z (l0 g_3 z<|bA.at0 z)<|bdB aI λbD bE aJ=>dEg z z z I z (fc call101 z<|i_X (B:=B) bE kM kR bC) iB ?_;rintro _ _ ⟨_,rfl,_⟩;exact dRg z z z I z (a_n z z)<|dR z z (pT z I z)<|dQ z z z<|pD (λ_ q=>⟨decide<|0<bD,som aJ,kaA q,kW⟩)
   iterate 5 refine dRn z z z I z ?_
   exact dEn z z z I z<|dRn z z z I z<|dR z z (pF z I z)<|dQ z z z<|pD (λ_ q=>⟨false,som<|ifF af I,kaA q,kW⟩)
  rintro bF _ ⟨xm,rfl,_,_⟩;revert bF;exact Wo<|Wr<|rtO<|rS1 aH hr z ⟨kW,z⟩
 have ah:=ifF ae hcl;refine Ws<|Rq z z z<|Rw z<|Wc z (λhcn=>?_) (λhcn=>?_)
 .refine Wq<|bdB (ifT ah hcn) λbG aK aL=>Wt (λa w=>∃(xo:Bool),xo=bG/\Sat 114 [(4,vB xo)] a/\Below G.z G w) ?_ ?_
  .refine Wg<|R z (lN (vs:=vR x2 A5 N5 C5 A6 N6 C6 A3 N3 C3 A7 N7 C7) I_ o_ z z fid<|a4.row 0 8 z)<|Rf z c_z z<|R z (l0 b_n z<|a4.at z)<|R z (lnR a_2 z kR)<|bdB aK λbH bI ai=>EcA z (fc call149 z<|e_S (B:=B) bI kM V W L kR kR kR kR<|a_T<|repS.len kR) λ_ bJ=>Rm z ?_;rcases bs bH with hca | hca
   .refine Rh z hca (fd c_z z)<|Rh z hca (l0 b_n z kBa)<|bdB (ifT ai hca) λbK bL aM=>Eg z z hca z (fc call150 z<|W_w2m (B:=B) bL kM kR) ?_;rintro _ _ ⟨_,rfl⟩;exact R z (pT z hca z)<|Ra z<|Wl (λ_ q=>⟨bK,som aM,kaA q,kW⟩)
   iterate 3 refine Nh z hca ?_
   exact R z (pF z hca z)<|Ra z<|Wl (λ_ q=>⟨false,som<|ifF ai hca,kaA q,bJ⟩)
  rintro bM _ ⟨xo,rfl,_,_⟩;revert bM;exact Wo<|Wr<|rtO<|rS1 aL hr z ⟨kW,z⟩
 have aj:=ifF ah hcn;refine Ws<|Rq z z z<|Rw z<|Wc z (λhcp=>?_) (λhcp=>?_)
 .refine Wq<|bdB (ifT aj hcp) λbN aN aO=>Wt (λa w=>∃(xq:Bool),xq=bN/\Sat 114 [(4,vB xq)] a/\Below G.z G w) ?_ ?_
  .refine Wg<|R z (lN (vs:=vR x2 A5 N5 C5 A6 N6 C6 A3 N3 C3 A7 N7 C7) I_ o_ z z fid<|a4.row 0 8 z)<|bdB aN λbO bP ak=>EcA z (fc call149 z<|e_S (B:=B) bP kM V W L kR kR kR kR<|ii z) λ_ bR=>Rm z ?_;rcases bs bO with hcb | hcb
   .refine Rh z hcb (lC [sl A0 N0 C0] h_ f_ z)<|Rh z hcb (lN (vs:=vR x2 A5 N5 C5 A6 N6 C6 A3 N3 C3 A7 N7 C7) I_ o_ z z fid<|kBr 0 8)<|bdB (ifT ak hcb) λbS bT aP=>Eg z z hcb z (fc call151 z<|W_w2n (B:=B) bT kM kR V W L kR kR kR kR) ?_;rintro _ _ ⟨_,rfl⟩;exact R z (pT z hcb z)<|Ra z<|Wl (λ_ q=>⟨bS,som aP,kaA q,kW⟩)
   iterate 3 refine Nh z hcb ?_
   exact R z (pF z hcb z)<|Ra z<|Wl (λ_ q=>⟨false,som<|ifF ak hcb,kaA q,bR⟩)
  rintro bU _ ⟨xq,rfl,_,_⟩;revert bU;exact Wo<|Wr<|rtO<|rS1 aO hr z ⟨kW,z⟩
 refine Wq<|Ws<|Rq z z z<|Rw z<|bdB (ifF aj hcp) λbV al am=>Wt (λa w=>∃(xr:Bool),xr=bV/\Sat 114 [(3,pt wc.z),(6,vI x2.kind),(92,vB xr)] a/\Below G.z G w) ?_ ?_
 .refine Wc z (λhcs=>?_)<|λhcs=>?_
  .exact a_7<|λ_ q=>⟨x2.kind==8,som<|ifT al hcs,kaA q,br G⟩
  exact Wg<|Rq z z z<|Ra z<|Wl (λ_ q=>⟨x2.kind==9,som<|ifF al hcs,kaA q,br G⟩)
 rintro bW ar ⟨xr,rfl,_,_⟩;revert bW;refine Wo<|Wc z (λhct=>?_) (λhct=>?_)
 .exact Ws<|R z (lN (vs:=vR x2 A5 N5 C5 A6 N6 C6 A3 N3 C3 A7 N7 C7) I_ o_ z z fid<|kBr 0 8)<|bdB (ifT am hct) λ_ bX aQ=>EcA z (fc call149 z<|e_S (B:=B) bX kM V W L kR kR kR kR<|ii z) λ_ _=>Rw z<|Wr<|rtO<|rS1 aQ hr z ⟨kW,z⟩
 have an:=ifF am hct;refine Ws<|Rq z z z<|Rw z<|Wc z (λhcu=>?_) (λhcu=>?_)
 .refine Wq<|bdB (ifT an hcu) λbY aR aS=>Wt (λa w=>∃(xv:Bool),xv=bY/\Sat 114 [(4,vB xv)] a/\Below ar.z ar w) ?_ ?_
  .refine Wg<|R z (lN (vs:=vR x2 A5 N5 C5 A6 N6 C6 A3 N3 C3 A7 N7 C7) I_ o_ z z fid<|kBr 0 8)<|bdB aR λbZ c0 ap=>EcA z (fc call149 z<|e_S (B:=B) c0 kM V W L kR kR kR kR<|ii z) λ_ sw=>Rm z ?_;rcases bs bZ with a0 | a0
   .have aq:=ifT ap a0;refine Rh z a0 (fd b_s z)<|Rh z a0 (l0 P_ z kBa)<|Rh z a0 (lnR q_ z kR)<|Rh z a0 (eql z z)<|R z (pT z a0 z)<|Rm z ?_;rcases bs ((x2.bytes.length:Int)==1) with O | O
    .refine Rh z O (fd b_s z)<|Rh z O (l0 P_ z kBa)<|bdB (ifT aq O) λc1 c2 aT=>RXg z z O z (at_ (α:=UInt8) q_ z_5 z z z kR c2) ?_;rintro _ ⟨_,_,_,rfl,c3,c4,_⟩;obtain rfl:=u8 c4;exact Rh z O (l0 g_5 z<|c3.at0 z)<|Rh z O (nq z z)<|R z (pT z O z)<|Ra z<|Wl (λ_ q=>⟨(byteI c1) != (byteI (92:UInt8)),som aT,kaA q,sw⟩)
    iterate 5 refine Nh z O ?_
    exact R z (pF z O z)<|Ra z<|Wl (λ_ q=>⟨false,som<|ifF aq O,kaA q,sw⟩)
   iterate 4 refine Nh z a0 ?_
   exact R z (pF z a0 z)<|Rm z<|Nh z z<|Nh z z<|Nh z z<|Nh z z<|Nh z z<|R z (pF z z z)<|Ra z<|Wl (λ_ q=>⟨false,som<|ifF ap a0,kaA q,sw⟩)
  rintro c5 _ ⟨xv,rfl,_,_⟩;revert c5;exact Wo<|Wr<|rtO<|rS1 aS hr z ⟨kW,z⟩
 exact Wk<|Ws<|Rw z<|Wr<|rS1 (ifF an hcu) hr z ⟨kW,z⟩
theorem W_w2p {x1:c_}{x2:Int}{res:Bool}(hm:j_7 x1 x2=some res)(aU:B<=w0.z)(aT:rp w0 B A0 N0 C0 x1.rules)(a0:inI x2):g_ prog 100 [(.agg #[sl A0 N0 C0]),vI x2] w0 (Q0 w0 B res):=by
 unfold j_7 at hm;refine goG func100 z z z λfn hr=>Ws<|EvX [sl A0 N0 C0] z z z λwz _ a1=>Rw z<|Wq<|Wm z<|Rf z Q_ z<|R z (l0 U_ z<|a1.at z)<|R z (lnR Y_ z kR)<|R z (sb_ z z)<|bdB hm λ_ au hmm=>EcA z (fc call50 z<|b_D (B:=B) au kM a0 (ii z)<|iS _ _) λJ _=>R z (not_ z)<|Wx z (λL=>?_) (λL=>?_)
 .exact Ws<|Rw z<|Wr<|rS1 (ifT hmm L) hr z ⟨kW,z⟩
 refine Wk<|Ws<|Rf z Q_ z<|R z (l0 U_ z kBa)<|Rm z<|bdB (ifF hmm L) λx5 av a2=>xA (α:=d_) z Y_ o_ z z z kR av λ_ _ _ aw ax _=>?_;obtain ⟨O,V,W,Y,na,cb,ac,nd,ce,af,ng,ch,rfl,hn,ay,az,_,_,_,aA⟩:=a_G ax;refine R z (lN (vs:=vR x5 O V W Y na cb ac nd ce af ng ch) I_ o_ z z fid aw)<|EvZ [(Str.v (⟨[]⟩:Str)),vI 0,vI 0,vB false,sN,sN,sN,sN] z c_l z λaV _ a3=>E0q (vR x5 O V W Y na cb ac nd ce af ng ch) o_ z z a3 z λH _ _=>Wn<|Wq<|Ws<|Rw z<|bdB a2 λ_ a4 hmp=>Wf (σ:=Unit) (ρ:=Bool) (λ(kq:Nat)(_:Unit) a w=>Sat 58 [(1,vI x2),(2,pt w0.z),(5,pt J.z),(6,vI ((kq:Nat):Int))] a/\Below H.z H w) (λ(_:Unit) a w=>Sat 58 [(1,vI x2),(2,pt w0.z),(5,pt J.z)] a/\Below H.z H w) (rQ prog fn<|Q0 w0 B) a4 ?_ ?_ ?_ ?_ ?_
 .exact λ_ q=>⟨kaA q,br H⟩
 .rintro kq _ _ _ _ hkr ⟨a5,_⟩ a7;refine Wu ?_ a5;refine Wq<|Wm z<|Rm z<|Rl z z z<|Wx z (λ_=>?_) (λhc=>(j_O hkr hc).elim);refine Wk<|Wq<|Wb<|Wq (Wd (X:=noX) 0 (pl_ 9 []) mo (by kernel_rfl) λaW aX _=>dR z z (fd Q_ z)<|dR z z (l0 U_ z kBa)<|dM z z z ?_);refine bdB a7 λ_ aB hms=>dxA (α:=d_) z z Y_ o_ z z z kR aB λ_ _ _ aC aD _=>?_;obtain ⟨_,_,_,_,_,_,_,_,_,_,_,_,rfl,_,_,_,_,_,_,_⟩:=a_G aD;refine dR z z (fd h_M z)<|dR z z (l0 g_9 z<|aC.at (j:=0) z)<|dR z z (fd h_M z)<|dR z z (l0 g_9 z kBa)<|dR z z (b_J z z)<|pD<|Wo<|Wc z (λhci=>?_) (λhci=>?_)
  .exact Ws<|Rw z<|Wr<|rtO<|qL (som<|ifT hms hci).symm<|a_R hr z ⟨kW,z⟩
  exact Wk<|Wg<|Rm z<|R z (inc_ hkr (tl_ a0) z z)<|Ra z<|Wl (λ_ q=>⟨(),(som<|ifF hms hci).symm,⟨kaA q,kW⟩⟩)
 .rintro _ _ _ ⟨a8,aE⟩;refine Wu ?_ a8;refine Wq<|Wm z<|Rm z<|Rl z z z<|Wx z (λhc=>(j_P hc).elim) (λ_=>?_);exact We<|λ_ q=>⟨rfl,⟨kaA q,aE⟩⟩
 .rintro _ aF I rfl ⟨_,_⟩;have aa:=elL hmp;revert aF;refine Wo<|Wq<|Ws<|Rw z<|bdB aa λ_ ab hmt=>Wf (σ:=Unit) (ρ:=Bool) (λ(ku:Nat)(_:Unit) a w=>Sat 58 [(1,vI x2),(2,pt w0.z),(5,pt J.z),(7,vI ((ku:Nat):Int))] a/\Below I.z I w) (λ(_:Unit) a w=>Sat 58 [(2,pt w0.z),(5,pt J.z)] a/\Below I.z I w) (rQ prog fn<|Q0 w0 B) ab ?_ ?_ ?_ ?_ ?_
  .exact λ_ q=>⟨kaA q,br I⟩
  .rintro ku _ _ _ _ hkv ⟨ad,_⟩ ae;refine Wu ?_ ad;refine Wq<|Wm z<|Rf z R_ z<|R z (l0 E_ z kBa)<|R z (lnR A_ z kR)<|Rl z z z<|Wx z (λ_=>?_) (λhc=>(Z_ hkv hc).elim);refine Wk<|Wq<|Wb<|Ws<|Rf z R_ z<|R z (l0 E_ z kBa)<|Rm z<|bdB ae λ_ aG ah=>xI z A_ z_3 z z z kR aG λ_ _ aH aI=>R z (l0 g_3 z<|aH.at0 z)<|Rm z<|R z (sb_ z z)<|bdB ah λ_ aJ hmw=>EcA z (fc call50 z<|b_D (B:=B) aJ kM aI (ii z)<|iS _ _) λ_ _=>?_;refine R z (not_ z)<|Wx z (λhcj=>?_) (λhcj=>?_)
   .exact Ws<|Rw z<|Wr<|rtO<|qL (som<|ifT hmw hcj).symm<|a_R hr z ⟨kW,z⟩
   exact Wk<|Wg<|Rm z<|R z (inc_ hkv (lt_ (repS.len aA) y_) z z)<|Ra z<|Wl (λ_ q=>⟨(),(som<|ifF hmw hcj).symm,⟨kaA q,kW⟩⟩)
  .rintro _ _ _ ⟨ai,aK⟩;refine Wu ?_ ai;refine Wq<|Wm z<|Rf z R_ z<|R z (l0 E_ z kBa)<|R z (lnR A_ z kR)<|Rl z z z<|Wx z (λhc=>(a_0 hc).elim) (λ_=>?_);exact We<|λ_ q=>⟨rfl,⟨kaA q,aK⟩⟩
  .rintro _ aL wx rfl ⟨_,_⟩;have aj:=elL hmt;revert aL;refine Wo<|Wq<|bdB aj λaM ak al=>Wt (λa w=>∃(xk:Bool),xk=aM/\Sat 58 [(4,vB xk)] a/\Below wx.z wx w) ?_ ?_
   .refine Wg<|Rf z h_M z<|R z (l0 g_9 z kBa)<|bdB ak λaN aO hmy=>EcA z (fc call127 z<|m_c (B:=B) aO kM hn) λ_ aP=>Rm z ?_;rcases bs aN with G | G
    .refine Rh z G (lC [sl A0 N0 C0] h_ f_ z)<|Rh z G (lN (vs:=vR x5 O V W Y na cb ac nd ce af ng ch) I_ o_ z z fid<|kBr 0 8)<|bdB (ifT hmy G) λaQ aR am=>Eg z z G z (fc call134 z<|W_w2o (B:=B) aR kM kR hn ay az kR kR kR kR) ?_;rintro _ _ ⟨_,rfl⟩;exact R z (pT z G z)<|Ra z<|Wl (λ_ q=>⟨aQ,som am,kaA q,kW⟩)
    iterate 3 refine Nh z G ?_
    exact R z (pF z G z)<|Ra z<|Wl (λ_ q=>⟨false,som<|ifF hmy G,kaA q,aP⟩)
   rintro aS _ ⟨xk,rfl,_,_⟩;revert aS;exact Wo<|Wr<|rS1 al hr z ⟨kW,z⟩
  exact lqA hmt λ_ _ h=>h.2
 exact lqA hmp λ_ _ h=>h.2
theorem W_w2q {x1:c_}{res:Bool}(hm:j_8 x1=some res)(a0:B<=w0.z)(J:rp w0 B A0 N0 C0 x1.rules):g_ prog 71 [(.agg #[sl A0 N0 C0])] w0 (Q0 w0 B res):=by
 unfold j_8 at hm;refine goG func71 z z z λfn hr=>Ws<|EvX [sl A0 N0 C0] z z z λG _ _=>Rw z<|Wq<|Ws<|Rw z<|bdB hm λ_ V L=>Wf (σ:=Unit) (ρ:=Bool) (λ(k5:Nat)(_:Unit) a w=>Sat 19 [(1,pt w0.z),(3,vI ((k5:Nat):Int))] a/\Below G.z G w) (λ(_:Unit) a w=>Sat 19 [(1,pt w0.z)] a/\Below G.z G w) (rQ prog fn<|Q0 w0 B) V ?_ ?_ ?_ ?_ ?_
 .exact λ_ q=>⟨kaA q,br G⟩
 .rintro k5 _ _ _ _ H ⟨W,_⟩ Y;refine Wu ?_ W;refine Wq<|Wm z<|Rf z Q_ z<|R z (l0 U_ z kBa)<|R z (lnR Y_ z kR)<|Rl z z z<|Wx z (λ_=>?_) (λhc=>(Z_ H hc).elim);refine Wk<|Wq<|Wb<|Ws<|R z (lC [sl A0 N0 C0] h_ f_ z)<|Rm z<|bdB Y λ_ ea O=>EcA z (fc call100 z<|W_w2p (B:=B) ea kM kR<|ic (Nat.le_of_lt H)<|lt_ (repS.len J) y_) λ_ _=>R z (not_ z)<|Wx z (λI=>?_) (λI=>?_)
  .exact Ws<|Rw z<|Wr<|rtO<|qL (som<|ifT O I).symm<|a_R hr z ⟨kW,z⟩
  exact Wk<|Wg<|Rm z<|R z (inc_ H (lt_ (repS.len J) y_) z z)<|Ra z<|Wl (λ_ q=>⟨(),(som<|ifF O I).symm,⟨kaA q,kW⟩⟩)
 .rintro _ _ _ ⟨hSb,sc⟩;refine Wu ?_ hSb;refine Wq<|Wm z<|Rf z Q_ z<|R z (l0 U_ z kBa)<|R z (lnR Y_ z kR)<|Rl z z z<|Wx z (λhc=>(a_0 hc).elim) (λ_=>?_);exact We<|λ_ q=>⟨rfl,⟨kaA q,sc⟩⟩
 .rintro _ ad _ rfl ⟨_,_⟩;have hme:=elL L;revert ad;exact Wo<|Ws<|Rf z Q_ z<|R z (l0 U_ z kBa)<|R z (lnR Y_ z kR)<|bdB hme λ_ ef hmg=>EcA z (fc call50 z<|b_D (B:=B) ef kM (a_T<|repS.len kR) (ii z)<|ii z) λ_ _=>Rw z<|Wr<|rS1 hmg hr z ⟨kW,z⟩
 exact lqA L λ_ _ h=>h.2
theorem m_d {x1:c_}{x2:Int}{res:Bool}(hm:d_q x1 x2=some res)(a1:B<=w0.z)(a0:rp w0 B A0 N0 C0 x1.rules)(J:inI x2):g_ prog 39 [(.agg #[sl A0 N0 C0]),vI x2] w0 (Q0 w0 B res):=by
 unfold d_q at hm;refine goG func39 z z z λfn hr=>Ws<|EvX [sl A0 N0 C0] z z z λI _ L=>Rw z<|Wq<|bdB hm λW O V=>Wt (λa w=>∃(x3:Bool),x3=W/\Sat 15 [(4,vB x3)] a/\Below I.z I w) ?_ ?_
 .refine Wg<|Rm z<|Rf z Q_ z<|R z (l0 U_ z<|L.at z)<|R z (lnR Y_ z kR)<|R z (sb_ z z)<|bdB O λY e9 H=>EcA z (fc call50 z<|b_D (B:=B) e9 kM J (ii z)<|iS _ _) λ_ sa=>Rm z ?_;rcases bs Y with G | G
  .refine Rh z G (lC [sl A0 N0 C0] h_ f_ z)<|bdB (ifT H G) λrb ec hmd=>Eg z z G z (fc call71 z<|W_w2q (B:=B) ec kM kR) ?_;rintro _ _ ⟨_,rfl⟩;exact R z (pT z G z)<|Ra z<|Wl (λ_ q=>⟨rb,som hmd,kaA q,kW⟩)
  exact Nh z G<|Nh z G<|R z (pF z G z)<|Ra z<|Wl (λ_ q=>⟨false,som<|ifF H G,kaA q,sa⟩)
 rintro ae _ ⟨x3,rfl,_,_⟩;revert ae;exact Wo<|Wr<|rS1 V hr z ⟨kW,z⟩
theorem W_w2r {x1:c_}{x2:d_}{x3:Val}{res:Bool}(hm:g_C x1 x2 x3=some res)(bW:B<=w0.z)(bO:rp w0 B A0 N0 C0 x1.rules)(aG:x2.name.b.length<=LEN)(aH:inI x2.kind)(a6:inI x2.size)(bP:rp w0 B A5 N5 C5 x2.bytes)(bR:rp w0 B A6 N6 C6 x2.names)(bS:rp w0 B A3 N3 C3 x2.tags)(bT:rp w0 B A7 N7 C7 x2.kids)(a7:inI x3.number)(bU:rp w0 B A8 N8 C8 x3.bytes)(bV:rp w0 B A4 N4 C4 x3.items):g_ prog 72 [(.agg #[sl A0 N0 C0]),.agg #[Str.v x2.name,vI x2.kind,vI x2.size,vB x2.little,sl A5 N5 C5,sl A6 N6 C6,sl A3 N3 C3,sl A7 N7 C7],(.agg #[vI x3.number,sl A8 N8 C8,sl A4 N4 C4])] w0 (Q0 w0 B res):=by
 unfold g_C at hm;refine goG func72 z z z λfn hr=>Ws<|EvX [sl A0 N0 C0] z z z λbX _ _=>EvX (vR x2 A5 N5 C5 A6 N6 C6 A3 N3 C3 A7 N7 C7) z z z λbY _ _=>EvX [vI x3.number,sl A8 N8 C8,sl A4 N4 C4] z z z λG _ H=>Rw z<|Wq<|Ws<|Rf z a_F z<|R z (l0 g_3 z kBa)<|Wn<|Wb<|Ws<|Rq z z z<|Rw z<|Wc z (λhcl=>?_) (λhcl=>?_)
 .refine Wq<|bdB (ifT hm hcl) λb0 aI aJ=>Wt (λa w=>∃(xm:Bool),xm=b0/\Sat 202 [(6,vB xm)] a/\Below G.z G w) ?_ ?_
  .refine Wd (X:=noX) 0 (pl_ 20 [4,6]) mo (by kernel_rfl) λbZ c0 _=>dR z z (fd a_x z)<|dR z z (l0 g_3 z kBa)<|dR z z (fd a_P z)<|dR z z (l0 g_3 z kBa)<|bdB aI λ_ b3 aK=>dE z z (fc call67 z<|k_E (B:=B) b3 kM a6) iB ?_;rintro _ _ ⟨_,rfl,_⟩;refine dR z z (sb_ z z)<|bdB aK λb4 b5 a8=>dE z z (fc call50 z<|b_D (B:=B) b5 kM a7 (ii z)<|iS _ _) iB ?_;rintro _ _ ⟨_,rfl⟩;refine dM z z z ?_;rcases bs b4 with W | W
   .have a9:=ifT a8 W;refine dRg z z z W z (fd a_r z)<|dRg z z z W z (l0 P_ z kBa)<|dRg z z z W z (lnR q_ z kR)<|dRg z z z W z (eql z z)<|dR z z (pT z W z)<|dM z z z ?_;rcases bs ((x3.bytes.length:Int)==0) with Y | Y
    .exact dRg z z z Y z (fd w_ z)<|dRg z z z Y z (l0 B_ z kBa)<|dRg z z z Y z (lnR H_ z kR)<|dRg z z z Y z (eql z z)<|dR z z (pT z Y z)<|dQ z z z<|pD (λ_ q=>⟨(x3.items.length:Int)==0,som<|ifT a9 Y,kaA q,kW⟩)
    iterate 4 refine dRn z z z Y z ?_
    exact dR z z (pF z Y z)<|dQ z z z<|pD (λ_ q=>⟨false,som<|ifF a9 Y,kaA q,kW⟩)
   iterate 4 refine dRn z z z W z ?_
   refine dR z z (pF z W z)<|dM z z z ?_;iterate 4 refine dRn z z z z z ?_
   exact dR z z (pF z z z)<|dQ z z z<|pD (λ_ q=>⟨false,som<|ifF a8 W,kaA q,kW⟩)
  rintro b6 _ ⟨xm,rfl,_,_⟩;revert b6;exact Wo<|Wr<|rtO<|rS1 aJ hr z ⟨kW,z⟩
 have aa:=ifF hm hcl;refine Ws<|Rq z z z<|Rw z<|Wc z (λhcn=>?_) (λhcn=>?_)
 .refine Wq<|bdB (ifT aa hcn) λb7 ab aL=>Wt (λa w=>∃(xo:Bool),xo=b7/\Sat 202 [(6,vB xo)] a/\Below G.z G w) ?_ ?_
  .refine Wg<|Rf z a_x z<|R z (l0 g_3 z<|H.at z)<|Rq z z z<|Rm z ?_;rcases bs (x3.number==0) with a0 | a0
   .have ad:=ifT ab a0;refine Rh z a0 (fd a_r z)<|Rh z a0 (l0 P_ z<|H.at z)<|Rh z a0 (lnR q_ z kR)<|Rh z a0 (eql z z)<|R z (pT z a0 z)<|Rm z ?_;rcases bs ((x3.bytes.length:Int)==0) with a1 | a1
    .exact Rh z a1 (fd w_ z)<|Rh z a1 (l0 B_ z<|H.at z)<|Rh z a1 (lnR H_ z kR)<|Rh z a1 (eql z z)<|R z (pT z a1 z)<|Ra z<|Wl (λ_ q=>⟨(x3.items.length:Int)==0,som<|ifT ad a1,kaA q,br G⟩)
    iterate 4 refine Nh z a1 ?_
    exact R z (pF z a1 z)<|Ra z<|Wl (λ_ q=>⟨false,som<|ifF ad a1,kaA q,br G⟩)
   iterate 4 refine Nh z a0 ?_
   exact R z (pF z a0 z)<|Rm z<|Nh z z<|Nh z z<|Nh z z<|Nh z z<|R z (pF z z z)<|Ra z<|Wl (λ_ q=>⟨false,som<|ifF ab a0,kaA q,br G⟩)
  rintro b8 _ ⟨xo,rfl,_,_⟩;revert b8;exact Wo<|Wr<|rtO<|rS1 aL hr z ⟨kW,z⟩
 have ae:=ifF aa hcn;refine Ws<|Rq z z z<|Rw z<|Wc z (λhcp=>?_) (λhcp=>?_)
 .refine Wq<|bdB (ifT ae hcp) λb9 af aM=>Wt (λa w=>∃(xq:Bool),xq=b9/\Sat 202 [(6,vB xq)] a/\Below G.z G w) ?_ ?_
  .refine Wg<|Rf z a_x z<|R z (l0 g_3 z<|H.at z)<|Rq z z z<|Rm z ?_;rcases bs (x3.number==0) with O | O
   .have ah:=ifT af O;refine Rh z O (fd a_r z)<|Rh z O (l0 P_ z<|H.at z)<|Rh z O (lnR q_ z kR)<|Rh z O (fd a_P z)<|Rh z O (l0 g_3 z kBa)<|Rh z O (eql z z)<|R z (pT z O z)<|Rm z ?_;rcases bs ((x3.bytes.length:Int)==x2.size) with hca | hca
    .exact Rh z hca (fd w_ z)<|Rh z hca (l0 B_ z<|H.at z)<|Rh z hca (lnR H_ z kR)<|Rh z hca (eql z z)<|R z (pT z hca z)<|Ra z<|Wl (λ_ q=>⟨(x3.items.length:Int)==0,som<|ifT ah hca,kaA q,br G⟩)
    iterate 4 refine Nh z hca ?_
    exact R z (pF z hca z)<|Ra z<|Wl (λ_ q=>⟨false,som<|ifF ah hca,kaA q,br G⟩)
   iterate 6 refine Nh z O ?_
   exact R z (pF z O z)<|Rm z<|Nh z z<|Nh z z<|Nh z z<|Nh z z<|R z (pF z z z)<|Ra z<|Wl (λ_ q=>⟨false,som<|ifF af O,kaA q,br G⟩)
  rintro ba _ ⟨xq,rfl,_,_⟩;revert ba;exact Wo<|Wr<|rtO<|rS1 aM hr z ⟨kW,z⟩
 have ai:=ifF ae hcp;refine Ws<|Rq z z z<|Rw z<|Wc z (λhcr=>?_) (λhcr=>?_)
 .refine Wq<|bdB (ifT ai hcr) λbb aj aN=>Wt (λa w=>∃(xs:Bool),xs=bb/\Sat 202 [(6,vB xs)] a/\Below G.z G w) ?_ ?_
  .refine Wd (X:=noX) 0 (pl_ 23 [12,13]) mo (by kernel_rfl) λc1 bc _=>dR z z (fd a_x z)<|dR z z (l0 g_3 z kBa)<|dR z z (eql z z)<|dM z z z ?_;rcases bs (x3.number==0) with I | I
   .refine dRg z z z I z (fd a_r z)<|dRg z z z I z (l0 P_ z kBa)<|dRg z z z I z (lnR q_ z kR)<|dRg z z z I z (lC [sl A0 N0 C0] h_ f_ z)<|dRg z z z I z (fd R_ z)<|dRg z z z I z (l0 E_ z kBa)<|bdB (ifT aj I) λ_ be aO=>d_7 z z z I z (at_ (α:=Int) A_ z_3 z z z kR be) ?_;rintro _ ⟨_,_,_,rfl,bf,bg,_⟩;obtain ⟨rfl,bh⟩:=a_U bg;refine dRg z z z I z (l0 g_3 z<|bf.at0 z)<|bdB aO λ_ bi aP=>dEg z z z I z (fc call101 z<|i_X (B:=B) bi kM kR bh) iB ?_;rintro _ _ ⟨_,rfl,bj⟩;refine bdB aP λbk bm ak=>dEg z z z I z (fc call66 z<|i_V (B:=B) bm kM (ii z) bj) iB ?_;rintro _ _ ⟨_,rfl,_⟩;refine dRg z z z I z (c_d z z)<|dR z z (pT z I z)<|dM z z z ?_;rcases bs (decide<|(x3.bytes.length:Int)<=bk) with hcb | hcb
    .exact dRg z z z hcb z (fd w_ z)<|dRg z z z hcb z (l0 B_ z kBa)<|dRg z z z hcb z (lnR H_ z kR)<|dRg z z z hcb z (eql z z)<|dR z z (pT z hcb z)<|dQ z z z<|pD (λ_ q=>⟨(x3.items.length:Int)==0,som<|ifT ak hcb,kaA q,kW⟩)
    iterate 4 refine dRn z z z hcb z ?_
    exact dR z z (pF z hcb z)<|dQ z z z<|pD (λ_ q=>⟨false,som<|ifF ak hcb,kaA q,kW⟩)
   iterate 8 refine dRn z z z I z ?_
   refine dEn z z z I z<|dEn z z z I z<|dRn z z z I z<|dR z z (pF z I z)<|dM z z z ?_;iterate 4 refine dRn z z z z z ?_
   exact dR z z (pF z z z)<|dQ z z z<|pD (λ_ q=>⟨false,som<|ifF aj I,kaA q,bc⟩)
  rintro bn _ ⟨xs,rfl,_,_⟩;revert bn;exact Wo<|Wr<|rtO<|rS1 aN hr z ⟨kW,z⟩
 have al:=ifF ai hcr;refine Ws<|Rq z z z<|Rw z<|Wc z (λhct=>?_) (λhct=>?_)
 .refine Wq<|bdB (ifT al hct) λbo am aQ=>Wt (λa w=>∃(xu:Bool),xu=bo/\Sat 202 [(6,vB xu)] a/\Below G.z G w) ?_ ?_
  .refine Wg<|Rf z a_x z<|R z (l0 g_3 z<|H.at z)<|Rq z z z<|Rm z ?_;rcases bs (x3.number==0) with hcc | hcc
   .have an:=ifT am hcc;refine Rh z hcc (fd a_r z)<|Rh z hcc (l0 P_ z<|H.at z)<|Rh z hcc (lnR q_ z kR)<|Rh z hcc (c_d z z)<|R z (pT z hcc z)<|Rm z ?_;rcases bs (decide<|(x3.bytes.length:Int)<=400) with hcd | hcd
    .exact Rh z hcd (fd w_ z)<|Rh z hcd (l0 B_ z<|H.at z)<|Rh z hcd (lnR H_ z kR)<|Rh z hcd (eql z z)<|R z (pT z hcd z)<|Ra z<|Wl (λ_ q=>⟨(x3.items.length:Int)==0,som<|ifT an hcd,kaA q,br G⟩)
    iterate 4 refine Nh z hcd ?_
    exact R z (pF z hcd z)<|Ra z<|Wl (λ_ q=>⟨false,som<|ifF an hcd,kaA q,br G⟩)
   iterate 4 refine Nh z hcc ?_
   exact R z (pF z hcc z)<|Rm z<|Nh z z<|Nh z z<|Nh z z<|Nh z z<|R z (pF z z z)<|Ra z<|Wl (λ_ q=>⟨false,som<|ifF am hcc,kaA q,br G⟩)
  rintro bp _ ⟨xu,rfl,_,_⟩;revert bp;exact Wo<|Wr<|rtO<|rS1 aQ hr z ⟨kW,z⟩
 have ap:=ifF al hct;refine Ws<|Rq z z z<|Rw z<|Wc z (λhcv=>?_) (λhcv=>?_)
 .refine Wq<|bdB (ifT ap hcv) λbq aq aR=>Wt (λa w=>∃(xw:Bool),xw=bq/\Sat 202 [(6,vB xw)] a/\Below G.z G w) ?_ ?_
  .refine Wd (X:=noX) 0 (pl_ 23 [18,19]) mo (by kernel_rfl) λc2 aF _=>dR z z (fd a_x z)<|dR z z (l0 g_3 z kBa)<|dR z z (eql z z)<|dM z z z ?_;rcases bs (x3.number==0) with hce | hce
   .have ar:=ifT aq hce;refine dRg z z z hce z (fd a_r z)<|dRg z z z hce z (l0 P_ z kBa)<|dRg z z z hce z (lnR q_ z kR)<|dRg z z z hce z (eql z z)<|dR z z (pT z hce z)<|dM z z z ?_;rcases bs ((x3.bytes.length:Int)==0) with J | J
    .refine dRg z z z J z (fd w_ z)<|dRg z z z J z (l0 B_ z kBa)<|dRg z z z J z (lnR H_ z kR)<|dRg z z z J z (lC [sl A0 N0 C0] h_ f_ z)<|dRg z z z J z (fd R_ z)<|dRg z z z J z (l0 E_ z kBa)<|bdB (ifT ar J) λ_ bt aS=>d_7 z z z J z (at_ (α:=Int) A_ z_3 z z z kR bt) ?_;rintro _ ⟨_,_,_,rfl,bu,bv,_⟩;obtain ⟨rfl,bw⟩:=a_U bv;refine dRg z z z J z (l0 g_3 z<|bu.at0 z)<|bdB aS λ_ bx aT=>dEg z z z J z (fc call101 z<|i_X (B:=B) bx kM kR bw) iB ?_;rintro _ _ ⟨_,rfl,bz⟩;refine bdB aT λbA bB aU=>dEg z z z J z (fc call66 z<|i_V (B:=B) bB kM (ii z) bz) iB ?_;rintro _ _ ⟨_,rfl,_⟩;exact dRg z z z J z (c_d z z)<|dR z z (pT z J z)<|dQ z z z<|pD (λ_ q=>⟨decide<|(x3.items.length:Int)<=bA,som aU,kaA q,kW⟩)
    iterate 8 refine dRn z z z J z ?_
    exact dEn z z z J z<|dEn z z z J z<|dRn z z z J z<|dR z z (pF z J z)<|dQ z z z<|pD (λ_ q=>⟨false,som<|ifF ar J,kaA q,aF⟩)
   iterate 4 refine dRn z z z hce z ?_
   refine dR z z (pF z hce z)<|dM z z z ?_;iterate 8 refine dRn z z z z z ?_
   exact dEn z z z z z<|dEn z z z z z<|dRn z z z z z<|dR z z (pF z z z)<|dQ z z z<|pD (λ_ q=>⟨false,som<|ifF aq hce,kaA q,aF⟩)
  rintro bC _ ⟨xw,rfl,_,_⟩;revert bC;exact Wo<|Wr<|rtO<|rS1 aR hr z ⟨kW,z⟩
 have au:=ifF ap hcv;refine Ws<|Rq z z z<|Rw z<|Wc z (λhcx=>?_) (λhcx=>?_)
 .refine Wq<|bdB (ifT au hcx) λbD av aV=>Wt (λa w=>∃(xy:Bool),xy=bD/\Sat 202 [(6,vB xy)] a/\Below G.z G w) ?_ ?_
  .refine Wg<|Rf z a_x z<|R z (l0 g_3 z<|H.at z)<|Rq z z z<|Rm z ?_;rcases bs (x3.number==0) with hcf | hcf
   .have aw:=ifT av hcf;refine Rh z hcf (fd a_r z)<|Rh z hcf (l0 P_ z<|H.at z)<|Rh z hcf (lnR q_ z kR)<|Rh z hcf (eql z z)<|R z (pT z hcf z)<|Rm z ?_;rcases bs ((x3.bytes.length:Int)==0) with L | L
    .exact Rh z L (fd w_ z)<|Rh z L (l0 B_ z<|H.at z)<|Rh z L (lnR H_ z kR)<|Rh z L (fd R_ z)<|Rh z L (l0 E_ z kBa)<|Rh z L (lnR A_ z kR)<|Rh z L (eql z z)<|R z (pT z L z)<|Ra z<|Wl (λ_ q=>⟨(x3.items.length:Int)==(x2.kids.length:Int),som<|ifT aw L,kaA q,br G⟩)
    iterate 7 refine Nh z L ?_
    exact R z (pF z L z)<|Ra z<|Wl (λ_ q=>⟨false,som<|ifF aw L,kaA q,br G⟩)
   iterate 4 refine Nh z hcf ?_
   exact R z (pF z hcf z)<|Rm z<|Nh z z<|Nh z z<|Nh z z<|Nh z z<|Nh z z<|Nh z z<|Nh z z<|R z (pF z z z)<|Ra z<|Wl (λ_ q=>⟨false,som<|ifF av hcf,kaA q,br G⟩)
  rintro bE _ ⟨xy,rfl,_,_⟩;revert bE;exact Wo<|Wr<|rtO<|rS1 aV hr z ⟨kW,z⟩
 have ax:=ifF au hcx;refine Ws<|Rq z z z<|Rw z<|Wc z (λhcz=>?_) (λhcz=>?_)
 .refine Wq<|bdB (ifT ax hcz) λbF ay aW=>Wt (λa w=>∃(a3:Bool),a3=bF/\Sat 202 [(6,vB a3)] a/\Below G.z G w) ?_ ?_
  .refine Wg<|Rf z a_r z<|R z (l0 P_ z<|H.at z)<|R z (lnR q_ z kR)<|Rq z z z<|Rm z ?_;rcases bs ((x3.bytes.length:Int)==0) with hcg | hcg
   .have az:=ifT ay hcg;refine Rh z hcg (fd w_ z)<|Rh z hcg (l0 B_ z<|H.at z)<|Rh z hcg (lnR H_ z kR)<|Rh z hcg (eql z z)<|R z (pT z hcg z)<|Rm z ?_;rcases bs ((x3.items.length:Int)==1) with V | V
    .refine Rh z V (lN (vs:=vR x2 A5 N5 C5 A6 N6 C6 A3 N3 C3 A7 N7 C7) I_ o_ z z fid<|kBr 0 8)<|Rh z V (fd a_x z)<|Rh z V (l0 g_3 z<|H.at z)<|bdB (ifT az V) λbG bH aX=>Eg z z V z (fc call41 z<|e_d (B:=B) bH kM aG aH a6 kR kR kR kR a7<|ii z) ?_;rintro _ _ ⟨bI,rfl,_⟩;exact Rh z V (c_2 z z)<|R z (pT z V z)<|Ra z<|Wl (λ_ q=>⟨decide<|0<=bG,som aX,kaA q,bI⟩)
    iterate 5 refine Nh z V ?_
    exact R z (pF z V z)<|Ra z<|Wl (λ_ q=>⟨false,som<|ifF az V,kaA q,br G⟩)
   iterate 4 refine Nh z hcg ?_
   exact R z (pF z hcg z)<|Rm z<|Nh z z<|Nh z z<|Nh z z<|Nh z z<|Nh z z<|R z (pF z z z)<|Ra z<|Wl (λ_ q=>⟨false,som<|ifF ay hcg,kaA q,br G⟩)
  rintro bJ _ ⟨a3,rfl,_,_⟩;revert bJ;exact Wo<|Wr<|rtO<|rS1 aW hr z ⟨kW,z⟩
 have aA:=ifF ax hcz;refine Ws<|Rq z z z<|Rw z<|Wc z (λa2=>?_) (λa2=>?_)
 .refine Wq<|bdB (ifT aA a2) λbK aB aY=>Wt (λa w=>∃(a4:Bool),a4=bK/\Sat 202 [(6,vB a4)] a/\Below G.z G w) ?_ ?_
  .refine Wg<|Rf z a_x z<|R z (l0 g_3 z<|H.at z)<|Rq z z z<|Rm z ?_;rcases bs (x3.number==0) with hch | hch
   .have aC:=ifT aB hch;refine Rh z hch (fd a_r z)<|Rh z hch (l0 P_ z<|H.at z)<|Rh z hch (lnR q_ z kR)<|Rh z hch (eql z z)<|R z (pT z hch z)<|Rm z ?_;rcases bs ((x3.bytes.length:Int)==0) with hci | hci
    .exact Rh z hci (fd w_ z)<|Rh z hci (l0 B_ z<|H.at z)<|Rh z hci (lnR H_ z kR)<|Rh z hci (c_d z z)<|R z (pT z hci z)<|Ra z<|Wl (λ_ q=>⟨decide<|(x3.items.length:Int)<=1,som<|ifT aC hci,kaA q,br G⟩)
    iterate 4 refine Nh z hci ?_
    exact R z (pF z hci z)<|Ra z<|Wl (λ_ q=>⟨false,som<|ifF aC hci,kaA q,br G⟩)
   iterate 4 refine Nh z hch ?_
   exact R z (pF z hch z)<|Rm z<|Nh z z<|Nh z z<|Nh z z<|Nh z z<|R z (pF z z z)<|Ra z<|Wl (λ_ q=>⟨false,som<|ifF aB hch,kaA q,br G⟩)
  rintro bL _ ⟨a4,rfl,_,_⟩;revert bL;exact Wo<|Wr<|rtO<|rS1 aY hr z ⟨kW,z⟩
 refine Wk<|Wq<|bdB (ifF aA a2) λbM aD aZ=>Wt (λa w=>∃(a5:Bool),a5=bM/\Sat 202 [(6,vB a5)] a/\Below G.z G w) ?_ ?_
 .refine Wg<|Rf z a_x z<|R z (l0 g_3 z<|H.at z)<|Rq z z z<|Rm z ?_;rcases bs (x3.number==0) with hcj | hcj
  .have aE:=ifT aD hcj;refine Rh z hcj (fd a_r z)<|Rh z hcj (l0 P_ z<|H.at z)<|Rh z hcj (lnR q_ z kR)<|Rh z hcj (eql z z)<|R z (pT z hcj z)<|Rm z ?_;rcases bs ((x3.bytes.length:Int)==0) with hck | hck
   .exact Rh z hck (fd w_ z)<|Rh z hck (l0 B_ z<|H.at z)<|Rh z hck (lnR H_ z kR)<|Rh z hck (eql z z)<|R z (pT z hck z)<|Ra z<|Wl (λ_ q=>⟨(x3.items.length:Int)==1,som<|ifT aE hck,kaA q,br G⟩)
   iterate 4 refine Nh z hck ?_
   exact R z (pF z hck z)<|Ra z<|Wl (λ_ q=>⟨false,som<|ifF aE hck,kaA q,br G⟩)
  iterate 4 refine Nh z hcj ?_
  exact R z (pF z hcj z)<|Rm z<|Nh z z<|Nh z z<|Nh z z<|Nh z z<|R z (pF z z z)<|Ra z<|Wl (λ_ q=>⟨false,som<|ifF aD hcj,kaA q,br G⟩)
 rintro bN _ ⟨a5,rfl,_,_⟩;revert bN;exact Wo<|Wr<|rS1 aZ hr z ⟨kW,z⟩
structure m_e (f:c_->Int->Val->Option Bool):Prop where
  run:∀{A0 A8 A4:Option Addr}{N0 C0 N8 C8 N4 C4:Nat}{B:Zone}{x1:c_}{x2:Int}{x3:Val}{res:Bool}{w0:World}(hm:f x1 x2 x3=some res)(hBw:B<=w0.z)(p1_0:rp w0 B A0 N0 C0 x1.rules)(p2_0:inI x2)(p3_0:inI x3.number)(p3_1:rp w0 B A8 N8 C8 x3.bytes)(p3_2:rp w0 B A4 N4 C4 x3.items),g_ prog 40 [(.agg #[sl A0 N0 C0]),vI x2,(.agg #[vI x3.number,sl A8 N8 C8,sl A4 N4 C4])] w0<|Q0 w0 B res
abbrev p_l (n:Nat):Prop:=m_e (e_c n).spec_l9Valid
theorem T_w0k (ah:p_l n):m_e (g_D n<|e_c n):=by
 constructor;intro A0 A8 A4 N0 C0 N8 C8 N4 C4 B x1 x2 x3 res w0 hm aE aB aC Y aD a0;unfold g_D at hm;refine goG func40 z z z λfn hr=>Ws<|EvX [sl A0 N0 C0] z z z λwe _ _=>EvX [vI x3.number,sl A8 N8 C8,sl A4 N4 C4] z z z λwf _ _=>Rw z<|Ws<|Rf z Q_ z<|R z (l0 U_ z kBa)<|Rm z<|bdB hm λx0 eu hmv=>xA (α:=d_) z Y_ o_ z z z kR eu λ_ _ _ hw hx _=>?_;obtain ⟨a2,H,I,J,L,O,V,W,ca,ab,nc,cd,rfl,hn,ho,hp,_,_,_,_⟩:=a_G hx;refine R z (lN (vs:=vR x0 a2 H I J L O V W ca ab nc cd) I_ o_ z z fid hw)<|EvZ [(Str.v (⟨[]⟩:Str)),vI 0,vI 0,vB false,sN,sN,sN,sN] z c_l z λwy _ a1=>E0q (vR x0 a2 H I J L O V W ca ab nc cd) o_ z z a1 z λaF hz _=>Wn<|Wq<|Ws<|R z (lC [sl A0 N0 C0] h_ f_ z)<|R z (lN (vs:=vR x0 a2 H I J L O V W ca ab nc cd) I_ o_ z z fid<|hz.row 0 8 z)<|R z (lC [vI x3.number,sl A8 N8 C8,sl A4 N4 C4] e_ b_ z)<|bdB hmv λ_ ai hmm=>EcA z (fc call72 z<|W_w2r (B:=B) ai kM kR hn ho hp kR kR kR kR Y (kR (l:=x3.bytes))<|kR (l:=x3.items)) λG _=>R z (not_ z)<|Wx z (λhcg=>?_) (λhcg=>?_)
 .exact Ws<|Rw z<|Wr<|rS1 (ifT hmm hcg) hr z ⟨kW,z⟩
 refine Wk<|Wq<|Ws<|Rw z<|bdB (ifF hmm hcg) λ_ a3 hmr=>Wf (σ:=Unit) (ρ:=Bool) (λ(ks:Nat)(_:Unit) a w=>Sat 39 [(3,pt w0.z),(5,pt we.z),(7,pt wf.z),(8,vI ((ks:Nat):Int))] a/\Below G.z G w) (λ(_:Unit) a w=>Sat 39 [] a/\Below G.z G w) (rQ prog fn<|Q0 w0 B) a3 ?_ ?_ ?_ ?_ ?_
 .exact λ_ q=>⟨kaA q,br G⟩
 .rintro ks _ _ _ _ hkh ⟨a4,_⟩ a6;refine Wu ?_ a4;refine Wq<|Wm z<|Rf z w_ z<|R z (l0 B_ z kBa)<|R z (lnR H_ z kR)<|Rl z z z<|Wx z (λ_=>?_) (λhc=>(Z_ hkh hc).elim);refine Wk<|Wq<|Wb<|Wq (Wd (X:=noX) 0 (.rd 0<|.rd 1<|.rd 2<|.rd 3<|.rd 4<|.rd 6<|.rd 7<|.rd 8<|.rd 9<|.rd 10<|.ef 5<|.ef 11<|.rd 12 .done) mo (by kernel_rfl) λaG aH _=>dR z z (lC [sl A0 N0 C0] h_ f_ z)<|dR z z (lN (vs:=vR x0 a2 H I J L O V W ca ab nc cd) I_ o_ z z fid<|kBr 0 8)<|dR z z (fd a_x z)<|dR z z (l0 g_3 z kBa)<|dM z z z<|dR z z (fd w_ z)<|dR z z (l0 B_ z kBa)<|dM z z z ?_);refine bdB a6 λxi aj a7=>dxA (α:=Val) z z H_ b_ z z z kR aj λ_ _ _ ak al _=>?_;obtain ⟨am,an,ap,aq,ar,au,rfl,av,_,_⟩:=b_j al;refine dR z z (lN (vs:=[vI xi.number,sl am an ap,sl aq ar au]) e_ b_ z z fid ak)<|bdB a7 λ_ aw a9=>dE z z (fc call41 z<|e_d (B:=B) aw kM hn ho hp kR kR kR kR Y<|ic (Nat.le_of_lt hkh)<|lt_ (repS.len a0) y_) iB ?_;rintro _ _ ⟨_,rfl,ax⟩;refine bdB a9 λ_ ay hmt=>dE z z (fc call40 z<|ah.run (B:=B) ay kM kR ax av (kR (l:=xi.bytes))<|kR (l:=xi.items)) iB ?_;rintro _ _ ⟨_,rfl⟩;refine dR z z (not_ z)<|pD<|Wo<|Wc z (λhcj=>?_) (λhcj=>?_)
  .exact Ws<|Rw z<|Wr<|rtO<|qL (som<|ifT hmt hcj).symm<|a_R hr z ⟨kW,z⟩
  exact Wk<|Wg<|Rm z<|R z (inc_ hkh (lt_ (repS.len a0) y_) z z)<|Ra z<|Wl (λ_ q=>⟨(),(som<|ifF hmt hcj).symm,⟨kaA q,kW⟩⟩)
 .rintro _ _ _ ⟨aa,az⟩;refine Wu ?_ aa;refine Wq<|Wm z<|Rf z w_ z<|R z (l0 B_ z kBa)<|R z (lnR H_ z kR)<|Rl z z z<|Wx z (λhc=>(a_0 hc).elim) (λ_=>?_);exact We<|λ_ q=>⟨rfl,⟨q.k sn,az⟩⟩
 .rintro _ aA _ rfl ⟨_,_⟩;have ad:=elL hmr;revert aA;exact Wo<|Ws<|Rw z<|Wr<|rS1 ad hr z ⟨kW,z⟩
 exact lqA hmr λ_ _ h=>h.2
theorem A_w0k:∀n,p_l n
  | 0=>⟨λhm=>by intros;exact nomatch (show none=some _ from hm)⟩
  | n+1=>T_w0k<|A_w0k n
theorem W_w0k:m_e (e_c n).spec_l9Valid:=A_w0k n
theorem g_I {x1:c_}{x2:Int}{x3:Val}{res:Bool}(hm:b_P n x1 x2 x3=some res)(a2:B<=w0.z)(Y:rp w0 B A0 N0 C0 x1.rules)(H:inI x2)(L:inI x3.number)(a0:rp w0 B A8 N8 C8 x3.bytes)(a1:rp w0 B A4 N4 C4 x3.items):g_ prog 18 [(.agg #[sl A0 N0 C0]),vI x2,(.agg #[vI x3.number,sl A8 N8 C8,sl A4 N4 C4])] w0 (Q0 w0 B res):=by
 unfold b_P at hm;refine goG func18 z z z λfn hr=>Ws<|EvX [sl A0 N0 C0] z z z λw2 _ _=>EvX [vI x3.number,sl A8 N8 C8,sl A4 N4 C4] z z z λJ _ _=>Rw z<|Wq<|bdB hm λW O V=>Wt (λa w=>∃(x4:Bool),x4=W/\Sat 16 [(6,vB x4)] a/\Below J.z J w) ?_ ?_
 .refine Wg<|R z (lC [sl A0 N0 C0] h_ f_ z)<|Rm z<|bdB O λra eb I=>EcA z (fc call39 z<|m_d (B:=B) eb kM kR H) λ_ sc=>Rm z ?_;rcases bs ra with G | G
  .refine Rh z G (lC [sl A0 N0 C0] h_ f_ z)<|Rh z G (mv z)<|Rh z G (lC [vI x3.number,sl A8 N8 C8,sl A4 N4 C4] e_ b_ z)<|bdB (ifT I G) λrd ee hmf=>Eg z z G z (fc call40 z<|W_w0k.run (B:=B) ee kM kR H L (kR (l:=x3.bytes))<|kR (l:=x3.items)) ?_;rintro _ _ ⟨_,rfl⟩;exact R z (pT z G z)<|Ra z<|Wl (λ_ q=>⟨rd,som hmf,kaA q,kW⟩)
  iterate 4 refine Nh z G ?_
  exact R z (pF z G z)<|Ra z<|Wl (λ_ q=>⟨false,som<|ifF I G,kaA q,sc⟩)
 rintro ag _ ⟨x4,rfl,_,_⟩;revert ag;exact Wo<|Wr<|rS1 V hr z ⟨kW,z⟩
theorem W_w1n {x1:c_}{x2:Int}{x3:Val}{x4:Str}{res:Int}(hm:d_Y n x1 x2 x3 x4=some res)(aB:B<=w0.z)(av:rp w0 B A0 N0 C0 x1.rules)(Y:inI x2)(aw:inI x3.number)(ax:rp w0 B A8 N8 C8 x3.bytes)(az:rp w0 B A4 N4 C4 x3.items)(aA:x4.b.length<=LEN):g_ prog 70 [(.agg #[sl A0 N0 C0]),vI x2,.agg #[vI x3.number,sl A8 N8 C8,sl A4 N4 C4],Str.v x4] w0 (Q9 w0 B res):=by
 unfold d_Y at hm;refine goG func70 z z z λfn hr=>Ws<|EvX [sl A0 N0 C0] z z z λO _ _=>EvX [vI x3.number,sl A8 N8 C8,sl A4 N4 C4] z z z λI _ _=>Rw z<|Wq<|Ws<|Rw z<|bdB hm λ_ huk hme=>c_q (σ:=Int) (ρ:=Int) (λ(x0:Int) a w=>Sat 38 [(1,vI x2),(3,Str.v x4),(4,pt w0.z),(6,pt O.z),(9,vI x0)] a/\Below I.z I w/\inI x0) (λ(x0:Int) a w=>Sat 38 [] a/\Below I.z I w/\inI x0) (rQ prog fn<|Q9 w0 B) huk ?_ ?_ ?_ ?_
 .exact λ_ q=>⟨kaA q,br I,ii z⟩
 .rintro x0 _ V _ ⟨hSl,_,h5⟩ hmm;refine Wu ?_ hSl;refine Wq<|Wq<|bdB hmm λun huf hmg=>Wt (λa w=>∃(W:Bool),W=un/\Sat 38 [(1,vI x2),(3,Str.v x4),(4,pt w0.z),(6,pt O.z),(9,vI x0),(20,vB W)] a/\Below V.z V w) ?_ ?_
  .refine Wg<|Rm z<|Rf z w_ z<|R z (l0 B_ z kBa)<|R z (lnR H_ z kR)<|Rl z z z<|Rm z ?_;rcases bs (decide<|x0<(x3.items.length:Int)) with G | G
   .refine Rh z G (lC [sl A0 N0 C0] h_ f_ z)<|Rh z G (mv z)<|bdB (ifT huf G) λro ep hmq=>Eg z z G z (fc call39 z<|m_d (B:=B) ep kM kR Y) ?_;rintro _ _ ⟨sr,rfl⟩;exact R z (pT z G z)<|Wl (λ_ q=>⟨ro,som hmq,kaA q,sr⟩)
   iterate 3 refine Nh z G ?_
   exact R z (pF z G z)<|Wl (λ_ q=>⟨false,som<|ifF huf G,kaA q,br V⟩)
  rintro au _ ⟨W,rfl,_,_⟩;revert au;refine Wo<|Wc z (λL=>?_) (λL=>?_)
  .refine Wk<|Wq<|Wb<|Ws<|Rf z Q_ z<|R z (l0 U_ z kBa)<|Rm z<|bdB (ifT hmg L) λxs et hmv=>xA (α:=d_) z Y_ o_ z z z kR et λ_ _ _ hw hx _=>?_;obtain ⟨ay,nz,a4,a5,a6,a7,a8,a9,aa,ab,ad,ae,rfl,af,ah,ai,aj,ak,al,am⟩:=a_G hx;refine R z (lN (vs:=vR xs ay nz a4 a5 a6 a7 a8 a9 aa ab ad ae) I_ o_ z z fid hw)<|Rm z<|bdB hmv λrh an a0=>E z (fc call94 z<|m_a (B:=B) an kM af ah ai aj ak al am h5) ?_;rintro _ J ⟨_,rfl,_⟩;refine Rw z<|Wq<|bdB a0 λap hui hmj=>Wt (λa w=>∃(xa:Bool),xa=ap/\Sat 38 [(1,vI x2),(3,Str.v x4),(4,pt w0.z),(6,pt O.z),(9,vI x0),(36,vB xa)] a/\Below J.z J w) ?_ ?_
   .refine Wg<|Rm z<|R z (k_0 z z)<|Rm z ?_;rcases bs (rh.b != (⟨[]⟩:Str).b) with H | H
    .exact Rh z H (mv z)<|Rh z H (mv z)<|Rh z H (b_J z z)<|R z (pT z H z)<|Wl (λ_ q=>⟨rh.b==x4.b,som<|ifT hui H,kaA q,br J⟩)
    iterate 3 refine Nh z H ?_
    exact R z (pF z H z)<|Wl (λ_ q=>⟨false,som<|ifF hui H,kaA q,br J⟩)
   rintro aq _ ⟨xa,rfl,_,_⟩;revert aq;refine Wo<|Wc z (λhcb=>?_) (λhcb=>?_)
   .exact Wm z<|Rw z<|Wr<|rtO<|qL (som<|ifT hmj hcb).symm<|a_R hr z ⟨kW,z,h5⟩
   exact Wk<|Wg<|Rm z<|R z (add_ z z)<|Ra z<|Wl (λ_ q=>⟨i_ x0 1,(som<|ifF hmj hcb).symm,⟨kaA q,kW,iA _ _⟩⟩)
  exact We<|λ_ q=>c_0 (som<|ifF hmg L).symm ⟨q.k sn,kW,h5⟩
 .rintro x0 ar _ rfl ⟨_,_,h5⟩;have a1:=elL hme;revert ar;exact Wo<|Ws<|Rw z<|Wr<|rS1 a1 hr z ⟨kW,z,ii z⟩
 exact lqA hme λ_ _ h=>h.2
def Q14 (w0:World)(B:Zone)(r:Val)(v:Value)(w':World):Prop:=Bw w0 w'/\(λr1=>∃G H I S1 a2 J L S2,(.agg #[vI r1.number,sl G H I,sl a2 J L])=v/\inI r1.number/\a_ w' S1 (sl G H I) r1.bytes/\a_ w' S2 (sl a2 J L) r1.items/\(S1++S2).Nodup/\(∀k∈(S1++S2),w0.z<=k)) r
structure m_f (f:Val->Option Val):Prop where
  run:∀{AB AI:Option Addr}{NB CB NI CI:Nat}{B:Zone}{x1:Val}{res:Val}{w0:World}(hm:f x1=some res)(hBw:B<=w0.z)(p1_0:inI x1.number)(p1_1:rp w0 B AB NB CB x1.bytes)(p1_2:rp w0 B AI NI CI x1.items),g_ prog 29 [(.agg #[vI x1.number,sl AB NB CB,sl AI NI CI])] w0<|Q14 w0 B res
abbrev p_m (n:Nat):Prop:=m_f (f_6 n).spec_CopyValue
theorem T_w03 (aE:p_m n):m_f (f_V n<|f_6 n):=by
 constructor;intro AB AI NB CB NI CI B x1 res w0 hm bL Y bK aj;unfold f_V at hm;refine goG func29 z z z λfn hr=>Ws<|EvX [vI x1.number,sl AB NB CB,sl AI NI CI] z z z λwd _ a0=>EvZ [vI 0,sN,sN] z v_ z λwa _ _=>Wn<|Wq<|bdB hm λaF hul ak=>Wt (λa w=>∃(x6:Int)(xg:Bt)(xm:List Val),(x6,xg,xm)=aF/\∃O V W Sb ah ni cj S3 G,Sat 31 [(1,pt w0.z),(2,pt wd.z),(3,pt G)] a/\Below wa.z wa w/\inI x6/\a_ w Sb (sl O V W) xg/\Sb.Nodup/\(∀k∈Sb,wa.z<=k)/\a_ w S3 (sl ah ni cj) xm/\S3.Nodup/\(∀k∈S3,wa.z<=k)/\(∀k∈S3,k∉Sb)/\Blk w G [vI x6,sl O V W,sl ah ni cj]/\wa.z<=G/\(∀k∈Sb,k∉[G])/\(∀k∈S3,k∉[G])) ?_ ?_
 .refine Wd (X:=λk=>k∈([]:List Nat)∨wa.z<=k) 256 (.rd 0<|.rd 1<|.rd 3<|.rd 4<|.br 2 (.br 5 (.rd 6<|.ef 7<|.ef 8 .done) 7<|.ef 5<|.rd 6<|.ef 8 .done) 7<|.ef 2<|.ef 5<|.rd 6<|.ef 8 .done) mo (by kernel_rfl) λwz bM _=>dR z z (fd a_x z)<|dR z z (l1 g_3 z (a_e nm0<|Nat.lt_of_lt_of_le a0.lt kM) kBa)<|dR z z (fd a_r z)<|dR z z (l1 P_ z (a_e nm0<|Nat.lt_of_lt_of_le a0.lt kM) kBa)<|b_T ?_ ?_
  .refine dE z z (f0 (α:=UInt8) G_) (.inr λ_ _ h=>a_l (by obtain ⟨_,_,_,_,h,_⟩:=h;exact h)) ?_;rintro _ aG ⟨_,_,_,rfl,_,aH⟩;refine b_T ?_ ?_
   .refine bdB hul λaI aJ al=>dE z z (fN (α:=UInt8) G_ aJ z z aH M_ kR) (.inr λ_ _ h=>by obtain ⟨_,_,_,_,_,h,_⟩:=h;exact a_X h) ?_;rintro _ aK ⟨aL,an,no,cp,rfl,_,_,aM,_⟩;exact dR z z (bQ [(0,.tmp 6),(1,.tmp 10)] [vI x1.number,sl an no cp,sN] K_ z z)<|dNb [vI 0,sN,sN] z z v_ z λbN _ ad=>dS [vI x1.number,sl an no cp,sN] z b_ z z ad z sQ λbO aN _=>pD<|λ_ q=>⟨x1.number,aI,([]:List Val),som al,an,no,cp,aL,none,0,0,[],aK.z,kaA q,kW,Y,kO,aM,sQ,onL,x_,an_,an_,aN,sQ,sQ,an_⟩
   refine dNb [vI 0,sN,sN] z z v_ z λbP _ _=>bdB hul λaO aP am=>dE z z (fN (α:=UInt8) G_ aP z z kO M_ kR) (.inr λ_ _ h=>by obtain ⟨_,_,_,_,_,h,_⟩:=h;exact a_X h) ?_;rintro _ _ ⟨aQ,aq,nr,ct,rfl,_,_,aR,_⟩;exact dR z z (bQ [(0,.tmp 6),(1,.tmp 10)] [vI x1.number,sl aq nr ct,sN] K_ z z)<|dS [vI x1.number,sl aq nr ct,sN] z b_ z z kB z sQ λbR aS _=>pD<|λ_ q=>⟨x1.number,aO,([]:List Val),som am,aq,nr,ct,aQ,none,0,0,[],aG.z,kaA q,kW,Y,kO,aR,sQ,onL,x_,an_,an_,aS,sQ,sQ,an_⟩
  refine dNb [vI 0,sN,sN] z z v_ z λbS _ _=>dE z z (f0 (α:=UInt8) G_) (.inr λ_ _ h=>a_l (by obtain ⟨_,_,_,_,h,_⟩:=h;exact h)) ?_;rintro _ _ ⟨_,_,_,rfl,_,aT⟩;refine bdB hul λaU aV ap=>dE z z (fN (α:=UInt8) G_ aV z z aT M_ kR) (.inr λ_ _ h=>by obtain ⟨_,_,_,_,_,h,_⟩:=h;exact a_X h) ?_;rintro _ _ ⟨aW,au,ns,cv,rfl,_,_,aX,_⟩;exact dR z z (bQ [(0,.tmp 6),(1,.tmp 10)] [vI x1.number,sl au ns cv,sN] K_ z z)<|dS [vI x1.number,sl au ns cv,sN] z b_ z z kB z sQ λbT aY _=>pD<|λ_ q=>⟨x1.number,aU,([]:List Val),som ap,au,ns,cv,aW,none,0,0,[],wz.z,kaA q,kW,Y,kO,aX,sQ,onL,x_,an_,an_,aY,sQ,sQ,an_⟩
 rintro aZ we ⟨x6,xg,xm,rfl,O,V,W,Sb,ah,ni,cj,S3,G,_,_,b0,_,b3,_,b4,b5,_,_,b6,_,_,_⟩;revert aZ;refine Wo<|Wq<|Ws<|Rw z<|bdB (a_K ak) λ_ ar a2=>Wf (σ:=List Val) (ρ:=Val) (λ(a4:Nat)(xc:List Val) a w=>∃H I J L,Sat 31 [(1,pt w0.z),(2,pt wd.z),(3,pt G),(4,vI ((a4:Nat):Int))] a/\Chg (· ∈ (S3++[G])) we w/\a_ w L (sl H I J) xc/\L.Nodup/\(∀k∈L,k∈S3∨we.z<=k)/\Blk w G [vI x6,sl O V W,sl H I J]) (λ(xc:List Val) a w=>∃H I J L,Sat 31 [(2,pt wd.z),(3,pt G)] a/\Chg (· ∈ (S3++[G])) we w/\a_ w L (sl H I J) xc/\L.Nodup/\(∀k∈L,k∈S3∨we.z<=k)/\Blk w G [vI x6,sl O V W,sl H I J]) (rQ prog fn<|Q14 w0 B) ar ?_ ?_ ?_ ?_ ?_
 .exact λ_ q=>⟨ah,ni,cj,S3,kaA q,cr (S3++[G]) we,b4,b5,sQ,b6⟩
 .rintro a4 xc _ _ _ a3 ⟨H,I,J,L,av,_,hw,hf,a5,hk⟩ aw;refine Wu ?_ av;refine Wq<|Wm z<|Rf z w_ z<|R z (l0 B_ z kBa)<|R z (lnR H_ z kR)<|Rl z z z<|Wx z (λ_=>?_) (λhc=>(Z_ a3 hc).elim);refine Wk<|Wq<|Wb (Wd (X:=noX) 2560 (pl_ 12 [7,8,9,11]) mo (by kernel_rfl) λbU bV _=>dR z z (fd w_ z)<|dR z z (l0 B_ z kBa)<|dR z z (fd w_ z)<|dR z z (l0 B_ z kBa)<|dM z z z ?_);refine bdB aw λb7 b8 ax=>dxA (α:=Val) z z H_ b_ z z z kR b8 λ_ _ _ b9 ba _=>?_;obtain ⟨bb,bc,be,bf,bg,bh,rfl,bi,bj,bk⟩:=b_j ba;refine dR z z (lN (vs:=[vI b7.number,sl bb bc be,sl bf bg bh]) e_ b_ z z fid b9)<|bdB ax λa6 bm ay=>dE z z (fc call29 z<|aE.run (B:=B) bm kM bi bj bk) iB ?_;rintro _ bn ⟨_,bo,bp,bq,bs,bt,bu,bv,bw,rfl,bx,_,_,bz,bA⟩;obtain ⟨ae,af,_,_,_⟩:=z_ bz bA;refine dE z z (fS [(.tmp 26)] b_7 z z z (T_ z) (lb z)<|lb z) (.inr λ_ _ h=>a_l<|h.2.below) ?_;rintro _ bB ⟨rfl,a8⟩;have:=a8.below;have ai:Blk bB bn.z [vI a6.number,sl bo bp bq,sl bt bu bv]:=a8.blk;refine bdB ay λbC bD az=>dE z z (a_q (α:=Val) b_7 bD z z kO hf ai (c_C (x:=a6) (S1:=bs) (S2:=bw) bx kO kO) sQ<|na_ ae af sQ) (.inl z) ?_;rintro _ _ ⟨bE,a9,aa,ab,rfl,_,_,bF,_⟩;refine dR z z (fd w_ z)<|dE0 z (fs0 (cur':=[vI x6,sl O V W,sl a9 aa ab]) d_O z z kB z z z z) (.inl z) ?_;rintro _ _ ⟨bG,bH⟩;have:=bH.one;exact pD<|Wo<|Wg<|Rm z<|R z (inc_ a3 (lt_ (repS.len aj) y_) z z)<|Ra z<|Wl (λ_ q=>⟨bC,(som az).symm,⟨a9,aa,ab,bE,kaA q,kW,kO,bF,sQ,bG⟩⟩)
 .rintro xc _ _ ⟨H,I,J,L,aA,_,hw,hf,a5,hk⟩;refine Wu ?_ aA;refine Wq<|Wm z<|Rf z w_ z<|R z (l0 B_ z kBa)<|R z (lnR H_ z kR)<|Rl z z z<|Wx z (λhc=>(a_0 hc).elim) (λ_=>?_);exact We<|λ_ q=>⟨rfl,⟨H,I,J,L,kaA q,kW,hw,hf,sQ,hk⟩⟩
 .rintro xc bI _ rfl ⟨H,I,J,L,_,_,hw,hf,a5,hk⟩;have aB:=elL a2;revert bI;exact Wo<|Ws<|R z (lC [vI x6,sl O V W,sl H I J] e_ b_ z)<|E0q [vI x6,sl O V W,sl H I J] b_ z z kB z λbW bJ _=>Wn<|Wr<|rS1 aB hr (s_ e_ b_ z bJ z) ⟨kW,O,V,W,Sb,H,I,J,L,z,b0,kO (l:=xg),kO (l:=xc),na_ b3 hf sQ,sQ⟩
 exact lqA a2 λ_ _ h=>h.2
theorem A_w03:∀n,p_m n
  | 0=>⟨λhm=>by intros;exact nomatch (show none=some _ from hm)⟩
  | n+1=>T_w03<|A_w03 n
theorem e_T:m_f (f_6 n).spec_CopyValue:=A_w03 n
def Q15 (w0:World)(B:Zone)(r:Val×Int×Bool)(v:Value)(w':World):Prop:=Bw w0 w'/\un3 (λr1 r2 r3=>∃G H I S1 a2 J L S2,v = .tuple #[(.agg #[vI r1.number,sl G H I,sl a2 J L]),vI r2,vB r3]/\inI r1.number/\a_ w' S1 (sl G H I) r1.bytes/\a_ w' S2 (sl a2 J L) r1.items/\inI r2/\(S1++S2).Nodup/\(∀k∈(S1++S2),w0.z<=k)) r
theorem i_Y {x1:c_}{x2:Val}{x3:Str}{res:Val×Int×Bool}(hm:c_p n x1 x2 x3=some res)(bK:B<=w0.z)(bH:rp w0 B A0 N0 C0 x1.rules)(Y:inI x2.number)(bI:rp w0 B A1 N1 C1 x2.bytes)(bJ:rp w0 B A2 N2 C2 x2.items)(ak:x3.b.length<=LEN):g_ prog 38 [(.agg #[sl A0 N0 C0]),.agg #[vI x2.number,sl A1 N1 C1,sl A2 N2 C2],Str.v x3] w0 (Q15 w0 B res):=by
 unfold c_p at hm;refine goG func38 z z z λfn hr=>Ws<|EvX [sl A0 N0 C0] z z z λW _ _=>EvX [vI x2.number,sl A1 N1 C1,sl A2 N2 C2] z z z λwc _ _=>EvZ [vI 0,sN,sN] z v_ z λbL _ _=>Ra z<|Rw z<|Ws<|R z (lC [sl A0 N0 C0] h_ f_ z)<|bdB hm λaF aG al=>E z (fc call25 z<|i_W (B:=B) aG kM kR) ?_;rintro _ _ ⟨_,rfl,hy⟩;refine Rw z<|Wm z ?_;obtain ⟨_,aH,aI,am⟩:=b_k al;refine E z (fc call56 z<|W_w1m (B:=B) aI kM ak) ?_;rintro _ wj ⟨_,az,a7,a8,rfl,aJ⟩;refine Rm z<|Re z z z<|Re z z z<|Ra z<|Rw z<|Wq<|Wq<|bdB am λaK a0 a1=>Wt (λa w=>∃(xk:Bool),xk=aK/\Sat 65 [(3,pt w0.z),(4,pt W.z),(6,pt wc.z),(9,vI aF),(10,sl az a7 a8),(29,vB xk)] a/\Below wj.z wj w) ?_ ?_
 .refine Wg<|Rm z<|R z (not_ z)<|Rm z ?_;rcases bs (!aH) with G | G
  .iterate 5 refine Nh z G ?_
   exact R z (pT z G z)<|Wl (λ_ q=>⟨true,som<|ifT a0 G,kaA q,br wj⟩)
  refine Rh z G (lC [sl A0 N0 C0] h_ f_ z)<|Rh z G (mv z)<|Rh z G (lC [vI x2.number,sl A1 N1 C1,sl A2 N2 C2] e_ b_ z)<|bdB (ifF a0 G) λaL aM an=>Eg z z G z (fc call18 z<|g_I (B:=B) aM kM kR hy Y (kR (l:=x2.bytes))<|kR (l:=x2.items)) ?_;rintro _ _ ⟨aN,rfl⟩;exact Rh z G (not_ z)<|R z (pF z G z)<|Wl (λ_ q=>⟨!aL,som an,kaA q,aN⟩)
 rintro aO wl ⟨xk,rfl,_,_⟩;revert aO;refine Wo<|Wc z (λhcm=>?_) (λhcm=>?_)
 .exact Ws<|R z (bQ [] [vI 0,sN,sN] K_ z z)<|E0q [vI 0,sN,sN] b_ z z kB z λbM aP _=>Ra z<|Rw z<|Wr<|rS3 (ifT a1 hcm) hr (s_ e_ b_ z aP z) z z ⟨kW,none,0,0,[],none,0,0,[],z,ii z,onL,onL,ii z,nd0,sQ⟩
 refine Wk<|Wq<|Ws<|Rw z ?_;obtain ⟨_,ap,a3⟩:=bdS<|ifF a1 hcm;refine Wf (σ:=Int×Int×Bt×(List Val)) (ρ:=Val×Int×Bool) (λ(a9:Nat) s a w=>un4 (λxb x0 V xa=>∃a2 H I J L O,Sat 65 [(3,pt w0.z),(4,pt W.z),(6,pt wc.z),(9,vI xb),(10,sl az a7 a8),(12,vI ((a9:Nat):Int))] a/\Cg [W.z] wl w/\inI xb/\inI x0/\rp w B a2 H I V/\rp w B J L O xa/\Blk w W.z [vI x0,sl a2 H I,sl J L O]) s) (λs a w=>un4 (λxb x0 V xa=>∃a2 H I J L O,Sat 65 [(4,pt W.z),(6,pt wc.z),(9,vI xb)] a/\Cg [W.z] wl w/\inI xb/\inI x0/\rp w B a2 H I V/\rp w B J L O xa/\Blk w W.z [vI x0,sl a2 H I,sl J L O]) s) (rQ prog fn<|Q15 w0 B) ap ?_ ?_ ?_ ?_ ?_
 .exact λ_ q=>⟨A1,N1,C1,A2,N2,C2,kaA q,cr [W.z] wl,hy,Y,kR,kR,kB⟩
 .rintro a9 ⟨xb,x0,V,xa⟩ _ _ _ a4 ⟨a2,H,I,J,L,O,aq,_,he,hd,hg,hh,hi⟩ au;refine Wu ?_ aq;refine Wq<|Wm z<|Rm z<|R z (lnR a_2 z kR)<|Rl z z z<|Wx z (λ_=>?_) (λhc=>(Z_ a4 hc).elim);refine Wk<|Wq<|Wb<|Wq (Wd (X:=noX) 0 (pl_ 9 [7]) mo (by kernel_rfl) λbN bO _=>dR z z (lC [sl A0 N0 C0] h_ f_ z)<|dM z z z<|dR z z (lN (vs:=[vI x0,sl a2 H I,sl J L O]) e_ b_ z z fid<|kBr 0 3)<|dM z z z<|dM z z z ?_);refine bdB (c_J au) λ_ aQ av=>dxA (α:=Str) z z a_2 z_9 z z z kR aQ λ_ _ _ aR aS _=>?_;obtain ⟨rfl,aT⟩:=b_l aS;refine dR z z (l0 g_9 z<|aR.at0 z)<|bdB av λ_ aU a6=>dE z z (fc call70 z<|W_w1n (B:=B) (x3:=(⟨x0,V,xa⟩:Val)) aU kM kR he hd (kR (l:=V)) (kR (l:=xa)) aT) iB ?_;rintro _ _ ⟨_,rfl,aV⟩;refine dQ z z z<|pD<|Wo<|Wq<|Wm z<|Rl z z z<|Wx z (λhcn=>?_) (λhcn=>?_)
  .exact Ws<|R z (bQ [] [vI 0,sN,sN] K_ z z)<|E0q [vI 0,sN,sN] b_ z z kB z λbP aW _=>Ra z<|Rw z<|Wr<|rtO<|qL (som<|ifT a6 hcn).symm<|e_q hr (s_ e_ b_ z aW z) z z ⟨kW,none,0,0,[],none,0,0,[],z,ii z,onL,onL,ii z,nd0,sQ⟩
  refine Wk<|Wq (Wd (X:=noX) 0 (pl_ 10 [8]) mo (by kernel_rfl) λbR bS _=>dR z z (fd Q_ z)<|dR z z (l0 U_ z kBa)<|dM z z z ?_);refine bdB (ifF a6 hcn) λaX aY aw=>dxA (α:=d_) z z Y_ o_ z z z kR aY λ_ _ _ aZ b0 _=>?_;obtain ⟨b3,b4,b5,b6,b7,b8,b9,ba,bb,bc,be,bf,rfl,bg,bh,bi,bj,bk,bm,bn⟩:=a_G b0;refine dR z z (lN (vs:=vR aX b3 b4 b5 b6 b7 b8 b9 ba bb bc be bf) I_ o_ z z fid aZ)<|dR z z (fd a_x z)<|dR z z (l0 g_3 z kBa)<|dM z z z<|bdB aw λbo bp ax=>dE z z (fc call41 z<|e_d (B:=B) bp kM bg bh bi bj bk bm bn hd aV) iB ?_;rintro _ _ ⟨_,rfl,bq⟩;refine dQ z z z<|pD<|Wo<|Wg<|Rf z w_ z<|R z (l0 B_ z kBa)<|Rm z<|bdB ax λxf bt ay=>xA (α:=Val) z H_ b_ z z z kR bt λ_ _ _ bu bv _=>?_;obtain ⟨ao,np,cq,ar,ns,ct,rfl,bw,_,_⟩:=b_j bv;exact R z (lN (vs:=[vI xf.number,sl ao np cq,sl ar ns ct]) e_ b_ z z fid bu)<|E0q [vI xf.number,sl ao np cq,sl ar ns ct] b_ z z kB z λbT bx _=>Wn<|Wg<|Rm z<|R z (inc_ a4 (lt_ (repS.len aJ) y_) z z)<|Ra z<|Wl (λ_ q=>⟨(bo,xf.number,xf.bytes,xf.items),(som ay).symm,⟨ao,np,cq,ar,ns,ct,kaA q,kW,bq,bw,kR,kR,bx⟩⟩)
 .rintro ⟨xb,x0,V,xa⟩ _ _ ⟨a2,H,I,J,L,O,aA,_,he,hd,hg,hh,hi⟩;refine Wu ?_ aA;refine Wq<|Wm z<|Rm z<|R z (lnR a_2 z kR)<|Rl z z z<|Wx z (λhc=>(a_0 hc).elim) (λ_=>?_);exact We<|λ_ q=>⟨rfl,⟨a2,H,I,J,L,O,kaA q,kW,he,hd,hg,hh,hi⟩⟩
 .rintro ⟨xb,x0,V,xa⟩ bz _ rfl ⟨a2,H,I,J,L,O,_,_,he,hd,hg,hh,hi⟩;have aB:=elL a3;revert bz;refine Wo<|Ws<|R z (lN (vs:=[vI x0,sl a2 H I,sl J L O]) e_ b_ z z fid<|hi.row 0 3 z) ?_;refine bdB (c_J aB) λru bA aC=>E z (fc call29 z<|e_T.run (B:=B) (x1:=(⟨x0,V,xa⟩:Val)) bA kM hd hg hh) ?_;rintro _ _ ⟨_,aa,ab,ad,bB,ae,af,ah,bC,rfl,bD,_,_,bE,bF⟩;obtain ⟨ai,aj,_,_,_⟩:=z_ bE bF;exact Rm z<|E0q [vI ru.number,sl aa ab ad,sl ae af ah] b_ z z kB z λbU bG _=>Ra z<|Rw z<|Wr<|rS3 aC hr (s_ e_ b_ z bG z) z z ⟨kW,aa,ab,ad,bB,ae,af,ah,bC,z,bD,kO (l:=ru.bytes),kO (l:=ru.items),he,na_ ai aj sQ,sQ⟩
 exact lqA a3 λ_ _ h=>h.2
def Q16 (w0:World)(g1:Nat)(B:Zone)(B2:Zone)(A0:Option Addr)(N0 C0:Nat)(x1:p_)(S2_1:List Nat)(S2_2:List Nat)(r:Val×Int×Int)(v:Value)(w':World):Prop:=Chg (· ∈ ([g1]++(S2_1++S2_2))) w0 w'/\un3 (λr1 r2 r3=>∃G H I a2 J L,(.agg #[vI r1.number,sl G H I,sl a2 J L])=v/\inI r1.number/\repS w' (zn B2 w0.z w'.z) (sl G H I) r1.bytes/\repS w' (zn B2 w0.z w'.z) (sl a2 J L) r1.items/\inI r2/\inI r3/\Blk w' g1 [sl A0 N0 C0,vI r2,vI r3]) r
structure m_g (f:p_->Val->Option (Val×Int×Int)):Prop where
  run:∀{A0 A1 A2:Option Addr}{N0 C0 g1 N1 C1 N2 C2:Nat}{S2_1 S2_2:List Nat}{B:Zone}{B2:Zone}{x1:p_}{x2:Val}{res:Val×Int×Int}{w0:World}(hm:f x1 x2=some res)(hB1:Blk w0 g1 [sl A0 N0 C0,vI x1.i,vI x1.h])(hBw:B<=w0.z)(hBg:¬B g1)(hB2:B<=B2)(hB2w:B2<=w0.z)(hB2g:¬B2 g1)(p1_0:rp w0 B A0 N0 C0 x1.b)(p1_1:inI x1.i)(p1_2:inI x1.h)(p2_0:inI x2.number)(p2_1:a_ w0 S2_1 (sl A1 N1 C1) x2.bytes)(p2_1n:S2_1.Nodup)(p2_1g:∀k∈S2_1,¬B k)(p2_1q:∀k∈S2_1,B2 k)(p2_1dB:∀k∈S2_1,k∉[g1])(p2_2:a_ w0 S2_2 (sl A2 N2 C2) x2.items)(p2_2n:S2_2.Nodup)(p2_2g:∀k∈S2_2,¬B k)(p2_2q:∀k∈S2_2,B2 k)(p2_2d1:∀k∈S2_2,k∉S2_1)(p2_2dB:∀k∈S2_2,k∉[g1]),g_ prog 65 [pt g1,(.agg #[vI x2.number,sl A1 N1 C1,sl A2 N2 C2])] w0<|Q16 w0 g1 B B2 A0 N0 C0 x1 S2_1 S2_2 res
abbrev p_n (n:Nat):Prop:=m_g (f_0 n).spec_l9Bent
theorem T_w0l (cv:p_n n):m_g (f_N n<|f_0 n):=by
 constructor;intro A0 A1 A2 N0 C0 g1 N1 C1 N2 C2 S2_1 S2_2 B B2 x1 x2 res w0 hm hB1 aU hBg hB2 hB2w hB2g a1 ca cb cc V p2_1n p2_1g p2_1q p2_1dB I p2_2n p2_2g p2_2q p2_2d1 p2_2dB;unfold f_N at hm;refine goG func65 z z z λfn hr=>Ws<|EvX [vI x2.number,sl A1 N1 C1,sl A2 N2 C2] z z z λJ h3 h5=>EvZ [vI 0,sN,sN] z v_ z λcw h2 aV=>Wn<|Wq<|Wm z ?_;have aW:=(h3.ag B).e h2;have a2:=lt_ h3.s h2.s;obtain ⟨_,a3,a4,cx,cd⟩:=m_ hm;refine E z (fc call36 z<|b_f (B:=B) cx ((hB1.e h3).e h2) (zt' aU a2) hBg (a1.g aW) ca cb<|ii z) ?_;rintro _ G ⟨H,rfl,_,hd,he,hf⟩;refine Wn<|Wb<|Ws<|Rq z z z<|Rw z<|bdB cd λcy bg ce=>Wt (λa w=>∃(a5:Int)(a6:Int)(xg:Int)(aX:Bt)(aY:List Val),(a5,a6,xg,aX,aY)=cy/\∃ah ni cj Sk al nm cn,Sat 60 [(3,pt w0.z),(4,pt J.z)] a/\Chg (· ∈ ([g1]++([w0.z]++(S2_1++S2_2)))) G w/\inI a5/\inI a6/\inI xg/\a_ w Sk (sl ah ni cj) aX/\Sk.Nodup/\(∀k∈Sk,k∈S2_1∨G.z<=k)/\repS w (zn B2 G.z w.z) (sl al nm cn) aY/\Blk w g1 [sl A0 N0 C0,vI a5,vI a6]/\Blk w w0.z [vI xg,sl ah ni cj,sl al nm cn]) ?_ ?_
 .refine Wc z (λaO=>?_)<|λaO=>?_
  .refine Wg<|Rm z<|EvA z (fS [(.const<|.int .i64 (-1)),.const<|.int .i64 1,.const<|.int .i64 256,(.const<|.int .i64 4294967296)] b_Q z z z (T_ z) (lb z)<|lb z) λwr bn=>?_;have ha:=bn.below;have bo:a_ wr [G.z] (sl (some ⟨G.z,0,none⟩) 4 4) ([(-1),1,256,4294967296]:List Int):=i_f (l:=[(-1),1,256,4294967296]) (bn.blk:Blk wr G.z [vI (-1),vI 1,vI 256,vI 4294967296]) (ac0 (ii z)<|ac0 (ii z)<|ac0 (ii z)<|ac0 (ii z) an0) z;have bp:=lt_ a2 H.s;obtain ⟨bq,cz,cA,cB,cf⟩:=m_<|ifT bg aO;refine E z (fc call63 z<|i_U (B:=zn B2 G.z wr.z) cB (hf.e ha) (a_1 (λk h=>Nat.lt_of_lt_of_le (hB2w k h)<|lt_ bp ha.s) lr) (atp ((nznL ((a_m hB2g):∀k∈[g1],¬B2 k) (a_m<|Blk.lt hB1) bp):∀k∈[g1],¬(zn B2 G.z wr.z) k)) (repS.mono (a1.g<|(aW.c H<|c_9<|a_m hBg).e ha)<|zt hB2 r_) hd he<|or_ bo<|zin (B:=B2) (a_m lr)<|a_.lt bo) ?_;rintro _ cC ⟨a7,rfl,cD,cE,cF,cG⟩;exact Rf z a_x z<|have aZ:=mmr<|Blk.lt hB1;E0p (fs0 (cur':=[vI bq,sl A1 N1 C1,sl A2 N2 C2]) z_3 z z ((((h5.e h2).c H<|atp aZ).e ha).c a7<|atp aZ) z z z z) λcH cI cJ=>have a8:=cJ.one;Wl<|λ_ q=>⟨cz,cA,bq,x2.bytes,x2.items,som cf,A1,N1,C1,S2_1,A2,N2,C2,kaA q,(cM (cM (g_d (cr ([g1]++([w0.z]++(S2_1++S2_2))) G) ha:Chg (· ∈ ([g1]++([w0.z]++(S2_1++S2_2)))) G wr) a7 (io<|b_1 sr):Chg (· ∈ ([g1]++([w0.z]++(S2_1++S2_2)))) G cC) a8 (io<|a_k<|b_1 sr):Chg (· ∈ ([g1]++([w0.z]++(S2_1++S2_2)))) G cH),cE,cF,cD,(((((V.e h3).e h2).c H p2_1dB).e ha).c a7 p2_1dB).c a8<|ds<|mnr<|a_.lt V,p2_1n,io sr,repS.mono (or_ ((((((I.e h3).e h2).c H p2_2dB).e ha).c a7 p2_2dB).c a8<|ds<|mnr<|a_.lt I) (show ∀k∈S2_2,zn B2 w0.z w0.z k from λk h=>Or.inl<|p2_2q k h)) g_B,cG.c a8<|djs aZ,cI⟩
  refine Ws<|Rq z z z<|Rw z<|bdB (ifF bg aO) λcK bh cg=>Wt (λa w=>∃(xs:Int)(xt:Int)(a9:Bt)(aa:List Val),(xs,xt,a9,aa)=cK/\∃ab ad ae So af ai aj,Sat 60 [(3,pt w0.z),(4,pt J.z)] a/\Chg (· ∈ (S2_1++([w0.z]++(S2_2++[g1])))) G w/\inI xs/\inI xt/\a_ w So (sl ab ad ae) a9/\So.Nodup/\(∀k∈So,k∈S2_1∨G.z<=k)/\repS w (zn B2 G.z w.z) (sl af ai aj) aa/\Blk w g1 [sl A0 N0 C0,vI xs,vI xt]/\Blk w w0.z [vI x2.number,sl ab ad ae,sl af ai aj]) ?_ ?_
  .refine Wc z (λaP=>?_)<|λaP=>?_
   .refine Wg<|Rf z a_r z<|have br:=mmr<|Blk.lt hB1;have bs:=(h5.e h2).c H<|atp br;R z (l0 P_ z<|bs.at z)<|EvA z (fS [(.const<|.int .u8 1)] G_ z z z (T_ z) (lb z)<|lb z) λbt b0=>?_;have hb:=b0.below;have eJ:=a_B b0<|i_a (x:=(1:UInt8)) z;refine bdB (ifT bh aP) λcL cN ch=>E z (a_q (α:=UInt8) G_ cN z z ((((V.e h3).e h2).c H p2_1dB).e hb) p2_1n (b0.blk:Blk bt G.z [(vU<|byteI (1:UInt8))]) (i_a (x:=(1:UInt8)) z) an_ x_) ?_;rintro _ cO ⟨b3,bu,bv,bw,rfl,ak,cP,cQ,bx⟩;exact Rf z a_r z<|have bz:=mnr<|a_.lt V;E0p (fs0 (cur':=[vI x2.number,sl bu bv bw,sl A2 N2 C2]) z_22 z z ((bs.e hb).c ak<|atp bz) z z z z) λcR cS cT=>have am:=cT.one;Wl<|λ_ q=>⟨a3,a4,cL,x2.items,som ch,bu,bv,bw,b3,A2,N2,C2,kaA q,(cM (cM (g_d (cr (S2_1++([w0.z]++(S2_2++[g1]))) G) hb:Chg (· ∈ (S2_1++([w0.z]++(S2_2++[g1])))) G bt) ak (io<|b_1 sr):Chg (· ∈ (S2_1++([w0.z]++(S2_2++[g1])))) G cO) am (io<|a_k<|b_1 sr):Chg (· ∈ (S2_1++([w0.z]++(S2_2++[g1])))) G cR),hd,he,cP.c am (or2 bx (ds bz) an_ (f_a (a_m h5.lt)<|lt_ (lt_ h2.s H.s) hb.s):∀k∈b3,k∉[w0.z]),cQ,(or2 bx (io sr) an_ (g_2 hb.s):∀k∈b3,k∈S2_1∨G.z<=k),repS.mono (or_ ((((((I.e h3).e h2).c H p2_2dB).e hb).c ak p2_2d1).c am<|ds<|mnr<|a_.lt I) (show ∀k∈S2_2,zn B2 w0.z w0.z k from λk h=>Or.inl<|p2_2q k h)) g_B,((hf.e hb).c ak<|djs p2_1dB).c am<|djs br,cS⟩
   refine Ws<|Rq z z z<|Rw z<|bdB (ifF bh aP) λcU bi ci=>Wt (λa w=>∃(xu:Int)(xv:Int)(an:List Val),(xu,xv,an)=cU/\∃ap aq ar,Sat 60 [(3,pt w0.z),(4,pt J.z)] a/\Chg (· ∈ (S2_2++([w0.z]++[g1]))) G w/\inI xu/\inI xv/\repS w (zn B2 G.z w.z) (sl ap aq ar) an/\Blk w g1 [sl A0 N0 C0,vI xu,vI xv]/\Blk w w0.z [vI x2.number,sl A1 N1 C1,sl ap aq ar]) ?_ ?_
   .refine Wc z (λaQ=>?_)<|λaQ=>?_
    .refine Wg<|Rf z w_ z<|have bA:=mmr<|Blk.lt hB1;have bB:=(h5.e h2).c H<|atp bA;R z (l0 B_ z<|bB.at z)<|R z (bQ [] [vI 0,sN,sN] K_ z z)<|EvA z (fS [(.tmp 33)] b_7 z z z (T_ z) (lb z)<|lb z) λb4 bC=>have hp:=bC.below;bdB (ifT bi aQ) λcV cW ck=>E z (a_q (α:=Val) b_7 cW z z ((((I.e h3).e h2).c H p2_2dB).e hp) p2_2n (bC.blk:Blk b4 G.z [vI 0,sN,sN]) (c_C (x:=(⟨0,([]:Bt),([]:List Val)⟩:Val)) (S1:=([]:List Nat)) (S2:=([]:List Nat)) (ii z) onL onL) al0 nd0) ?_;rintro _ bD ⟨bE,bF,bG,bH,rfl,b5,bI,_,bJ⟩;refine Rf z w_ z<|have bK:=mnr<|a_.lt I;E0p (fs0 (cur':=[vI x2.number,sl A1 N1 C1,sl bF bG bH]) d_O z z ((bB.e hp).c b5<|atp bK) z z z z) λcX cY cZ=>have au:=cZ.one;Wl ?_;have d0:∀k∈bE,(zn B2 b4.z bD.z) k:=λk hk=>(λh=>Or.elim h (λh=>(zall (show ∀k∈S2_2,zn B2 w0.z w0.z k from λk h=>Or.inl<|p2_2q k h) g_B) k h)<|λh=>Or.elim h (λh=>(zall al0<|zt hB2 r_) k h)<|λh=>Or.inr ⟨h,(a_.lt bI) k hk⟩)<|bJ k hk;exact λ_ q=>⟨a3,a4,cV,som ck,bF,bG,bH,kaA q,(cM (cM (g_d (cr (S2_2++([w0.z]++[g1])) G) hp:Chg (· ∈ (S2_2++([w0.z]++[g1]))) G b4) b5 (io<|b_1 sr):Chg (· ∈ (S2_2++([w0.z]++[g1]))) G bD) au (io<|a_k<|b_1 sr):Chg (· ∈ (S2_2++([w0.z]++[g1]))) G cX),hd,he,repS.mono (or_ (bI.c au (or2 bJ (ds bK) al0 (f_a (a_m h5.lt)<|lt_ (lt_ h2.s H.s) hp.s):∀k∈bE,k∉[w0.z])) d0)<|a_M hp.s au.s,((hf.e hp).c b5<|djs p2_2dB).c au<|djs bA,cY⟩
    refine Ws<|Rq z z z<|Rw z<|bdB (ifF bi aQ) λd1 bj cl=>Wt (λa w=>∃(xw:Int)(xx:Int)(av:List Val),(xw,xx,av)=d1/\∃aw ax ay,Sat 60 [(3,pt w0.z),(4,pt J.z)] a/\Chg (· ∈ ([g1]++(S2_2++[w0.z]))) G w/\inI xw/\inI xx/\repS w (zn B2 G.z w.z) (sl aw ax ay) av/\Blk w g1 [sl A0 N0 C0,vI xw,vI xx]/\Blk w w0.z [vI x2.number,sl A1 N1 C1,sl aw ax ay]) ?_ ?_
    .refine Wc z (λaR=>?_)<|λaR=>?_
     .refine Ws<|Rf z w_ z<|have hy:=mmr<|Blk.lt hB1;have az:=(h5.e h2).c H<|atp hy;R z (l0 B_ z<|az.at z)<|have W:=((I.e h3).e h2).c H p2_2dB;R z (lnR H_ z<|or_ W (show ∀k∈S2_2,zn B2 w0.z w0.z k from λk h=>Or.inl<|p2_2q k h))<|R z (a_n z z)<|Wn<|bdB (ifT bj aR) λd2 bk cm=>Wt (λa w=>∃(xz:Int)(Y:Int)(aA:List Val),(xz,Y,aA)=d2/\∃aB aC aD,Sat 60 [(3,pt w0.z),(4,pt J.z)] a/\Chg (· ∈ ([g1]++S2_2)) G w/\inI xz/\inI Y/\repS w (zn B2 G.z w.z) (sl aB aC aD) aA/\Blk w g1 [sl A0 N0 C0,vI xz,vI Y]/\Blk w w0.z [vI x2.number,sl A1 N1 C1,sl aB aC aD]) ?_ ?_
      .refine Wc z (λaS=>?_)<|λaS=>?_
       .refine Wm z<|Rf z w_ z<|R z (l0 B_ z<|az.at z)<|R z (lnR H_ z<|or_ W (show ∀k∈S2_2,zn B2 w0.z w0.z k from λk h=>Or.inl<|p2_2q k h)) ?_;have bL:=aW.c H<|c_9<|a_m hBg;have bM:=lt_ a2 H.s;obtain ⟨d3,_,_,d4,co⟩:=m_<|ifT bk aS;refine E z (fc call36 z<|b_f (B:=B) d4 hf (zt' aU bM) hBg (a1.g bL) hd he<|a_T<|repS.len<|or_ W (show ∀k∈S2_2,zn B2 w0.z w0.z k from λk h=>Or.inl<|p2_2q k h)) ?_;rintro _ aE ⟨sc,rfl,_,d5,d6,d7⟩;refine Ra z<|Wn (Wd (X:=λk=>k∈([g1]++S2_2)∨aE.z<=k) 2048 (pl_ 12 [8,9,11]) mo (by kernel_rfl) λaF s7 _=>dR z z (fd w_ z) ?_);have b6:=(az.c sc<|atp hy).e s7;have a0:=mnr<|a_.lt I;have b7:=lt_ (lt_ h2.s H.s) sc.s;refine dR z z (l1 B_ z (a_e (atp<|nmA hy a0)<|Nat.lt_of_lt_of_le h5.lt b7)<|b6.at z)<|dM z z z<|dM z z z<|dR z z (fd w_ z)<|dR z z (l1 B_ z (a_e (atp<|nmA hy a0)<|Nat.lt_of_lt_of_le h5.lt b7)<|b6.at z)<|dM z z z<|bdB co λd8 bN cp=>have bO:=(W.c sc p2_2dB).e s7;dRX z z (rd_atQ (α:=Val) H_ b_ z z bO bN) ?_;rintro _ ⟨_,d9,rfl⟩;obtain ⟨_,_,da,db,b8,h6,_,bP⟩:=t_h d9 bO p2_2n bN;obtain ⟨dc,dd,de,df,dg,dh,L,O,rfl,rfl,di,bR,bS⟩:=k_P db;refine dAn z z (lN (vs:=[vI d8.number,sl dc dd de,sl df dg dh]) e_ b_ z z fid da) ?_;have aG:=lt_ (lt_ bM sc.s) s7.s;have aH:=zt' aU aG;have dj:∀k∈L,¬B k:=or1 (λk hk=>.inl<|h6 k<|List.mem_append_left _ hk) p2_2g<|f_i aH;have bT:∀k∈L,k∉[g1]:=or1 (λk hk=>.inl<|h6 k<|List.mem_append_left _ hk) p2_2dB<|f_a (a_m<|Blk.lt hB1) aG;have dk:∀k∈O,¬B k:=or1 (λk hk=>.inl<|(λk hk=>h6 k<|List.mem_append_right _ hk) k hk) p2_2g<|f_i aH;have bU:∀k∈O,k∉[g1]:=or1 (λk hk=>.inl<|(λk hk=>h6 k<|List.mem_append_right _ hk) k hk) p2_2dB<|f_a (a_m<|Blk.lt hB1) aG;obtain ⟨bV,dl,dm,dn,cq⟩:=m_ cp;have dp:∀k∈O,k∈([g1]++S2_2)∨aE.z<=k:=or1 (λk hk=>.inl<|(λk hk=>h6 k<|List.mem_append_right _ hk) k hk) (io<|a_k sr)<|g_2 s7.s;have dq:∀k∈L,k∈([g1]++S2_2)∨aE.z<=k:=or1 (λk hk=>.inl<|h6 k<|List.mem_append_left _ hk) (io<|a_k sr)<|g_2 s7.s;refine dE z z (fc call65 z<|cv.run (B:=B) (B2:=λk=>B k∨k∈L++O) dn (d7.e s7) aH hBg (λk h=>Or.inl h) (λk h=>Or.elim h (λh=>aH k h) λh=>aa_ (a_.lt bR) (a_.lt bS) k h) (λh=>Or.elim h (λh=>hBg h) λh=>aa_ bT bU _ h<|List.mem_singleton.2 z) (a1.g<|(bL.c sc<|c_9<|a_m hBg).e s7) d5 d6 di bR (nl_ b8) dj (λk h=>Or.inr<|List.mem_append_left _ h) bT bS (nr_ b8) dk (λk h=>Or.inr<|List.mem_append_right _ h) (ds<|nj b8) bU) (.inr λ_ _ h=>h.1.mono λk _ hk=>(aa_ (io<|b_1 sr)<|aa_ dq dp) k hk) ?_;rintro _ b9 ⟨ba,_,_,_,_,_,_,rfl,dr,dt,du,dv,dw,dx⟩;refine dR z z (rd_atP H_ b_ z z bP)<|have bW:∀k∈S2_2,(zn B2 aF.z b9.z) k:=zall (show ∀k∈S2_2,zn B2 w0.z w0.z k from λk h=>Or.inl<|p2_2q k h) g_B;dE0 z (t_i (α:=Val) b_ z z z z bP (cM (cr (L++(O++[g1])) aF) ba (aa_ (io<|a_k<|a_k sr)<|aa_ (io<|b_1 sr)<|io<|a_k<|b_1 sr):Chg (· ∈ (L++(O++[g1]))) aF b9) (λk hk h=>(List.mem_append.1 h).elim (λh=>List.mem_append_left _ h) (λh=>(List.mem_append.1 h).elim (λh=>List.mem_append_right _ h) (λh=>(λh=>absurd h<|p2_2dB k hk) h))) (i_3 (x:=bV) dr dt du) (λk hk h=>h.elim (λq=>q.elim (λh=>absurd h<|p2_2g k hk) id) λq=>absurd (Nat.lt_of_lt_of_le ((a_.lt I) k hk) aG)<|Nat.not_lt.2 q.1) (λk h=>h.elim (λq=>q.elim (λh=>(zt hB2 r_) k h) λh=>bW k<|h6 k h) λq=>Or.inr q) bW) (.inl z) ?_;rintro _ dy ⟨aI,dz⟩;exact pD<|have bb:=lt_ sc.s s7.s;have bX:=lt_ b7 s7.s;have dB:∀k∈O,k∉[w0.z]:=or1 (λk hk=>.inl<|(λk hk=>h6 k<|List.mem_append_right _ hk) k hk) (ds a0)<|f_a (a_m h5.lt) bX;have dC:∀k∈L,k∉[w0.z]:=or1 (λk hk=>.inl<|h6 k<|List.mem_append_left _ hk) (ds a0)<|f_a (a_m h5.lt) bX;have dD:∀k∈O,k∈([g1]++S2_2)∨G.z<=k:=or1 (λk hk=>.inl<|(λk hk=>h6 k<|List.mem_append_right _ hk) k hk) (io<|a_k sr)<|g_2 bb;have dF:∀k∈L,k∈([g1]++S2_2)∨G.z<=k:=or1 (λk hk=>.inl<|h6 k<|List.mem_append_left _ hk) (io<|a_k sr)<|g_2 bb;λ_ q=>⟨dl,dm,x2.items.set (d3).toNat bV,som cq,A2,N2,C2,kaA q,(cM (cM (g_d (cM (cr ([g1]++S2_2) G) sc (io<|b_1 sr):Chg (· ∈ ([g1]++S2_2)) G aE) s7:Chg (· ∈ ([g1]++S2_2)) G aF) ba (aa_ (io<|b_1 sr)<|aa_ dF dD):Chg (· ∈ ([g1]++S2_2)) G b9) aI (io<|a_k sr):Chg (· ∈ ([g1]++S2_2)) G dy),dv,dw,repS.mono dz<|a_M bb aI.s,dx.c aI<|djs p2_2dB,(b6.c ba<|atp<|nmA hy<|nmA (ds dC)<|ds dB).c aI<|atp a0⟩
       exact a_7<|λ_ q=>⟨a3,a4,x2.items,som<|ifF bk aS,A2,N2,C2,kaA q,cr ([g1]++S2_2) G,hd,he,repS.mono (or_ W (show ∀k∈S2_2,zn B2 w0.z w0.z k from λk h=>Or.inl<|p2_2q k h)) g_B,hf,az⟩
      rintro dG dH ⟨xz,Y,aA,rfl,aB,aC,aD,_,dI,dJ,dK,dL,dN,dO⟩;revert dG;exact λ_ q=>⟨xz,Y,aA,som<|a_K cm,aB,aC,aD,kaA q,(cM (cr ([g1]++(S2_2++[w0.z])) G) dI (aa_ (io<|b_1 sr)<|io<|a_k<|b_1 sr):Chg (· ∈ ([g1]++(S2_2++[w0.z]))) G dH),dJ,dK,dL,dN,dO⟩
     refine Ws<|Rf z w_ z<|have bY:=mmr<|Blk.lt hB1;have aJ:=(h5.e h2).c H<|atp bY;R z (l0 B_ z<|aJ.at z)<|have bc:=((I.e h3).e h2).c H p2_2dB;R z (lnR H_ z<|or_ bc (show ∀k∈S2_2,zn B2 w0.z w0.z k from λk h=>Or.inl<|p2_2q k h))<|R z (a_n z z)<|Wn<|bdB (ifF bj aR) λdP bm ct=>Wt (λa w=>∃(aK:List Val),aK=dP/\∃aL aM aN,Sat 60 [(3,pt w0.z),(4,pt J.z)] a/\Cg [w0.z] G w/\repS w (zn B2 w0.z w0.z) (sl aL aM aN) aK/\Blk w w0.z [vI x2.number,sl A1 N1 C1,sl aL aM aN]) ?_ ?_
     .refine Wc z (λaT=>?_)<|λaT=>?_
      .refine Wg<|Rf z w_ z<|R z (l0 B_ z<|aJ.at z)<|bdB (ifT bm aT) λdT dU cu=>RX z (rX H_ b_ z z (or_ bc (show ∀k∈S2_2,zn B2 w0.z w0.z k from λk h=>Or.inl<|p2_2q k h)) z z dU) ?_;rintro _ ⟨bZ,c0,c1,rfl,dV⟩;exact Rf z w_ z<|E0q [vI x2.number,sl A1 N1 C1,sl bZ c0 c1] d_O z z aJ z λdW dX c2=>Wl<|have dY:∀k∈[w0.z],¬B2 k:=(λk hk hz=>absurd (hB2w k hz)<|Nat.not_lt.2<|(a_m lr) k hk);λ_ q=>⟨dT,som cu,bZ,c0,c1,kaA q,(cM (cr [w0.z] G) c2 (io sr):Cg [w0.z] G dW),dV.c c2<|c_9 ((nznR dY<|a_m lr):∀k∈[w0.z],¬(zn B2 w0.z w0.z) k),dX⟩
      exact a_7<|λ_ q=>⟨x2.items,som<|ifF bm aT,A2,N2,C2,kaA q,cr [w0.z] G,or_ bc (show ∀k∈S2_2,zn B2 w0.z w0.z k from λk h=>Or.inl<|p2_2q k h),aJ⟩
     rintro dZ e0 ⟨aK,rfl,aL,aM,aN,_,c3,e1,e2⟩;revert dZ;exact λ_ q=>⟨a3,a4,aK,som ct,aL,aM,aN,kaA q,(cM (cr ([g1]++(S2_2++[w0.z])) G) c3 (io<|a_k<|a_k sr):Chg (· ∈ ([g1]++(S2_2++[w0.z]))) G e0),hd,he,repS.mono e1 g_B,hf.c c3<|djs bY,e2⟩
    rintro e3 e4 ⟨xw,xx,av,rfl,aw,ax,ay,_,e5,e6,e7,e8,e9,ea⟩;revert e3;exact λ_ q=>⟨xw,xx,av,som<|a_K cl,aw,ax,ay,kaA q,(cM (cr (S2_2++([w0.z]++[g1])) G) e5 (aa_ (io<|a_k<|a_k sr)<|aa_ (io<|b_1 sr)<|io<|a_k<|b_1 sr):Chg (· ∈ (S2_2++([w0.z]++[g1]))) G e4),e6,e7,e8,e9,ea⟩
   rintro eb ec ⟨xu,xv,an,rfl,ap,aq,ar,_,c4,ed,ee,ef,eg,eh⟩;revert eb;exact λ_ q=>⟨xu,xv,x2.bytes,an,som<|a_K ci,A1,N1,C1,S2_1,ap,aq,ar,kaA q,(cM (cr (S2_1++([w0.z]++(S2_2++[g1]))) G) c4 (aa_ (io<|a_k<|a_k<|b_1 sr)<|aa_ (io<|a_k<|b_1 sr)<|io<|a_k<|a_k<|a_k sr):Chg (· ∈ (S2_1++([w0.z]++(S2_2++[g1])))) G ec),ed,ee,(((V.e h3).e h2).c H p2_1dB).c c4<|nmA (ds p2_2d1)<|nmA (ds<|mnr<|a_.lt V) p2_1dB,p2_1n,io sr,ef,eg,eh⟩
  rintro ei ej ⟨xs,xt,a9,aa,rfl,ab,ad,ae,So,af,ai,aj,_,ek,em,en,eo,ep,er,es,eu,ew⟩;revert ei;exact λ_ q=>⟨xs,xt,x2.number,a9,aa,som<|c_J cg,ab,ad,ae,So,af,ai,aj,kaA q,(cM (cr ([g1]++([w0.z]++(S2_1++S2_2))) G) ek (aa_ (io<|a_k<|a_k<|b_1 sr)<|aa_ (io<|a_k<|b_1 sr)<|aa_ (io<|a_k<|a_k<|a_k sr)<|io<|b_1 sr):Chg (· ∈ ([g1]++([w0.z]++(S2_1++S2_2)))) G ej),em,en,cc,eo,ep,(or1 er (io sr) (g_2 lr):∀k∈So,k∈S2_1∨G.z<=k),es,eu,ew⟩
 rintro ex be ⟨a5,a6,xg,aX,aY,rfl,ah,ni,cj,Sk,al,nm,cn,_,c5,ey,ez,eA,c6,_,c7,eB,eC,eD⟩;revert ex;refine Wo<|Ws<|R z (lN (vs:=[vI xg,sl ah ni cj,sl al nm cn]) e_ b_ z z fid<|eD.row 0 3 z)<|have bf:=mm1 (Blk.lt hB1) h3.s;have c8:=mno (a_.lt V) h3.s;E0p (fs0 (cur':=[vI xg,sl ah ni cj,sl al nm cn]) b_ z z ((aV.c H<|atp bf).c c5<|atp<|nmA bf<|nmA (mmr h5.lt)<|nmA c8<|mno (a_.lt I) h3.s) z z z z) λeE eF eG=>have hq:=eG.one;Wn ?_;obtain rfl:=som<|c_7 ce;have eH:∀k∈Sk,(zn B2 G.z be.z) k:=λk hk=>(λh=>Or.elim h (λh=>(zall (show ∀k∈S2_1,zn B2 w0.z w0.z k from λk h=>Or.inl<|p2_1q k h) g_B) k h)<|λh=>Or.inr ⟨h,(a_.lt c6) k hk⟩)<|c7 k hk;have c9:=lt_ a2 H.s;have eI:∀k∈[J.z],¬B2 k:=(λk hk hz=>absurd (hB2w k hz)<|Nat.not_lt.2<|(m1 h3.s) k hk);exact Wr<|a_R hr (s_ e_ b_ z eF z) ⟨(cM (cM (cM (g_d (g_d (cr ([g1]++(S2_1++S2_2)) w0) h3:Chg (· ∈ ([g1]++(S2_1++S2_2))) w0 J) h2:Chg (· ∈ ([g1]++(S2_1++S2_2))) w0 cw) H (io<|b_1 sr):Chg (· ∈ ([g1]++(S2_1++S2_2))) w0 G) c5 (aa_ (io<|b_1 sr)<|aa_ (mor lr:∀k∈[w0.z],k∈([g1]++(S2_1++S2_2))∨w0.z<=k)<|aa_ (io<|a_k<|b_1 sr)<|io<|a_k<|a_k sr):Chg (· ∈ ([g1]++(S2_1++S2_2))) w0 be) hq (mor h3.s:∀k∈[J.z],k∈([g1]++(S2_1++S2_2))∨w0.z<=k):Chg (· ∈ ([g1]++(S2_1++S2_2))) w0 eE),ah,ni,cj,al,nm,cn,z,eA,repS.mono (or_ (c6.c hq (or1 c7 (ds c8) (f_a (a_m aV.lt) H.s):∀k∈Sk,k∉[J.z])) eH)<|a_M c9 hq.s,repS.mono (eB.c hq<|c_9 ((nznL eI (a_m aV.lt) H.s):∀k∈[J.z],¬(zn B2 G.z be.z) k))<|a_M c9 hq.s,ey,ez,eC.c hq<|djs bf⟩
theorem A_w0l:∀n,p_n n
  | 0=>⟨λhm=>by intros;exact nomatch (show none=some _ from hm)⟩
  | n+1=>T_w0l<|A_w0l n
theorem W_w0l:m_g (f_0 n).spec_l9Bent:=A_w0l n
def Q17 (w0:World)(g1:Nat)(B:Zone)(A0:Option Addr)(N0 C0:Nat)(x1:p_)(r:c_×Val×Str×Int×Int×Int)(v:Value)(w':World):Prop:=Cg [g1] w0 w'/\un6 (λr1 r2 r3 G H I=>∃J L O S1 a2 V W Y n3 c3,v = .tuple #[(.agg #[.slice J L O]),.agg #[vI r2.number,sl a2 V W,sl Y n3 c3],Str.v r3,vI G]/\a_ w' S1 (sl J L O) r1.rules/\inI r2.number/\repS w' (zn B w0.z w'.z) (sl a2 V W) r2.bytes/\repS w' (zn B w0.z w'.z) (sl Y n3 c3) r2.items/\r3.b.length<=LEN/\inI G/\inI H/\inI I/\Blk w' g1 [sl A0 N0 C0,vI H,vI I]/\S1.Nodup/\(∀k∈S1,w0.z<=k)) r
theorem W_w2s {x1:p_}{g1:Nat}{x2:Int}{res:c_×Val×Str×Int×Int×Int}(hm:i_6 n x1 x2=some res)(hB1:Blk w0 g1 [sl A0 N0 C0,vI x1.i,vI x1.h])(a5:B<=w0.z)(hBg:¬B g1)(cx:rp w0 B A0 N0 C0 x1.b)(cz:inI x1.i)(cA:inI x1.h)(bg:inI x2):g_ prog 34 [pt g1,vI x2] w0 (Q17 w0 g1 B A0 N0 C0 x1 res):=by
 unfold i_6 at hm;refine goG func34 z z z λfn hr=>Ws<|EvZ [sN] z c_Z z λV bh _=>EvZ [vI 0,sN,sN] z v_ z λI bi _=>Ra z<|Rw z<|Wm z ?_;obtain ⟨dp,dq,dr,dt,cB⟩:=m_ hm;refine E z (fc call61 z<|W_w2h (B:=B) dt kB kM sQ kR cz cA) ?_;rintro _ H ⟨bC,b3,b4,b5,S9,rfl,_,bD,bE,_,bF,du⟩;refine EvZ [sN] z c_Z z λg9 bj aB=>E0q [sl b3 b4 b5] f_ z z aB z λwl bG bk=>Wn<|Wq<|Wm z<|R z (a_n z z)<|Wn<|bdB cB λdv bm bn=>Wt (λa w=>∃(aC:Int)(aD:Int)(xh:List d_),Sum.inl (aC,aD,xh)=dv/\∃aa nb cc a6,Sat 115 [(0,pt g1),(1,vI x2),(4,pt w0.z),(5,pt V.z),(8,pt H.z)] a/\Chg (· ∈ ([g1]++(S9++[H.z]))) wl w/\inI aC/\inI aD/\a_ w a6 (sl aa nb cc) xh/\a6.Nodup/\(∀k∈a6,k∈S9∨wl.z<=k)/\Blk w g1 [sl A0 N0 C0,vI aC,vI aD]/\Blk w H.z [sl aa nb cc]) ?_ ?_
 .refine Wc z (λaX=>?_)<|λaX=>?_
  .refine Ws<|Rw z ?_;obtain ⟨_,cC,bo⟩:=bdS<|ifT bm aX;refine Wf (σ:=Int×Int×(List d_)) (ρ:=c_×Val×Str×Int×Int×Int) (λ(bH:Nat) s a w=>un3 (λxi xj xm=>∃ad ne cf W,Sat 115 [(0,pt g1),(1,vI x2),(4,pt w0.z),(5,pt V.z),(8,pt H.z),(9,vI ((bH:Nat):Int))] a/\Chg (· ∈ ([g1]++(S9++[H.z]))) wl w/\inI xi/\inI xj/\a_ w W (sl ad ne cf) xm/\W.Nodup/\(∀k∈W,k∈S9∨wl.z<=k)/\Blk w g1 [sl A0 N0 C0,vI xi,vI xj]/\Blk w H.z [sl ad ne cf]) s) (λs a w=>un3 (λxi xj xm=>∃ad ne cf W,Sat 115 [(0,pt g1),(1,vI x2),(4,pt w0.z),(5,pt V.z),(8,pt H.z)] a/\Chg (· ∈ ([g1]++(S9++[H.z]))) wl w/\inI xi/\inI xj/\a_ w W (sl ad ne cf) xm/\W.Nodup/\(∀k∈W,k∈S9∨wl.z<=k)/\Blk w g1 [sl A0 N0 C0,vI xi,vI xj]/\Blk w H.z [sl ad ne cf]) s) (rQ prog fn<|Q17 w0 g1 B A0 N0 C0 x1) cC ?_ ?_ ?_ ?_ ?_
   .exact λ_ q=>⟨b3,b4,b5,S9,kaA q,cr ([g1]++(S9++[H.z])) wl,bD,bE,kO,bF,sQ,kB,bG⟩
   .rintro bH ⟨xi,xj,xm⟩ _ bI _ bp ⟨ad,ne,cf,W,cD,_,a7,a8,a9,ab,bJ,aE,aF⟩ cE;refine Wu ?_ cD;refine Wq<|Wm z<|Rl z z z<|Wx z (λ_=>?_) (λhc=>(j_O bp hc).elim);refine Wk<|Wq<|Wb (Wd (X:=λk=>k∈[g1]∨bI.z<=k) 10240 (pl_ 14 [7,8,9,10,11,13]) mo (by kernel_rfl) λae fY _=>dR z z (fd Q_ z)<|dR z z (l1 U_ z (a_e sQ<|Nat.lt_of_lt_of_le aB.lt kM) kBa)<|dM z z z<|dR z z (lN (vs:=[sl ad ne cf]) h_ f_ z z (a_e sQ<|Nat.lt_of_lt_of_le aB.lt kM)<|kBr 0 1) ?_);iterate 3 refine dM z z z ?_
    refine dE z z (fS [(.tmp 33),.tmp 34,.const<|.int .i64 6,(.const<|.int .i64 9)] b_Q z z z (T_ z) (lb z)<|lb z) (.inr λ_ _ h=>a_l<|h.2.below) ?_;rintro _ b6 ⟨rfl,bK⟩;have:=bK.below;have cl:Blk b6 ae.z [vI x2,vI x2,vI 6,vI 9]:=bK.blk;have be:a_ b6 [ae.z] (sl (some ⟨ae.z,0,none⟩) 4 4) ([x2,x2,6,9]:List Int):=i_f (l:=[x2,x2,6,9]) cl (ac0 bg<|ac0 bg<|ac0 (ii z)<|ac0 (ii z) an0) z;obtain ⟨_,_,_,dw,cF⟩:=m_<|a_K cE;refine dE z z (fc call63 z<|i_U (B:=zn B ae.z b6.z) dw kB (a_1 kM lr) sQ (repS.mono kR r_) a7 a8<|or_ be<|zin (B:=B) (i:=ae.z) sQ<|a_.lt be) (.inr λ_ _ h=>a_X h.1) ?_;rintro _ _ ⟨_,rfl,dx,dy,dz,dB⟩;obtain ⟨bL,dC,dD,dF,cG⟩:=m_ cF;refine dE z z (fc call62 z<|m_7 (B:=zn B I.z bI.z) (x2:=(⟨xm⟩:c_)) dF dB (a_1 kM kM) sQ (repS.mono kR r_) dy dz (or_ kO<|zin (B:=B) (i:=I.z) sQ<|a_.lt a9) dx) (.inr λ_ _ h=>a_X h.1) ?_;rintro _ dG ⟨_,dH,dI,dJ,dK,dL,dN,dO,dP,dT,dU,dV,dW,dX,dY,dZ,e0,rfl,e1,e2,e3,_,_,_,_,e4,e5,_,e6,e7⟩;obtain ⟨cm,cn,co,cp,_,_,_,_,_,_,_,_,_,_⟩:=apQ4 e6 e7;refine dE z z (fS [(.tmp 37)] h_K z z z (T_ z) (lb z)<|lb z) (.inr λ_ _ h=>a_l<|h.2.below) ?_;rintro _ e8 ⟨rfl,bM⟩;have:=bM.below;have cq:Blk e8 dG.z (vR bL dH dI dJ dL dN dO dT dU dV dX dY dZ):=bM.blk;refine bdB cG λe9 ea cH=>dE z z (a_q (α:=d_) h_K ea z z kO ab cq (k_X (x:=bL) (S1:=dK) (S2:=dP) (S3:=dW) (S4:=e0) e1 e2 e3 kO kO kO kO) sQ<|na_ cm (na_ cn (na_ co cp sQ) sQ) sQ) (.inl z) ?_;rintro _ _ ⟨eb,bN,bO,bP,rfl,_,_,ec,_⟩;refine dR z z (fd Q_ z)<|dE0 z (fs0 (cur':=[sl bN bO bP]) z_24 z z kB z z z z) (.inl z) ?_;rintro _ _ ⟨ed,ee⟩;have:=ee.one;exact pD<|Wo<|Wg<|Rm z<|R z (inc_ bp (tl_<|ii z) z z)<|Ra z<|Wl (λ_ q=>⟨(dC,dD,e9),(som cH).symm,⟨bN,bO,bP,eb,kaA q,kW,e4,e5,kO,ec,sQ,kB,ed⟩⟩)
   .rintro ⟨xi,xj,xm⟩ _ _ ⟨ad,ne,cf,W,cI,_,a7,a8,a9,ab,bJ,aE,aF⟩;refine Wu ?_ cI;refine Wq<|Wm z<|Rl z z z<|Wx z (λhc=>(j_P hc).elim) (λ_=>?_);exact We<|λ_ q=>⟨rfl,⟨ad,ne,cf,W,kaA q,kW,a7,a8,a9,ab,sQ,aE,aF⟩⟩
   .rintro ⟨xi,xj,xm⟩ eg _ rfl ⟨ad,ne,cf,W,_,_,a7,a8,a9,ab,bJ,aE,aF⟩;have cJ:=elL bo;revert eg;exact λ_ q=>⟨xi,xj,xm,som<|a_K cJ,ad,ne,cf,W,kaA q,kW,a7,a8,a9,ab,sQ,aE,aF⟩
   rintro _ _ _ _ rfl ⟨rfl,cK⟩;have cL:=elR bo;obtain rfl:=som cL;have cM:=elR bn;obtain rfl:=som cM;exact ⟨cK,z⟩
  exact a_7<|λ_ q=>⟨dq,dr,dp.rules,som<|ifF bm aX,b3,b4,b5,S9,kaA q,cr ([g1]++(S9++[H.z])) wl,bD,bE,kO,bF,sQ,kB,bG⟩
 rintro eh L ⟨aC,aD,xh,rfl,aa,nb,cc,a6,_,bR,ei,ej,hg,ek,_,em,bS⟩;have cN:=elL bn;revert eh;refine Wo<|Wm z<|R z (lN (vs:=[sl aa nb cc]) h_ f_ z z fid<|bS.row 0 1 z)<|Rf z Q_ z<|R z (l0 U_ z<|bS.at z)<|R z (lnR Y_ z<|or_ hg<|zin (B:=B) (i:=I.z) sQ<|a_.lt hg)<|R z (sb_ z z) ?_;obtain ⟨J,_,_,en,cO⟩:=m_<|a_K cN;refine E z (fc call35 z<|m_9.run (B:=zn B I.z L.z) (x2:=(⟨xh⟩:c_)) en em (a_1 kM lr) sQ (repS.mono kR r_) ei ej (or_ hg<|zin (B:=B) (i:=I.z) sQ<|a_.lt hg) (iS _ _)<|ii z) ?_;rintro _ G ⟨bT,aw,nx,cy,b7,az,a0,a1,b8,rfl,a2,hn,ho,eo,ep,_,er,es⟩;obtain ⟨ct,cu,cw,aV,aW⟩:=z_ er es;refine EvZ [vI 0,sN,sN] z v_ z λga a3 bf=>E0q [vI J.number,sl aw nx cy,sl az a0 a1] b_ z z bf z λfZ gb a4=>Wn<|Wm z<|R z (lN (vs:=[sl aa nb cc]) h_ f_ z z fid<|kBr 0 1)<|R z (lC [vI J.number,sl aw nx cy,sl az a0 a1] e_ b_ z) ?_;obtain ⟨bU,eu,ew,ex,cP⟩:=m_ cO;refine E z (fc call37 z<|W_w1l (B:=zn B I.z G.z) (x2:=(⟨xh⟩:c_)) ex kB (a_1 kM kM) sQ (repS.mono kR r_) eo ep (repS.mono (or_ kO<|zin (B:=B) (i:=I.z) sQ<|a_.lt hg)<|a_M lr kM) a2 (repS.mono (or_ (kO (l:=J.bytes))<|zin (B:=B) (i:=L.z) sQ<|a_.lt hn)<|a_M kM lr)<|repS.mono (or_ (kO (l:=J.items))<|zin (B:=B) (i:=L.z) sQ<|a_.lt ho)<|a_M kM lr) ?_;rintro _ bV ⟨af,rfl,bW,bX,bY,bZ⟩;refine Rw z<|Wq<|Wq<|bdB cP λey bq cQ=>Wt (λa w=>∃(b9:Bool)(aG:Int)(aH:Int),(b9,aG,aH)=ey/\Sat 115 [(0,pt g1),(1,vI x2),(4,pt w0.z),(5,pt V.z),(8,pt H.z),(10,pt G.z),(11,Str.v bU),(58,vB b9)] a/\Cg [g1] bV w/\inI aG/\inI aH/\Blk w g1 [sl A0 N0 C0,vI aG,vI aH]) ?_ ?_
 .refine Wg<|Rm z<|R z (a_n z z)<|Rm z ?_;rcases bs (decide<|0<x2) with hck | hck
  .refine Rh z hck (mv z) ?_;obtain ⟨ez,eA,eB,eC,cR⟩:=m_<|ifT bq hck;refine Eg z z hck z (fc call20 z<|g_H (B:=B) eC bZ kM sQ kR bX bY<|ii z) ?_;rintro _ _ ⟨_,rfl,eD,eE,eF⟩;exact Rh z hck (not_ z)<|R z (pT z hck z)<|Wl (λ_ q=>⟨!ez,eA,eB,som cR,kaA q,kW,eD,eE,eF⟩)
  iterate 3 refine Nh z hck ?_
  exact R z (pF z hck z)<|Wl (λ_ q=>⟨false,eu,ew,som<|ifF bq hck,kaA q,cr [g1] bV,bX,bY,bZ⟩)
 rintro eG ba ⟨b9,aG,aH,rfl,_,ah,eH,eI,_⟩;revert eG;refine Wo<|bdB (a_K cQ) λeJ bt bu=>Wt (λa w=>∃(ai:Str),Sum.inl ai=eJ/\Sat 115 [(0,pt g1),(4,pt w0.z),(5,pt V.z),(8,pt H.z),(10,pt G.z),(11,Str.v ai)] a/\Below ba.z ba w/\ai.b.length<=LEN) ?_ ?_
 .refine Wc z (λaY=>?_)<|λaY=>?_
  .refine Ws<|R z (lN (vs:=[sl aa nb cc]) h_ f_ z z fid<|kBr 0 1)<|Rf z Q_ z<|R z (l0 U_ z kBa)<|R z (lnR Y_ z<|or_ kO<|zin (B:=B) (i:=I.z) sQ<|a_.lt hg)<|R z (sb_ z z)<|R z (lC [vI J.number,sl aw nx cy,sl az a0 a1] e_ b_ z)<|bdB (ifT bt aY) λ_ eK cS=>E z (fc call64 z<|W_w0f.run (B:=zn B I.z G.z) (x1:=(⟨xh⟩:c_)) eK (a_1 kM kM) (repS.mono (or_ kO<|zin (B:=B) (i:=I.z) sQ<|a_.lt hg)<|a_M lr kM) (iS _ _) a2 (repS.mono (or_ (kO (l:=J.bytes))<|zin (B:=B) (i:=L.z) sQ<|a_.lt hn)<|a_M kM lr) (repS.mono (or_ (kO (l:=J.items))<|zin (B:=B) (i:=L.z) sQ<|a_.lt ho)<|a_M kM lr)<|lb z) ?_;rintro _ aj ⟨_,aI,aJ,aK,_,rfl,ak,_,aL⟩;refine Rw z<|Ws<|Rw z<|bdB cS λ_ cT bv=>Wf (σ:=Str) (ρ:=c_×Val×Str×Int×Int×Int) (λ(al:Nat)(Y:Str) a w=>Sat 115 [(0,pt g1),(1,vI x2),(4,pt w0.z),(5,pt V.z),(8,pt H.z),(10,pt G.z),(11,Str.v Y),(12,sl aI aJ aK),(13,vI ((al:Nat):Int))] a/\Below aj.z aj w/\Y.b.length<=LEN) (λ(Y:Str) a w=>Sat 115 [(0,pt g1),(4,pt w0.z),(5,pt V.z),(8,pt H.z),(10,pt G.z),(11,Str.v Y)] a/\Below aj.z aj w/\Y.b.length<=LEN) (rQ prog fn<|Q17 w0 g1 B A0 N0 C0 x1) cT ?_ ?_ ?_ ?_ ?_
   .exact λ_ q=>⟨kaA q,br aj,bW⟩
   .rintro al Y _ bb _ bw ⟨cU,_,am⟩ cV;refine Wu ?_ cU;refine Wq<|Wm z<|Rm z<|R z (lnR a_2 z<|or_ kO<|zin (B:=B) aL<|a_.lt ak)<|Rl z z z<|Wx z (λ_=>?_) (λhc=>(Z_ bw hc).elim);refine Wk<|Wq<|Wb<|Wq<|bdB cV λeL cW cX=>Wt (λa w=>∃(aM:Int)(aN:Bool),(aM,aN)=eL/\Sat 115 [(0,pt g1),(1,vI x2),(4,pt w0.z),(5,pt V.z),(8,pt H.z),(10,pt G.z),(11,Str.v Y),(12,sl aI aJ aK),(13,vI ((al:Nat):Int)),(15,vI aM),(16,vB aN)] a/\Below bb.z bb w/\inI aM) ?_ ?_
    .refine Wd (X:=λk=>k∈([]:List Nat)∨bb.z<=k) 0 (.rd 0<|.rd 1<|.rd 2<|.rd 3<|.rd 4<|.rd 5<|.br 6 (.rd 7<|.rd 8<|.rd 9<|.rd 10<|.ef 11<|.ef 12<|.rd 13<|.rd 14 .done) 11<|.ef 6<|.rd 7<|.rd 8<|.rd 9<|.rd 10<|.ef 12<|.rd 13<|.rd 14 .done) mo (by kernel_rfl) λgc g0 _=>dR z z (lN (vs:=[sl aa nb cc]) h_ f_ z z (a_e nm0<|Nat.lt_of_lt_of_le aB.lt kM)<|kBr 0 1)<|dR z z (lN (vs:=[vI J.number,sl aw nx cy,sl az a0 a1]) e_ b_ z z (a_e nm0<|Nat.lt_of_lt_of_le bf.lt kM)<|kBr 0 3)<|dM z z z<|dM z z z<|bdB cW λ_ eM bx=>dxA (α:=Str) z z a_2 z_9 z z z (or_ kO<|zin (B:=B) aL<|a_.lt ak) eM λ_ _ _ eN eO eP=>?_;obtain ⟨rfl,c0⟩:=b_l eO;refine dR z z (l1 g_9 z (a_e nm0<|zap (a_1 kM kM) eP)<|eN.at0 z)<|b_T ?_ ?_
     .obtain ⟨eQ,eR,eS,eT,cY⟩:=m_ bx;refine dE z z (fc call38 z<|i_Y (B:=zn B I.z G.z) (x1:=(⟨xh⟩:c_)) eT (a_1 kM kM) (repS.mono (or_ kO<|zin (B:=B) (i:=I.z) sQ<|a_.lt hg)<|a_M lr kM) a2 (repS.mono (or_ (kO (l:=J.bytes))<|zin (B:=B) (i:=L.z) sQ<|a_.lt hn)<|a_M kM lr) (repS.mono (or_ (kO (l:=J.items))<|zin (B:=B) (i:=L.z) sQ<|a_.lt ho)<|a_M kM lr) c0) iB ?_;rintro _ _ ⟨_,eU,eV,eW,_,eX,eY,eZ,_,rfl,_,_,_,f0,f1,f2⟩;obtain ⟨_,_,_,_,_⟩:=z_ f1 f2;refine dM z z z ?_;iterate 3 refine dR z z (ext_ z z) ?_
      exact dNb [vI 0,sN,sN] z z v_ z λge _ cj=>dS [vI eQ.number,sl eU eV eW,sl eX eY eZ] z b_ z z cj z sQ λg2 _ _=>dQ z z z<|dQ z z z<|pD (λ_ q=>⟨eR,eS,som cY,q.k<|sc z<|sc z<|sc z<|sc z<|sc z<|sc z<|sc z<|sc z<|sc z<|sc z<|sc z sn,kW,f0⟩)
     refine dNb [vI 0,sN,sN] z z v_ z λgf _ _=>?_;obtain ⟨f3,f4,f5,f6,cZ⟩:=m_ bx;refine dE z z (fc call38 z<|i_Y (B:=zn B I.z G.z) (x1:=(⟨xh⟩:c_)) f6 (a_1 kM kM) (repS.mono (or_ kO<|zin (B:=B) (i:=I.z) sQ<|a_.lt hg)<|a_M lr kM) a2 (repS.mono (or_ (kO (l:=J.bytes))<|zin (B:=B) (i:=L.z) sQ<|a_.lt hn)<|a_M kM lr) (repS.mono (or_ (kO (l:=J.items))<|zin (B:=B) (i:=L.z) sQ<|a_.lt ho)<|a_M kM lr) c0) iB ?_;rintro _ _ ⟨_,f7,f8,f9,_,fa,fb,fe,_,rfl,_,_,_,ff,fg,fh⟩;obtain ⟨_,_,_,_,_⟩:=z_ fg fh;refine dM z z z ?_;iterate 3 refine dR z z (ext_ z z) ?_
     exact dS [vI f3.number,sl f7 f8 f9,sl fa fb fe] z b_ z z kB z sQ λg3 _ _=>dQ z z z<|dQ z z z<|pD (λ_ q=>⟨f4,f5,som cZ,q.k<|sc z<|sc z<|sc z<|sc z<|sc z<|sc z<|sc z<|sc z<|sc z<|sc z<|sc z sn,kW,ff⟩)
    rintro fi aO ⟨aM,aN,rfl,_,_,_⟩;revert fi;refine Wo<|Wq<|bdB (a_Q cX) λfj bz d0=>Wt (λa w=>∃(bc:Bool),bc=fj/\Sat 115 [(0,pt g1),(1,vI x2),(4,pt w0.z),(5,pt V.z),(8,pt H.z),(10,pt G.z),(11,Str.v Y),(12,sl aI aJ aK),(13,vI ((al:Nat):Int)),(93,vB bc)] a/\Below aO.z aO w) ?_ ?_
    .refine Wg<|RM z z ?_;rcases bs aN with O | O
     .refine Rh z O (fd Q_ z)<|Rh z O (l0 U_ z kBa)<|Rh z O (mv z)<|bdB (ifT bz O) λfk fl d1=>RXg z z O z (at_ (α:=d_) Y_ o_ z z z (or_ kO<|zin (B:=B) (i:=I.z) sQ<|a_.lt hg) fl) ?_;rintro _ ⟨_,_,_,rfl,fm,fo,_⟩;obtain ⟨_,_,_,_,_,_,_,_,_,_,_,_,rfl,_,_,_,_,_,_,_⟩:=a_G fo;exact Rh z O (fd a_F z)<|Rh z O (l0 g_3 z<|fm.at (j:=1) z)<|Rh z O (mv z)<|Rh z O (eql z z)<|R z (pT z O z)<|Wl (λ_ q=>⟨fk.kind==x2,som d1,q.k<|sc z<|sc z<|sc z<|sc z<|sc z<|sc z<|sc z<|sc z<|sc z<|sc z sn,br aO⟩)
     iterate 8 refine Nh z O ?_
     exact R z (pF z O z)<|Wl (λ_ q=>⟨false,som<|ifF bz O,q.k<|sc z<|sc z<|sc z<|sc z<|sc z<|sc z<|sc z<|sc z<|sc z<|sc z sn,br aO⟩)
    rintro fp aP ⟨bc,rfl,_,_⟩;revert fp;refine Wo<|bdB d0 λfq bA d2=>Wt (λa w=>∃(an:Str),an=fq/\Sat 115 [(0,pt g1),(1,vI x2),(4,pt w0.z),(5,pt V.z),(8,pt H.z),(10,pt G.z),(11,Str.v an),(12,sl aI aJ aK),(13,vI ((al:Nat):Int))] a/\Below aP.z aP w/\an.b.length<=LEN) ?_ ?_
    .refine Wc z (λaZ=>?_)<|λaZ=>?_
     .refine Wg<|RM z z<|bdB (ifT bA aZ) λfr fs d3=>xA (α:=Str) z a_2 z_9 z z z (or_ kO<|zin (B:=B) aL<|a_.lt ak) fs λ_ _ _ ft fu _=>?_;obtain ⟨rfl,fv⟩:=b_l fu;exact R z (l0 g_9 z<|ft.at0 z)<|Ra z<|Wl (λ_ q=>⟨fr,som d3,kaA q,br aP,fv⟩)
     exact a_7<|λ_ q=>⟨Y,som<|ifF bA aZ,kaA q,br aP,am⟩
    rintro fw _ ⟨an,rfl,_,_,fx⟩;revert fw;exact Wo<|Wg<|Rm z<|R z (inc_ bw (lt_ (a_.len ak) y_) z z)<|Ra z<|Wl (λ_ q=>⟨an,(som d2).symm,⟨kaA q,kW,fx⟩⟩)
   .rintro Y _ _ ⟨d4,fy,am⟩;refine Wu ?_ d4;refine Wq<|Wm z<|Rm z<|R z (lnR a_2 z<|or_ kO<|zin (B:=B) aL<|a_.lt ak)<|Rl z z z<|Wx z (λhc=>(a_0 hc).elim) (λ_=>?_);exact We<|λ_ q=>⟨rfl,⟨kaA q,fy,am⟩⟩
   .rintro Y fz _ rfl ⟨_,_,am⟩;have d5:=elL bv;revert fz;exact λ_ q=>⟨Y,som d5,kaA q,kW,am⟩
   rintro _ _ _ _ rfl ⟨rfl,d6⟩;have d7:=elR bv;obtain rfl:=som d7;have d8:=elR bu;obtain rfl:=som d8;exact ⟨d6,z⟩
  exact a_7<|λ_ q=>⟨bU,som<|ifF bt aY,kaA q,br ba,bW⟩
 rintro fA _ ⟨ai,rfl,_,ap,c1⟩;have d9:=elL bu;revert fA;refine Wo<|Wq<|Wm z ?_;obtain ⟨_,fB,fC,fD,da⟩:=m_ d9;refine E z (fc call20 z<|g_H (B:=B) fD kB kM sQ kR eH eI<|ii z) ?_;rintro _ ar ⟨av,rfl,c2,c3,c4⟩;refine Wn<|bdB da λfE bB db=>Wt (λa w=>∃(aQ:Int)(aR:Int)(xp:Int)(ax:Bt)(ay:List Val),(aQ,aR,xp,ax,ay)=fE/\∃aq nr cs au nt cv,Sat 115 [(4,pt w0.z),(5,pt V.z),(8,pt H.z),(10,pt G.z),(11,Str.v ai)] a/\Chg (· ∈ ([g1]++(b7++(b8++[G.z])))) ar w/\inI aQ/\inI aR/\inI xp/\repS w (zn (zn B L.z G.z) ar.z w.z) (sl aq nr cs) ax/\repS w (zn (zn B L.z G.z) ar.z w.z) (sl au nt cv) ay/\Blk w g1 [sl A0 N0 C0,vI aQ,vI aR]/\Blk w G.z [vI xp,sl aq nr cs,sl au nt cv]) ?_ ?_
 .refine Wc z (λb0=>?_)<|λb0=>?_
  .refine Wg<|Rm z<|R z (lC [vI J.number,sl aw nx cy,sl az a0 a1] e_ b_ z) ?_;have c5:=lt_ bh.size bi.size;have c6:=lt_ c5 bC.s;have c7:∀k∈[H.z],¬B k:=or0 (a_m lr)<|f_i<|zt' a5 c6;have aA:=lt_ (lt_ (lt_ c6 bj.size) bk.size) bR.s;have c8:=lt_ aA bT.s;have aS:=o0n1 aV (Blk.lt hB1) aA;have c9:=zt' a5 aA;have aT:=o0n1 aW (Blk.lt hB1) aA;have h40:=zt' a5<|lt_ (lt_ (lt_ (lt_ (lt_ (lt_ c8 a3.size) a4.size) af.s) ah.s) ap.s) av.s;obtain ⟨aU,fF,fG,fH,dc⟩:=m_<|ifT bB b0;refine E z (fc call65 z<|W_w0l.run (B:=B) (B2:=zn B L.z G.z) fH c4 h40 hBg r_ (a_1 h40<|lt_ (lt_ (lt_ (lt_ (lt_ a3.size a4.size) af.s) ah.s) ap.s) av.s) (atp ((nznL (a_m hBg) (a_m<|Blk.lt hB1) aA):∀k∈[g1],¬(zn B L.z G.z) k)) (cx.g<|((((((((((((bh.ag B).e bi).c bC<|c_9<|a_m hBg).e bj).c bk<|c_9 c7).c bR<|nmA (c_9<|a_m hBg)<|nmA (c_9 (or0 du (f_i<|zt' a5 c5):∀k∈S9,¬B k))<|c_9 c7).c bT<|c_9<|a_m hBg).e a3).c a4<|c_9 (or0 (a_m lr) (f_i<|zt' a5 c8):∀k∈[G.z],¬B k)).c af<|c_9<|a_m hBg).c ah<|c_9<|a_m hBg).e ap).c av<|c_9<|a_m hBg) c2 c3 a2 ((((((hn.e a3).c a4<|ds<|mnr<|a_.lt hn).c af aS).c ah aS).e ap).c av aS) ct (or0 aV (f_i c9):∀k∈b7,¬B k) (zin (B:=B) aV<|a_.lt hn) aS ((((((ho.e a3).c a4<|ds<|mnr<|a_.lt ho).c af aT).c ah aT).e ap).c av aT) cu (or0 aW (f_i c9):∀k∈b8,¬B k) (zin (B:=B) aW<|a_.lt ho) (ds cw) aT) ?_;rintro _ _ ⟨_,ca,cb,cd,ce,cg,ch,rfl,fI,_,_,fJ,fK,_⟩;exact E0q [vI aU.number,sl ca cb cd,sl ce cg ch] b_ z z kB z λg4 fL _=>Wl<|λ_ q=>⟨fF,fG,aU.number,aU.bytes,aU.items,som dc,ca,cb,cd,ce,cg,ch,kaA q,kW,fJ,fK,fI,repS.mono kR<|zns (zns (zt r_<|r_)<|znD<|znI lr lr)<|znI lr kM,repS.mono kR<|zns (zns (zt r_<|r_)<|znD<|znI lr lr)<|znI lr kM,kB,fL⟩
  exact a_7<|λ_ q=>⟨fB,fC,J.number,J.bytes,J.items,som<|ifF bB b0,aw,nx,cy,az,a0,a1,kaA q,cr ([g1]++(b7++(b8++[G.z]))) ar,c2,c3,a2,repS.mono (or_ kO<|zin (B:=B) (i:=L.z) sQ<|a_.lt hn)<|zns (zt r_<|r_)<|znD<|znI lr lr,repS.mono (or_ kO<|zin (B:=B) (i:=L.z) sQ<|a_.lt ho)<|zns (zt r_<|r_)<|znD<|znI lr lr,c4,kB⟩
 rintro fM fN ⟨aQ,aR,xp,ax,ay,rfl,aq,nr,cs,au,nt,cv,_,_,fO,fP,ci,fQ,fR,_,fT⟩;revert fM;refine Wo<|Ws<|R z (lN (vs:=[sl aa nb cc]) h_ f_ z z fid<|kBr 0 1)<|R z (lN (vs:=[vI xp,sl aq nr cs,sl au nt cv]) e_ b_ z z fid<|fT.row 0 3 z)<|Rm z ?_;obtain ⟨fU,_,_,fV,dd⟩:=m_<|c_7 db;refine E z (fc call38 z<|i_Y (B:=zn (zn B I.z G.z) ar.z fN.z) (x1:=(⟨xh⟩:c_)) (x2:=(⟨xp,ax,ay⟩:Val)) fV (a_1 (a_1 kM kM) lr) (repS.mono (or_ kO<|zin (B:=B) (i:=I.z) sQ<|a_.lt hg)<|zns (zt r_<|r_)<|znD<|znI lr kM) ci (repS.mono fQ<|zns (zns (zt r_<|r_)<|znD<|znI kM lr)<|znI lr lr) (repS.mono fR<|zns (zns (zt r_<|r_)<|znD<|znI kM lr)<|znI lr lr) c1) ?_;rintro _ _ ⟨_,fW,fX,de,_,df,dg,dh,_,rfl,_,_,_,di,dj,dk⟩;obtain ⟨_,_,_,_,_⟩:=z_ dj dk;refine Rm z ?_;iterate 3 refine Re z z z ?_
 refine EvZ [vI 0,sN,sN] z v_ z λg5 _ ck=>E0q [vI fU.number,sl fW fX de,sl df dg dh] b_ z z ck z λg6 _ _=>Ra z<|Rw z<|Wq (Wd (X:=(· ∈ ([w0.z]++[V.z]))) 0 (pl_ 8 [4,5]) mo (by kernel_rfl) λg7 g8 _=>dR z z (lN (vs:=[sl aa nb cc]) h_ f_ z z sQ<|kBr 0 1)<|dR z z (lN (vs:=[vI xp,sl aq nr cs,sl au nt cv]) e_ b_ z z sQ<|kBr 0 3)<|dM z z z<|dM z z z<|dE0 z (fs0 (cur':=[sl aa nb cc]) f_ z z kB z z z z) (.inr λ_ _ h=>e_n (List.mem_append_left _<|List.mem_singleton.2 rfl) h.2) ?_);rintro _ _ ⟨_,dl⟩;have:=dl.one;refine dE0 z (fs0 (cur':=[vI xp,sl aq nr cs,sl au nt cv]) b_ z z kB z z z z) (.inr λ_ _ h=>e_n (List.mem_append_right _<|List.mem_singleton.2 rfl) h.2) ?_;rintro _ _ ⟨dm,dn⟩;have:=dn.one;refine dQ z z z<|dQ z z z<|pD<|Wo ?_;obtain rfl:=som dd;exact Wr<|ret4 hr (s_ h_ f_ z kB z) (s_ e_ b_ z dm z) z z ⟨kW,aa,nb,cc,a6,aq,nr,cs,au,nt,cv,z,kO,ci,repS.mono (kR (l:=ax))<|zns (zns r_<|znI kM kM)<|znI kM kM,repS.mono (kR (l:=ay))<|zns (zns r_<|znI kM kM)<|znI kM kM,c1,di,fO,fP,kB,ek,sQ⟩
structure m_h (f:c_->Int->Val->(List Str)->Val->Option Val):Prop where
  run:∀{A0 A8 A4 AM AK AL:Option Addr}{N0 C0 N8 C8 N4 C4 NM CM NK CK NL CL:Nat}{B:Zone}{x1:c_}{x2:Int}{x3:Val}{x4:List Str}{x5:Val}{res:Val}{w0:World}(hm:f x1 x2 x3 x4 x5=some res)(hBw:B<=w0.z)(p1_0:rp w0 B A0 N0 C0 x1.rules)(p2_0:inI x2)(p3_0:inI x3.number)(p3_1:rp w0 B A8 N8 C8 x3.bytes)(p3_2:rp w0 B A4 N4 C4 x3.items)(p4_0:rp w0 B AM NM CM x4)(p5_0:inI x5.number)(p5_1:rp w0 B AK NK CK x5.bytes)(p5_2:rp w0 B AL NL CL x5.items),g_ prog 57 [(.agg #[sl A0 N0 C0]),vI x2,.agg #[vI x3.number,sl A8 N8 C8,sl A4 N4 C4],sl AM NM CM,(.agg #[vI x5.number,sl AK NK CK,sl AL NL CL])] w0<|Q14 w0 B res
abbrev p_o (n:Nat):Prop:=m_h (f_j n).spec_l22Put
end Go.Vw
