
import Derived.Test.YtdcjkhfonojjiaaGreatDoorVwPW2
set_option linter.unusedVariables false
namespace Go.Vw
open Go.RowKit Dat Go.Proofs
open Go.Proofs.Tryz
open Go.Vw renaming a_S->Wq,b_m->Wg,WC.of_KC->Wo,a_T->Wl,c_R->Wc,e_6->Wr,h_E->Wu,j_9->pT,j_a->pF,h_K->fd,c_r->l1,j_n->lN,b_S->mv,d_H->asg,h_x->lnR,f_Z->lss,h_P->eql,h_L->ext_,j_c->bP,h_M->add_,h_u->inc_,f_6->not_,h_y->at_,f_I->fc,b_E->fs,f_H->fb,e_Q->fa,j_3->sr,j_7->cr,j_8->cM,d_A->bM,i_V->iS,i_U->iA,h_t->br,b_O->oA,i_Z->bs,ltge->lg,inor->io,h_Q->nq,j_o->lnT,j_p->sb_,j_1->ar_,j_0->al_,j_2->ds,k_N->m1,j_5->nr_,j_4->nl_,h_w->aa_,all_nil->an_,e_7->Wb,h_v->u8,i_N->pD,h_o->We,i_X->Wt,h_q->fS,f_G->or_,j_l->Wf,j_g->qL,i_M->Wd,j_d->fN,f_L->na_,j_6->nj,f_P->f0,j_b->rX,j_e->tl_,j_f->ic
variable {A0:Option Addr}{N0 C0:Nat}{B:Zone}{w0:World}{AD:Option Addr}{AC:Option Addr}{AE:Option Addr}{AF:Option Addr}{ND CD:Nat}{NC CC:Nat}{NE CE:Nat}{NF CF:Nat}{A2:Option Addr}{A3:Option Addr}{A1:Option Addr}{A4:Option Addr}{N2 C2:Nat}{N3 C3:Nat}{N1 C1:Nat}{N4 C4:Nat}{A9:Option Addr}{N9 C9:Nat}{A7:Option Addr}{N7 C7:Nat}{n:Nat}{A6:Option Addr}{A5:Option Addr}{N6 C6:Nat}{N5 C5:Nat}{AA:Option Addr}{AB:Option Addr}{NA CA:Nat}{NB CB:Nat}{AK:Option Addr}{NK CK:Nat}{A8:Option Addr}{N8 C8:Nat}
theorem T_w0d (iq:n_3 n):k_y (e_h n<|d_G n):=by
 constructor
 intro A8 AG N8 C8 NG CG B x1 res w0 hm aT O Y aD;unfold e_h at hm
 refine goG func71 z z z fun fn hr=>Ws<|E z (fb z) ?_
 rintro _ a4 ⟨rfl,dc⟩;have a5:=dc.below;have ax:Blk a4 w0.z [vI x1.number,sl A8 N8 C8,sl AG NG CG]:=dc.blk;refine E z (fa O_) ?_;rintro _ I ⟨rfl,dd⟩;have hh:=dd.below;have ay:Blk I a4.z [vI 0,sl none 0 0,sl none 0 0]:=dd.blk;refine Wn<|Wq ?_
 obtain ⟨ir,hur,gf⟩:=bdS hm;refine Wt (fun a w=>∃(xi:Int)(aU:List UInt8)(aV:List Val),(xi,aU,aV)=ir/\∃aj nk cl Sx aE aF aG S3 g1,Sat 33 [(1,pt w0.z),(2,pt a4.z),(3,pt g1)] a/\Below I.z I w/\inI xi/\a_ w Sx (sl aj nk cl) aU/\Sx.Nodup/\(∀k∈Sx,I.z<=k)/\a_ w S3 (sl aE aF aG) aV/\S3.Nodup/\(∀k∈S3,I.z<=k)/\(∀k∈S3,k∉Sx)/\Blk w g1 [vI xi,sl aj nk cl,sl aE aF aG]/\I.z<=g1/\(∀k∈Sx,k∉[g1])/\(∀k∈S3,k∉[g1])) ?_ ?_
 ·refine Wd (X:=fun k=>k∈([]:List Nat)∨I.z<=k) 4096 (.rd 0<|.rd 1<|.rd 3<|.rd 4<|.rd 6<|.rd 7<|.rd 8<|.br3 2 (.br3 5 (.br 9 (.rd 10<|.ef 11<|.ef 12 .done) 11<|.ef 9<|.rd 10<|.ef 12 .done) 9 (.br 5 (.rd 10<|.ef 11<|.ef 12 .done) 11<|.ef 5<|.rd 10<|.ef 12 .done) 11<|.br 5 (.ef 9<|.rd 10<|.ef 12 .done) 9<|.ef 5<|.rd 10<|.ef 12 .done) 9 (.br 2 (.br 5 (.rd 10<|.ef 11<|.ef 12 .done) 11<|.ef 5<|.rd 10<|.ef 12 .done) 11<|.ef 2<|.ef 5<|.rd 10<|.ef 12 .done) 11<|.br 2 (.br 5 (.ef 9<|.rd 10<|.ef 12 .done) 9<|.ef 5<|.rd 10<|.ef 12 .done) 9<|.ef 2<|.ef 5<|.rd 10<|.ef 12 .done) mo (by kernel_rfl) fun L G _=>dR z z (fd a_v z) ?_
  have aW:=(ax.e hh).e G;refine dR z z (l1 g_3 z (c_o nm0<|Nat.lt_of_lt_of_le ax.lt hh.s)<|aW.at z)<|dR z z (fd a_Q z)<|dR z z (l1 U_ z (c_o nm0<|Nat.lt_of_lt_of_le ax.lt hh.s)<|aW.at z)<|dR z z (fd F_ z)<|dR z z (l1 I_ z (c_o nm0<|Nat.lt_of_lt_of_le ax.lt hh.s)<|aW.at z) ?_
  have V:=((a5.ag B).e hh).e G;refine dR z z (lnR K_ z<|aD.g V)<|l_1 ?_ ?_ ?_
  ·refine dE z z (f0 (α:=UInt8) a_b) (.inr fun _ _ h=>j_ (by obtain ⟨_,_,_,_,h,_⟩:=h;exact h)) ?_;rintro _ wy ⟨_,_,_,rfl,s6,hg⟩;refine l_1 ?_ ?_ ?_
   ·obtain ⟨de,it,d8⟩:=bdS hur;refine dE z z (fN (α:=UInt8) a_b it z z hg R_<|Y.g<|V.e s6) (.inr fun _ _ h=>by obtain ⟨_,_,_,_,_,h,_⟩:=h;exact h.mono fun k _ hk=>(mor G.s:∀k∈[L.z],k∈([]:List Nat)∨I.z<=k) k hk) ?_;rintro _ aX ⟨df,a6,a7,a8,rfl,aH,a9,dg,dh⟩;refine b_D ?_ ?_
    ·obtain ⟨_,iu,fO⟩:=bdS d8;refine dE z z (c_G (α:=Val) b_o iu z z) (.inr fun _ _ h=>j_ (by obtain ⟨_,_,_,_,h,_⟩:=h;exact h)) ?_;rintro _ di ⟨aY,aZ,b0,rfl,aI,dj⟩;refine dR z z (bP (parts:=[(0,.tmp 7),(1,.tmp 11),(2,.tmp 15)]) (cs:=[vI x1.number,sl a6 a7 a8,sl aY aZ b0]) E_ z z)<|dE z z (fa O_) (.inr fun _ _ h=>j_<|h.2.below) ?_
     rintro _ gg ⟨rfl,dk⟩;have b3:=dk.below;have dl:=lt_ G.s s6.s;have dm:=lt_ dl aH.s;have b4:=m1<|lt_ dm aI.s
     refine dE0 z (fs0 (cur':=[vI x1.number,sl a6 a7 a8,sl aY aZ b0]) c_ z z (dk.blk:Blk gg di.z [vI 0,sl none 0 0,sl none 0 0]) z z z z) (.inr fun _ _ h=>a_O (atp b4) h.2) ?_;rintro _ _ ⟨gh,gi⟩;have b5:=gi.one;refine pD ?_;have dn:=mno (a_.lt a9) aI.s;have dp:=m1 G.s;have dq:=mnr<|a_.lt dj
     exact fun _ q=>⟨x1.number,de,([]:List Val),som fO,a6,a7,a8,df,aY,aZ,b0,[aX.z],di.z,q.k<|s3 z z z,bM (bup (bup (bM (bup G s6) aH dp) aI) b3) b5 b4,O,((a9.e aI).e b3).c b5<|ds dn,dg,a_o dh dp dl,(dj.e b3).c b5<|ds dq,R_,m1 dm,mnr<|a_.lt a9,gh,atp b4,ds dn,ds dq⟩
    refine dE z z (fa O_) (.inr fun _ _ h=>j_<|h.2.below) ?_;rintro _ dr ⟨rfl,dt⟩;have aJ:=dt.below;have du:Blk dr aX.z [vI 0,sl none 0 0,sl none 0 0]:=dt.blk;obtain ⟨_,gj,fP⟩:=bdS d8;refine dE z z (c_G (α:=Val) b_o gj z z) (.inr fun _ _ h=>j_ (by obtain ⟨_,_,_,_,h,_⟩:=h;exact h)) ?_;rintro _ _ ⟨b6,b7,b8,rfl,b9,gk⟩;refine dR z z (bP (parts:=[(0,.tmp 7),(1,.tmp 11),(2,.tmp 15)]) (cs:=[vI x1.number,sl a6 a7 a8,sl b6 b7 b8]) E_ z z) ?_;have dv:=lt_ G.s s6.s;have dw:=lt_ dv aH.s;have ba:=m1 dw;refine dE0 z (fs0 (cur':=[vI x1.number,sl a6 a7 a8,sl b6 b7 b8]) c_ z z (du.e b9) z z z z) (.inr fun _ _ h=>a_O (atp ba) h.2) ?_;rintro _ _ ⟨gl,gm⟩;have bb:=gm.one;refine pD ?_;have dx:=mnr<|a_.lt a9
    have dy:=m1 G.s;have dz:=mmr du.lt;exact fun _ q=>⟨x1.number,de,([]:List Val),som fP,a6,a7,a8,df,b6,b7,b8,[dr.z],aX.z,q.k<|s3 z z z,bM (bup (bup (bM (bup G s6) aH dy) aJ) b9) bb ba,O,((a9.e aJ).e b9).c bb<|ds dx,dg,a_o dh dy dv,gk.c bb dz,R_,m1<|lt_ dw aJ.s,mno (a_.lt a9) aJ.s,gl,atp ba,ds dx,dz⟩
   ·obtain ⟨dA,dB,fQ⟩:=bdS hur;obtain ⟨_,gn,d9⟩:=bdS fQ;refine dE z z (c_G (α:=Val) b_o gn z z) (.inr fun _ _ h=>j_ (by obtain ⟨_,_,_,_,h,_⟩:=h;exact h)) ?_;rintro _ bc ⟨aa,ab,ae,rfl,sm,af⟩;refine b_D ?_ ?_
    ·have gp:∀k∈[L.z],k∈([]:List Nat)∨I.z<=k:=mor G.s;refine dE z z (fN (α:=UInt8) a_b dB z z (hg.e sm) R_<|Y.g<|(V.e s6).e sm) (.inr fun _ _ h=>by obtain ⟨_,_,_,_,_,h,_⟩:=h;exact h.mono fun k _ hk=>gp k hk) ?_;rintro _ dC ⟨gq,be,bf,bg,rfl,aK,dD,gr,dF⟩;refine dR z z (bP (parts:=[(0,.tmp 7),(1,.tmp 11),(2,.tmp 15)]) (cs:=[vI x1.number,sl be bf bg,sl aa ab ae]) E_ z z)<|dE z z (fa O_) (.inr fun _ _ h=>j_<|h.2.below) ?_
     rintro _ gs ⟨rfl,dG⟩;have bh:=dG.below;have dH:=lt_ G.s s6.s;have dI:=lt_ dH sm.s;have bi:=m1<|lt_ dI aK.s
     refine dE0 z (fs0 (cur':=[vI x1.number,sl be bf bg,sl aa ab ae]) c_ z z (dG.blk:Blk gs dC.z [vI 0,sl none 0 0,sl none 0 0]) z z z z) (.inr fun _ _ h=>a_O (atp bi) h.2) ?_;rintro _ _ ⟨gt,gu⟩;have bj:=gu.one;refine pD ?_;have dJ:=mnr<|a_.lt dD
     have dK:=m1 G.s;have dL:=mnr<|a_.lt hg
     have dN:=mno (a_.lt af) aK.s;exact fun _ q=>⟨x1.number,dA,([]:List Val),som d9,be,bf,bg,gq,aa,ab,ae,[wy.z],dC.z,q.k<|s3 z z z,bM (bup (bM (bup (bup G s6) sm) aK dK) bh) bj bi,O,(dD.e bh).c bj<|ds dJ,gr,a_o dF dK dI,((af.c aK dL).e bh).c bj<|ds dN,R_,m1 dH,ds<|c_z dF (ds dL) (a_.lt af) lr,gt,atp bi,ds dJ,ds dN⟩
    refine dE z z (fa O_) (.inr fun _ _ h=>j_<|h.2.below) ?_;rintro _ gv ⟨rfl,dO⟩;have ah:=dO.below;have dP:Blk gv bc.z [vI 0,sl none 0 0,sl none 0 0]:=dO.blk;refine dE z z (fN (α:=UInt8) a_b dB z z ((hg.e sm).e ah) R_<|Y.g<|((V.e s6).e sm).e ah) (.inr fun _ _ h=>by obtain ⟨_,_,_,_,_,h,_⟩:=h;exact h.mono fun k _ hk=>(mor G.s:∀k∈[L.z],k∈([]:List Nat)∨I.z<=k) k hk) ?_;rintro _ _ ⟨dS,bk,bm,bn,rfl,bo,gw,gx,bp⟩;refine dR z z (bP (parts:=[(0,.tmp 7),(1,.tmp 11),(2,.tmp 15)]) (cs:=[vI x1.number,sl bk bm bn,sl aa ab ae]) E_ z z) ?_;have dT:=mno (a_.lt hg) sm.s;have dU:=lt_ G.s s6.s;have dV:=lt_ dU sm.s;have bq:=m1 dV;refine dE0 z (fs0 (cur':=[vI x1.number,sl bk bm bn,sl aa ab ae]) c_ z z (dP.c bo<|atp dT) z z z z) (.inr fun _ _ h=>a_O (atp bq) h.2) ?_;rintro _ _ ⟨gy,gz⟩;have bs:=gz.one;refine pD ?_;have dW:∀k∈dS,k∉[bc.z]:=or1 bp (ds dT)<|a_9 (f_ dP.lt) lr;have dX:=m1 G.s;have dY:=mnr<|a_.lt hg
    have dZ:=mnr<|a_.lt af
    exact fun _ q=>⟨x1.number,dA,([]:List Val),som d9,bk,bm,bn,dS,aa,ab,ae,[wy.z],bc.z,q.k<|s3 z z z,bM (bM (bup (bup (bup G s6) sm) ah) bo dX) bs bq,O,gw.c bs dW,gx,a_o bp dX<|lt_ dV ah.s,((af.e ah).c bo dY).c bs<|ds dZ,R_,m1 dU,ds<|c_z bp (ds dY) (a_.lt af) ah.s,gy,atp bq,dW,ds dZ⟩
   refine dE z z (fa O_) (.inr fun _ _ h=>j_<|h.2.below) ?_;rintro _ e0 ⟨rfl,e1⟩;have hn:=e1.below;have ai:Blk e0 wy.z [vI 0,sl none 0 0,sl none 0 0]:=e1.blk;refine b_D ?_ ?_
   ·obtain ⟨gA,gB,fR⟩:=bdS hur;refine dE z z (fN (α:=UInt8) a_b gB z z (hg.e hn) R_<|Y.g<|(V.e s6).e hn) (.inr fun _ _ h=>by obtain ⟨_,_,_,_,_,h,_⟩:=h;exact h.mono fun k _ hk=>(mor G.s:∀k∈[L.z],k∈([]:List Nat)∨I.z<=k) k hk) ?_;rintro _ gC ⟨e2,bt,bu,bv,rfl,aL,e3,gD,e4⟩;obtain ⟨_,gE,fT⟩:=bdS fR;refine dE z z (c_G (α:=Val) b_o gE z z) (.inr fun _ _ h=>j_ (by obtain ⟨_,_,_,_,h,_⟩:=h;exact h)) ?_;rintro _ _ ⟨bw,bx,bz,rfl,bA,gF⟩;refine dR z z (bP (parts:=[(0,.tmp 7),(1,.tmp 11),(2,.tmp 15)]) (cs:=[vI x1.number,sl bt bu bv,sl bw bx bz]) E_ z z) ?_;have e5:=mnr<|a_.lt hg
    have e6:=lt_ G.s s6.s;have bB:=m1 e6;refine dE0 z (fs0 (cur':=[vI x1.number,sl bt bu bv,sl bw bx bz]) c_ z z ((ai.c aL<|atp e5).e bA) z z z z) (.inr fun _ _ h=>a_O (atp bB) h.2) ?_;rintro _ _ ⟨gG,gH⟩;have bC:=gH.one;refine pD ?_;have e7:∀k∈e2,k∉[wy.z]:=or1 e4 (ds e5)<|a_9 (f_ ai.lt) lr;have e8:=lt_ e6 hn.s;have e9:=m1 G.s;have ea:=mm1 ai.lt aL.s;exact fun _ q=>⟨x1.number,gA,([]:List Val),som fT,bt,bu,bv,e2,bw,bx,bz,[gC.z],wy.z,q.k<|s3 z z z,bM (bup (bM (bup (bup G s6) hn) aL e9) bA) bC bB,O,(e3.e bA).c bC e7,gD,a_o e4 e9 e8,gF.c bC ea,R_,m1<|lt_ e8 aL.s,mnr<|a_.lt e3,gG,atp bB,e7,ea⟩
   obtain ⟨gI,gJ,fU⟩:=bdS hur;obtain ⟨_,gK,fV⟩:=bdS fU;refine dE z z (c_G (α:=Val) b_o gK z z) (.inr fun _ _ h=>j_ (by obtain ⟨_,_,_,_,h,_⟩:=h;exact h)) ?_;rintro _ _ ⟨bD,bE,bF,rfl,ak,eb⟩;refine dE z z (fN (α:=UInt8) a_b gJ z z ((hg.e hn).e ak) R_<|Y.g<|((V.e s6).e hn).e ak) (.inr fun _ _ h=>by obtain ⟨_,_,_,_,_,h,_⟩:=h;exact h.mono fun k _ hk=>(mor G.s:∀k∈[L.z],k∈([]:List Nat)∨I.z<=k) k hk) ?_;rintro _ _ ⟨ec,bG,bH,bI,rfl,bJ,gL,gM,bK⟩;refine dR z z (bP (parts:=[(0,.tmp 7),(1,.tmp 11),(2,.tmp 15)]) (cs:=[vI x1.number,sl bG bH bI,sl bD bE bF]) E_ z z) ?_;have ed:=mnr<|a_.lt hg
   have ee:=lt_ G.s s6.s;have bL:=m1 ee;refine dE0 z (fs0 (cur':=[vI x1.number,sl bG bH bI,sl bD bE bF]) c_ z z ((ai.e ak).c bJ<|atp ed) z z z z) (.inr fun _ _ h=>a_O (atp bL) h.2) ?_;rintro _ _ ⟨gN,gO⟩;have bN:=gO.one;refine pD ?_;have eg:∀k∈ec,k∉[wy.z]:=or1 bK (ds ed)<|a_9 (f_ ai.lt) ak.s;have eh:=lt_ ee hn.s;have ei:=m1 G.s;have ej:=mno (a_.lt hg) hn.s;have ek:=mmr ai.lt;exact fun _ q=>⟨x1.number,gI,([]:List Val),som fV,bG,bH,bI,ec,bD,bE,bF,[e0.z],wy.z,q.k<|s3 z z z,bM (bM (bup (bup (bup G s6) hn) ak) bJ ei) bN bL,O,gL.c bN eg,gM,a_o bK ei<|lt_ eh ak.s,(eb.c bJ ej).c bN ek,R_,m1 eh,ds<|c_z bK (ds ej) (a_.lt eb) lr,gN,atp bL,eg,ek⟩
  ·obtain ⟨bO,bQ,fW⟩:=bdS hur;obtain ⟨_,gP,aS⟩:=bdS fW;refine dE z z (c_G (α:=Val) b_o gP z z) (.inr fun _ _ h=>j_ (by obtain ⟨_,_,_,_,h,_⟩:=h;exact h)) ?_;rintro _ az ⟨ao,np,cq,rfl,ss,W⟩;refine b_D ?_ ?_
   ·refine dE z z (f0 (α:=UInt8) a_b) (.inr fun _ _ h=>j_ (by obtain ⟨_,_,_,_,h,_⟩:=h;exact h)) ?_;rintro _ bR ⟨_,_,_,rfl,sa,bS⟩;refine b_D ?_ ?_
    ·have bT:=lt_ G.s ss.s;refine dE z z (fN (α:=UInt8) a_b bQ z z bS R_<|Y.g<|(V.e ss).e sa) (.inr fun _ _ h=>by obtain ⟨_,_,_,_,_,h,_⟩:=h;exact h.mono fun k _ hk=>(mor bT:∀k∈[az.z],k∈([]:List Nat)∨I.z<=k) k hk) ?_;rintro _ em ⟨gQ,bU,bV,bW,rfl,aM,en,gR,eo⟩;refine dR z z (bP (parts:=[(0,.tmp 7),(1,.tmp 11),(2,.tmp 15)]) (cs:=[vI x1.number,sl bU bV bW,sl ao np cq]) E_ z z)<|dE z z (fa O_) (.inr fun _ _ h=>j_<|h.2.below) ?_
     rintro _ gS ⟨rfl,ep⟩;have bX:=ep.below;have er:=lt_ bT sa.s;have bY:=m1<|lt_ er aM.s
     refine dE0 z (fs0 (cur':=[vI x1.number,sl bU bV bW,sl ao np cq]) c_ z z (ep.blk:Blk gS em.z [vI 0,sl none 0 0,sl none 0 0]) z z z z) (.inr fun _ _ h=>a_O (atp bY) h.2) ?_;rintro _ _ ⟨gT,gU⟩;have bZ:=gU.one;refine pD ?_;have es:=mnr<|a_.lt en
     have eu:=m1 bT;have ew:=mnr<|a_.lt W
     have ex:=mno (a_.lt W)<|lt_ sa.s aM.s
     exact fun _ q=>⟨x1.number,bO,([]:List Val),som aS,bU,bV,bW,gQ,ao,np,cq,[L.z],em.z,q.k<|s3 z z z,bM (bup (bM (bup (bup G ss) sa) aM eu) bX) bZ bY,O,(en.e bX).c bZ<|ds es,gR,a_o eo eu er,(((W.e sa).c aM<|ds ew).e bX).c bZ<|ds ex,R_,m1 G.s,ds<|c_z eo ew (a_.lt W) sa.s,gT,atp bY,ds es,ds ex⟩
    refine dE z z (fa O_) (.inr fun _ _ h=>j_<|h.2.below) ?_;rintro _ gV ⟨rfl,ey⟩;have al:=ey.below;have ez:Blk gV bR.z [vI 0,sl none 0 0,sl none 0 0]:=ey.blk;have c0:=lt_ G.s ss.s;refine dE z z (fN (α:=UInt8) a_b bQ z z (bS.e al) R_<|Y.g<|((V.e ss).e sa).e al) (.inr fun _ _ h=>by obtain ⟨_,_,_,_,_,h,_⟩:=h;exact h.mono fun k _ hk=>(mor c0:∀k∈[az.z],k∈([]:List Nat)∨I.z<=k) k hk) ?_;rintro _ _ ⟨eA,c1,c2,c3,rfl,c4,gW,gX,c5⟩;refine dR z z (bP (parts:=[(0,.tmp 7),(1,.tmp 11),(2,.tmp 15)]) (cs:=[vI x1.number,sl c1 c2 c3,sl ao np cq]) E_ z z) ?_;have eB:=mnr<|a_.lt bS
    have eC:=lt_ c0 sa.s;have c6:=m1 eC;refine dE0 z (fs0 (cur':=[vI x1.number,sl c1 c2 c3,sl ao np cq]) c_ z z (ez.c c4<|atp eB) z z z z) (.inr fun _ _ h=>a_O (atp c6) h.2) ?_;rintro _ _ ⟨gY,gZ⟩;have c7:=gZ.one;refine pD ?_;have eD:∀k∈eA,k∉[bR.z]:=or1 c5 (ds eB)<|a_9 (f_ ez.lt) lr;have eE:=m1 c0;have eF:=mnr<|a_.lt W
    have eG:=mno (a_.lt W) sa.s;exact fun _ q=>⟨x1.number,bO,([]:List Val),som aS,c1,c2,c3,eA,ao,np,cq,[L.z],bR.z,q.k<|s3 z z z,bM (bM (bup (bup (bup G ss) sa) al) c4 eE) c7 c6,O,gW.c c7 eD,gX,a_o c5 eE<|lt_ eC al.s,(((W.e sa).e al).c c4<|ds eF).c c7<|ds eG,R_,m1 G.s,ds<|c_z c5 eF (a_.lt W)<|lt_ sa.s al.s,gY,atp c6,eD,ds eG⟩
   refine dE z z (fa O_) (.inr fun _ _ h=>j_<|h.2.below) ?_;rintro _ eH ⟨rfl,eI⟩;have am:=eI.below;have c8:Blk eH az.z [vI 0,sl none 0 0,sl none 0 0]:=eI.blk;refine dE z z (f0 (α:=UInt8) a_b) (.inr fun _ _ h=>j_ (by obtain ⟨_,_,_,_,h,_⟩:=h;exact h)) ?_;rintro _ _ ⟨_,_,_,rfl,sz,h0⟩;have eJ:=lt_ G.s ss.s;have c9:=lt_ eJ am.s;refine dE z z (fN (α:=UInt8) a_b bQ z z h0 R_<|Y.g<|((V.e ss).e am).e sz) (.inr fun _ _ h=>by obtain ⟨_,_,_,_,_,h,_⟩:=h;exact h.mono fun k _ hk=>(mor c9:∀k∈[eH.z],k∈([]:List Nat)∨I.z<=k) k hk) ?_;rintro _ _ ⟨eK,ca,cb,cc,rfl,cd,h1,h2,ce⟩;refine dR z z (bP (parts:=[(0,.tmp 7),(1,.tmp 11),(2,.tmp 15)]) (cs:=[vI x1.number,sl ca cb cc,sl ao np cq]) E_ z z) ?_;have eL:=mmr c8.lt;have cg:=m1 eJ;refine dE0 z (fs0 (cur':=[vI x1.number,sl ca cb cc,sl ao np cq]) c_ z z ((c8.e sz).c cd<|djs eL) z z z z) (.inr fun _ _ h=>a_O (atp cg) h.2) ?_;rintro _ _ ⟨h3,h4⟩;have ch:=h4.one;refine pD ?_;have eM:∀k∈eK,k∉[az.z]:=or1 ce eL<|a_9 (f_ c8.lt) sz.s;have eN:=m1 c9;have eO:=mno (a_.lt W) am.s;have eP:=mnr<|a_.lt W
   exact fun _ q=>⟨x1.number,bO,([]:List Val),som aS,ca,cb,cc,eK,ao,np,cq,[L.z],az.z,q.k<|s3 z z z,bM (bM (bup (bup (bup G ss) am) sz) cd eN) ch cg,O,h1.c ch eM,h2,a_o ce eN<|lt_ c9 sz.s,(((W.e am).e sz).c cd<|ds eO).c ch<|ds eP,R_,m1 G.s,ds<|c_z ce eO (a_.lt W)<|lt_ am.s sz.s,h3,atp cg,eM,ds eP⟩
  refine dE z z (fa O_) (.inr fun _ _ h=>j_<|h.2.below) ?_;rintro _ aN ⟨rfl,eQ⟩;have ht:=eQ.below;have hb:Blk aN L.z [vI 0,sl none 0 0,sl none 0 0]:=eQ.blk;refine b_D ?_ ?_
  ·refine dE z z (f0 (α:=UInt8) a_b) (.inr fun _ _ h=>j_ (by obtain ⟨_,_,_,_,h,_⟩:=h;exact h)) ?_;rintro _ h5 ⟨_,_,_,rfl,sc,ci⟩;refine b_D ?_ ?_
   ·obtain ⟨h6,h7,fX⟩:=bdS hur;have cj:=lt_ G.s ht.s;refine dE z z (fN (α:=UInt8) a_b h7 z z ci R_<|Y.g<|(V.e ht).e sc) (.inr fun _ _ h=>by obtain ⟨_,_,_,_,_,h,_⟩:=h;exact h.mono fun k _ hk=>(mor cj:∀k∈[aN.z],k∈([]:List Nat)∨I.z<=k) k hk) ?_;rintro _ ha ⟨eR,ck,cm,cn,rfl,aO,eS,hd,eT⟩;obtain ⟨_,he,fY⟩:=bdS fX;refine dE z z (c_G (α:=Val) b_o he z z) (.inr fun _ _ h=>j_ (by obtain ⟨_,_,_,_,h,_⟩:=h;exact h)) ?_;rintro _ _ ⟨co,cp,ct,rfl,cu,hf⟩;refine dR z z (bP (parts:=[(0,.tmp 7),(1,.tmp 11),(2,.tmp 15)]) (cs:=[vI x1.number,sl ck cm cn,sl co cp ct]) E_ z z) ?_;have eU:=mmr hb.lt;have cv:=m1 G.s;refine dE0 z (fs0 (cur':=[vI x1.number,sl ck cm cn,sl co cp ct]) c_ z z (((hb.e sc).c aO<|djs eU).e cu) z z z z) (.inr fun _ _ h=>a_O (atp cv) h.2) ?_;rintro _ _ ⟨hi,hj⟩;have cw:=hj.one;refine pD ?_;have eV:∀k∈eR,k∉[L.z]:=or1 eT eU<|a_9 (f_ hb.lt) sc.s;have eW:=lt_ cj sc.s;have eX:=m1 cj;have eY:=mm1 hb.lt<|lt_ sc.s aO.s
    exact fun _ q=>⟨x1.number,h6,([]:List Val),som fY,ck,cm,cn,eR,co,cp,ct,[ha.z],L.z,q.k<|s3 z z z,bM (bup (bM (bup (bup G ht) sc) aO eX) cu) cw cv,O,(eS.e cu).c cw eV,hd,a_o eT eX eW,hf.c cw eY,R_,m1<|lt_ eW aO.s,mnr<|a_.lt eS,hi,atp cv,eV,eY⟩
   obtain ⟨hl,ho,fZ⟩:=bdS hur;obtain ⟨_,hp,g0⟩:=bdS fZ;refine dE z z (c_G (α:=Val) b_o hp z z) (.inr fun _ _ h=>j_ (by obtain ⟨_,_,_,_,h,_⟩:=h;exact h)) ?_;rintro _ _ ⟨cx,cy,cz,rfl,an,eZ⟩;have cA:=lt_ G.s ht.s;refine dE z z (fN (α:=UInt8) a_b ho z z (ci.e an) R_<|Y.g<|((V.e ht).e sc).e an) (.inr fun _ _ h=>by obtain ⟨_,_,_,_,_,h,_⟩:=h;exact h.mono fun k _ hk=>(mor cA:∀k∈[aN.z],k∈([]:List Nat)∨I.z<=k) k hk) ?_;rintro _ _ ⟨f1,cB,cC,cD,rfl,cE,hq,hw,cF⟩;refine dR z z (bP (parts:=[(0,.tmp 7),(1,.tmp 11),(2,.tmp 15)]) (cs:=[vI x1.number,sl cB cC cD,sl cx cy cz]) E_ z z) ?_;have f2:=mmr hb.lt;have cG:=m1 G.s;refine dE0 z (fs0 (cur':=[vI x1.number,sl cB cC cD,sl cx cy cz]) c_ z z (((hb.e sc).e an).c cE<|djs f2) z z z z) (.inr fun _ _ h=>a_O (atp cG) h.2) ?_;rintro _ _ ⟨hx,hy⟩;have cH:=hy.one;refine pD ?_;have f3:∀k∈f1,k∉[L.z]:=or1 cF f2<|a_9 (f_ hb.lt)<|lt_ sc.s an.s;have f4:=lt_ cA sc.s;have f5:=m1 cA;have f6:=mnr<|a_.lt ci
   have f7:=mm1 hb.lt sc.s;exact fun _ q=>⟨x1.number,hl,([]:List Val),som g0,cB,cC,cD,f1,cx,cy,cz,[h5.z],L.z,q.k<|s3 z z z,bM (bM (bup (bup (bup G ht) sc) an) cE f5) cH cG,O,hq.c cH f3,hw,a_o cF f5<|lt_ f4 an.s,(eZ.c cE f6).c cH f7,R_,m1 f4,ds<|c_z cF (ds f6) (a_.lt eZ) lr,hx,atp cG,f3,f7⟩
  obtain ⟨hz,hA,g2⟩:=bdS hur;obtain ⟨_,hB,g3⟩:=bdS g2;refine dE z z (c_G (α:=Val) b_o hB z z) (.inr fun _ _ h=>j_ (by obtain ⟨_,_,_,_,h,_⟩:=h;exact h)) ?_;rintro _ hC ⟨cI,cJ,cK,rfl,ap,cL⟩;refine dE z z (f0 (α:=UInt8) a_b) (.inr fun _ _ h=>j_ (by obtain ⟨_,_,_,_,h,_⟩:=h;exact h)) ?_;rintro _ _ ⟨_,_,_,rfl,a0,hD⟩;have f8:=lt_ G.s ht.s;have cN:=lt_ f8 ap.s;refine dE z z (fN (α:=UInt8) a_b hA z z hD R_<|Y.g<|((V.e ht).e ap).e a0) (.inr fun _ _ h=>by obtain ⟨_,_,_,_,_,h,_⟩:=h;exact h.mono fun k _ hk=>(mor cN:∀k∈[hC.z],k∈([]:List Nat)∨I.z<=k) k hk) ?_;rintro _ _ ⟨f9,cO,cP,cQ,rfl,cR,hE,hF,cS⟩;refine dR z z (bP (parts:=[(0,.tmp 7),(1,.tmp 11),(2,.tmp 15)]) (cs:=[vI x1.number,sl cO cP cQ,sl cI cJ cK]) E_ z z) ?_;have fe:=mm1 hb.lt ap.s;have cT:=m1 G.s;refine dE0 z (fs0 (cur':=[vI x1.number,sl cO cP cQ,sl cI cJ cK]) c_ z z (((hb.e ap).e a0).c cR<|djs fe) z z z z) (.inr fun _ _ h=>a_O (atp cT) h.2) ?_;rintro _ _ ⟨hG,hH⟩;have cU:=hH.one;refine pD ?_;have ff:∀k∈f9,k∉[L.z]:=or1 cS fe<|a_9 (f_ hb.lt)<|lt_ ap.s a0.s;have fg:=m1 cN;have fh:=mnr<|a_.lt cL
  have fi:=mmr hb.lt;exact fun _ q=>⟨x1.number,hz,([]:List Val),som g3,cO,cP,cQ,f9,cI,cJ,cK,[aN.z],L.z,q.k<|s3 z z z,bM (bM (bup (bup (bup G ht) ap) a0) cR fg) cU cT,O,hE.c cU ff,hF,a_o cS fg<|lt_ cN a0.s,((cL.e a0).c cR<|ds fh).c cU fi,R_,m1 f8,ds<|c_z cS fh (a_.lt cL) a0.s,hG,atp cT,ff,fi⟩
 rintro hI H ⟨xi,aU,aV,rfl,aj,nk,cl,Sx,aE,aF,aG,S3,g1,_,a1,hJ,fj,hK,fk,hL,hM,cV,fl,aq,cW,hN,hO⟩;revert hI;refine Wo<|Wq<|Ws<|Rf z F_ z<|R z (l0 I_ z<|((ax.e hh).e a1).at z) ?_
 have fm:=((a5.ag B).e hh).e a1;refine R z (lnR K_ z<|aD.g fm)<|Rm z<|Wn ?_
 obtain ⟨_,g4,da⟩:=bdS<|d_z gf;refine Wf (σ:=List Val) (ρ:=Val) (fun (fo:Nat)(ar:List Val) a w=>∃ad ne cf J,Sat 33 [(2,pt a4.z),(3,pt g1),(18,sl AG NG CG),(19,vI (x1.items.length:Int)),(20,vI ((fo:Nat):Int))] a/\Chg (· ∈ (S3++[g1])) H w/\a_ w J (sl ad ne cf) ar/\J.Nodup/\(∀k∈J,k∈S3∨H.z<=k)/\Blk w g1 [vI xi,sl aj nk cl,sl ad ne cf]) (fun (ar:List Val) a w=>∃ad ne cf J,Sat 33 [(2,pt a4.z),(3,pt g1)] a/\Chg (· ∈ (S3++[g1])) H w/\a_ w J (sl ad ne cf) ar/\J.Nodup/\(∀k∈J,k∈S3∨H.z<=k)/\Blk w g1 [vI xi,sl aj nk cl,sl ad ne cf]) (rQ prog fn<|Q11 w0 B) g4 ?_ ?_ ?_ ?_ ?_
 ·exact fun _ q=>⟨aE,aF,aG,S3,q.k<|s5 z z z z z,cr (S3++[g1]) H,hL,hM,io sr,aq⟩
 ·rintro fo ar _ aP _ db ⟨ad,ne,cf,J,g5,au,hv,aA,hu,aB⟩ g6;refine Wu ?_ g5;refine Ws<|Rl z z z<|Wn<|Wq<|Wc z (fun _=>?_) (fun hc=>(L_ db hc).elim)
  refine Wk<|Wq<|Wb<|Ws ?_
  obtain ⟨cX,hP,g7⟩:=bdS g6;have fp:=lt_ a5.s hh.s;have fq:=zt' aT fp;refine RX z (at_ (α:=Val) K_ c_ z z z (aD.g<|fm.c au<|nmA (g_ (or0 cV (t_ fq):∀k∈S3,¬B k))<|g_ (or0 (f_ cW) (t_ fq):∀k∈[g1],¬B k)) hP) ?_;rintro _ ⟨_,_,_,rfl,hQ,hR,_⟩;obtain ⟨cY,cZ,d0,d1,d2,d3,rfl,hS,hT,hU⟩:=b_1 hR;refine R z (lN (vs:=[vI cX.number,sl cY cZ d0,sl d1 d2 d3]) i_ c_ z z fid hQ)<|E z (fa O_) ?_
  rintro _ fr ⟨rfl,fs⟩;have a2:=fs.below;refine E0 (fs0 (cur':=[vI cX.number,sl cY cZ d0,sl d1 d2 d3]) c_ z z (fs.blk:Blk fr aP.z [vI 0,sl none 0 0,sl none 0 0]) z z z z) ?_;rintro _ hV ⟨hW,hX⟩;have a3:=hX.one;refine Wn<|Wd (X:=noX) 160 (pl_ 8 [3,4,5,7]) mo (by kernel_rfl) fun hY sw _=>dR z z (fd F_ z) ?_;have ft:=((aB.e a2).c a3<|djs<|mm1 (Blk.lt aq) au.s).e sw;refine dR z z (l0 I_ z<|ft.at z)<|dR z z (lN (vs:=[vI cX.number,sl cY cZ d0,sl d1 d2 d3]) i_ c_ z z fid<|(hW.e sw).row 0 3 z) ?_
  have fu:=lt_ (lt_ fp a1.s) au.s;have fv:=((a2.ag B).c a3<|g_ (or0 (f_ lr) (t_<|zt' aT fu):∀k∈[aP.z],¬B k)).e sw;obtain ⟨fw,hZ,g8⟩:=bdS g7;refine dE z z (fc call71 z<|iq.run hZ (zt' aT<|lt_ (lt_ (lt_ fu a2.s) a3.s) sw.s) hS (hT.g fv)<|hU.g fv) (.inr fun _ _ h=>j_<|h.1) ?_;rintro _ fx ⟨aQ,i0,i1,i2,fy,i3,i4,i5,fz,rfl,i6,i7,i8,d4,av⟩;refine dE z z (fS [(.tmp 27)] b_o z z z (b_b z) (lb z)<|lb z) (.inr fun _ _ h=>j_<|h.2.below) ?_;rintro _ fA ⟨rfl,fB⟩;have aw:=fB.below;obtain ⟨i9,ia,g9⟩:=bdS g8;have fC:=lt_ (lt_ a2.s a3.s) sw.s;refine dE z z (b_u (α:=Val) b_o ia z z (((((hv.e a2).c a3<|ds<|mnr<|a_.lt hv).e sw).e aQ).e aw) aA (fB.blk:Blk fA fx.z [vI fw.number,sl i0 i1 i2,sl i3 i4 i5]) (h_e (x:=fw) (S1:=fy) (S2:=fz) i6 (i7.e aw)<|i8.e aw) (aa_ (a_x (al_ av) (a_.lt hv) fC)<|a_x (ar_ av) (a_.lt hv) fC)<|na_ (nl_ d4) (nr_ d4)<|nj d4) (.inl z) ?_;rintro _ ib ⟨d5,fD,fE,fF,rfl,fG,ic,id,fH⟩;refine dR z z (fd F_ z) ?_;have fI:∀k∈J,k∉[g1]:=or1 hu hO<|a_9 (f_<|Blk.lt aq) lr;refine dE0 z (fs0 (cur':=[vI xi,sl aj nk cl,sl fD fE fF]) z_47 z z (((ft.e aQ).e aw).c fG<|djs fI) z z z z) (.inl z) ?_;rintro _ ie ⟨ig,ih⟩;have fJ:=ih.one;refine pD<|Wo<|Wg<|R z (inc_ db (lt_ (repS.len aD) v_) z z)<|Rm z<|Wl ?_
  have aC:=lt_ (lt_ (lt_ au.s a2.s) a3.s) sw.s;have fK:=lt_ (lt_ aC aQ.s) aw.s;exact fun _ q=>⟨i9,(som g9).symm,⟨fD,fE,fF,d5,q.k<|s5 z z z z z,(cM (cM (D_ (D_ (D_ (cM (D_ (cM (cr (S3++[g1]) H) au (aa_ (io<|b_Q sr)<|io<|b_n sr):Chg (· ∈ (S3++[g1])) H aP) a2:Chg (· ∈ (S3++[g1])) H fr) a3 (mor au.s:∀k∈[aP.z],k∈(S3++[g1])∨H.z<=k):Chg (· ∈ (S3++[g1])) H hV) sw:Chg (· ∈ (S3++[g1])) H hY) aQ:Chg (· ∈ (S3++[g1])) H fx) aw:Chg (· ∈ (S3++[g1])) H fA) fG (or1 hu (io<|b_Q sr) (x_ lr):∀k∈J,k∈(S3++[g1])∨H.z<=k):Chg (· ∈ (S3++[g1])) H ib) fJ (io<|b_n sr):Chg (· ∈ (S3++[g1])) H ie),ic.c fJ (or2 fH fI (aa_ (k_ (al_ av) (Blk.lt aq) aC)<|k_ (ar_ av) (Blk.lt aq) aC) (a_9 (f_<|Blk.lt aq) fK):∀k∈d5,k∉[g1]),id,(or2 fH (or1 hu (io sr) (x_ lr):∀k∈J,k∈S3∨H.z<=k) (aa_ (or0 (al_ av) (x_ aC):∀k∈fy,k∈S3∨H.z<=k) (or0 (ar_ av) (x_ aC):∀k∈fz,k∈S3∨H.z<=k)) (x_ fK):∀k∈d5,k∈S3∨H.z<=k),ig⟩⟩
 ·rintro ar _ ij ⟨ad,ne,cf,J,ga,ik,hv,aA,hu,aB⟩;refine Wu ?_ ga;refine Ws<|Rl z z z<|Wn<|Wq<|Wc z (fun hc=>(M_ hc).elim) (fun _=>?_)
  exact We<|fun _ q=>⟨rfl,⟨ad,ne,cf,J,q.k<|s2 z z,(cM (cr (S3++[g1]) H) ik (aa_ (io<|b_Q sr)<|io<|b_n sr):Chg (· ∈ (S3++[g1])) H ij),hv,aA,(or1 hu (io sr) (x_ lr):∀k∈J,k∈S3∨H.z<=k),aB⟩⟩
 ·rintro ar il _ rfl ⟨ad,ne,cf,J,_,d6,hv,aA,hu,aB⟩;have gb:=elL da;revert il;refine Wo<|Ws<|R z (lN (vs:=[vI xi,sl aj nk cl,sl ad ne cf]) i_ c_ z z fid<|aB.row 0 3 z) ?_
  have fL:=k_ cV ay.lt lr;refine E0 (fs0 (cur':=[vI xi,sl aj nk cl,sl ad ne cf]) c_ z z ((ay.e a1).c d6<|atp<|nmA (ds fL)<|ds<|k_ (f_ cW) ay.lt lr) z z z z) ?_;rintro _ _ ⟨im,ip⟩;have d7:=ip.one;refine Wn ?_;obtain rfl:=som gb;have aR:=lt_ a5.s hh.s;have fM:=m_ cV aR;exact Wr<|b_ hr (y_ i_ c_ z im z) ⟨bM (bM (bup (bup a5 hh) a1) d6<|aa_ fM<|m_ (f_ cW) aR) d7<|m1 a5.s,aj,nk,cl,Sx,ad,ne,cf,J,z,hJ,(fj.c d6<|nmA (ds fl) hN).c d7<|k_ fk ay.lt lr,hv.c d7 (or1 hu fL (a_9 (f_ ay.lt) a1.s):∀k∈J,k∉[a4.z]),na_ hK aA<|ds<|c_z hu fl (a_.lt fj) lr,aa_ (m_ fk aR)<|a_o hu fM<|lt_ aR a1.s⟩
 rintro _ _ _ _ rfl ⟨rfl,gc⟩;have ge:=elR da;obtain rfl:=som ge;exact ⟨gc,z⟩
theorem A_w0d:∀n,n_3 n
  | 0=>⟨fun hm=>by intros;exact nomatch (show none=some _ from hm)⟩
  | n+1=>T_w0d<|A_w0d n
theorem W_w0d:k_y (d_G n).impl_CopyValue:=A_w0d n
theorem k_z {x1:Int}{res:Str}(hm:e_M x1=some res)(H:B<=w0.z)(hG:Gl w0 B)(G:inI x1):h_ prog 113 [vI x1] w0 (Q12 w0 B res):=by
 unfold e_M at hm
 refine goG func113 z z z fun fn hr=>Ws<|Rw z<|Wm z ?_
 obtain ⟨_,J,I⟩:=bdS hm;refine E z (fc call141 z<|q_L (B:=B) J H hG G) ?_;rintro _ _ ⟨s2,rfl,h3⟩;refine Rw z ?_
 obtain rfl:=som I;exact Wr<|b_ hr z ⟨s2,z,h3⟩
theorem W_w1t {x1:d_}{x2:Int}{x3:Int}{res:Str}(hm:e_N n x1 x2 x3=some res)(J:B<=w0.z)(hG:Gl w0 B)(W:repS w0 B (sl A0 N0 C0) x1.rules)(ae:inI x2)(af:inI x3):h_ prog 73 [(.agg #[sl A0 N0 C0]),vI x2,vI x3] w0 (Q12 w0 B res):=by
 unfold e_N at hm
 refine goG func73 z z z fun fn hr=>Ws<|E z (fb z) ?_
 rintro _ wb ⟨rfl,hn⟩;have G:=hn.below;have ho:Blk wb w0.z [sl A0 N0 C0]:=hn.blk;refine Rw z<|Wq<|Wq ?_
 obtain ⟨ak,ah,hmp⟩:=bdS hm;refine Wt (fun a w=>∃(xc:Bool),xc=ak/\Sat 58 [(1,vI x2),(2,vI x3),(3,pt w0.z),(15,vB xc)] a/\Below wb.z wb w) ?_ ?_
 ·refine Wg<|R z (lN (vs:=[sl A0 N0 C0]) o_ n_ z z fid<|ho.row 0 1 z)<|Rm z ?_
  obtain ⟨al,am,hmq⟩:=bdS ah;refine E z (fc call65 z<|i_p am (zt' J G.s) (W.e G) ae) ?_;rintro _ _ ⟨sr,rfl⟩;refine R z (not_ z)<|Rm z ?_
  rcases bs (!al) with I | I
  ·exact Nh z I<|Nh z I<|R z (pT z I z)<|Wl (fun _ q=>⟨true,som<|ifT hmq I,q.k<|s4 z z z z,sr⟩)
  exact Rh z I (mv z)<|Rh z I (lss z z)<|R z (pF z I z)<|Wl (fun _ q=>⟨decide<|x3<0,som<|ifF hmq I,q.k<|s4 z z z z,sr⟩)
 rintro an L ⟨xc,rfl,_,s1⟩;revert an;refine Wo<|Wc z (fun hcd=>?_) (fun hcd=>?_)
 ·refine Ws<|Rw z ?_
  obtain rfl:=som<|ifT hmp hcd;exact Wr<|b_ hr z ⟨bup G s1,z,lb z⟩
 refine Wk<|Ws<|Rf z a_c z<|R z (l0 a_e z<|(ho.e s1).at z)<|Rm z ?_
 obtain ⟨V,ao,hms⟩:=bdS<|ifF hmp hcd;refine RX z (at_ (α:=e_) a_1 p_ z z z (W.g<|(G.ag B).e s1) ao) ?_;rintro _ ⟨_,_,_,rfl,ap,aq,_⟩;obtain ⟨au,nt,cv,aw,nx,cy,az,a5,a6,a7,a8,a9,rfl,_,_,_,_,aa,_,_⟩:=a_y aq;refine R z (lN (vs:=vR V au nt cv aw nx cy az a5 a6 a7 a8 a9) G_ p_ z z fid ap)<|E z (fa b_X) ?_
 rintro _ ar ⟨rfl,ab⟩;have h2:=ab.below;refine E0 (fs0 (cur':=vR V au nt cv aw nx cy az a5 a6 a7 a8 a9) p_ z z (ab.blk:Blk ar L.z [(Str.v (⟨[]⟩:Str)),vI 0,vI 0,vB false,sl none 0 0,sl none 0 0,sl none 0 0,sl none 0 0]) z z z z) ?_;rintro _ wa ⟨O,av⟩;have h3:=av.one;refine Wn<|Wq<|Wb<|Ws<|Rf z a_n z<|R z (l0 g_3 z<|O.at z)<|Rq z z z<|Rw z<|Wc z (fun hce=>?_) (fun hce=>?_)
 ·refine Wm z ?_
  have hf:=lt_ G.s s1.s;obtain ⟨_,ax,ai⟩:=bdS<|ifT hms hce;refine E z (fc call113 z<|k_z ax (zt' J<|lt_ (lt_ hf h2.s) h3.s) ((((hG.e G).e s1).e h2).c h3<|g_ (or0 (f_ lr) (t_<|zt' J hf):∀k∈[L.z],¬B k)) af) ?_;rintro _ _ ⟨ay,rfl,aA⟩;refine Rw z ?_
  obtain rfl:=som ai;exact Wr<|rtO<|b_ hr z ⟨bup (bM (bup (bup G s1) h2) h3<|m1 hf) ay,z,aA⟩
 refine Wq ?_;obtain ⟨aB,Y,a0⟩:=bdS<|ifF hms hce;refine Wt (fun a w=>∃(xg:Bool),xg=aB/\Sat 58 [(2,vI x3),(7,pt L.z),(27,vB xg)] a/\Below wa.z wa w) ?_ ?_
 ·refine Wg<|Rf z a_n z<|R z (l0 g_3 z<|O.at z)<|Rq z z z<|Rm z ?_
  rcases bs (V.kind==6) with H | H
  ·refine Rh z H (mv z)<|Rh z H (fd b_p z)<|Rh z H (l0 a_E z<|O.at z) ?_
   exact Rh z H (lnR J_ z<|aa.g<|(h2.ag B).c h3<|g_ (or0 (f_ lr) (t_<|zt' J<|lt_ G.s s1.s):∀k∈[L.z],¬B k))<|Rh z H (lss z z)<|R z (pT z H z)<|Ra z<|Wl (fun _ q=>⟨decide<|x3<(V.names.length:Int),som<|ifT Y H,q.k<|s3 z z z,br wa⟩)
  iterate 5 refine Nh z H ?_
  exact R z (pF z H z)<|Ra z<|Wl (fun _ q=>⟨false,som<|ifF Y H,q.k<|s3 z z z,br wa⟩)
 rintro aC _ ⟨xg,rfl,_,s6⟩;revert aC;refine Wo<|Wc z (fun hch=>?_) (fun hch=>?_)
 ·refine Ws<|Rf z b_p z<|R z (l0 a_E z<|(O.e s6).at z)<|Rm z ?_
  obtain ⟨_,aD,aj⟩:=bdS<|ifT a0 hch;have ad:=lt_ G.s s1.s;refine RX z (at_ (α:=Str) J_ z_9 z z z (aa.g<|((h2.ag B).c h3<|g_ (or0 (f_ lr) (t_<|zt' J ad):∀k∈[L.z],¬B k)).e s6) aD) ?_;rintro _ ⟨_,_,_,rfl,aE,aF,_⟩;obtain ⟨rfl,aG⟩:=a_R aF;refine R z (l0 g_9 z<|aE.at0 z)<|Rw z ?_
  obtain rfl:=som aj;exact Wr<|rtO<|b_ hr z ⟨bup (bM (bup (bup G s1) h2) h3<|m1 ad) s6,z,aG⟩
 have a1:=ifF a0 hch;refine Wm z<|R z (a_q z z)<|Rw z<|Wc z (fun hci=>?_) (fun hci=>?_)
 ·refine Ws<|Rw z ?_
  obtain rfl:=som<|ifT a1 hci;exact Wr<|rtO<|b_ hr z ⟨bup (bM (bup (bup G s1) h2) h3<|m1<|lt_ G.s s1.s) s6,z,lb z⟩
 have a2:=ifF a1 hci;refine Ws<|Rf z a_n z ?_
 have hj:=O.e s6;refine R z (l0 g_3 z<|hj.at z)<|Rq z z z<|Rw z<|Wc z (fun hck=>?_) (fun hck=>?_)
 ·refine Ws<|Rw z ?_
  obtain rfl:=som<|ifT a2 hck;exact Wr<|rtO<|b_ hr z ⟨bup (bM (bup (bup G s1) h2) h3<|m1<|lt_ G.s s1.s) s6,z,lb z⟩
 have a3:=ifF a2 hck;refine Ws<|Rf z a_n z<|R z (l0 g_3 z<|hj.at z)<|Rq z z z<|Rw z<|Wc z (fun hcl=>?_) (fun hcl=>?_)
 ·refine Ws<|Rw z ?_
  obtain rfl:=som<|ifT a3 hcl;exact Wr<|rtO<|b_ hr z ⟨bup (bM (bup (bup G s1) h2) h3<|m1<|lt_ G.s s1.s) s6,z,lb z⟩
 have a4:=ifF a3 hcl;refine Ws<|Rf z a_n z<|R z (l0 g_3 z<|hj.at z)<|Rq z z z<|Rw z<|Wc z (fun hcm=>?_) (fun hcm=>?_)
 ·refine Ws<|Rw z ?_
  obtain rfl:=som<|ifT a4 hcm;exact Wr<|rtO<|b_ hr z ⟨bup (bM (bup (bup G s1) h2) h3<|m1<|lt_ G.s s1.s) s6,z,lb z⟩
 refine Wk<|Ws<|Rw z ?_
 obtain rfl:=som<|ifF a4 hcm;exact Wr<|b_ hr z ⟨bup (bM (bup (bup G s1) h2) h3<|m1<|lt_ G.s s1.s) s6,z,lb z⟩
def Q23 (w0:World)(g1:Nat)(B:Zone)(A0:Option Addr)(N0 C0:Nat)(A8:Nat)(S1_1:List Nat)(x1:e_8)(r:(List A_))(v:Value)(w':World):Prop:=Chg (· ∈ ([g1]++S1_1)) w0 w'/\(fun G=>∃S1,v = .tuple #[]/\a_z w' S1 (.map<|some A8) G/\S1.Nodup/\(∀k∈S1,k∈S1_1∨w0.z<=k)/\Blk w' g1 [sl A0 N0 C0,(.map<|some A8)]) r
structure k_A (f:e_8->Int->Val->Val->Str->Option (List A_)):Prop where
  run:∀{A0 A6 A5 AH AI:Option Addr}{N0 C0 A8 g1 N6 C6 N5 C5 b3 o3 NH CH NI CI b4 o4:Nat}{S1_1:List Nat}{B:Zone}{x1:e_8}{x2:Int}{x3:Val}{x4:Val}{x5:Str}{res:(List A_)}{w0:World}(hm:f x1 x2 x3 x4 x5=some res)(hB1:Blk w0 g1 [sl A0 N0 C0,(.map<|some A8)])(hBw:B<=w0.z)(hBg:¬B g1)(hG:Gl w0 B)(p1_0:repS w0 B (sl A0 N0 C0) x1.d.rules)(p1_1:a_z w0 S1_1 (.map<|some A8) x1.changes)(p1_1n:S1_1.Nodup)(p1_1g:∀k∈S1_1,¬B k)(p1_1d:∀k∈S1_1,k∉[g1])(p2_0:inI x2)(p3_0:inI x3.number)(p3_1:repS w0 B (sl A6 N6 C6) x3.bytes)(p3_2:repS w0 B (sl A5 N5 C5) x3.items)(hC3:C_ w0 b3 o3 [vI x3.number,sl A6 N6 C6,sl A5 N5 C5])(hC3b:B b3)(p4_0:inI x4.number)(p4_1:repS w0 B (sl AH NH CH) x4.bytes)(p4_2:repS w0 B (sl AI NI CI) x4.items)(hC4:C_ w0 b4 o4 [vI x4.number,sl AH NH CH,sl AI NI CI])(hC4b:B b4)(p5_0:x5.b.length<=LEN),h_ prog 44 [pt g1,vI x2,.pointer<|some ⟨b3,o3,none⟩,.pointer<|some ⟨b4,o4,none⟩,Str.v x5] w0<|Q23 w0 g1 B A0 N0 C0 A8 S1_1 x1 res
abbrev n_4 (n:Nat):Prop:=k_A (c_Z n).impl_differ_compare
theorem T_w0j (aX:n_4 n):k_A (c_Y n<|c_Z n):=by
 constructor
 intro A0 A6 A5 AH AI N0 C0 A8 g1 N6 C6 N5 C5 b3 o3 NH CH NI CI b4 o4 S1_1 B x1 x2 x3 x4 x5 res w0 hm hB1 W hBg hG a1 Y p1_1n p1_1g p1_1d a9 aa a2 V hC3 hC3b ab a3 a0 hC4 hC4b aG;unfold c_Y at hm
 refine goG func44 z z z fun fn hr=>Wq<|Wq (Wd (X:=noX) 0 (pl_ 7 [6]) mo (by kernel_rfl) fun ws G _=>dM z z z<|dR z z (H_ z) ?_)
 have hu:=hC3.e G;refine dR z z (lN (vs:=[vI x3.number,sl A6 N6 C6,sl A5 N5 C5]) i_ c_ z z fid hu)<|dM z z z<|dR z z (H_ z) ?_
 have hp:=hC4.e G;refine dR z z (lN (vs:=[vI x4.number,sl AH NH CH,sl AI NI CI]) i_ c_ z z fid hp) ?_;obtain ⟨_,aY,ad⟩:=bdS hm;refine dE z z (fc call69 z<|W_w0i.run aY (zt' W G.s) aa (a2.e G) (V.e G) ab (a3.e G)<|a0.e G) (.inr fun _ _ h=>j_<|h.1) ?_;rintro _ wi ⟨s1,rfl⟩;refine pD<|Wo<|Wc z (fun hcv=>?_) (fun hcv=>?_)
 ·obtain rfl:=som<|ifT ad hcv;exact Wr<|ret0 hr ⟨(D_ (D_ (cr ([g1]++S1_1) w0) G:Chg (· ∈ ([g1]++S1_1)) w0 ws) s1:Chg (· ∈ ([g1]++S1_1)) w0 wi),S1_1,z,(Y.e G).e s1,p1_1n,io sr,(hB1.e G).e s1⟩
 refine Wk<|Wq<|Wq ?_
 obtain ⟨aZ,ae,af⟩:=bdS<|ifF ad hcv;refine Wt (fun a w=>∃(xw:Bool),xw=aZ/\Sat 117 [(0,pt g1),(1,vI x2),(2,.pointer<|some ⟨b3,o3,none⟩),(3,.pointer<|some ⟨b4,o4,none⟩),(4,Str.v x5),(59,vB xw)] a/\Below wi.z wi w) ?_ ?_
 ·refine Wd (X:=noX) 0 (pl_ 42 [18]) mo (by kernel_rfl) fun c2 sc _=>dM z z z<|dR z z (H_ z)<|dR z z (fd a_v z) ?_
  have hx:=(hu.e s1).e sc;refine dR z z (l0 g_3 z<|hx.at (j:=0) z)<|dM z z z<|dR z z (H_ z)<|dR z z (fd a_v z) ?_
  have hy:=(hp.e s1).e sc;refine dR z z (l0 g_3 z<|hy.at (j:=0) z)<|dR z z (nq z z)<|dM z z z ?_
  rcases bs (x3.number != x4.number) with I | I
  ·iterate 8 refine dRn z z z I z ?_
   refine dEn z z z I z<|dRn z z z I z<|dR z z (pT z I z)<|dM z z z ?_
   iterate 11 refine dRn z z z z z ?_
   refine dR z z (pT z z z)<|dM z z z ?_
   iterate 6 refine dRn z z z z z ?_
   exact dR z z (pT z z z)<|pD (fun _ q=>⟨true,som<|ifT ae I,q.k<|s6 z z z z z z,sc⟩)
  refine dRg z z z I z (mv z)<|dRg z z z I z (H_ z)<|dRg z z z I z (fd a_Q z)<|dRg z z z I z (l0 U_ z<|hx.at (j:=1) z)<|dRg z z z I z (mv z)<|dRg z z z I z (H_ z)<|dRg z z z I z (fd a_Q z)<|dRg z z z I z (l0 U_ z<|hy.at (j:=1) z) ?_
  have hz:=((G.ag B).e s1).e sc;obtain ⟨b0,b5,ah⟩:=bdS<|ifF ae I;refine dEg z z z I z (fc call70 z<|W_w1s b5 (zt' W<|lt_ (lt_ G.s s1.s) sc.s) (a2.g hz)<|a3.g hz) (.inr fun _ _ h=>j_<|h.1) ?_;rintro _ _ ⟨se,rfl⟩;refine dRg z z z I z (not_ z)<|dR z z (pF z I z)<|dM z z z ?_
  rcases bs (!b0) with J | J
  ·iterate 11 refine dRn z z z J z ?_
   refine dR z z (pT z J z)<|dM z z z ?_
   iterate 6 refine dRn z z z z z ?_
   exact dR z z (pT z z z)<|pD (fun _ q=>⟨true,som<|ifT ah J,q.k<|s6 z z z z z z,bup sc se⟩)
  have ai:=ifF ah J;refine dRg z z z J z (mv z)<|dRg z z z J z (H_ z)<|dRg z z z J z (fd F_ z) ?_
  have ak:=hx.e se;refine dRg z z z J z (l0 I_ z<|ak.at (j:=2) z) ?_;have al:=hz.e se;have am:=V.g al;refine dRg z z z J z (lnR K_ z am)<|dRg z z z J z (mv z)<|dRg z z z J z (H_ z)<|dRg z z z J z (fd F_ z)<|dRg z z z J z (l0 I_ z<|(hy.e se).at (j:=2) z)<|dRg z z z J z (lnR K_ z<|a0.g al)<|dRg z z z J z (nq z z)<|dR z z (pF z J z)<|dM z z z ?_
  rcases bs ((x3.items.length:Int) != (x4.items.length:Int)) with L | L
  ·iterate 6 refine dRn z z z L z ?_
   exact dR z z (pT z L z)<|pD (fun _ q=>⟨true,som<|ifT ai L,q.k<|s6 z z z z z z,bup sc se⟩)
  exact dRg z z z L z (mv z)<|dRg z z z L z (H_ z)<|dRg z z z L z (fd F_ z)<|dRg z z z L z (l0 I_ z<|ak.at (j:=2) z)<|dRg z z z L z (lnR K_ z am)<|dRg z z z L z (eql z z)<|dR z z (pF z L z)<|pD (fun _ q=>⟨(x3.items.length:Int)==0,som<|ifF ai L,q.k<|s6 z z z z z z,bup sc se⟩)
 rintro b6 H ⟨xw,rfl,_,s8⟩;revert b6;refine Wo<|Wc z (fun a4=>?_) (fun a4=>?_)
 ·refine Wq (Wd (X:=noX) 65536 (pl_ 17 [14,16]) mo (by kernel_rfl) fun b7 sf _=>dM z z z<|dR z z (H_ z)<|dR z z (fd i_k z) ?_);have a5:=(((hB1.e G).e s1).e s8).e sf;refine dR z z (l0 g_73 z<|a5.at z)<|dM z z z<|dR z z (H_ z)<|dR z z (fd i_k z)<|dR z z (l0 g_73 z<|a5.at z) ?_
  have an:=(((Y.e G).e s1).e s8).e sf;refine dR z z (l_y d_73 z an<|fun _ hk=>fid)<|dR z z (bP (parts:=[(0,.tmp 68)]) (cs:=[vI (x1.changes.length:Int)]) m_K z z)<|dM z z z<|dM z z z<|dR z z (H_ z)<|dR z z (lN (vs:=[vI x4.number,sl AH NH CH,sl AI NI CI]) i_ c_ z z fid<|((hp.e s1).e s8).e sf) ?_
  have ao:=(((G.ag B).e s1).e s8).e sf;have hg:=lt_ (lt_ (lt_ G.s s1.s) s8.s) sf.s;obtain ⟨rk,b8,aH⟩:=bdS<|ifT af a4;refine dE z z (fc call71 z<|W_w0d.run b8 (zt' W hg) ab (a3.g ao)<|a0.g ao) (.inr fun _ _ h=>j_<|h.1) ?_;rintro _ b9 ⟨sm,ba,bb,bc,ap,be,bf,bg,aq,rfl,bh,bi,bj,a6,hq⟩;refine dR z z (bP (parts:=[(0,.tmp 70),(1,.tmp 74)]) (cs:=[Str.v x5,vI rk.number,sl ba bb bc,sl be bf bg]) m_J z z) ?_;obtain ⟨_,bk,aI⟩:=bdS aH;refine dE0 z (o_P m_U bk z z z (an.e sm) p1_1n (l_4 (x:=(⟨x5,(⟨rk.number,rk.bytes,rk.items⟩:Val)⟩:A_)) (S1:=ap) (S2:=aq) aG bh bi bj) (na_ (nl_ a6) (nr_ a6)<|nj a6)<|aa_ (a_x (al_ hq) (a_z.lt Y) hg)<|a_x (ar_ hq) (a_z.lt Y) hg) (.inl z) ?_;rintro _ bm ⟨ar,au,bn,bo,bp⟩;refine pD<|Wo ?_
  obtain rfl:=som aI;exact Wr<|ret0 hr ⟨(cM (D_ (D_ (D_ (D_ (D_ (cr ([g1]++S1_1) w0) G:Chg (· ∈ ([g1]++S1_1)) w0 ws) s1:Chg (· ∈ ([g1]++S1_1)) w0 wi) s8:Chg (· ∈ ([g1]++S1_1)) w0 H) sf:Chg (· ∈ ([g1]++S1_1)) w0 b7) sm:Chg (· ∈ ([g1]++S1_1)) w0 b9) au (io<|b_n sr):Chg (· ∈ ([g1]++S1_1)) w0 bm),ar,z,bn,bo,(or2 bp (io sr) (aa_ (or0 (al_ hq) (x_ hg):∀k∈ap,k∈S1_1∨w0.z<=k) (or0 (ar_ hq) (x_ hg):∀k∈aq,k∈S1_1∨w0.z<=k)) (x_<|lt_ hg sm.s):∀k∈ar,k∈S1_1∨w0.z<=k),(a5.e sm).c au<|djs p1_1d⟩
 refine Wk<|Wm z<|R z (H_ z)<|Rf z F_ z ?_
 have av:=(hu.e s1).e s8;refine R z (l0 I_ z<|av.at (j:=2) z) ?_;have aw:=((G.ag B).e s1).e s8;refine R z (lnR K_ z<|V.g aw)<|Rm z<|Wn ?_
 obtain ⟨_,aJ,aj⟩:=bdS<|ifF af a4;refine Wf (σ:=List A_) (ρ:=List A_) (fun (ax:Nat)(xh:List A_) a w=>∃(S4:List Nat),Sat 117 [(0,pt g1),(1,vI x2),(2,.pointer<|some ⟨b3,o3,none⟩),(3,.pointer<|some ⟨b4,o4,none⟩),(4,Str.v x5),(80,vI (x3.items.length:Int)),(81,vI ((ax:Nat):Int))] a/\Chg (· ∈ ([g1]++S1_1)) H w/\a_z w S4 (.map<|some A8) xh/\S4.Nodup/\(∀k∈S4,k∈S1_1∨H.z<=k)/\Blk w g1 [sl A0 N0 C0,(.map<|some A8)]) (fun (xh:List A_) a w=>∃(S4:List Nat),Sat 117 [] a/\Chg (· ∈ ([g1]++S1_1)) H w/\a_z w S4 (.map<|some A8) xh/\S4.Nodup/\(∀k∈S4,k∈S1_1∨H.z<=k)/\Blk w g1 [sl A0 N0 C0,(.map<|some A8)]) (rQ prog fn<|Q23 w0 g1 B A0 N0 C0 A8 S1_1 x1) aJ ?_ ?_ ?_ ?_ ?_
 ·exact fun _ q=>⟨S1_1,q.k<|s7 z z z z z z z,cr ([g1]++S1_1) H,((Y.e G).e s1).e s8,p1_1n,io sr,((hB1.e G).e s1).e s8⟩
 ·rintro ax xh _ bq _ hkr ⟨S4,aK,sd,hj,hl,O,hn⟩ aL;refine Wu ?_ aK;refine Ws<|Rl z z z<|Wn<|Wq<|Wc z (fun _=>?_) (fun hc=>(L_ hkr hc).elim)
  refine Wk<|Wq<|Wb<|Wm z<|Ra z<|Wn (Wd (X:=noX) 2147483648 (.rd 0<|.rd 1<|.rd 2<|.rd 3<|.rd 4<|.rd 5<|.rd 6<|.rd 7<|.rd 9<|.rd 10<|.rd 11<|.rd 12<|.rd 13<|.rd 14<|.rd 15<|.rd 16<|.rd 17<|.rd 18<|.rd 19<|.rd 20<|.rd 21<|.rd 22<|.rd 23<|.rd 24<|.rd 25<|.rd 26<|.rd 27<|.rd 28<|.ef 8<|.ef 29<|.rd 30<|.ef 31 .done) mo (by kernel_rfl) fun br sb _=>dM z z z<|dM z z z<|dR z z (H_ z)<|dR z z (fd m_T z) ?_)
  have a7:=hn.e sb;refine dR z z (lN (vs:=[sl A0 N0 C0]) o_ n_ z z fid<|a7.row 0 1 z) ?_
  iterate 4 refine dM z z z ?_
  refine dR z z (H_ z)<|dR z z (fd F_ z) ?_
  have ay:=(av.c sd<|(nmA (g_<|f_ hBg)<|g_ p1_1g) _ hC3b).e sb;refine dR z z (l0 I_ z<|ay.at (j:=2) z)<|dM z z z ?_
  obtain ⟨_,bt,aM⟩:=bdS aL;have ho:=(aw.c sd<|nmA (g_<|f_ hBg)<|g_ p1_1g).e sb;have az:=V.g ho;refine dRX z z (at_ (α:=Val) K_ c_ z z z az bt) ?_;rintro _ ⟨_,_,_,rfl,bu,bv,bw⟩;obtain ⟨_,_,_,_,_,_,rfl,bx,bz,bA⟩:=b_1 bv;refine dM z z z<|dR z z (H_ z)<|dR z z (fd F_ z)<|dR z z (l0 I_ z<|((((hp.e s1).e s8).c sd<|(nmA (g_<|f_ hBg)<|g_ p1_1g) _ hC4b).e sb).at (j:=2) z)<|dM z z z ?_
  obtain ⟨_,bB,aN⟩:=bdS aM;refine dRX z z (at_ (α:=Val) K_ c_ z z z (a0.g ho) bB) ?_;rintro _ ⟨_,_,_,rfl,bC,bD,bE⟩;obtain ⟨_,_,_,_,_,_,rfl,bF,bG,bH⟩:=b_1 bD;refine dM z z z ?_;obtain ⟨_,bI,aO⟩:=bdS aN;refine dR z z (a_6 z z bI)<|dM z z z<|dR z z (H_ z)<|dR z z (fd m_T z)<|dR z z (lN (vs:=[sl A0 N0 C0]) o_ n_ z z fid<|a7.row 0 1 z)<|dM z z z<|dM z z z ?_
  have a8:=lt_ (lt_ G.s s1.s) s8.s;have aA:=lt_ (lt_ a8 sd.s) sb.s;obtain ⟨_,bJ,aP⟩:=bdS aO;refine dE z z (fc call72 z<|i_s (B:=B) (x1:=(⟨x1.d.rules⟩:d_)) bJ (zt' W aA) (a1.g ho) a9 aa (a2.g ho) az ay hC3b<|ic (Nat.le_of_lt hkr)<|lt_ (repS.len V) v_) (.inr fun _ _ h=>j_<|h.1) ?_;rintro _ bK ⟨s9,rfl,bL⟩;have aB:=ho.e s9;have aC:=(((((hG.e G).e s1).e s8).c sd<|nmA (g_<|f_ hBg)<|g_ p1_1g).e sb).e s9;have aD:=lt_ aA s9.s;obtain ⟨_,bM,aQ⟩:=bdS aP;refine dE z z (fc call73 z<|W_w1t (B:=B) (x1:=(⟨x1.d.rules⟩:d_)) bM (zt' W aD) aC (a1.g aB) a9<|ic (Nat.le_of_lt hkr)<|lt_ (repS.len V) v_) (.inr fun _ _ h=>j_<|h.1) ?_;rintro _ bN ⟨sa,rfl,_⟩;obtain ⟨_,aE,aR⟩:=bdS aQ;refine dR z z (a_6 z z aE) ?_;have ht:=(s9.ag B).e sa;obtain ⟨bO,bQ,aS⟩:=bdS aR;refine dE z z (fc call44 z<|aX.run (B:=B) bQ ((a7.e s9).e sa) (zt' W<|lt_ aD sa.s) hBg (aC.e sa) (a1.g<|aB.e sa) (((hj.e sb).e s9).e sa) hl (or1 O p1_1g (t_<|zt' W a8):∀k∈S4,¬B k) (or1 O p1_1d (a_9 (f_<|Blk.lt hB1) a8):∀k∈S4,k∉[g1]) bL bx (bz.g ht) (bA.g ht) ((bu.e s9).e sa) bw bF (bG.g ht) (bH.g ht) ((bC.e s9).e sa) bE<|a_F aE) (.inl z) ?_;rintro _ bR ⟨bS,aF,rfl,bT,bU,bV,bW⟩;refine pD<|Wo<|Wg<|R z (inc_ hkr (lt_ (repS.len V) v_) z z)<|Rm z<|Wl ?_
  exact fun _ q=>⟨bO,(som aS).symm,⟨aF,q.k<|s7 z z z z z z z,(cM (D_ (D_ (D_ (cM (cr ([g1]++S1_1) H) sd (aa_ (io<|b_Q sr)<|io<|b_n sr):Chg (· ∈ ([g1]++S1_1)) H bq) sb:Chg (· ∈ ([g1]++S1_1)) H br) s9:Chg (· ∈ ([g1]++S1_1)) H bK) sa:Chg (· ∈ ([g1]++S1_1)) H bN) bS (aa_ (io<|b_Q sr) (or1 O (io<|b_n sr) (x_ lr):∀k∈S4,k∈([g1]++S1_1)∨H.z<=k)):Chg (· ∈ ([g1]++S1_1)) H bR),bT,bU,(or1 bV (or1 O (io sr) (x_ lr):∀k∈S4,k∈S1_1∨H.z<=k) (x_<|lt_ (lt_ (lt_ sd.s sb.s) s9.s) sa.s):∀k∈aF,k∈S1_1∨H.z<=k),bW⟩⟩
 ·rintro xh _ bX ⟨S4,aT,bY,hj,hl,O,hn⟩;refine Wu ?_ aT;refine Ws<|Rl z z z<|Wn<|Wq<|Wc z (fun hc=>(M_ hc).elim) (fun _=>?_)
  exact We<|fun _ q=>⟨rfl,⟨S4,q.k sn,(cM (cr ([g1]++S1_1) H) bY (aa_ (io<|b_Q sr)<|io<|b_n sr):Chg (· ∈ ([g1]++S1_1)) H bX),hj,hl,(or1 O (io sr) (x_ lr):∀k∈S4,k∈S1_1∨H.z<=k),hn⟩⟩
 ·rintro xh bZ c0 rfl ⟨S4,_,c1,hj,hl,O,hn⟩;have aU:=elL aj;revert bZ;obtain rfl:=som aU;exact ret0 hr ⟨(cM (D_ (D_ (D_ (cr ([g1]++S1_1) w0) G:Chg (· ∈ ([g1]++S1_1)) w0 ws) s1:Chg (· ∈ ([g1]++S1_1)) w0 wi) s8:Chg (· ∈ ([g1]++S1_1)) w0 H) c1 (aa_ (io<|b_Q sr)<|io<|b_n sr):Chg (· ∈ ([g1]++S1_1)) w0 c0),S4,z,hj,hl,(or1 O (io sr) (x_<|lt_ (lt_ G.s s1.s) s8.s):∀k∈S4,k∈S1_1∨w0.z<=k),hn⟩
 rintro _ _ _ _ rfl ⟨rfl,aV⟩;have aW:=elR aj;obtain rfl:=som aW;exact ⟨aV,z⟩
theorem A_w0j:∀n,n_4 n
  | 0=>⟨fun hm=>by intros;exact nomatch (show none=some _ from hm)⟩
  | n+1=>T_w0j<|A_w0j n
theorem W_w0j:k_A (c_Z n).impl_differ_compare:=A_w0j n
def Q24 (w0:World)(B:Zone)(r:(List A_))(v:Value)(w':World):Prop:=Bw w0 w'/\(fun J=>∃G H I,(sl G H I)=v/\repS w' (zn B w0.z w'.z) (sl G H I) J) r
theorem W_w38 {x1:d_}{x2:Val}{x3:Val}{res:(List A_)}(hm:f_U n x1 x2 x3=some res)(O:B<=w0.z)(hG:Gl w0 B)(V:repS w0 B (sl A0 N0 C0) x1.rules)(a6:inI x2.number)(a7:repS w0 B (sl AA NA CA) x2.bytes)(a9:repS w0 B (sl AB NB CB) x2.items)(aa:inI x3.number)(ab:repS w0 B (sl A6 N6 C6) x3.bytes)(ad:repS w0 B (sl A5 N5 C5) x3.items):h_ prog 26 [(.agg #[sl A0 N0 C0]),.agg #[vI x2.number,sl AA NA CA,sl AB NB CB],(.agg #[vI x3.number,sl A6 N6 C6,sl A5 N5 C5])] w0 (Q24 w0 B res):=by
 unfold f_U at hm
 refine goG func26 z z z fun fn hr=>Ws<|E z (fb z) ?_
 rintro _ wf ⟨rfl,aj⟩;have hj:=aj.below;refine E z (fb z) ?_;rintro _ ws ⟨rfl,ak⟩;have hd:=ak.below;have hv:Blk ws wf.z [vI x2.number,sl AA NA CA,sl AB NB CB]:=ak.blk;refine E z (fb z) ?_;rintro _ wk ⟨rfl,al⟩;have hb:=al.below;have hw:Blk wk ws.z [vI x3.number,sl A6 N6 C6,sl A5 N5 C5]:=al.blk;refine Rw z<|Ws<|E z (s_d (α:=A_) d_P B) ?_
 rintro _ _ ⟨ax,rfl,s2,am⟩;refine Rw z<|Ws ?_
 have hy:=(((aj.blk:Blk wf w0.z [sl A0 N0 C0]).e hd).e hb).e s2;refine R z (lN (vs:=[sl A0 N0 C0]) o_ n_ z z fid<|hy.row 0 1 z) ?_;have hz:=(((hj.ag B).e hd).e hb).e s2;have Y:=lt_ (lt_ (lt_ hj.s hd.s) hb.s) s2.s;obtain ⟨aQ,aR,aD⟩:=bdS hm;refine E z (fc call42 z<|g_i aR (zt' O Y)<|V.g hz) ?_;rintro _ an ⟨G,rfl,a0⟩;refine Rw z<|Wq<|Wq ?_
 obtain ⟨aS,aE,ae⟩:=bdS aD;refine Wt (fun a w=>∃(a1:Bool),a1=aS/\Sat 54 [(3,pt w0.z),(4,pt wf.z),(5,pt ws.z),(7,sl ax 0 0),(8,vI aQ),(25,vB a1)] a/\Below an.z an w) ?_ ?_
 ·refine Wg ?_;have ao:=hy.e G;refine R z (lN (vs:=[sl A0 N0 C0]) o_ n_ z z fid<|ao.row 0 1 z)<|Rm z<|R z (lN (vs:=[vI x2.number,sl AA NA CA,sl AB NB CB]) i_ c_ z z fid<|(((hv.e hb).e s2).e G).row 0 3 z) ?_
  have ho:=hz.e G;have ap:=lt_ Y G.s;obtain ⟨aT,aU,af⟩:=bdS aE;refine E z (fc call43 z<|i_t aU (zt' O ap) (V.g ho) a0 a6 (a7.g ho)<|a9.g ho) ?_;rintro _ _ ⟨sg,rfl⟩;refine R z (not_ z)<|Rm z ?_
  rcases bs (!aT) with H | H
  ·iterate 5 refine Nh z H ?_
   exact R z (pT z H z)<|Wl (fun _ q=>⟨true,som<|ifT af H,q.k<|s6 z z z z z z,sg⟩)
  refine Rh z H (lN (vs:=[sl A0 N0 C0]) o_ n_ z z fid<|(ao.e sg).row 0 1 z)<|Rh z H (mv z)<|Rh z H (lN (vs:=[vI x3.number,sl A6 N6 C6,sl A5 N5 C5]) i_ c_ z z fid<|(((hw.e s2).e G).e sg).row 0 3 z) ?_
  have a2:=ho.e sg;obtain ⟨aV,aW,aF⟩:=bdS<|ifF af H;refine Eg z z H z (fc call43 z<|i_t aW (zt' O<|lt_ ap sg.s) (V.g a2) a0 aa (ab.g a2)<|ad.g a2) ?_;rintro _ _ ⟨aX,rfl⟩;exact Rh z H (not_ z)<|R z (pF z H z)<|Wl (fun _ q=>⟨!aV,som aF,q.k<|s6 z z z z z z,bup sg aX⟩)
 rintro aY wc ⟨a1,rfl,_,s5⟩;revert aY;refine Wo<|Wc z (fun W=>?_) (fun W=>?_)
 ·refine Wm z<|Rw z ?_
  obtain rfl:=som<|ifT ae W;exact Wr<|b_ hr z ⟨bup (bup (bup (bup (bup hj hd) hb) s2) G) s5,ax,0,0,z,repS.mono (a_B.rep ((am.e G).e s5) an_ zr) a_p⟩
 refine Wk<|Ws<|R z (lN (vs:=[sl A0 N0 C0]) o_ n_ z z fid<|((hy.e G).e s5).row 0 1 z)<|E z (o_O (α:=A_)) ?_
 rintro _ wm ⟨rfl,s7,aq⟩;refine R z (bP (parts:=[(0,.tmp 27),(1,.tmp 28)]) (cs:=[sl A0 N0 C0,(.map<|some wc.z)]) r_s z z)<|E z (fb z) ?_
 rintro _ aZ ⟨rfl,ar⟩;have h4:=ar.below;refine Rw z<|Wm z<|Rm z ?_
 have hl:=(((hz.e G).e s5).e s7).e h4;have hp:=lt_ (lt_ Y G.s) s5.s;have au:=zt' O hp;have av:=lt_ (lt_ s2.s G.s) s5.s;have a3:=lt_ hp s7.s;have aw:=zt' O a3;have ay:=lt_ av s7.s;have az:=lt_ a3 h4.s;obtain ⟨b0,b3,aG⟩:=bdS<|ifF ae W;refine E z (fc call44 z<|W_w0j.run (B:=zn B wf.z wk.z) b3 (ar.blk:Blk aZ wm.z [sl A0 N0 C0,(.map<|some wc.z)]) (f_1 (zt' O az)<|lt_ ay h4.s) (atp (or0 (f_ lr) (e_Y (t_ aw) ay):∀k∈[wm.z],¬(zn B wf.z wk.z) k)) (((((((((hG.e hj).e hd).e hb).e s2).e G).e s5).e s7).e h4).mono a_p) (repS.mono (V.g hl) a_p) (aq.e h4) R_ (or0 (f_ lr) (e_Y (t_ au) av):∀k∈[wc.z],¬(zn B wf.z wk.z) k) (ds<|mnr<|a_z.lt aq) a0 a6 (repS.mono (a7.g hl) a_p) (repS.mono (a9.g hl) a_p) (((((((hv.e hb).e s2).e G).e s5).e s7).e h4).row 0 3 z) (zap' (d_F lr hb.s)<|atp<|zin (B:=B) (f_ lr)<|f_ hv.lt) aa (repS.mono (ab.g hl) a_p) (repS.mono (ad.g hl) a_p) ((((((hw.e s2).e G).e s5).e s7).e h4).row 0 3 z) (zap' (d_F hd.s lr)<|atp<|zin (B:=B) (f_ lr)<|f_ hw.lt)<|lb z) ?_;rintro _ I ⟨sq,b4,rfl,ht,_,b5,aA⟩;refine Wn<|Wq<|Wm z<|R z (H_ z)<|Rf z i_k z<|R z (l0 g_73 z<|aA.at z)<|R z (l_y d_73 z ht<|fun _ hk=>fid)<|Rm z<|Wn ?_
 obtain ⟨_,aH,ah⟩:=bdS aG;refine Wf (σ:=List A_) (ρ:=List A_) (fun (a4:Nat)(xh:List A_) a w=>∃J L ca S1,Sat 54 [(7,sl J L ca),(9,pt wm.z),(38,vI (b0.length:Int)),(39,vI ((a4:Nat):Int))] a/\Below I.z I w/\a_B w S1 (zn B wc.z I.z) (sl J L ca) xh/\S1.Nodup/\(∀k∈S1,I.z<=k)) (fun (xh:List A_) a w=>∃J L ca S1,Sat 54 [(7,sl J L ca)] a/\Below I.z I w/\a_B w S1 (zn B wc.z I.z) (sl J L ca) xh/\S1.Nodup/\(∀k∈S1,I.z<=k)) (rQ prog fn<|Q24 w0 B) aH ?_ ?_ ?_ ?_ ?_
 ·have b6:∀k∈[wc.z],¬B k:=or0 (f_ lr)<|t_ au;exact fun _ q=>⟨ax,0,0,([]:List Nat),q.k<|s4 z z z z,br I,a_B.mono (((((am.e G).e s5).e s7).e h4).c sq (nmA an_ an_)<|nmA (g_ (or0 (f_ lr) (t_ aw):∀k∈[wm.z],¬B k))<|g_ b6) a_p,a_8,an_⟩
 ·rintro a4 xh _ b7 _ ai ⟨J,L,ca,S1,aI,sr,hi,hu,he⟩ aJ;refine Wu ?_ aI;refine Ws<|Rl z z z<|Wn<|Wq<|Wc z (fun _=>?_) (fun hc=>(L_ ai hc).elim)
  refine Wk<|Wq<|Wb<|Wm z<|Rw z<|Wg<|RM z z<|R z (H_ z)<|Rf z i_k z<|R z (l0 g_73 z<|(aA.e sr).at z)<|Rm z<|R z (bP (parts:=[(0,.tmp 47)]) (cs:=[(vI ((a4:Nat):Int))]) m_K z z) ?_
  obtain ⟨a5,b8,aK⟩:=bdS aJ;refine RX z (o_Q (α:=A_) (B:=zn B wc.z I.z) m_U z z b8 (ht.e sr) (fun _ hk=>fid)<|zin (B:=B) (or1 b5 (f_ lr) (b_P<|lt_ s7.s h4.s):∀k∈b4,wc.z<=k)<|a_z.lt ht) ?_;rintro _ ⟨_,rfl,b9⟩;obtain ⟨ba,bb,bc,be,bf,bg,rfl,bh,bi,bj,bk⟩:=i_Q b9;refine E z (fS [(.tmp 49)] d_P z z z (b_b z) (lb z)<|lb z) ?_;rintro _ bm ⟨rfl,aB⟩;have hn:=aB.below;obtain ⟨bn,bo,aL⟩:=bdS aK;refine E z (s_c (α:=A_) d_P bo z z (hi.e hn) hu (aB.blk:Blk bm b7.z [Str.v a5.path,vI a5.part.number,sl ba bb bc,sl be bf bg]) (n_R (x:=a5) bh bi (bj.e hn)<|bk.e hn) (or0 he (e_Y (t_<|zt' O<|lt_ az sq.s) lr):∀k∈S1,¬(zn B wc.z I.z) k)) ?_;rintro _ _ ⟨bp,bq,bt,bu,rfl,bv,bw,bx,bz⟩;exact Rw z<|Wg<|R z (inc_ ai (lt_ (a_z.len ht) v_) z z)<|Rm z<|Wl (fun _ q=>⟨bn,(som aL).symm,⟨bq,bt,bu,bp,q.k<|s4 z z z z,bM (bup sr hn) bv he,bw,bx,a_o bz he<|lt_ sr.s hn.s⟩⟩)
 ·rintro xh _ _ ⟨J,L,ca,S1,aM,bA,hi,hu,he⟩;refine Wu ?_ aM;refine Ws<|Rl z z z<|Wn<|Wq<|Wc z (fun hc=>(M_ hc).elim) (fun _=>?_)
  exact We<|fun _ q=>⟨rfl,⟨J,L,ca,S1,q.k<|s1 z,bA,hi,hu,he⟩⟩
 ·rintro xh bB _ rfl ⟨J,L,ca,S1,_,aC,hi,hu,he⟩;have aN:=elL ah;revert bB;refine Wo<|Wm z<|Rw z ?_
  obtain rfl:=som aN;exact Wr<|b_ hr z ⟨bup (bM (bup (bup (bup (bup (bup (bup (bup hj hd) hb) s2) G) s5) s7) h4) sq<|aa_ (m1 a3)<|m1 hp) aC,J,L,ca,z,repS.mono (a_B.rep hi (zall (zin (B:=B) he<|a_B.lt hi)<|d_F (lt_ (lt_ s7.s h4.s) sq.s) lr)<|d_F lr aC.s)<|d_F hp lr⟩
 rintro _ _ _ _ rfl ⟨rfl,aO⟩;have aP:=elR ah;obtain rfl:=som aP;exact ⟨aO,z⟩
theorem W_w39 {x1:Str}{x2:UInt8}{res:(List Str)}(hm:f_x x1 x2=some res)(aW:B<=w0.z)(L:x1.b.length<=LEN):h_ prog 153 [Str.v x1,vU<|byteI x2] w0 (Q2 w0 B res):=by
 unfold f_x at hm
 refine goG func153 z z z fun fn hr=>Ws<|Rw z<|Ws<|E z (f0 (α:=Str) a_A) ?_
 rintro _ H ⟨aj,ak,al,rfl,sk,am⟩;refine Rw z<|Ws<|Rw z<|Wq<|Ws<|Rw z ?_
 obtain ⟨_,a3,hmr⟩:=bdS hm;refine Wf (σ:=(List Str)×Int) (ρ:=List Str) (fun (kd:Nat) s a w=>un2 (fun V x5=>∃a2 I J G,Sat 35 [(0,Str.v x1),(1,vU<|byteI x2),(5,sl a2 I J),(6,vI x5),(7,vI ((kd:Nat):Int))] a/\Chg (· ∈ [w0.z]) H w/\a_ w G (sl a2 I J) V/\G.Nodup/\(∀k∈G,k∈[w0.z]∨H.z<=k)/\inI x5) s) (fun s a w=>un2 (fun V x5=>∃a2 I J G,Sat 35 [(0,Str.v x1),(5,sl a2 I J),(6,vI x5)] a/\Chg (· ∈ [w0.z]) H w/\a_ w G (sl a2 I J) V/\G.Nodup/\(∀k∈G,k∈[w0.z]∨H.z<=k)/\inI x5) s) (rQ prog fn<|Q2 w0 B) a3 ?_ ?_ ?_ ?_ ?_
 ·exact fun _ q=>⟨aj,ak,al,[w0.z],q.k<|s5 z z z z z,cr [w0.z] H,am,R_,io sr,ii z⟩
 ·rintro kd ⟨V,x5⟩ _ O _ hke ⟨a2,I,J,G,a4,ss,W,Y,hb,hf⟩ a5;refine Wu ?_ a4;refine Wq<|Wm z<|Rm z<|R z (lnT d_9 z)<|Rl z z z<|Wx z (fun _=>?_) (fun hc=>(L_ hke hc).elim)
  refine Wk<|Wq<|Wb<|Wm z<|Rm z ?_
  obtain ⟨_,eu,a6⟩:=bdS<|b_a a5;refine R z (b_J d_9 z z (a_m eu).1 (a_m eu).2.1)<|Rm z<|Rq z z z<|Wn ?_
  obtain ⟨an,huv,a7⟩:=bdS a6;refine Wt (fun a w=>∃(xg:List Str)(xc:Int),(xg,xc)=an/\∃ah ni cj Sa,Sat 35 [(0,Str.v x1),(1,vU<|byteI x2),(5,sl ah ni cj),(6,vI xc),(7,vI ((kd:Nat):Int))] a/\Chg (· ∈ G) O w/\a_ w Sa (sl ah ni cj) xg/\Sa.Nodup/\(∀k∈Sa,k∈G∨O.z<=k)/\inI xc) ?_ ?_
  ·refine Wc z (fun hcl=>?_)<|fun hcl=>?_
   ·refine Wm z<|RM z z<|Rm z ?_
    obtain ⟨ao,em,a8⟩:=bdS<|ifT huv hcl;refine R z (f_W d_9 z z z L em)<|E z (fS [(.tmp 24)] a_A z z z (b_b z) (lb z)<|lb z) ?_
    rintro _ ww ⟨rfl,hn⟩;have ho:=hn.below;have aX:=c_m hn<|b_9<|e_X em L
    obtain ⟨ap,aq,a9⟩:=bdS a8;refine E z (b_u (α:=Str) a_A aq z z (W.e ho) Y (hn.blk:Blk ww O.z [Str.v ao]) (b_9<|e_X em L) an_ a_8) ?_;rintro _ ar ⟨Sx,au,av,aw,rfl,ax,ay,az,aA⟩;refine Rw z<|Wg<|Rm z<|R z (inc_ hke (lt_ L v_) z z)<|Ra z<|Wl ?_
    exact fun _ q=>⟨ap,((kd+1:Nat):Int),som a9,au,av,aw,Sx,q.k<|s5 z z z z z,(cM (D_ (cr G O) ho:Chg (· ∈ G) O ww) ax (io sr):Chg (· ∈ G) O ar),ay,az,(or2 aA (io sr) an_ (x_ ho.s):∀k∈Sx,k∈G∨O.z<=k),ic (Nat.succ_le_of_lt hke)<|lt_ L v_⟩
   exact a_s<|fun _ q=>⟨V,x5,som<|ifF huv hcl,a2,I,J,G,q.k<|s5 z z z z z,cr G O,W,Y,io sr,hf⟩
  rintro aB aC ⟨xg,xc,rfl,ah,ni,cj,Sa,_,aD,aE,aF,aG,aH⟩;revert aB;refine Wo<|Wg<|Rm z<|R z (inc_ hke (lt_ L v_) z z)<|Ra z<|Wl ?_
  have hy:∀k∈G,k∈[w0.z]∨H.z<=k:=or1 hb (io sr)<|x_ lr;exact fun _ q=>⟨(xg,xc),(som<|b_a a7).symm,⟨ah,ni,cj,Sa,q.k<|s5 z z z z z,(cM (cM (cr [w0.z] H) ss (io sr):Chg (· ∈ [w0.z]) H O) aD hy:Chg (· ∈ [w0.z]) H aC),aE,aF,(or1 aG hy (x_ ss.s):∀k∈Sa,k∈[w0.z]∨H.z<=k),aH⟩⟩
 ·rintro ⟨V,x5⟩ _ aI ⟨a2,I,J,G,aa,aJ,W,Y,hb,hf⟩;refine Wu ?_ aa;refine Wq<|Wm z<|Rm z<|R z (lnT d_9 z)<|Rl z z z<|Wx z (fun hc=>(M_ hc).elim) (fun _=>?_)
  exact We<|fun _ q=>⟨rfl,⟨a2,I,J,G,q.k<|s3 z z z,(cM (cr [w0.z] H) aJ (io sr):Chg (· ∈ [w0.z]) H aI),W,Y,(or1 hb (io sr) (x_ lr):∀k∈G,k∈[w0.z]∨H.z<=k),hf⟩⟩
 ·rintro ⟨V,x5⟩ aK aL rfl ⟨a2,I,J,G,_,sz,W,Y,hb,hf⟩;have ab:=elL hmr;revert aK;refine Wo<|Wm z<|RM z z ?_
  obtain ⟨aM,ep,ad⟩:=bdS<|b_a ab;refine R z (f_W d_9 z z z L ep)<|E z (fS [(.tmp 32)] a_A z z z (b_b z) (lb z)<|lb z) ?_
  rintro _ aN ⟨rfl,hq⟩;have ht:=hq.below;have aY:=c_m hq<|b_9<|e_X ep L
  obtain ⟨_,aO,ae⟩:=bdS ad;refine E z (b_u (α:=Str) a_A aO z z (W.e ht) Y (hq.blk:Blk aN aL.z [Str.v aM]) (b_9<|e_X ep L) an_ a_8) ?_;rintro _ _ ⟨a0,aP,aQ,aR,rfl,aS,aT,aU,aV⟩;refine Rw z ?_
  obtain rfl:=som ae;have a1:∀k∈G,w0.z<=k:=or1 hb (f_ lr)<|b_P sk.s;exact Wr<|b_ hr z ⟨bM (bup (bM sk sz<|f_ lr) ht) aS a1,aP,aQ,aR,a0,z,aT,aU,(or2 aV a1 an_ (b_P<|lt_ (lt_ sk.s sz.s) ht.s):∀k∈a0,w0.z<=k)⟩
 rintro _ _ _ _ rfl ⟨rfl,af⟩;have ai:=elR hmr;obtain rfl:=som ai;exact ⟨af,z⟩
theorem W_w1u {x1:Str}{res:Int×Bool}(hm:e_G x1=some res)(af:B<=w0.z)(Y:x1.b.length<=LEN):h_ prog 144 [Str.v x1] w0 (Q14 w0 B res):=by
 unfold e_G at hm
 refine goG func144 z z z fun fn hr=>Ws<|Ra z<|Rw z<|Wq<|Wq ?_
 obtain ⟨uv,huf,hmg⟩:=bdS hm;refine Wt (fun a w=>∃(W:Bool),W=uv/\Sat 50 [(0,Str.v x1),(22,vB W)] a/\Below w0.z w0 w) ?_ ?_
 ·refine Wg<|Rm z<|R z (b_6 z z)<|Rm z ?_
  rcases bs (x1.b==(⟨[]⟩:Str).b) with I | I
  ·iterate 3 refine Nh z I ?_
   exact R z (pT z I z)<|Rm z<|Nh z z<|Nh z z<|Nh z z<|Nh z z<|Nv z<|Nv z<|Nv z<|Nh z z<|R z (pT z z z)<|Wl (fun _ q=>⟨true,som<|ifT huf I,q.k<|s2 z z,br w0⟩)
  have hmh:=ifF huf I;refine Rh z I (mv z)<|Rh z I (lnT d_9 z)<|Rh z I (a_q z z)<|R z (pF z I z)<|Rm z ?_
  rcases bs (decide<|13<(x1.b.length:Int)) with G | G
  ·iterate 4 refine Nh z G ?_
   exact Nv z<|Nv z<|Nv z<|Nh z G<|R z (pT z G z)<|Wl (fun _ q=>⟨true,som<|ifT hmh G,q.k<|s2 z z,br w0⟩)
  refine Rh z G (mv z) ?_;obtain ⟨xw,ei,hmj⟩:=bdS<|ifF hmh G;refine Rh z G (b_J d_9 z z (a_m ei).1 (a_m ei).2.1)<|Rh z G (eql z z)<|Rh z G (mv z) ?_
  rcases bs ((byteI xw)==(byteI (48:UInt8))) with J | J
  ·exact Rh z J (mv z)<|Rh z J (lnT d_9 z)<|Rh z J (a_q z z)<|Rh z G (pT z J z)<|R z (pF z G z)<|Wl (fun _ q=>⟨decide<|1<(x1.b.length:Int),som<|ifT hmj J,q.k<|s2 z z,br w0⟩)
  iterate 3 refine Nh z J ?_
  exact Rh z G (pF z J z)<|R z (pF z G z)<|Wl (fun _ q=>⟨false,som<|ifF hmj J,q.k<|s2 z z,br w0⟩)
 rintro ax L ⟨W,rfl,_,s6⟩;revert ax;refine Wo<|Wc z (fun hca=>?_) (fun hca=>?_)
 ·refine Ws<|Ra z<|Rw z ?_
  obtain rfl:=som<|ifT hmg hca;exact Wr<|a_P hr z z ⟨s6,z,ii z⟩
 refine Wk<|Ws<|Rw z<|Wq<|Ws<|Rw z ?_
 obtain ⟨_,huy,hmk⟩:=bdS<|ifF hmg hca;refine Wf (σ:=Int) (ρ:=Int×Bool) (fun (kb:Nat)(x2:Int) a w=>Sat 50 [(0,Str.v x1),(4,vI x2),(5,vI ((kb:Nat):Int))] a/\Below L.z L w/\inI x2) (fun (x2:Int) a w=>Sat 50 [(4,vI x2)] a/\Below L.z L w/\inI x2) (rQ prog fn<|Q14 w0 B) huy ?_ ?_ ?_ ?_ ?_
 ·exact fun _ q=>⟨q.k<|s3 z z z,br L,ii z⟩
 ·rintro kb x2 _ O _ hkl ⟨hSz,sm,V⟩ a0;refine Wu ?_ hSz;refine Wq<|Wm z<|Rm z<|R z (lnT d_9 z)<|Rl z z z<|Wx z (fun _=>?_) (fun hc=>(L_ hkl hc).elim)
  refine Wk<|Wq<|Wb<|Wq<|Wq ?_
  obtain ⟨a7,a1,hmn⟩:=bdS a0;refine Wt (fun a w=>∃(xc:Bool),xc=a7/\Sat 50 [(0,Str.v x1),(4,vI x2),(5,vI ((kb:Nat):Int)),(38,vB xc)] a/\Below O.z O w) ?_ ?_
  ·refine Wg<|RM z z ?_
   obtain ⟨a8,eo,hmp⟩:=bdS a1;refine R z (b_J d_9 z z (a_m eo).1 (a_m eo).2.1)<|Rl z z z<|Rm z ?_
   rcases bs (decide<|(byteI a8)<(byteI (48:UInt8))) with H | H
   ·iterate 4 refine Nh z H ?_
    exact R z (pT z H z)<|Wl (fun _ q=>⟨true,som<|ifT hmp H,q.k<|s4 z z z z,br O⟩)
   refine Rh z H (mv z)<|Rh z H (mv z) ?_
   obtain ⟨a9,eq,a2⟩:=bdS<|ifF hmp H;exact Rh z H (b_J d_9 z z (a_m eq).1 (a_m eq).2.1)<|Rh z H (a_q z z)<|R z (pF z H z)<|Wl (fun _ q=>⟨decide<|(byteI (57:UInt8))<(byteI a9),som a2,q.k<|s4 z z z z,br O⟩)
  rintro aa _ ⟨xc,rfl,_,sr⟩;revert aa;refine Wo<|Wc z (fun hcd=>?_) (fun hcd=>?_)
  ·exact Ws<|Ra z<|Rw z<|Wr<|rtO<|qL (som<|ifT hmn hcd).symm<|a_P hr z z ⟨bup (bup s6 sm) sr,z,ii z⟩
  refine Wk<|Wg<|Rm z<|R z (f_5 z z)<|RM z z ?_
  obtain ⟨ab,es,a3⟩:=bdS<|ifF hmn hcd;exact R z (b_J d_9 z z (a_m es).1 (a_m es).2.1)<|R z (l_i z z)<|R z (c_2 d_5 d_3 z)<|R z (add_ z z)<|Rw z<|Wg<|Rm z<|R z (inc_ hkl (lt_ Y v_) z z)<|Ra z<|Wl (fun _ q=>⟨s_ (b_5 10 x2)<|byteI<|mkB (byteI ab - byteI (48:UInt8)),(som a3).symm,⟨q.k<|s3 z z z,bup sm sr,iA _ _⟩⟩)
 ·rintro x2 _ _ ⟨a4,ad,V⟩;refine Wu ?_ a4;refine Wq<|Wm z<|Rm z<|R z (lnT d_9 z)<|Rl z z z<|Wx z (fun hc=>(M_ hc).elim) (fun _=>?_)
  exact We<|fun _ q=>⟨rfl,⟨q.k<|s1 z,ad,V⟩⟩
 ·rintro x2 ae _ rfl ⟨_,st,V⟩;have hmu:=elL hmk;revert ae;refine Wo<|Wq<|Wm z<|R z (a_q z z)<|Wx z (fun hce=>?_) (fun hce=>?_)
  ·refine Ws<|Ra z<|Rw z ?_
   obtain rfl:=som<|ifT hmu hce;exact Wr<|a_P hr z z ⟨bup s6 st,z,ii z⟩
  refine Wk<|Wm z<|Ra z<|Rw z ?_
  obtain rfl:=som<|ifF hmu hce;exact Wr<|a_P hr z z ⟨bup s6 st,z,V⟩
 rintro _ _ _ _ rfl ⟨rfl,a5⟩;have a6:=elR hmk;obtain rfl:=som a6;exact ⟨a5,z⟩
theorem W_w3a {x1:Str}{res:Bool}(hm:e_H n x1=some res)(O:B<=w0.z)(L:x1.b.length<=LEN):h_ prog 115 [Str.v x1] w0 (Q7 w0 B res):=by
 unfold e_H at hm
 refine goG func115 z z z fun fn hr=>Ws<|Rw z<|Wq<|Wq ?_
 obtain ⟨ub,huc,V⟩:=bdS hm;refine Wt (fun a w=>∃(x4:Bool),x4=ub/\Sat 25 [(0,Str.v x1),(18,vB x4)] a/\Below w0.z w0 w) ?_ ?_
 ·refine Wg<|Rm z ?_
  obtain ⟨rd,ee,W⟩:=bdS huc;refine E z (fc call143 z<|k_n (B:=B) ee O L) ?_;rintro _ _ ⟨s3,rfl⟩;refine Rm z ?_
  rcases bs rd with G | G
  ·exact Nh z G<|Nh z G<|R z (pT z G z)<|Rm z<|Nh z z<|Nh z z<|R z (pT z z z)<|Rm z<|Nh z z<|Nh z z<|R z (pT z z z)<|Wl (fun _ q=>⟨true,som<|ifT W G,q.k<|s2 z z,s3⟩)
  have Y:=ifF W G;refine Rh z G (mv z)<|Rh z G (b_6 z z)<|R z (pF z G z)<|Rm z ?_
  rcases bs (x1.b==(⟨[42]⟩:Str).b) with H | H
  ·exact Nh z H<|Nh z H<|R z (pT z H z)<|Rm z<|Nh z z<|Nh z z<|R z (pT z z z)<|Wl (fun _ q=>⟨true,som<|ifT Y H,q.k<|s2 z z,s3⟩)
  have hma:=ifF Y H;refine Rh z H (mv z)<|Rh z H (b_6 z z)<|R z (pF z H z)<|Rm z ?_
  rcases bs (x1.b==(⟨[63]⟩:Str).b) with I | I
  ·exact Nh z I<|Nh z I<|R z (pT z I z)<|Wl (fun _ q=>⟨true,som<|ifT hma I,q.k<|s2 z z,s3⟩)
  exact Rh z I (mv z)<|Rh z I (b_6 z z)<|R z (pF z I z)<|Wl (fun _ q=>⟨x1.b==(⟨[43]⟩:Str).b,som<|ifF hma I,q.k<|s2 z z,s3⟩)
 rintro af _ ⟨x4,rfl,_,s5⟩;revert af;refine Wo<|Wc z (fun J=>?_) (fun J=>?_)
 ·refine Ws<|Rw z ?_
  obtain rfl:=som<|ifT V J;exact Wr<|b_ hr z ⟨s5,z⟩
 refine Wk<|Wm z ?_
 obtain ⟨_,_,eg,hmh⟩:=c_1<|ifF V J;refine E z (fc call144 z<|W_w1u eg (zt' O s5.s) L) ?_;rintro _ _ ⟨si,rfl,_⟩;refine Rm z<|Re z z z<|Re z z z<|Ra z<|Rw z<|Wm z<|Rw z ?_
 obtain rfl:=som hmh;exact Wr<|b_ hr z ⟨bup s5 si,z⟩
def Q25 (w0:World)(B:Zone)(r:(List Str)×Bool)(v:Value)(w':World):Prop:=Bw w0 w'/\un2 (fun J L=>∃(G:Option Addr)(H I:Nat)(S1:List Nat),v = .tuple #[(sl G H I),(vB L)]/\a_ w' S1 (sl G H I) J/\S1.Nodup/\(∀k∈S1,w0.heap.size<=k)) r
theorem r_L {w:World}{gp b:Nat}{s:Str}{l0 parts:List Str}(hs:s.b.length<=LEN)(hm:f_x s (47:UInt8)=some l0)(hsl:slc l0 1 (l0.length:Int)=some parts)(hp:Blk w gp [Str.v s])(hb:b<w.heap.size)(hrow:∀g,c_y w b g->g<w.heap.size) :
    SeqStopsK (α:={x:Str // x∈parts/\x.b.length<=LEN}) Fence.wide 1 Tryz.prog 152 [pt gp].toArray (fun x=>#[x.1.v]) (KpS b) (fun xs=>xs.map (·.1)=parts) (fun _=>True) parts.length w:=by
  intro l J Jx W hW hJ hJx hY h0;have hpW:=hp.ext hW
  have hrowW:∀g,c_y W b g->g<W.heap.size:=fun g ⟨n,c,h⟩=>by
    have h':w.cell? ⟨b,0,none⟩=some (sl (some ⟨g,0,none⟩) n c):=(World.cell?_of_block (w:=w) (w':=W) (a:=⟨b,0,none⟩)<|hW.block b hb).symm.trans h;exact Nat.lt_of_lt_of_le (hrow g ⟨n,c,h'⟩) hW.size
  have hbW:=Nat.lt_of_lt_of_le hb hW.size
  have hc:h_ Tryz.prog 152 [.func (.yield l) #[] #[],pt gp] W (fun _ W'=>(∃xs:List {x:Str // x∈parts/\x.b.length<=LEN},xs.map (·.1)=parts/\J xs W')∨(∃pre,True/\Jx pre W')):=by
    obtain ⟨fn,hf,hbd,hN,hr⟩:=fnE Tryz.func152;refine j_k hf (hbd.trans rfl) (hN.trans rfl) (Nat.le_of_ble_eq_true rfl) ?_;refine a_S<|b_m ?_;refine R rfl (c_r g_9 rfl (fun h=>h)<|hpW.at rfl) ?_;refine E rfl (f_I Tryz.call153 rfl<|W_w39 (B:=W.heap.size) hm zr hs) ?_;rintro _ W1 ⟨s1,a1,n1,c1,S1,rfl,ho,nd,hge⟩;refine RX rfl (s_9 J_ z_9 rfl ho rfl rfl hsl) ?_;intro v7 hv7;obtain ⟨ao7,c7,rfl,_⟩:=id hv7;refine R rfl (h_x J_ rfl<|hv7.repS (B:=W1.heap.size)<|fun k hk=>ho.lt k hk) ?_;refine R rfl (b_S rfl) ?_;refine a_T<|WC.of_KC ?_;have hJ1:J [] W1:=hJ [] W W1 none h0 (Below.grows s1) (fun r h=>by cases h);have hb1:b∉S1:=fun h=>absurd (hge b h)<|Nat.not_le.2 hbW
    have hr1:∀g,c_y W1 b g->g∉S1:=fun g ⟨n,c,h⟩ hg=>by
      have h':W.cell? ⟨b,0,none⟩=some (sl (some ⟨g,0,none⟩) n c):=(World.cell?_of_block (w:=W) (w':=W1) (a:=⟨b,0,none⟩)<|s1.block b hbW).symm.trans h;exact absurd (hge g hg)<|Nat.not_le.2<|hrowW g ⟨n,c,h'⟩
    have hlenL:parts.length<=9223372036854775807:=Nat.le_trans (by obtain ⟨_,_,_,_,h,_⟩:=hv7;exact h) v_;refine e_7 fun a ha=>?_
    refine Code.wp_mono (Q:=Exit.then noK<|fun ex a w=>(ex = .exit 0/\b_R Tryz.prog fn (fun _ W'=>(∃xs:List {x:Str // x∈parts/\x.b.length<=LEN},xs.map (·.1)=parts/\J xs W')∨(∃pre,True/\Jx pre W')) a w)∨(ex = .ret/\b_R Tryz.prog fn (fun _ W'=>(∃xs:List {x:Str // x∈parts/\x.b.length<=LEN},xs.map (·.1)=parts/\J xs W')∨(∃pre,True/\Jx pre W')) a w)) (fun ex a' w' q=>?_)<|wp_loop_ghost (fun m a w=>∃(k:Nat)(pre:List {x:Str // x∈parts/\x.b.length<=LEN}),k+m=parts.length/\pre.map (·.1)=parts.take k/\Sat 18 [(9,vI (k:Int)),(8,vI (parts.length:Int)),(7,sl ao7 parts.length c7),(0,.func (.yield l) #[] #[])] a/\J pre w/\a_ w S1 (sl a1 n1 c1) l0/\(∀g,c_y w b g->g∉S1)/\d_p w (· ∈ S1) (sl ao7 parts.length c7) parts) parts.length ?_ ?_
    · cases ex with
      | normal=>exact (show False from q).elim
      | exit i =>
        rcases q with ⟨h,q⟩ | ⟨h,_⟩
        · cases h;exact q
        · cases h
      | ret =>
        rcases q with ⟨h,_⟩ | ⟨_,q⟩
        · cases h
        · exact q
      | _=>rcases q with ⟨h,_⟩ | ⟨h,_⟩ <;> cases h
    · exact ⟨0,[],by omega,by simp,ha.weaken<|sc rfl<|sc rfl<|sc rfl<|sc rfl sn,hJ1,ho,hr1,hv7⟩
    · rintro m a w ⟨k,pre,hkm,hpre,hsat,hJw,how,hrw,hvw⟩
      refine h_E (N:=18) (e:=[(9,vI (k:Int)),(8,vI (parts.length:Int)),(7,sl ao7 parts.length c7),(0,.func (.yield l) #[] #[])]) ?_ hsat;refine a_S<|b_m<|R rfl (f_Z rfl rfl)<|a_T<|WC.of_KC ?_;refine a_S<|c_R rfl (fun hc=>?_)<|fun hc=>?_
      · have hk:k<parts.length:=by simpa using hc
        obtain ⟨m,rfl⟩:∃m',m=m'+1:=⟨m - 1,by omega⟩;refine a_s<|WC.of_KC ?_;refine a_S<|e_7 ?_;refine a_S<|b_m ?_;have hrep:=hvw.repS (B:=w.heap.size)<|fun k hk=>how.lt k hk;have hidx:idx parts (k:Int)=some parts[k]:=by rw [l_g];simp [hk]
        refine RX rfl (h_y (α:=Str) J_ z_9 rfl rfl rfl hrep hidx) ?_;rintro _ ⟨bb,oo,cs,rfl,hc1,hrr,hlt⟩;obtain ⟨rfl,hxl⟩:=a_R hrr;refine R rfl (c_r g_9 rfl (fun h=>h)<|hc1.at0 rfl) ?_;refine R rfl (d_H rfl) ?_;refine a_T<|WC.of_KC ?_;refine a_S<|s_2 ?_;refine i_x rfl (b_S rfl) ?_;refine i_x rfl (b_S rfl) ?_
        have hpl:pre.length=k:=by
          have:=congrArg List.length hpre
          simp at this;omega
        refine s_3 (S:=fun v w'=>(v=vB true/\J (pre++[⟨parts[k],List.getElem_mem hk,hxl⟩]) w'/\KpS b w w')∨(v=vB false/\Jx (pre++[⟨parts[k],List.getElem_mem hk,hxl⟩]) w')) rfl rfl rfl (hY pre ⟨parts[k],List.getElem_mem hk,hxl⟩ w hJw (by omega)) (fun e w' h=>?_) ?_
        · rcases h with ⟨rfl,h⟩ | ⟨rfl,h⟩
          · exact ⟨_,rfl,.inl ⟨rfl,h⟩⟩
          · exact ⟨_,rfl,.inr ⟨rfl,h⟩⟩
        rintro v w' (⟨rfl,hJ',hK⟩ | ⟨rfl,hX⟩)
        · refine i_x rfl (f_6 rfl) ?_
          refine n_h<|WC.of_KC ?_;refine c_R rfl (fun h=>by cases h)<|fun _=>?_;refine a_s<|WC.of_KC ?_;refine b_m<|R rfl (h_u hk hlenL rfl rfl)<|R rfl (b_S rfl) ?_;obtain ⟨ho',hr'⟩:=hK.own how hb1 hrw
          have hv':d_p w' (· ∈ S1) (sl ao7 parts.length c7) parts:=hvw.stay fun g hg=>hK.chg.block g (how.lt g hg) fun hm=>by
            rcases hm with rfl | hm | ⟨o,ho2,hcl⟩
            · exact hb1 hg
            · exact hrw g hm hg
            · obtain ⟨cur,hB⟩:=f_q how g hg
              rw [hB.isCells ho2] at hcl;cases hcl
          refine a_T fun a' ha'=>⟨m,Nat.lt_succ_self _,k+1,pre++[⟨parts[k],List.getElem_mem hk,hxl⟩],by omega,?_,ha'.weaken<|sc rfl<|sc rfl<|sc rfl<|sc rfl sn,hJ',ho',hr',hv'⟩
          rw [List.map_append,hpre,List.take_add_one,List.getElem?_eq_getElem hk];rfl
        · refine i_x rfl (f_6 rfl) ?_
          refine n_h<|WC.of_KC ?_;refine c_R rfl (fun _=>?_) (fun h=>by cases h);exact e_6<|rtO fun a' ha'=>.inr ⟨rfl,ret0 hr (.inr ⟨_,trivial,hX⟩) a' ha'⟩
      · have hk:¬k<parts.length:=by simpa using hc
        have:k=parts.length:=by omega
        subst this;refine h_o fun a' ha'=>.inl ⟨rfl,ret0 hr (.inl ⟨pre,?_,hJw⟩) a' ha'⟩
        rw [hpre,List.take_length]
  refine callsIn_wide.2<|hc.run.mono fun e w' ⟨v,he,h⟩=>⟨⟨v,he⟩,h⟩
theorem n_5 {w0 W W':World}{row:Option Nat}(h:Below w0.heap.size w0 W)(hg:W.grownBy W' row)(hr:∀r,row=some r->w0.heap.size<=r):Below w0.heap.size w0 W':=d_w h (k_L hg) fun k hk e=>absurd (hr k e)<|Nat.not_le.2 hk
def r_M (w0:World)(s:Str)(v:Value)(w':World):Prop:=v = .func (.func 152) #[] #[pt w0.heap.size]/\Blk w' w0.heap.size [Str.v s]/\Bw w0 w'
theorem r_N {w0:World}{s:Str}:h_ Tryz.prog 142 [Str.v s] w0 (r_M w0 s):=by
  obtain ⟨_,hf,hb,hN,hr⟩:=fnE Tryz.func142;refine j_k hf (hb.trans rfl) (hN.trans rfl) (Nat.le_of_ble_eq_true rfl) ?_;refine a_S<|b_m ?_;refine E rfl (f_H rfl) ?_;rintro _ G ⟨rfl,h1⟩;refine R rfl (d_H rfl) ?_;refine a_T<|WC.of_KC ?_;refine a_S<|b_m ?_;refine R rfl (i_T rfl) ?_;refine R rfl (d_H rfl) ?_;refine a_T<|WC.of_KC ?_;exact e_6<|b_ hr rfl ⟨rfl,(h1.blk:Blk G w0.heap.size [Str.v s]),h1.below⟩
theorem W_w3b {n:Nat}{B:Zone}{x1:Str}{res:(List Str)×Bool}{w0:World}(hm:i_C n x1=some res)(hBw:B<=w0.heap.size)(p1_0:x1.b.length<=LEN):h_ Tryz.prog 114 [(Str.v x1),.func (.func 115) #[] #[]] w0 (Q25 w0 B res):=by
  unfold i_C at hm
  obtain ⟨fn,hf,hb,hN,hr⟩:=fnE Tryz.func114;refine s_6 hf (hb.trans rfl) (hN.trans rfl) (Nat.le_of_ble_eq_true rfl) ?_
  -- the cells
  refine a_S<|b_m ?_;refine E rfl (f_H rfl) ?_;rintro _ w1 ⟨rfl,h1⟩;have b3:Blk w1 w0.heap.size [.func (.func 115) #[] #[]]:=h1.blk;refine E rfl (e_Q m_V) ?_;rintro _ w2 ⟨rfl,h2⟩;have b4:Blk w2 w1.heap.size [.slice none 0 0]:=h2.blk;refine E rfl (e_Q zero_4) ?_;rintro _ w3 ⟨rfl,h3⟩;have b5:Blk w3 w2.heap.size [vB false]:=h3.blk;refine a_T<|WC.of_KC ?_;refine a_S<|b_m ?_;refine E rfl (f_P (α:=Str) a_A) ?_;rintro _ w4 ⟨a,m,c,rfl,s4,ho4⟩;refine E rfl (e_Q m_V) ?_;rintro _ w5 ⟨rfl,h5⟩;have b6:Blk w5 w4.heap.size [.slice none 0 0]:=h5.blk;refine E0 (b_E (cur':=[.slice a m c]) e_s rfl rfl b6 rfl (Nat.le_of_ble_eq_true rfl) (b_O rfl) rfl) ?_;rintro _ w6 ⟨c6,s6⟩;have t6:=s6.one;refine a_T<|WC.of_KC ?_
  -- what is known behind
  have g1:=h1.below;have g2:=h2.below;have g3:=h3.below;have g5:=h5.below;have z1:=h1.size;have z2:=h2.size;have z3:=h3.size;have z5:=h5.size;have z4:=s4.size;have z6:=s6.size
  have hz:w0.heap.size<w1.heap.size/\w1.heap.size<w2.heap.size/\w2.heap.size<w3.heap.size/\w3.heap.size<w4.heap.size/\w4.heap.size<w6.heap.size:=by
    have:=ho4.lt _ List.mem_cons_self
    omega
  have k3:Blk w6 w0.heap.size [.func (.func 115) #[] #[]]:=((((b3.ext g2).ext g3).ext s4).ext g5).chg s6 (by omega);have k4:Blk w6 w1.heap.size [.slice none 0 0]:=(((b4.ext g3).ext s4).ext g5).chg s6 (by omega);have k5:Blk w6 w2.heap.size [vB false]:=((b5.ext s4).ext g5).chg s6 (by omega);have kS:a_ w6 [w3.heap.size] (sl a m c) ([]:List Str):=(ho4.ext g5).chg s6 (fun k hk=>by have:=List.mem_singleton.1 hk;omega);have kB:Below w0.heap.size w0 w6:=d_A (bup (bup (bup (bup g1 g2) g3) s4) g5) t6 (fun k hk=>by have:=List.mem_singleton.1 hk;omega)
  clear b3 b4 b5 b6 ho4 h1 h2 h3 h5 s4 s6 t6 g1 g2 g3 g5 z1 z2 z3 z4 z5 z6
  -- the first look
  refine a_S<|a_S<|b_m ?_;refine R rfl (b_S rfl) ?_;refine R rfl (b_6 rfl rfl) ?_;refine a_T<|WC.of_KC ?_;refine c_R rfl (fun hc=>?_)<|fun hc=>?_
  · obtain rfl:=som (ifT hm hc)
    refine a_S<|b_m ?_;refine R rfl (c_r a_E rfl (fun h=>h)<|c6.at rfl) ?_;refine E0 (b_E (cur':=[.slice a m c]) e_s rfl rfl k4 rfl (Nat.le_of_ble_eq_true rfl) (b_O rfl) rfl) ?_;rintro _ w7 ⟨c7,s7⟩;refine E0 (b_E (cur':=[vB true]) z_4 rfl rfl (k5.chg s7 (by omega)) rfl (Nat.le_of_ble_eq_true rfl) (b_O rfl) rfl) ?_;rintro _ w8 ⟨c8,s8⟩;refine a_T<|WC.of_KC ?_;refine e_6 fun a' ha'=>retM<|a_P hr (d_B (n:=1) a_E rfl<|c7.chg s8 (by omega)) (d_B (n:=1) g_4 rfl c8) ⟨d_A (d_A kB s7.one (fun k hk=>by have:=List.mem_singleton.1 hk;omega)) s8.one (fun k hk=>by have:=List.mem_singleton.1 hk;omega),?_⟩ a' ha'
    exact ⟨a,m,c,_,rfl,(kS.chg s7 (fun k hk=>by have:=List.mem_singleton.1 hk;omega)).chg s8 (fun k hk=>by have:=List.mem_singleton.1 hk;omega),(by simp),fun k hk=>by have:=List.mem_singleton.1 hk;omega⟩
  replace hm:=ifF hm hc;refine a_s<|WC.of_KC ?_
  -- the first byte
  refine a_S<|a_S<|b_m ?_;refine R rfl (b_S rfl) ?_;obtain ⟨x13,e13,hm⟩:=bdS hm;refine R rfl (b_J d_9 rfl rfl (a_m e13).1 (a_m e13).2.1) ?_;refine R rfl (h_Q rfl rfl) ?_;refine a_T<|WC.of_KC ?_;refine c_R rfl (fun hc=>?_)<|fun hc=>?_
  · obtain rfl:=som (ifT hm hc)
    refine a_S<|b_m ?_;refine R rfl (c_r a_E rfl (fun h=>h)<|c6.at rfl) ?_;refine E0 (b_E (cur':=[.slice a m c]) e_s rfl rfl k4 rfl (Nat.le_of_ble_eq_true rfl) (b_O rfl) rfl) ?_;rintro _ w7 ⟨c7,s7⟩;refine E0 (b_E (cur':=[vB false]) z_4 rfl rfl (k5.chg s7 (by omega)) rfl (Nat.le_of_ble_eq_true rfl) (b_O rfl) rfl) ?_;rintro _ w8 ⟨c8,s8⟩;refine a_T<|WC.of_KC ?_;refine e_6 fun a' ha'=>retM<|a_P hr (d_B (n:=1) a_E rfl<|c7.chg s8 (by omega)) (d_B (n:=1) g_4 rfl c8) ⟨d_A (d_A kB s7.one (fun k hk=>by have:=List.mem_singleton.1 hk;omega)) s8.one (fun k hk=>by have:=List.mem_singleton.1 hk;omega),?_⟩ a' ha'
    exact ⟨a,m,c,_,rfl,(kS.chg s7 (fun k hk=>by have:=List.mem_singleton.1 hk;omega)).chg s8 (fun k hk=>by have:=List.mem_singleton.1 hk;omega),(by simp),fun k hk=>by have:=List.mem_singleton.1 hk;omega⟩
  replace hm:=ifF hm hc;refine a_s<|WC.of_KC ?_;obtain ⟨l0,hsp,hm⟩:=bdS hm;obtain ⟨parts,hsl,hm⟩:=bdS hm;obtain ⟨oks,hok,hm⟩:=bdS hm
  split at hm
  case isFalse=>cases hm
  rename_i hlim
  obtain rfl:=som hm;obtain ⟨hacc,hall⟩:=n_n hok
  -- the loop
  refine a_S<|a_S<|b_m ?_;refine R rfl (b_S rfl) ?_;refine E rfl (f_I Tryz.call142 rfl r_N) ?_;rintro _ w7 ⟨rfl,bp,s7⟩;refine a_T<|WC.of_KC ?_;replace k3:=k3.ext s7;replace k4:=k4.ext s7;replace k5:=k5.ext s7;replace c6:=c6.ext s7;replace kS:=kS.ext s7;replace kB:=bup kB<|s7.mono<|Nat.le_refl _;have z7:=s7.size
  have hrow:∀g,c_y w7 w4.heap.size g->g<w7.heap.size:=fun g hg=>by
    have h1:=n_k c6 hg;exact kS.lt _<|(i_y kS).2 g 0 none h1
  generalize w1.heap.size=q4 at *
  generalize w2.heap.size=q5 at *
  generalize w4.heap.size=q6 at *
  refine s_7 (α:={x:Str // x∈parts/\x.b.length<=LEN}) (f:=fun x=>x.1) (gf:=152) (lb:=[pt w6.heap.size]) (b:=q6) (M:=parts.length) (S:=fun xs=>xs.map (·.1)=parts) (Sp:=fun _=>True) rfl Tryz.call152 rfl rfl (by omega)
    (r_L p1_0 hsp hsl bp (by omega) hrow)
    (fun pre W=>(∀x∈pre,(e_H n x.1).getD false=true)/\(∃(a:Option Addr)(m c:Nat)(S:List Nat),Blk W q6 [.slice a m c]/\a_ W S (sl a m c) (pre.map (·.1))/\S.Nodup/\(∀k∈S,q5<k/\k ≠ q6))/\Blk W w0.heap.size [.func (.func 115) #[] #[]]/\Blk W q4 [.slice none 0 0]/\Blk W q5 [vB false]/\Below w0.heap.size w0 W)
    (fun pre W=>(∃x∈pre,(e_H n x.1).getD false=false)/\(∃(a:Option Addr)(m c:Nat)(S:List Nat),Blk W q4 [.slice a m c]/\a_ W S (sl a m c) ([]:List Str)/\S.Nodup/\(∀k∈S,w0.heap.size<=k))/\Blk W q5 [vB false]/\Below w0.heap.size w0 W)
    ?_ ?_ ?_ ?_ ?_ ?_
  · rintro pre W W' row ⟨h1,⟨a,m,c,S,h2,h3,h4,h5⟩,h6,h7,h8,h9⟩ hg hr
    have hr':=fun r e=>(hr r e).2
    exact ⟨h1,⟨a,m,c,S,h2.grown hg hr',n_m h3 hg hr',h4,h5⟩,h6.grown hg hr',h7.grown hg hr',h8.grown hg hr',n_5 h9 hg fun r e=>Nat.le_trans (by omega) (hr r e).1⟩
  · rintro pre W W' row ⟨h1,⟨a,m,c,S,h2,h3,h4,h5⟩,h8,h9⟩ hg hr
    have hr':=fun r e=>(hr r e).2
    exact ⟨h1,⟨a,m,c,S,h2.grown hg hr',n_m h3 hg hr',h4,h5⟩,h8.grown hg hr',n_5 h9 hg fun r e=>Nat.le_trans (by omega) (hr r e).1⟩
  · exact ⟨fun x hx=>(by cases hx),⟨a,m,c,_,c6,kS,(by simp),fun k hk=>by have:=List.mem_singleton.1 hk;omega⟩,k3,k4,k5,kB⟩
  · rintro l pre ⟨x,hx,hxl⟩ W ⟨h1,⟨a,m,c,S,h2,h3,h4,h5⟩,h6,h7,h8,h9⟩ hlt
    refine s_1<|k_K<|k_K<|k_J rfl (fun _ _ h=>by cases h.1) ?_;refine R rfl (c_r g_130 rfl (fun h=>h)<|h6.at rfl) ?_;refine R rfl (b_S rfl) ?_;refine E rfl (d_u (caps:=[]) Tryz.call115 rfl rfl<|W_w3a (hacc x hx) zr hxl) ?_;rintro _ W1 ⟨s1,rfl⟩;refine R rfl (f_6 rfl) ?_;refine a_T<|WCI.of_KC ?_;have y1:=s1.size;have hq6:=h2.lt;have hw0.heap.size:=h6.lt;have hq4:=h7.lt;have hq5:=h8.lt;refine r_Y rfl (fun hc=>?_)<|fun hc=>?_
    · refine k_K (k_J rfl (fun _ _ h=>by cases h.1) ?_)
      refine E rfl (f_P (α:=Str) a_A) ?_;rintro _ W2 ⟨a2,m2,c2,rfl,s2,ho2⟩;refine E0 (b_E (cur':=[.slice a2 m2 c2]) e_s rfl rfl ((h7.ext s1).ext s2) rfl (Nat.le_of_ble_eq_true rfl) (b_O rfl) rfl) ?_;rintro _ W3 ⟨c3,s3⟩;refine E0 (b_E (cur':=[vB false]) z_4 rfl rfl (((h8.ext s1).ext s2).chg s3 (by omega)) rfl (Nat.le_of_ble_eq_true rfl) (b_O rfl) rfl) ?_;rintro _ W4 ⟨c4,s4⟩;refine a_T<|WCI.of_KC ?_;have hW:Below W.heap.size W W2:=bup s1 s2
      have hc4:Chg (fun k=>k=q4∨k=q5) W W4:=by
        have e1:Chg (fun k=>k=q4∨k=q5) W W2:=(Chg.refl _ W).ext hW;refine (e1.comp s3 fun k _ hk=>.inl hk).comp s4 fun k _ hk=>.inr hk
      refine s_0 fun _ q=>⟨rfl,n_l hc4 fun k _ hk=>?_,⟨⟨x,hx,hxl⟩,by simp,by simpa using hc⟩,⟨a2,m2,c2,_,c3.chg s4 (by omega),(ho2.chg s3 fun k hk=>by have:=List.mem_singleton.1 hk;omega).chg s4 fun k hk=>by have:=List.mem_singleton.1 hk;omega,(by simp),fun k hk=>by have:=List.mem_singleton.1 hk;omega⟩,c4,?_⟩
      · rcases hk with rfl | rfl
        · exact ⟨_,h7⟩
        · exact ⟨_,h8⟩
      · exact d_w h9 hc4 fun k hk hm=>by rcases hm with rfl | rfl <;> omega
    · refine r_Z (WCI.of_KC ?_)
      refine k_J rfl (fun _ _ h=>by cases h.1) ?_
      have hpsh:psh (pre.map (·.1)) x=some (pre.map (·.1)++[x]):=by
        unfold psh
        rw [if_pos (by rw [List.length_map];omega)]
      refine R rfl (c_r a_E rfl (fun h=>h)<|(h2.ext s1).at rfl) ?_;refine R rfl (b_S rfl) ?_;refine E rfl (h_q [(.tmp 25)] a_A rfl rfl rfl (b_b rfl) (Nat.le_of_ble_eq_true rfl)<|Nat.le_of_ble_eq_true rfl) ?_;rintro _ W2 ⟨rfl,hb⟩;have s2:=hb.below;have y2:=s2.size;refine E rfl (b_u (α:=Str) a_A hpsh rfl rfl ((h3.ext s1).ext s2) h4 hb.blk (b_9 hxl) all_nil a_8) ?_;rintro _ W3 ⟨S',a',n',c',rfl,s3,ho3,nd3,hs3⟩;have y3:=s3.size
      have n3:∀k,k<W.heap.size->k<=q5∨k=q6->k∉S':=fun k hk hq hm=>by
        rcases hs3 k hm with h | h | h
        · have:=h5 k h;omega
        · cases h
        · omega
      refine E0 (b_E (cur':=[.slice a' n' c']) e_s rfl rfl (((h2.ext s1).ext s2).chg s3 (fun hm=>(h5 _ hm).2 rfl)) rfl (Nat.le_of_ble_eq_true rfl) (b_O rfl) rfl) ?_;rintro _ W4 ⟨c4,s4⟩;have hW:Below W.heap.size W W2:=bup s1 s2
      have hc4:Chg (fun k=>k=q6∨k∈S) W W4:=by
        have e1:Chg (fun k=>k=q6∨k∈S) W W2:=(Chg.refl _ W).ext hW;refine (e1.comp s3 fun k _ hk=>.inr hk).comp s4 fun k _ hk=>.inl hk
      have ho4:a_ W4 S' (sl a' n' c') (pre.map (·.1)++[x]):=ho3.chg s4 fun k hk he=>n3 q6 hq6 (.inr rfl)<|he ▸ hk
      have hs4:∀k∈S',k∈S∨W.heap.size<=k:=fun k hk=>by
        rcases hs3 k hk with h | h | h
        · exact .inl h
        · cases h
        · exact .inr (by omega)
      have k4:∀k,k<=q5->¬(k=q6∨k∈S):=fun k hk hm=>by
        rcases hm with rfl | hm
        · omega
        · have:=h5 k hm;omega
      refine a_T fun a'' ha''=>⟨n_l hc4 fun k _ hk=>?_,KpS.of_chg h2 h3 c4 ho4 hs4 hc4,fun y hy=>?_,⟨a',n',c',S',c4,by simpa using ho4,nd3,fun k hk=>?_⟩,h6.chg hc4<|k4 _ (by omega),h7.chg hc4<|k4 _ (by omega),h8.chg hc4<|k4 _ (by omega),d_w h9 hc4 fun k hk hm=>k4 k (by omega) hm⟩
      · rcases hk with rfl | hk
        · exact ⟨_,h2⟩
        · exact f_q h3 k hk
      · rcases List.mem_append.1 hy with hy | hy
        · exact h1 y hy
        · obtain rfl:=List.mem_singleton.1 hy
          simpa using hc
      · rcases hs4 k hk with h | h
        · exact h5 k h
        · omega
  · rintro D xs W hD hxs ⟨h1,⟨a,m,c,S,h2,h3,h4,h5⟩,h6,h7,h8,h9⟩ hdef a0 ha0
    have hw0.heap.size:=h6.lt;have hq4:=h7.lt;have hq5:=h8.lt;refine tailD ?_ ha0;refine R rfl (c_r a_E rfl (fun h=>h)<|h2.at rfl) ?_;refine E0 (b_E (cur':=[.slice a m c]) e_s rfl rfl h7 rfl (Nat.le_of_ble_eq_true rfl) (b_O rfl) rfl) ?_;rintro _ W1 ⟨c7,s7⟩;refine E0 (b_E (cur':=[vB true]) z_4 rfl rfl (h8.chg s7 (by omega)) rfl (Nat.le_of_ble_eq_true rfl) (b_O rfl) rfl) ?_;rintro _ W2 ⟨c8,s8⟩;have hDlt:=(Array.getElem?_eq_some_iff.1 hdef).1;have hdef2:W2.heap[D]? = some (.deferred<|some []):=((s8.block D (Nat.lt_of_lt_of_le hDlt s7.size) (by omega)).trans (s7.block D hDlt (by omega))).trans hdef
    have hDS:∀k∈S,k ≠ D:=fun k hk e=>by
      obtain ⟨cur,hB⟩:=f_q h3 k hk;have:=(e ▸ hB).isCells hdef
      cases this
    have hoks:oks.all id=true:=hall.2 fun y hy=>by
      rw [← hxs] at hy
      obtain ⟨z,hz,rfl⟩:=List.mem_map.1 hy;exact h1 z hz
    rw [if_pos hoks]
    refine a_T fun a' ha'=>⟨ha'.defers,hdef2,?_⟩
    have hp:=n_i W2 D<|.deferred none;obtain ⟨_,v,e1,e2⟩:=a_P (R:=Q25 w0 B (parts,true)) hr (d_B (n:=1) a_E rfl<|(c7.chg s8 (by omega)).chg hp (by omega)) (d_B (n:=1) g_4 rfl<|c8.chg hp (by omega)) ⟨d_w (d_w (d_w h9 s7 fun k hk e=>by omega) s8 fun k hk e=>by omega) hp fun k hk e=>by omega,a,m,c,S,rfl,((hxs ▸ h3).chg s7 fun k hk e=>by have:=h5 k hk;omega).chg s8 (fun k hk e=>by have:=h5 k hk;omega) |>.chg hp fun k hk e=>hDS k hk e,h4,fun k hk=>by have:=h5 k hk;omega⟩ a' ha';exact ⟨v,e1,e2⟩
  · rintro D pre W hD _ ⟨⟨⟨x,hx,hxl⟩,hxm,hxb⟩,⟨a,m,c,S,h2,h3,h4,h5⟩,h8,h9⟩ hdef a0 ha0
    have hq4:=h2.lt;have hq5:=h8.lt
    have hDS:∀k∈S,k ≠ D:=fun k hk e=>by
      obtain ⟨cur,hB⟩:=f_q h3 k hk;have:=(e ▸ hB).isCells hdef
      cases this
    have hoks:¬oks.all id=true:=fun h=>by
      have:=hall.1 h x hx
      rw [this] at hxb;cases hxb
    rw [if_neg hoks]
    have hp:=n_i W D<|.deferred none;obtain ⟨_,v,e1,e2⟩:=a_P (R:=Q25 w0 B ([],false)) hr (d_B (n:=1) a_E rfl<|h2.chg hp (by omega)) (d_B (n:=1) g_4 rfl<|h8.chg hp (by omega)) ⟨d_w h9 hp fun k hk e=>by omega,a,m,c,S,rfl,h3.chg hp fun k hk e=>hDS k hk e,h4,h5⟩ a0 ha0;exact retD ha0.defers hdef e1 e2
def Q26 (w0:World)(B:Zone)(r:(List Str)×Bool)(v:Value)(w':World):Prop:=Bw w0 w'/\un2 (fun J L=>∃G H I S1,v = .tuple #[sl G H I,vB L]/\a_ w' S1 (sl G H I) J/\S1.Nodup/\(∀k∈S1,w0.z<=k)) r
theorem W_w3c {x1:Str}{res:(List Str)×Bool}(hm:g_N n x1=some res)(H:B<=w0.z)(G:x1.b.length<=LEN):h_ prog 74 [Str.v x1] w0 (Q26 w0 B res):=by
 unfold g_N at hm
 refine goG func74 z z z fun fn hr=>Ws<|Ra z<|Rw z<|Wm z ?_
 obtain ⟨_,_,J,I⟩:=c_1 hm;refine E z (fc call114 z<|W_w3b (B:=B) J H G) ?_;rintro _ _ ⟨s2,L,O,V,W,rfl,Y,h8,h9⟩;refine Re z z z<|Re z z z<|Ra z<|Rw z ?_
 obtain rfl:=som I;exact Wr<|a_P hr z z ⟨s2,L,O,V,W,z,Y,h8,h9⟩
theorem W_w3d {x1:Str}{x2:Str}{b2 o2:Nat}{res:Bool}(hm:h_H x1 x2=some res)(I:B<=w0.z)(G:x1.b.length<=LEN)(H:x2.b.length<=LEN)(hC2:C_ w0 b2 o2 [Str.v x2])(hC2b:B b2):h_ prog 146 [Str.v x1,(.pointer<|some ⟨b2,o2,none⟩)] w0 (Q7 w0 B res):=by
 unfold h_H at hm
 refine goG func146 z z z fun fn hr=>Ws<|Rw z<|Wm z<|R z (l0 g_9 z<|hC2.at0 z)<|R z (b_6 z z)<|Rw z ?_
 obtain rfl:=som hm;exact Wr<|b_ hr z ⟨br w0,z⟩
theorem W_w3e {x1:List Str}{J:Str}{H L:Nat}{res:Int}(hm:f_2 x1 J=some res)(a2:B<=w0.z)(I:repS w0 B (sl A0 N0 C0) x1)(p2c0_0:J.b.length<=LEN)(a1:C_ w0 H L [Str.v J])(a0:B H):h_ prog 145 [sl A0 N0 C0,(.func (.func 146) #[] #[(.pointer<|some ⟨H,L,none⟩)])] w0 (Q0 w0 B res):=by
 unfold f_2 at hm
 refine goG func145 z z z fun fn hr=>Ws<|Rw z<|Wq<|Wm z<|R z (lnR J_ z I)<|Rm z<|Wn ?_
 obtain ⟨_,a3,W⟩:=bdS hm;refine Wf (σ:=Unit) (ρ:=Int) (fun (k4:Nat)(_:Unit) a w=>Sat 19 [(1,.func (.func 146) #[] #[(.pointer<|some ⟨H,L,none⟩)]),(7,sl A0 N0 C0),(8,vI (x1.length:Int)),(9,vI ((k4:Nat):Int))] a/\Below w0.z w0 w) (fun (_:Unit) a w=>Sat 19 [] a/\Below w0.z w0 w) (rQ prog fn<|Q0 w0 B) a3 ?_ ?_ ?_ ?_ ?_
 ·exact fun _ q=>⟨q.k<|s4 z z z z,br w0⟩
 ·rintro k4 _ _ _ _ O ⟨a4,G⟩ a5;refine Wu ?_ a4;refine Ws<|Rl z z z<|Wn<|Wq<|Wc z (fun _=>?_) (fun hc=>(L_ O hc).elim)
  refine Wk<|Wq<|Wb<|Wm z ?_
  obtain ⟨_,ea,hmb⟩:=bdS a5;refine RX z (at_ (α:=Str) J_ z_9 z z z (I.e G) ea) ?_;rintro _ ⟨_,_,_,rfl,hd,he,_⟩;obtain ⟨rfl,hf⟩:=a_R he;refine R z (l0 g_9 z<|hd.at0 z)<|Ra z<|Rw z<|Wm z<|Rm z ?_
  obtain ⟨_,ec,Y⟩:=bdS hmb;refine E z (d_u call146 z z<|W_w3d ec (zt' a2 G.s) hf p2c0_0 (a1.e G) a0) ?_;rintro _ _ ⟨s6,rfl⟩;refine Wx z (fun V=>?_) (fun V=>?_)
  ·exact Wm z<|Rw z<|Wr<|rtO<|qL (som<|ifT Y V).symm<|b_ hr z ⟨bup G s6,z,ic (Nat.le_of_lt O)<|lt_ (repS.len I) v_⟩
  exact Wk<|Wg<|R z (inc_ O (lt_ (repS.len I) v_) z z)<|Rm z<|Wl (fun _ q=>⟨(),(som<|ifF Y V).symm,⟨q.k<|s4 z z z z,bup G s6⟩⟩)
 ·rintro _ _ _ ⟨hSg,sh⟩;refine Wu ?_ hSg;refine Ws<|Rl z z z<|Wn<|Wq<|Wc z (fun hc=>(M_ hc).elim) (fun _=>?_)
  exact We<|fun _ q=>⟨rfl,⟨q.k sn,sh⟩⟩
 ·rintro _ ai _ rfl ⟨_,sj⟩;have hmk:=elL W;revert ai;refine Wo<|Ws<|Rw z ?_
  obtain rfl:=som hmk;exact Wr<|b_ hr z ⟨sj,z,ii z⟩
 rintro _ _ _ _ rfl ⟨rfl,hql⟩;have hmm:=elR W;obtain rfl:=som hmm;exact ⟨hql,z⟩
theorem W_w3f {x1:d_}{x2:Int}{x3:Val}{x4:Str}{res:Int}(hm:e_g n x1 x2 x3 x4=some res)(O:B<=w0.z)(hG:Gl w0 B)(V:repS w0 B (sl A0 N0 C0) x1.rules)(W:inI x2)(b8:inI x3.number)(b9:repS w0 B (sl A6 N6 C6) x3.bytes)(aC:repS w0 B (sl A5 N5 C5) x3.items)(Y:x4.b.length<=LEN):h_ prog 116 [(.agg #[sl A0 N0 C0]),vI x2,.agg #[vI x3.number,sl A6 N6 C6,sl A5 N5 C5],Str.v x4] w0 (Q0 w0 B res):=by
 unfold e_g at hm
 refine goG func116 z z z fun fn hr=>Ws<|E z (fb z) ?_
 rintro _ wg ⟨rfl,hq⟩;have ha:=hq.below;have ht:Blk wg w0.z [sl A0 N0 C0]:=hq.blk;refine E z (fb z) ?_;rintro _ wh ⟨rfl,hu⟩;have L:=hu.below;have hv:Blk wh wg.z [vI x3.number,sl A6 N6 C6,sl A5 N5 C5]:=hu.blk;refine E z (fb z) ?_;rintro _ wr ⟨rfl,hw⟩;have h4:=hw.below;have hb:Blk wr wh.z [Str.v x4]:=hw.blk;refine Rw z<|Wq<|Ws ?_
 have hx:=(ht.e L).e h4;refine R z (lN (vs:=[sl A0 N0 C0]) o_ n_ z z fid<|hx.row 0 1 z)<|Rm z ?_
 have hy:=((ha.ag B).e L).e h4;have hd:=lt_ (lt_ ha.s L.s) h4.s;have hz:=zt' O hd;obtain ⟨_,aI,hms⟩:=bdS hm;refine E z (fc call65 z<|i_p (B:=B) aI hz (V.g hy) W) ?_;rintro _ wi ⟨G,rfl⟩;refine R z (not_ z)<|Wx z (fun hcj=>?_) (fun hcj=>?_)
 ·refine Ws<|Rw z ?_
  obtain rfl:=som<|ifT hms hcj;exact Wr<|b_ hr z ⟨bup (bup (bup ha L) h4) G,z,ii z⟩
 refine Wk<|Ws<|Rw z<|Wq<|Ws<|Rf z a_c z ?_
 have a8:=hx.e G;refine R z (l0 a_e z<|a8.at z)<|Rm z ?_
 obtain ⟨a9,aJ,aD⟩:=bdS<|ifF hms hcj;have aa:=hy.e G;refine RX z (at_ (α:=e_) a_1 p_ z z z (V.g aa) aJ) ?_;rintro _ ⟨_,_,_,rfl,aK,aL,_⟩;obtain ⟨ab,ad,ae,af,ah,ai,aj,ak,al,am,an,ao,rfl,_,_,_,_,aM,_,_⟩:=a_y aL;refine R z (lN (vs:=vR a9 ab ad ae af ah ai aj ak al am an ao) G_ p_ z z fid aK)<|E z (fa b_X) ?_
 rintro _ aN ⟨rfl,ap⟩;have h1:=ap.below;refine E0 (fs0 (cur':=vR a9 ab ad ae af ah ai aj ak al am an ao) p_ z z (ap.blk:Blk aN wi.z [(Str.v (⟨[]⟩:Str)),vI 0,vI 0,vB false,sl none 0 0,sl none 0 0,sl none 0 0,sl none 0 0]) z z z z) ?_;rintro _ we ⟨aq,aO⟩;have h2:=aO.one;refine Wn<|Ws<|Rf z a_n z<|R z (l0 g_3 z<|aq.at z)<|Wn<|Wb<|Ws<|Rq z z z<|Rw z ?_
 obtain ⟨aP,a0,a1⟩:=bdS aD;refine Wt (fun a w=>∃(xc:Int),Sum.inl xc=aP/\Sat 62 [(1,vI x2),(4,pt w0.z),(6,pt wg.z),(7,pt wh.z),(9,vI xc)] a/\Below we.z we w/\inI xc) ?_ ?_
 ·refine Wc z (fun hck=>?_)<|fun hck=>?_
  ·refine Ws<|R z (l0 g_9 z<|(((hb.e G).e h1).c h2<|djs<|mm1 hb.lt G.s).at z) ?_
   have ar:=lt_ hd G.s;obtain ⟨aQ,_,aR,a2⟩:=c_1<|ifT a0 hck;refine E z (fc call144 z<|W_w1u aR (zt' O<|lt_ (lt_ ar h1.s) h2.s) Y) ?_;rintro _ _ ⟨au,rfl,aS⟩;refine Rm z<|Re z z z<|Re z z z<|Ra z<|Rw z<|Wq<|Wm z<|R z (not_ z)<|Wx z (fun hcl=>?_) (fun hcl=>?_)
   ·refine Ws<|Rw z ?_
    obtain rfl:=som<|ifT a2 hcl;have aE:=elR a1;obtain rfl:=som aE;exact Wr<|rtO<|b_ hr z ⟨bup (bM (bup (bup (bup (bup ha L) h4) G) h1) h2<|m1 ar) au,z,ii z⟩
   exact Wk<|Wg<|Rm z<|Ra z<|Wl (fun _ q=>⟨aQ,som<|ifF a2 hcl,q.k<|s5 z z z z z,au,aS⟩)
  refine Ws<|Rq z z z<|Rw z ?_
  obtain ⟨aT,a3,aF⟩:=bdS<|ifF a0 hck;refine Wt (fun a w=>∃(xf:Int),xf=aT/\Sat 62 [(1,vI x2),(4,pt w0.z),(6,pt wg.z),(7,pt wh.z),(9,vI xf)] a/\Below we.z we w/\inI xf) ?_ ?_
  ·refine Wc z (fun hcm=>?_)<|fun hcm=>?_
   ·refine Wg<|Rf z b_p z<|R z (l0 a_E z<|aq.at z)<|R z (i_T z) ?_
    obtain ⟨aU,aV,aG⟩:=bdS<|ifT a3 hcm;refine E z (fc call145 z<|W_w3e (B:=wr.z) aV (Z_<|lt_ (lt_ G.s h1.s) h2.s) (repS.mono (aM.g<|(h1.ag B).c h2<|g_ (or0 (f_ lr) (t_<|zt' O<|lt_ hd G.s):∀k∈[wi.z],¬B k)) hz) Y ((((hb.e G).e h1).c h2<|djs<|mm1 hb.lt G.s).row 0 1 z) hb.lt) ?_;rintro _ _ ⟨aW,rfl,aX⟩;exact Ra z<|Wl (fun _ q=>⟨aU,som aG,q.k<|s5 z z z z z,aW,aX⟩)
   exact a_s<|fun _ q=>⟨0,som<|ifF a3 hcm,q.k<|s5 z z z z z,br we,ii z⟩
  rintro aY _ ⟨xf,rfl,_,aZ,b0⟩;revert aY;exact fun _ q=>⟨xf,som aF,q.k<|s5 z z z z z,aZ,b0⟩
 rintro b3 av ⟨xc,rfl,_,s9,aw⟩;have aH:=elL a1;revert b3;refine Wo<|Wq<|Wq ?_
 obtain ⟨b4,a4,a5⟩:=bdS aH;refine Wt (fun a w=>∃(xn:Bool),xn=b4/\Sat 62 [(9,vI xc),(60,vB xn)] a/\Below av.z av w) ?_ ?_
 ·refine Wd (X:=noX) 0 (.rd 0<|.rd 1<|.rd 2<|.rd 3<|.rd 4<|.rd 5<|.rd 6<|.rd 7<|.rd 8<|.rd 9<|.rd 10<|.rd 11<|.rd 12<|.rd 14<|.ef 13<|.rd 15<|.rd 16<|.rd 17<|.rd 18<|.rd 19<|.rd 20 .done) mo (by kernel_rfl) fun ba s6 _=>dM z z z<|dR z z (lss z z)<|dM z z z ?_
  rcases bs (decide<|xc<0) with I | I
  ·iterate 5 refine dRn z z z I z ?_
   refine dR z z (pT z I z)<|dM z z z ?_
   iterate 4 refine dRn z z z z z ?_
   exact dEn z z z z z<|dRn z z z z z<|dR z z (pT z z z)<|dM z z z<|dRn z z z z z<|dRn z z z z z<|dR z z (pT z z z)<|pD (fun _ q=>⟨true,som<|ifT a4 I,q.k<|s2 z z,s6⟩)
  have a6:=ifF a4 I;refine dRg z z z I z (mv z)<|dRg z z z I z (fd F_ z)<|dRg z z z I z (l0 I_ z<|((((((hv.e h4).e G).e h1).c h2<|djs<|mm1 hv.lt<|lt_ h4.s G.s).e s9).e s6).at z) ?_
  have ax:=lt_ hd G.s;have ay:∀k∈[wi.z],¬B k:=or0 (f_ lr)<|t_<|zt' O ax;have az:=(((aa.e h1).c h2<|g_ ay).e s9).e s6;refine dRg z z z I z (lnR K_ z<|aC.g az)<|dRg z z z I z (b_K z z)<|dR z z (pF z I z)<|dM z z z ?_
  rcases bs (decide<|(x3.items.length:Int)<=xc) with H | H
  ·iterate 4 refine dRn z z z H z ?_
   exact dEn z z z H z<|dRn z z z H z<|dR z z (pT z H z)<|dM z z z<|dRn z z z z z<|dRn z z z z z<|dR z z (pT z z z)<|pD (fun _ q=>⟨true,som<|ifT a6 H,q.k<|s2 z z,s6⟩)
  refine dRg z z z H z (lN (vs:=[sl A0 N0 C0]) o_ n_ z z fid<|((((a8.e h1).c h2<|djs<|mm1 ht.lt<|lt_ (lt_ L.s h4.s) G.s).e s9).e s6).row 0 1 z)<|dRg z z z H z (mv z)<|dRg z z z H z (mv z) ?_
  have aA:=((((hb.e G).e h1).c h2<|djs<|mm1 hb.lt G.s).e s9).e s6;refine dRg z z z H z (l0 g_9 z<|aA.at z) ?_;obtain ⟨b5,b6,a7⟩:=bdS<|ifF a6 H;refine dEg z z z H z (fc call73 z<|W_w1t b6 (zt' O<|lt_ (lt_ (lt_ (lt_ ax h1.s) h2.s) s9.s) s6.s) ((((((((hG.e ha).e L).e h4).e G).e h1).c h2<|g_ ay).e s9).e s6) (V.g az) W aw) (.inr fun _ _ h=>j_<|h.1) ?_;rintro _ _ ⟨so,rfl,_⟩;refine dRg z z z H z (e_i z z)<|dR z z (pF z H z)<|dM z z z ?_
  rcases bs (b5.b != x4.b) with J | J
  ·exact dRn z z z J z<|dRn z z z J z<|dR z z (pT z J z)<|pD (fun _ q=>⟨true,som<|ifT a7 J,q.k<|s2 z z,bup s6 so⟩)
  exact dRg z z z J z (l0 g_9 z<|(aA.e so).at z)<|dRg z z z J z (b_6 z z)<|dR z z (pF z J z)<|pD (fun _ q=>⟨x4.b==(⟨[]⟩:Str).b,som<|ifF a7 J,q.k<|s2 z z,bup s6 so⟩)
 rintro b7 _ ⟨xn,rfl,_,aB⟩;revert b7;refine Wo<|Wc z (fun hcp=>?_) (fun hcp=>?_)
 ·refine Ws<|Rw z ?_
  obtain rfl:=som<|ifT a5 hcp;exact Wr<|b_ hr z ⟨bup (bup (bM (bup (bup (bup (bup ha L) h4) G) h1) h2<|m1<|lt_ hd G.s) s9) aB,z,ii z⟩
 refine Wk<|Wm z<|Rw z ?_
 obtain rfl:=som<|ifF a5 hcp;exact Wr<|b_ hr z ⟨bup (bup (bM (bup (bup (bup (bup ha L) h4) G) h1) h2<|m1<|lt_ hd G.s) s9) aB,z,aw⟩
def Q27 (w0:World)(B:Zone)(r:(Option Val)×Int)(v:Value)(w':World):Prop:=Bw w0 w'/\un2 (fun H G=>∃(v1:Value),v = .tuple #[v1,vI G]/\e_w w' B v1 H/\inI G) r
theorem W_w3g {x1:d_}{x2:Val}{b2 o2:Nat}{x3:List Str}{res:(Option Val)×Int}(hm:h_I n x1 x2 x3=some res)(L:B<=w0.z)(hG:Gl w0 B)(I:repS w0 B (sl A0 N0 C0) x1.rules)(a3:inI x2.number)(a4:repS w0 B (sl AA NA CA) x2.bytes)(a5:repS w0 B (sl AB NB CB) x2.items)(hC2:C_ w0 b2 o2 [vI x2.number,sl AA NA CA,sl AB NB CB])(hC2b:B b2)(J:repS w0 B (sl A9 N9 C9) x3):h_ prog 75 [(.agg #[sl A0 N0 C0]),.pointer<|some ⟨b2,o2,none⟩,sl A9 N9 C9] w0 (Q27 w0 B res):=by
 unfold h_I at hm
 refine goG func75 z z z fun fn hr=>Ws<|E z (fb z) ?_
 rintro _ aj ⟨rfl,ht⟩;have h2:=ht.below;have hu:Blk aj w0.z [sl A0 N0 C0]:=ht.blk;refine Ra z<|Rw z<|Ws<|R z (lN (vs:=[sl A0 N0 C0]) o_ n_ z z fid<|hu.row 0 1 z) ?_
 obtain ⟨_,ak,a6⟩:=bdS hm;refine E z (fc call42 z<|g_i ak (zt' L h2.s)<|I.e h2) ?_;rintro _ we ⟨s5,rfl,am⟩;refine Rw z<|Wq<|Wm z ?_
 have hj:=(h2.ag B).e s5;refine R z (lnR J_ z<|J.g hj)<|Rm z<|Wn ?_
 obtain ⟨_,a7,hms⟩:=bdS a6;refine Wf (σ:=Val×Int) (ρ:=(Option Val)×Int) (fun (kv:Nat) s a w=>un2 (fun x6 x4=>∃G o1,Sat 43 [(1,.pointer<|some ⟨G,o1,none⟩),(3,pt w0.z),(8,vI x4),(14,sl A9 N9 C9),(15,vI (x3.length:Int)),(16,vI ((kv:Nat):Int))] a/\Below we.z we w/\c_O w B G o1 x6/\inI x4) s) (fun s a w=>un2 (fun x6 x4=>∃G o1,Sat 43 [(1,.pointer<|some ⟨G,o1,none⟩),(8,vI x4)] a/\Below we.z we w/\c_O w B G o1 x6/\inI x4) s) (rQ prog fn<|Q27 w0 B) a7 ?_ ?_ ?_ ?_ ?_
 ·exact fun _ q=>⟨b2,o2,q.k<|s6 z z z z z z,br we,c_O.mk ((hC2.e h2).e s5) (h_d a3 (a4.g hj)<|a5.g hj) hC2b,am⟩
 ·rintro kv ⟨x6,x4⟩ _ _ _ hkw ⟨G,o1,a8,s8,hf,H⟩ a9;obtain ⟨csx,hg,hh,hi⟩:=hf;obtain ⟨al,nm,cn,ao,np,cq,rfl,ha,hb,hd⟩:=b_1 hh;refine Wu ?_ a8;refine Ws<|Rl z z z<|Wn<|Wq<|Wc z (fun _=>?_) (fun hc=>(L_ hkw hc).elim)
  refine Wk<|Wq<|Wb<|Ws ?_
  obtain ⟨_,an,aa⟩:=bdS<|b_a a9;have hy:=hj.e s8;refine RX z (at_ (α:=Str) J_ z_9 z z z (J.g hy) an) ?_;rintro _ ⟨_,_,_,rfl,ap,aq,_⟩;obtain ⟨rfl,ar⟩:=a_R aq;refine R z (l0 g_9 z<|ap.at0 z)<|Rw z<|Wq (Wd (X:=noX) 0 (pl_ 8 [6]) mo (by kernel_rfl) fun aM s3 _=>?_)
  have hz:=((hu.e s5).e s8).e s3;refine dR z z (lN (vs:=[sl A0 N0 C0]) o_ n_ z z fid<|hz.row 0 1 z)<|dM z z z<|dM z z z<|dR z z (H_ z) ?_
  have V:=hg.e s3;refine dR z z (lN (vs:=[vI x6.number,sl al nm cn,sl ao np cq]) i_ c_ z z fid V)<|dM z z z ?_
  have W:=hy.e s3;have Y:=lt_ (lt_ (lt_ h2.s s5.s) s8.s) s3.s;obtain ⟨_,au,O⟩:=bdS aa;refine dE z z (fc call116 z<|W_w3f au (zt' L Y) ((((hG.e h2).e s5).e s8).e s3) (I.g W) H ha (hb.e s3) (hd.e s3) ar) (.inr fun _ _ h=>j_<|h.1) ?_;rintro _ _ ⟨s7,rfl,av⟩;refine dQ z z z<|pD<|Wo<|Wq<|Wm z<|Rl z z z<|Wx z (fun hcr=>?_) (fun hcr=>?_)
  ·exact Ws<|Ra z<|Rw z<|Wr<|rtO<|qL (som<|ifT O hcr).symm<|a_P hr z z ⟨bup (bup (bup (bup h2 s5) s8) s3) s7,.pointer none,z,e_w.nil,ii z⟩
  refine Wk<|Wd (X:=noX) 0 (.rd 0<|.rd 1<|.rd 2<|.rd 3<|.rd 5<|.rd 6<|.rd 7<|.rd 8<|.rd 9<|.rd 10<|.ef 4<|.rd 11<|.rd 12 .done) mo (by kernel_rfl) fun aN sc _=>dR z z (lN (vs:=[sl A0 N0 C0]) o_ n_ z z fid<|((hz.e s7).e sc).row 0 1 z) ?_
  iterate 4 refine dM z z z ?_
  refine dR z z (H_ z)<|dR z z (fd F_ z) ?_
  have a0:=(V.e s7).e sc;refine dR z z (l0 I_ z<|a0.at (j:=2) z)<|dM z z z ?_
  obtain ⟨aw,ax,ab⟩:=bdS<|ifF O hcr;have a1:=((s3.ag B).e s7).e sc;have a2:=hd.g a1;refine dRX z z (at_ (α:=Val) K_ c_ z z z a2 ax) ?_;rintro _ ⟨ay,az,_,rfl,aA,aB,aC⟩;obtain ⟨_,_,_,_,_,_,rfl,aD,aE,aF⟩:=b_1 aB;obtain ⟨aG,aH,ad⟩:=bdS ab;refine dE z z (fc call72 z<|i_s aH (zt' L<|lt_ (lt_ Y s7.s) sc.s) (I.g<|(W.e s7).e sc) H ha (hb.g a1) a2 a0 hi av) (.inr fun _ _ h=>j_<|h.1) ?_;rintro _ _ ⟨sk,rfl,aI⟩;exact dQ z z z<|dQ z z z<|pD<|Wo<|Wg<|R z (inc_ hkw (lt_ (repS.len J) v_) z z)<|Rm z<|Wl (fun _ q=>⟨(aw,aG),(som ad).symm,⟨ay,az,q.k<|s6 z z z z z z,bup (bup (bup (bup s8 s3) s7) sc) sk,c_O.mk (aA.e sk) (h_d aD (aE.e sk)<|aF.e sk) aC,aI⟩⟩)
 ·rintro ⟨x6,x4⟩ _ _ ⟨G,o1,ae,aJ,hf,H⟩;obtain ⟨csx,hg,hh,hi⟩:=hf;obtain ⟨al,nm,cn,ao,np,cq,rfl,ha,hb,hd⟩:=b_1 hh;refine Wu ?_ ae;refine Ws<|Rl z z z<|Wn<|Wq<|Wc z (fun hc=>(M_ hc).elim) (fun _=>?_)
  exact We<|fun _ q=>⟨rfl,⟨G,o1,q.k<|s2 z z,aJ,c_O.mk hg (h_d ha hb hd) hi,H⟩⟩
 ·rintro ⟨x6,x4⟩ aK _ rfl ⟨G,o1,_,aL,hf,H⟩;obtain ⟨csx,hg,hh,hi⟩:=hf;obtain ⟨al,nm,cn,ao,np,cq,rfl,ha,hb,hd⟩:=b_1 hh;have af:=elL hms;revert aK;refine Wo<|Wm z<|Rm z<|Ra z<|Rw z ?_
  obtain rfl:=som<|b_a af;exact Wr<|a_P hr z z ⟨bup (bup h2 s5) aL,.pointer<|some ⟨G,o1,none⟩,z,e_w.mk<|c_O.mk hg (h_d ha hb hd) hi,H⟩
 rintro _ _ _ _ rfl ⟨rfl,ah⟩;have ai:=elR hms;obtain rfl:=som ai;exact ⟨ah,z⟩
theorem W_w3h {x1:d_}{x2:Val}{x3:Str}{res:Val×Int×Bool}(hm:f_Y n x1 x2 x3=some res)(J:B<=w0.z)(hG:Gl w0 B)(O:repS w0 B (sl A0 N0 C0) x1.rules)(V:inI x2.number)(W:repS w0 B (sl AA NA CA) x2.bytes)(Y:repS w0 B (sl AB NB CB) x2.items)(aa:x3.b.length<=LEN):h_ prog 45 [(.agg #[sl A0 N0 C0]),.agg #[vI x2.number,sl AA NA CA,sl AB NB CB],Str.v x3] w0 (Q16 w0 B res):=by
 unfold f_Y at hm
 refine goG func45 z z z fun fn hr=>Ws<|E z (fb z) ?_
 rintro _ wc ⟨rfl,hp⟩;have h5:=hp.below;have hq:Blk wc w0.z [sl A0 N0 C0]:=hp.blk;refine E z (fb z) ?_;rintro _ we ⟨rfl,ht⟩;have h4:=ht.below;have hf:Blk we wc.z [vI x2.number,sl AA NA CA,sl AB NB CB]:=ht.blk;refine E z (fa O_) ?_;rintro _ aj ⟨rfl,hu⟩;have h3:=hu.below;have I:Blk aj we.z [vI 0,sl none 0 0,sl none 0 0]:=hu.blk;refine Ra z<|Rw z<|Wm z ?_
 have L:=lt_ h5.s h4.s;have hg:=lt_ L h3.s;obtain ⟨_,ak,al,ab⟩:=c_1 hm;refine E z (fc call74 z<|W_w3c al (zt' J hg) aa) ?_;rintro _ wa ⟨G,am,an,ao,_,rfl,hv,_,_⟩;refine Rm z<|Re z z z<|Re z z z<|Ra z<|Rw z<|Wq<|Wq ?_
 obtain ⟨ap,hum,hmr⟩:=bdS ab;refine Wt (fun a w=>∃(xh:Bool),xh=ap/\Sat 43 [(3,pt w0.z),(4,pt wc.z),(6,pt we.z),(9,sl am an ao),(27,vB xh)] a/\Below wa.z wa w) ?_ ?_
 ·refine Wd (X:=noX) 0 (.rd 0<|.rd 1<|.rd 2<|.rd 3<|.rd 4<|.rd 6<|.ef 5<|.ef 7<|.rd 8<|.rd 9 .done) mo (by kernel_rfl) fun b0 s7 _=>dM z z z<|dR z z (not_ z)<|dM z z z ?_
  rcases bs (!ak) with H | H
  ·iterate 3 refine dRn z z z H z ?_
   exact dEn z z z H z<|dEn z z z H z<|dRn z z z H z<|dR z z (pT z H z)<|pD (fun _ q=>⟨true,som<|ifT hum H,q.k<|s5 z z z z z,s7⟩)
  have hw:=(((hq.e h4).e h3).e G).e s7;refine dRg z z z H z (lN (vs:=[sl A0 N0 C0]) o_ n_ z z fid<|hw.row 0 1 z)<|dRg z z z H z (lN (vs:=[sl A0 N0 C0]) o_ n_ z z fid<|hw.row 0 1 z)<|dRg z z z H z (lN (vs:=[vI x2.number,sl AA NA CA,sl AB NB CB]) i_ c_ z z fid<|(((hf.e h3).e G).e s7).row 0 3 z) ?_
  have hx:=((((h5.ag B).e h4).e h3).e G).e s7;have hy:=lt_ (lt_ hg G.s) s7.s;obtain ⟨_,aq,ad⟩:=bdS<|ifF hum H;refine dEg z z z H z (fc call42 z<|g_i aq (zt' J hy)<|O.g hx) (.inr fun _ _ h=>j_<|h.1) ?_;rintro _ _ ⟨si,rfl,ar⟩;have hj:=hx.e si;obtain ⟨au,av,ae⟩:=bdS ad;refine dEg z z z H z (fc call43 z<|i_t av (zt' J<|lt_ hy si.s) (O.g hj) ar V (W.g hj)<|Y.g hj) (.inr fun _ _ h=>j_<|h.1) ?_;rintro _ _ ⟨aw,rfl⟩;exact dRg z z z H z (not_ z)<|dR z z (pF z H z)<|pD (fun _ q=>⟨!au,som ae,q.k<|s5 z z z z z,bup (bup s7 si) aw⟩)
 rintro ax _ ⟨xh,rfl,_,s2⟩;revert ax;refine Wo<|Wc z (fun hck=>?_) (fun hck=>?_)
 ·refine Ws<|R z (bP (parts:=[]) (cs:=[vI 0,sl none 0 0,sl none 0 0]) E_ z z)<|E0 (fs0 (cur':=[vI 0,sl none 0 0,sl none 0 0]) c_ z z ((I.e G).e s2) z z z z) ?_
  rintro _ _ ⟨ay,az⟩;refine Ra z<|Rw z ?_
  obtain rfl:=som<|ifT hmr hck;exact Wr<|w_ hr (y_ i_ c_ z ay z) z z ⟨bM (bup (bup (bup (bup h5 h4) h3) G) s2) az.one<|m1 L,none,0,0,[],none,0,0,[],z,ii z,onL,onL,ii z,nd0,al0⟩
 refine Wk<|Ws<|R z (lN (vs:=[sl A0 N0 C0]) o_ n_ z z fid<|((((hq.e h4).e h3).e G).e s2).row 0 1 z)<|Rm z ?_
 have hl:=((((h5.ag B).e h4).e h3).e G).e s2;have hz:=lt_ hg G.s;have hb:=zt' J hz;obtain ⟨aA,_,aB,hms⟩:=c_1<|ifF hmr hck;refine E z (fc call75 z<|W_w3g (B:=wa.z) aB (Z_ s2.s) ((((((hG.e h5).e h4).e h3).e G).e s2).mono hb) (repS.mono (O.g hl) hb) V (repS.mono (W.g hl) hb) (repS.mono (Y.g hl) hb) ((((hf.e h3).e G).e s2).row 0 3 z) (zap' (Z_<|lt_ h3.s G.s) hf.lt)<|or_ (hv.e s2)<|a_.lt hv) ?_;rintro _ _ ⟨s6,_,rfl,a0,aC⟩;refine Rm z<|Re z z z<|Re z z z<|Ra z<|Rw z<|Wq<|Wm z ?_
 rcases aA with _ | aD
 ·obtain af:=opN hms;obtain rfl:=a0;refine R z (n_6 d_77 z)<|Wx z (fun _=>?_) (fun hc=>(b_4 z hc).elim)
  refine Ws<|R z (bP (parts:=[]) (cs:=[vI 0,sl none 0 0,sl none 0 0]) E_ z z)<|E0 (fs0 (cur':=[vI 0,sl none 0 0,sl none 0 0]) c_ z z (((I.e G).e s2).e s6) z z z z) ?_
  rintro _ _ ⟨aE,aF⟩;refine Ra z<|Rw z ?_
  obtain rfl:=som af;exact Wr<|w_ hr (y_ i_ c_ z aE z) z z ⟨bM (bup (bup (bup (bup (bup h5 h4) h3) G) s2) s6) aF.one<|m1 L,none,0,0,[],none,0,0,[],z,ii z,onL,onL,ii z,nd0,al0⟩
 obtain ah:=opJ hms;obtain ⟨_,_,rfl,_,aG,aH,_⟩:=a0;obtain ⟨aI,aJ,aK,aL,aM,aN,rfl,aO,aP,aQ⟩:=b_1 aH;refine R z (n_6 d_77 z)<|Wx z (fun hc=>(b_4 hc z).elim) (fun _=>?_)
 refine Wk<|Wm z<|R z (H_ z)<|R z (lN (vs:=[vI aD.number,sl aI aJ aK,sl aL aM aN]) i_ c_ z z fid aG) ?_
 obtain ⟨aR,aS,ai⟩:=bdS ah;refine E z (fc call71 z<|W_w0d.run (B:=wa.z) aS (Z_<|lt_ s2.s s6.s) aO aP aQ) ?_;rintro _ _ ⟨a1,a2,a3,a4,aT,a5,a6,a7,aU,rfl,aV,aW,aX,hn,hd⟩;refine Rm z<|E0 (fs0 (cur':=[vI aR.number,sl a2 a3 a4,sl a5 a6 a7]) c_ z z ((((I.e G).e s2).e s6).e a1) z z z z) ?_
 rintro _ _ ⟨aY,aZ⟩;have ho:=aZ.one;refine Ra z<|Rw z ?_
 obtain rfl:=som ai;have a8:=lt_ (lt_ G.s s2.s) s6.s;have a9:=lt_ (lt_ hz s2.s) s6.s;exact Wr<|w_ hr (y_ i_ c_ z aY z) z z ⟨bM (bup (bup (bup (bup (bup (bup h5 h4) h3) G) s2) s6) a1) ho<|m1 L,a2,a3,a4,aT,a5,a6,a7,aU,z,aV,aW.c ho<|k_ (al_ hd) I.lt a8,aX.c ho<|k_ (ar_ hd) I.lt a8,aC,na_ (nl_ hn) (nr_ hn)<|nj hn,aa_ (m_ (al_ hd) a9)<|m_ (ar_ hd) a9⟩
theorem W_w3i {x1:Str}{res:Str}(hm:h_r x1=some res)(I:B<=w0.z)(H:x1.b.length<=LEN):h_ prog 46 [Str.v x1] w0 (Q12 w0 B res):=by
 unfold h_r at hm
 refine goG func46 z z z fun fn hr=>Ws<|Rw z<|Wq<|Wm z<|R z (b_6 z z)<|Wx z (fun G=>?_) (fun G=>?_)
 ·refine Ws<|Rw z ?_
  obtain rfl:=som<|ifT hm G;exact Wr<|b_ hr z ⟨br w0,z,lb z⟩
 refine Wk<|Wm z<|Rw z ?_
 obtain rfl:=som<|ifF hm G;exact Wr<|b_ hr z ⟨br w0,z,H⟩
def Q28 (w0:World)(B:Zone)(r:c_p)(v:Value)(w':World):Prop:=Bw w0 w'/\(fun G=>∃H I J,(shV (sl H I J) G.1)=v/\repS w' w'.z (sl H I J) G.2) r
theorem W_w3j {x1:e_}{res:c_p}(hm:c_0 x1=some res)(a1:B<=w0.z)(a2:x1.name.b.length<=LEN)(a3:inI x1.kind)(a4:inI x1.size)(a5:repS w0 B (sl AD ND CD) x1.bytes)(a0:repS w0 B (sl AC NC CC) x1.names)(a6:repS w0 B (sl AE NE CE) x1.tags)(a7:repS w0 B (sl AF NF CF) x1.kids):h_ prog 118 [(.agg #[Str.v x1.name,vI x1.kind,vI x1.size,vB x1.little,sl AD ND CD,sl AC NC CC,sl AE NE CE,sl AF NF CF])] w0 (Q28 w0 B res):=by
 unfold c_0 at hm
 refine goG func118 z z z fun fn hr=>Ws<|E z (fb z) ?_
 rintro _ wg ⟨rfl,Y⟩;have G:=Y.below;have h9:Blk wg w0.z (vR x1 AD ND CD AC NC CC AE NE CE AF NF CF):=Y.blk;refine Rw z<|Wq<|Ws<|Rf z a_n z<|R z (l0 g_3 z<|h9.at z)<|Wn<|Wb<|Ws<|Rq z z z<|Rw z<|Wc z (fun H=>?_) (fun H=>?_)
 ·refine Ws<|R z (bP (parts:=[]) (cs:=[]) r_k z z)<|R z (c_I d_157 (fun _ h=>by cases h) z)<|Rw z ?_
  obtain rfl:=som<|ifT hm H;exact Wr<|rtO<|b_ hr z ⟨G,none,0,0,z,repS.mono (or_ onL an_)<|Z_ G.s⟩
 have hma:=ifF hm H;refine Ws<|Rq z z z<|Rw z<|Wc z (fun I=>?_) (fun I=>?_)
 ·refine Ws<|R z (bP (parts:=[]) (cs:=[]) r_l z z)<|R z (c_I d_158 (fun _ h=>by cases h) z)<|Rw z ?_
  obtain rfl:=som<|ifT hma I;exact Wr<|rtO<|b_ hr z ⟨G,none,0,0,z,repS.mono (or_ onL an_)<|Z_ G.s⟩
 have hmb:=ifF hma I;refine Ws<|Rq z z z<|Rw z<|Wc z (fun J=>?_) (fun J=>?_)
 ·refine Ws<|R z (bP (parts:=[]) (cs:=[]) r_m z z)<|R z (c_I d_159 (fun _ h=>by cases h) z)<|Rw z ?_
  obtain rfl:=som<|ifT hmb J;exact Wr<|rtO<|b_ hr z ⟨G,none,0,0,z,repS.mono (or_ onL an_)<|Z_ G.s⟩
 have hmc:=ifF hmb J;refine Ws<|Rq z z z<|Rw z<|Wc z (fun L=>?_) (fun L=>?_)
 ·refine Ws<|Rf z b_p z<|R z (l0 a_E z<|h9.at z)<|R z (bP (parts:=[(0,.tmp 20)]) (cs:=[sl AC NC CC]) r_n z z)<|R z (c_I d_161 (fun _ h=>by cases h) z)<|Rw z ?_
  obtain rfl:=som<|ifT hmc L;exact Wr<|rtO<|b_ hr z ⟨G,AC,NC,CC,z,repS.mono (a0.e G)<|zt' a1 G.s⟩
 have hmd:=ifF hmc L;refine Ws<|Rq z z z<|Rw z<|Wc z (fun O=>?_) (fun O=>?_)
 ·refine Ws<|R z (bP (parts:=[]) (cs:=[]) r_o z z)<|R z (c_I d_162 (fun _ h=>by cases h) z)<|Rw z ?_
  obtain rfl:=som<|ifT hmd O;exact Wr<|rtO<|b_ hr z ⟨G,none,0,0,z,repS.mono (or_ onL an_)<|Z_ G.s⟩
 have hme:=ifF hmd O;refine Ws<|Rq z z z<|Rw z<|Wc z (fun V=>?_) (fun V=>?_)
 ·refine Ws<|R z (bP (parts:=[]) (cs:=[]) r_p z z)<|R z (c_I d_163 (fun _ h=>by cases h) z)<|Rw z ?_
  obtain rfl:=som<|ifT hme V;exact Wr<|rtO<|b_ hr z ⟨G,none,0,0,z,repS.mono (or_ onL an_)<|Z_ G.s⟩
 have hmf:=ifF hme V;refine Ws<|Rq z z z<|Rw z<|Wc z (fun W=>?_) (fun W=>?_)
 ·refine Ws<|R z (bP (parts:=[]) (cs:=[]) r_q z z)<|R z (c_I d_164 (fun _ h=>by cases h) z)<|Rw z ?_
  obtain rfl:=som<|ifT hmf W;exact Wr<|rtO<|b_ hr z ⟨G,none,0,0,z,repS.mono (or_ onL an_)<|Z_ G.s⟩
 refine Wk<|Ws<|R z (bP (parts:=[]) (cs:=[]) r_r z z)<|R z (c_I d_194 (fun _ h=>by cases h) z)<|Rw z ?_
 obtain rfl:=som<|ifF hmf W;exact Wr<|b_ hr z ⟨G,none,0,0,z,repS.mono (or_ onL an_)<|Z_ G.s⟩
theorem k_B {x1:List Str}{x2:Str}{res:Str}(hm:d_r x1 x2=some res)(I:B<=w0.z)(G:repS w0 B (sl A0 N0 C0) x1)(H:x2.b.length<=LEN):h_ prog 18 [sl A0 N0 C0,Str.v x2] w0 (Q12 w0 B res):=by
 unfold d_r at hm
 refine goG func18 z z z fun fn hr=>Ws<|Rw z<|Wm z<|Rm z ?_
 obtain ⟨_,L,J⟩:=bdS hm;refine E z (fc call28 z<|q_N (B:=B) L I G H) ?_;rintro _ _ ⟨s2,rfl,h3⟩;refine Rw z ?_
 obtain rfl:=som J;exact Wr<|b_ hr z ⟨s2,z,h3⟩
theorem W_w3k {x1:Int}{x2:Str}{x3:Str}{x4:Str}{res:Str}(hm:i_I x1 x2 x3 x4=some res)(I:B<=w0.z)(hG:Gl w0 B)(H:inI x1)(a0:x2.b.length<=LEN)(a1:x3.b.length<=LEN)(a2:x4.b.length<=LEN):h_ prog 119 [vI x1,Str.v x2,Str.v x3,Str.v x4] w0 (Q12 w0 B res):=by
 unfold i_I at hm
 refine goG func119 z z z fun fn hr=>Ws<|Rw z<|Wm z ?_
 obtain ⟨_,W,J⟩:=bdS hm;refine E z (fc call113 z<|k_z (B:=B) W I hG H) ?_;rintro _ _ ⟨s3,rfl,_⟩;refine Rm z ?_;obtain ⟨_,Y,L⟩:=bdS J;refine R z (a_6 z z Y)<|Rm z ?_
 obtain ⟨_,e6,O⟩:=bdS L;refine R z (a_6 z z e6)<|Rm z ?_
 obtain ⟨_,G,V⟩:=bdS O;refine R z (a_6 z z G)<|Rw z ?_
 obtain rfl:=som V;exact Wr<|b_ hr z ⟨s3,z,a_F G⟩
theorem W_w3l {x1:List UInt8}{res:Str}(hm:h_k x1=some res)(a8:B<=w0.z)(L:repS w0 B (sl A0 N0 C0) x1):h_ prog 120 [sl A0 N0 C0] w0 (Q12 w0 B res):=by
 unfold h_k at hm
 refine goG func120 z z z fun fn hr=>Ws<|Rw z<|Wm z<|R z (lnR l_ z L)<|R z (f_5 z z) ?_
 obtain ⟨_,ep,hmq⟩:=bdS hm;refine E z (c_G (α:=UInt8) a_b ep z z) ?_;rintro _ G ⟨ar,ns,ct,rfl,sa,hu⟩;refine Rw z<|Wq<|Wm z<|R z (lnR l_ z<|L.e sa)<|Rm z<|Wn ?_
 obtain ⟨_,huv,hmh⟩:=bdS hmq;refine Wf (σ:=List UInt8) (ρ:=Str) (fun (ki:Nat)(x5:List UInt8) a w=>∃a2 I J H,Sat 28 [(3,sl a2 I J),(10,sl A0 N0 C0),(11,vI (x1.length:Int)),(12,vI ((ki:Nat):Int))] a/\Chg (· ∈ [w0.z]) G w/\a_ w H (sl a2 I J) x5/\H.Nodup/\(∀k∈H,k∈[w0.z]∨G.z<=k)) (fun (x5:List UInt8) a w=>∃a2 I J H,Sat 28 [(3,sl a2 I J)] a/\Chg (· ∈ [w0.z]) G w/\a_ w H (sl a2 I J) x5/\H.Nodup/\(∀k∈H,k∈[w0.z]∨G.z<=k)) (rQ prog fn<|Q12 w0 B) huv ?_ ?_ ?_ ?_ ?_
 ·exact fun _ q=>⟨ar,ns,ct,[w0.z],q.k<|s4 z z z z,cr [w0.z] G,hu,R_,io sr⟩
 ·rintro ki x5 _ ww _ hkj ⟨a2,I,J,H,hSx,sb,h6,O,V⟩ hmy;refine Wu ?_ hSx;refine Ws<|Rl z z z<|Wn<|Wq<|Wc z (fun _=>?_) (fun hc=>(L_ hkj hc).elim)
  refine Wk<|Wq<|Wb<|Ws ?_
  obtain ⟨_,ez,Y⟩:=bdS hmy;refine RX z (at_ (α:=UInt8) l_ z_5 z z z (L.g<|(sa.ag B).c sb<|g_ (or0 (f_ lr) (t_ a8):∀k∈[w0.z],¬B k)) ez) ?_;rintro _ ⟨_,_,_,rfl,a9,aa,_⟩;obtain rfl:=u8 aa;refine R z (l0 g_5 z<|a9.at0 z)<|Ra z<|Wn (Wd (X:=noX) 256 (pl_ 10 [7,8]) mo (by kernel_rfl) fun W sc _=>dM z z z<|dM z z z<|dR z z (o_t z z ⟨by decide,by decide⟩) ?_)
  obtain ⟨xd,ek,a0⟩:=bdS Y;refine dR z z (b_J d_9 z z (a_m ek).1 (a_m ek).2.1)<|dM z z z<|dR z z (o_u (b:=(15:UInt8)) z z) ?_
  obtain ⟨xe,el,a1⟩:=bdS a0;refine dR z z (b_J d_9 z z (a_m el).1 (a_m el).2.1)<|dE z z (fS [(.tmp 19),(.tmp 22)] a_b z z z (b_b z) (lb z)<|lb z) (.inr fun _ _ h=>j_<|h.2.below) ?_
  rintro _ wf ⟨rfl,hn⟩;have hg:=hn.below;obtain ⟨ab,ad,a3⟩:=bdS a1;refine dE z z (fN (α:=UInt8) a_b ad z z ((h6.e sc).e hg) O<|a_.rep (n_v (l:=[xd,xe]) (hn.blk:Blk wf W.z [vU (byteI xd),vU<|byteI xe]) z:a_ wf [W.z] (sl (some ⟨W.z,0,none⟩) 2 2) [xd,xe])) (.inl z) ?_;rintro _ ae ⟨Sm,af,ah,ai,rfl,aj,ak,al,am⟩;refine dQ z z z<|pD<|Wo<|Wg<|R z (inc_ hkj (lt_ (repS.len L) v_) z z)<|Rm z<|Wl ?_
  have ho:∀k∈H,k∈[w0.z]∨G.z<=k:=or1 V (io sr)<|x_ lr;exact fun _ q=>⟨ab,(som a3).symm,⟨af,ah,ai,Sm,q.k<|s4 z z z z,(cM (D_ (D_ (cM (cr [w0.z] G) sb (io sr):Chg (· ∈ [w0.z]) G ww) sc:Chg (· ∈ [w0.z]) G W) hg:Chg (· ∈ [w0.z]) G wf) aj ho:Chg (· ∈ [w0.z]) G ae),ak,al,(or1 am ho (x_<|lt_ (lt_ sb.s sc.s) hg.s):∀k∈Sm,k∈[w0.z]∨G.z<=k)⟩⟩
 ·rintro x5 _ an ⟨a2,I,J,H,a4,ao,h6,O,V⟩;refine Wu ?_ a4;refine Ws<|Rl z z z<|Wn<|Wq<|Wc z (fun hc=>(M_ hc).elim) (fun _=>?_)
  exact We<|fun _ q=>⟨rfl,⟨a2,I,J,H,q.k<|s1 z,(cM (cr [w0.z] G) ao (io sr):Chg (· ∈ [w0.z]) G an),h6,O,(or1 V (io sr) (x_ lr):∀k∈H,k∈[w0.z]∨G.z<=k)⟩⟩
 ·rintro x5 ap _ rfl ⟨a2,I,J,H,_,aq,h6,O,V⟩;have a5:=elL hmh;revert ap;refine Wo<|Wm z<|R z (h_A l_ d_9 d_5 z_5 z<|a_.rep h6)<|Rw z ?_
  obtain rfl:=som a5;exact Wr<|b_ hr z ⟨bM sa aq<|f_ lr,z,repS.len<|a_.rep h6⟩
 rintro _ _ _ _ rfl ⟨rfl,a6⟩;have a7:=elR hmh;obtain rfl:=som a7;exact ⟨a6,z⟩
structure k_C (f:d_->Int->Val->Option Str):Prop where
  run:∀{A0 A6 A5:Option Addr}{N0 C0 N6 C6 N5 C5 b3 o3:Nat}{B:Zone}{x1:d_}{x2:Int}{x3:Val}{res:Str}{w0:World}(hm:f x1 x2 x3=some res)(hBw:B<=w0.z)(hG:Gl w0 B)(p1_0:repS w0 B (sl A0 N0 C0) x1.rules)(p2_0:inI x2)(p3_0:inI x3.number)(p3_1:repS w0 B (sl A6 N6 C6) x3.bytes)(p3_2:repS w0 B (sl A5 N5 C5) x3.items)(hC3:C_ w0 b3 o3 [vI x3.number,sl A6 N6 C6,sl A5 N5 C5])(hC3b:B b3),h_ prog 76 [(.agg #[sl A0 N0 C0]),vI x2,(.pointer<|some ⟨b3,o3,none⟩)] w0<|Q12 w0 B res
structure k_D (f:Int->d_->Int->Val->Option Str):Prop where
  run:∀{A7 AL AM:Option Addr}{N7 C7 b2 o2 b3 o3 NL CL NM CM b4_0 o4_0 b4 o4:Nat}{B:Zone}{x1:Int}{x2:d_}{x3:Int}{x4:Val}{res:Str}{w0:World}(hm:f x1 x2 x3 x4=some res)(hBw:B<=w0.z)(hG:Gl w0 B)(p1_0:inI x1)(p2_0:repS w0 B (sl A7 N7 C7) x2.rules)(hC2:C_ w0 b2 o2 [sl A7 N7 C7])(hC2b:B b2)(p3_0:inI x3)(hC3:C_ w0 b3 o3 [vI x3])(hC3b:B b3)(p4_0_0:inI x4.number)(p4_0_1:repS w0 B (sl AL NL CL) x4.bytes)(p4_0_2:repS w0 B (sl AM NM CM) x4.items)(p4_0:C_ w0 b4_0 o4_0 [vI x4.number,sl AL NL CL,sl AM NM CM])(p4_0b:B b4_0)(hC4:C_ w0 b4 o4 [(.pointer<|some ⟨b4_0,o4_0,none⟩)])(hC4b:B b4),h_ prog 117 [vI x1,.pointer<|some ⟨b2,o2,none⟩,.pointer<|some ⟨b3,o3,none⟩,(.pointer<|some ⟨b4,o4,none⟩)] w0<|Q12 w0 B res
abbrev k_E (n:Nat):Prop:=k_C (a_J n).impl_valueText/\k_D (a_J n).impl_valueText_1
theorem T_w09 (ih:k_E n):k_C (a_N n<|a_J n):=by
 obtain ⟨_,aj⟩:=ih
 constructor
 intro A0 A6 A5 N0 C0 N6 C6 N5 C5 b3 o3 B x1 x2 x3 res w0 hm O hG a2 a9 a0 a3 V hC3 hC3b;unfold a_N at hm
 refine goG func76 z z z fun fn hr=>Ws<|E z (fb z) ?_
 rintro _ ap ⟨rfl,be⟩;have h4:=be.below;have he:Blk ap w0.z [sl A0 N0 C0]:=be.blk;refine E z (fb z) ?_;rintro _ ar ⟨rfl,bf⟩;have h2:=bf.below;have hf:Blk ar ap.z [vI x2]:=bf.blk;refine E z (fb z) ?_;rintro _ a4 ⟨rfl,bg⟩;have h1:=bg.below;have h5:Blk a4 ar.z [(.pointer<|some ⟨b3,o3,none⟩)]:=bg.blk;refine Rw z<|Ws<|R z (i_T z)<|Rw z<|Wq<|Ws<|Rf z a_c z ?_
 have a5:=(he.e h2).e h1;refine R z (l0 a_e z<|a5.at z) ?_;have a6:=hf.e h1;refine R z (l0 g_3 z<|a6.at z) ?_;obtain ⟨cP,cQ,c9⟩:=bdS hm;have a1:=((h4.ag B).e h2).e h1;refine RX z (at_ (α:=e_) a_1 p_ z z z (a2.g a1) cQ) ?_;rintro _ ⟨_,_,_,rfl,cR,cS,_⟩;obtain ⟨cT,cU,cV,cW,cX,cY,cZ,d0,d1,d2,d3,d4,rfl,d5,d6,d7,d8,d9,da,db⟩:=a_y cS;refine R z (lN (vs:=vR cP cT cU cV cW cX cY cZ d0 d1 d2 d3 d4) G_ p_ z z fid cR) ?_;have hj:=lt_ (lt_ h4.s h2.s) h1.s;have h3:=zt' O hj;obtain ⟨ry,dc,b0⟩:=bdS c9;refine E z (fc call118 z<|W_w3j (B:=B) dc h3 d5 d6 d7 d8 d9 da db) ?_;rintro _ wa ⟨G,bh,bi,bj,rfl,au⟩;refine Wn<|Wb<|Ws ?_
 rcases bs (ry.1==1) with aa | aa
 ·refine R z (ta_157 z aa)<|Re z z z<|Re z z z<|Wx z (fun _=>?_) (fun hc=>(b_4 z hc).elim)
  refine Ws<|E z (fa r_x) ?_
  rintro _ dd ⟨rfl,bk⟩;have ak:=bk.below;refine E0 (fs0 (cur':=[]) z_157 z z (bk.blk:Blk dd wa.z []) z z z z) ?_;rintro _ _ ⟨_,de⟩;have am:=de.one;refine Wn<|Ws<|R z (l0 e_r z<|(((h5.e G).e ak).c am<|djs<|mm1 h5.lt G.s).at z)<|R z (H_ z)<|Rf z a_v z ?_
  have aD:=lt_ hj G.s;have bm:∀k∈[wa.z],¬B k:=or0 (f_ lr)<|t_<|zt' O aD;refine R z (l0 g_3 z<|((((((hC3.e h4).e h2).e h1).e G).e ak).c am<|(g_ bm) _ hC3b).at (j:=0) z) ?_;obtain ⟨_,df,ca⟩:=bdS<|ifT b0 aa;refine E z (fc call113 z<|k_z df (zt' O<|lt_ (lt_ aD ak.s) am.s) ((((((hG.e h4).e h2).e h1).e G).e ak).c am<|g_ bm) a0) ?_;rintro _ _ ⟨dg,rfl,dh⟩;refine Rw z ?_
  obtain rfl:=som ca;exact Wr<|rtO<|b_ hr z ⟨bup (bM (bup (bup (bup (bup h4 h2) h1) G) ak) am<|m1 aD) dg,z,dh⟩
 have b4:=ifF b0 aa;refine R z (r_b z aa)<|Re z z z<|Re z z z<|Wx z (fun hc=>(b_4 hc z).elim) (fun _=>?_)
 refine Ws ?_
 rcases bs (ry.1==2) with ab | ab
 ·refine R z (ta_158 z ab)<|Re z z z<|Re z z z<|Wx z (fun _=>?_) (fun hc=>(b_4 z hc).elim)
  refine Ws<|E z (fa r_y) ?_
  rintro _ di ⟨rfl,bn⟩;refine E0 (fs0 (cur':=[]) z_158 z z (bn.blk:Blk di wa.z []) z z z z) ?_;rintro _ _ ⟨_,dj⟩;refine Wn<|Ws<|Rw z ?_
  obtain rfl:=som<|ifT b4 ab;exact Wr<|rtO<|b_ hr z ⟨bM (bup (bup (bup (bup h4 h2) h1) G) bn.below) dj.one<|m1<|lt_ hj G.s,z,lb z⟩
 have b5:=ifF b4 ab;refine R z (r_c z ab)<|Re z z z<|Re z z z<|Wx z (fun hc=>(b_4 hc z).elim) (fun _=>?_)
 refine Ws ?_
 rcases bs (ry.1==5) with ad | ad
 ·refine R z (ta_159 z ad)<|Re z z z<|Re z z z<|Wx z (fun _=>?_) (fun hc=>(b_4 z hc).elim)
  refine Ws<|E z (fa r_z) ?_
  rintro _ dk ⟨rfl,bo⟩;have hh:=bo.below;refine E0 (fs0 (cur':=[]) z_159 z z (bo.blk:Blk dk wa.z []) z z z z) ?_;rintro _ H ⟨_,dl⟩;have hi:=dl.one;refine Wn<|Ws<|E z (f0 (α:=Str) a_A) ?_
  rintro _ J ⟨dm,dn,dp,rfl,sz,dq⟩;refine Rw z<|Wq<|Ws ?_
  have bp:=(((h5.e G).e hh).c hi<|djs<|mm1 h5.lt G.s).e sz;refine R z (l0 e_r z<|bp.at z)<|R z (H_ z)<|Rf z F_ z ?_
  have av:=lt_ hj G.s;have aE:∀k∈[wa.z],¬B k:=or0 (f_ lr)<|t_<|zt' O av;have bq:=((((((hC3.e h4).e h2).e h1).e G).e hh).c hi<|(g_ aE) _ hC3b).e sz;refine R z (l0 I_ z<|bq.at (j:=2) z) ?_;have br:=(((a1.e G).e hh).c hi<|g_ aE).e sz;refine R z (lnR K_ z<|V.g br)<|Rm z<|Wn ?_
  obtain ⟨_,cb,b6⟩:=bdS<|ifT b5 ad;refine Wf (σ:=List Str) (ρ:=Str) (fun (bt:Nat)(a7:List Str) a w=>∃al nn co Sc,Sat 122 [(7,.func (.func 117) #[] #[pt w0.z,pt ap.z,pt ar.z]),(11,sl al nn co),(46,vI (x3.items.length:Int)),(47,vI ((bt:Nat):Int))] a/\Chg (· ∈ [H.z]) J w/\a_ w Sc (sl al nn co) a7/\Sc.Nodup/\(∀k∈Sc,k∈[H.z]∨J.z<=k)) (fun (a7:List Str) a w=>∃al nn co Sc,Sat 122 [(11,sl al nn co)] a/\Chg (· ∈ [H.z]) J w/\a_ w Sc (sl al nn co) a7/\Sc.Nodup/\(∀k∈Sc,k∈[H.z]∨J.z<=k)) (rQ prog fn<|Q12 w0 B) cb ?_ ?_ ?_ ?_ ?_
  ·exact fun _ q=>⟨dm,dn,dp,[H.z],q.k<|s4 z z z z,cr [H.z] J,dq,R_,io sr⟩
  ·rintro bt a7 _ dr _ aA ⟨al,nn,co,Sc,cc,sp,an,aw,ax⟩ cd;refine Wu ?_ cc;refine Ws<|Rl z z z<|Wn<|Wq<|Wc z (fun _=>?_) (fun hc=>(L_ aA hc).elim)
   refine Wk<|Wq<|Wb<|Wm z<|Rw z<|Wg<|RM z z<|Rm z ?_
   have bu:=lt_ h2.s h1.s;have bv:=lt_ bu G.s;have aF:∀k∈[H.z],¬B k:=or0 (f_ lr)<|t_<|zt' O<|lt_ (lt_ av hh.s) hi.s;have aG:=br.c sp<|g_ aF
   have bw:=lt_ h1.s G.s;have bx:=lt_ (lt_ G.s hh.s) hi.s;obtain ⟨ds,dt,ce⟩:=bdS cd;refine E z (d_u call117 z z<|aj.run (B:=a4.z) dt (Z_<|lt_ (lt_ bx sz.s) sp.s) (((((((((hG.e h4).e h2).e h1).e G).e hh).c hi<|g_ aE).e sz).c sp<|g_ aF).mono h3) (ic (Nat.le_of_lt aA)<|lt_ (repS.len V) v_) (repS.mono (a2.g aG) h3) ((((((a5.e G).e hh).c hi<|djs<|mm1 he.lt bv).e sz).c sp<|djs<|mm1 he.lt<|lt_ (lt_ bv hh.s) hi.s).row 0 1 z) (zap' (Z_ bu) he.lt) a9 ((((((a6.e G).e hh).c hi<|djs<|mm1 hf.lt bw).e sz).c sp<|djs<|mm1 hf.lt<|lt_ (lt_ bw hh.s) hi.s).row 0 1 z) (zap' (Z_ h1.s) hf.lt) a0 (repS.mono (a3.g aG) h3) (repS.mono (V.g aG) h3) (bq.c sp<|(g_ aF) _ hC3b) (zap' h3 hC3b) ((bp.c sp<|djs<|mm1 h5.lt bx).row 0 1 z) h5.lt) ?_;rintro _ bz ⟨aH,rfl,bA⟩;refine E z (fS [(.tmp 53)] a_A z z z (b_b z) (lb z)<|lb z) ?_;rintro _ bB ⟨rfl,aI⟩;have aJ:=aI.below;have eK:=c_m aI<|b_9 bA
   obtain ⟨du,dv,cf⟩:=bdS ce;refine E z (b_u (α:=Str) a_A dv z z ((an.e aH).e aJ) aw (aI.blk:Blk bB bz.z [Str.v ds]) (b_9 bA) an_ a_8) ?_;rintro _ dw ⟨bC,dx,dy,dz,rfl,dA,dB,dC,dD⟩;refine Rw z<|Wg<|R z (inc_ aA (lt_ (repS.len V) v_) z z)<|Rm z<|Wl ?_
   have bD:∀k∈Sc,k∈[H.z]∨J.z<=k:=or1 ax (io sr)<|x_ lr;exact fun _ q=>⟨du,(som cf).symm,⟨dx,dy,dz,bC,q.k<|s4 z z z z,(cM (D_ (D_ (cM (cr [H.z] J) sp (io sr):Chg (· ∈ [H.z]) J dr) aH:Chg (· ∈ [H.z]) J bz) aJ:Chg (· ∈ [H.z]) J bB) dA bD:Chg (· ∈ [H.z]) J dw),dB,dC,(or2 dD bD an_ (x_<|lt_ (lt_ sp.s aH.s) aJ.s):∀k∈bC,k∈[H.z]∨J.z<=k)⟩⟩
  ·rintro a7 _ dF ⟨al,nn,co,Sc,cg,dG,an,aw,ax⟩;refine Wu ?_ cg;refine Ws<|Rl z z z<|Wn<|Wq<|Wc z (fun hc=>(M_ hc).elim) (fun _=>?_)
   exact We<|fun _ q=>⟨rfl,⟨al,nn,co,Sc,q.k<|s1 z,(cM (cr [H.z] J) dG (io sr):Chg (· ∈ [H.z]) J dF),an,aw,(or1 ax (io sr) (x_ lr):∀k∈Sc,k∈[H.z]∨J.z<=k)⟩⟩
  ·rintro a7 dH dI rfl ⟨al,nn,co,Sc,_,dJ,an,aw,ax⟩;have ch:=elL b6;revert dH;refine Wo<|Wm z ?_
   obtain ⟨_,dK,ci⟩:=bdS ch;refine E z (fc call18 z<|k_B (B:=dI.z) dK zr (a_.rep an)<|lb z) ?_;rintro _ _ ⟨dL,rfl,_⟩;obtain ⟨_,dN,cj⟩:=bdS ci;refine R z (a_6 z z dN) ?_;obtain ⟨_,bE,ck⟩:=bdS cj;refine R z (a_6 z z bE)<|Rw z ?_
   obtain rfl:=som ck;exact Wr<|rtO<|b_ hr z ⟨bup (bM (bup (bM (bup (bup (bup (bup h4 h2) h1) G) hh) hi<|m1 av) sz) dJ<|m1<|lt_ (lt_ av hh.s) hi.s) dL,z,a_F bE⟩
  rintro _ _ _ _ rfl ⟨rfl,cl⟩;have cm:=elR b6;obtain rfl:=som cm;exact ⟨cl,z⟩
 have b7:=ifF b5 ad;refine R z (r_d z ad)<|Re z z z<|Re z z z<|Wx z (fun hc=>(b_4 hc z).elim) (fun _=>?_)
 refine Ws ?_
 rcases bs (ry.1==6) with ae | ae
 ·refine R z (ta_161 z ae)<|Re z z z<|Re z z z<|Wx z (fun _=>?_) (fun hc=>(b_4 z hc).elim)
  refine Ws<|E z (fa r_A) ?_
  rintro _ dO ⟨rfl,bF⟩;have hb:=bF.below;refine E0 (fs0 (cur':=[sl bh bi bj]) z_161 z z (bF.blk:Blk dO wa.z [sl none 0 0]) z z z z) ?_;rintro _ I ⟨dP,dS⟩;have hd:=dS.one;refine Wn<|Ws<|E z (f0 (α:=Str) a_A) ?_
  rintro _ L ⟨dT,dU,dV,rfl,sk,dW⟩;refine Rw z<|Wq<|Ws<|Rf z r_v z<|R z (l0 a_E z<|(dP.e sk).at z) ?_
  have bG:=((hb.ag<|bl wa.z).c hd<|lg<|f_ lr).e sk;refine R z (lnR J_ z<|au.g bG)<|Rm z<|Wn ?_
  obtain ⟨_,cn,b8⟩:=bdS<|ifT b7 ae;refine Wf (σ:=List Str) (ρ:=Str) (fun (bH:Nat)(a8:List Str) a w=>∃aq nr cs Sg,Sat 122 [(7,.func (.func 117) #[] #[pt w0.z,pt ap.z,pt ar.z]),(14,sl aq nr cs),(66,sl bh bi bj),(67,vI (ry.2.length:Int)),(68,vI ((bH:Nat):Int))] a/\Chg (· ∈ [I.z]) L w/\a_ w Sg (sl aq nr cs) a8/\Sg.Nodup/\(∀k∈Sg,k∈[I.z]∨L.z<=k)) (fun (a8:List Str) a w=>∃aq nr cs Sg,Sat 122 [(14,sl aq nr cs)] a/\Chg (· ∈ [I.z]) L w/\a_ w Sg (sl aq nr cs) a8/\Sg.Nodup/\(∀k∈Sg,k∈[I.z]∨L.z<=k)) (rQ prog fn<|Q12 w0 B) cn ?_ ?_ ?_ ?_ ?_
  ·exact fun _ q=>⟨dT,dU,dV,[I.z],q.k<|s5 z z z z z,cr [I.z] L,dW,R_,io sr⟩
  ·rintro bH a8 _ dX _ aB ⟨aq,nr,cs,Sg,cp,sm,ao,ay,az⟩ cq;refine Wu ?_ cp;refine Ws<|Rl z z z<|Wn<|Wq<|Wc z (fun _=>?_) (fun hc=>(L_ aB hc).elim)
   refine Wk<|Wq<|Wb<|Wm z ?_
   obtain ⟨_,dY,ct⟩:=bdS cq;refine RX z (at_ (α:=Str) J_ z_9 z z z (au.g<|bG.c sm<|lg<|m1<|lt_ hb.s hd.s) dY) ?_;rintro _ ⟨_,_,_,rfl,dZ,e0,_⟩;obtain ⟨rfl,_⟩:=a_R e0;refine R z (l0 g_9 z<|dZ.at0 z)<|Ra z<|Rw z<|Wg<|RM z z ?_
   obtain ⟨_,e1,cu⟩:=bdS ct;refine R z (a_6 z z e1)<|RM z z ?_
   have bI:=lt_ h2.s h1.s;have bJ:=lt_ bI G.s;have bK:=lt_ hj G.s;have aK:∀k∈[wa.z],¬B k:=or0 (f_ lr)<|t_<|zt' O bK;have aL:∀k∈[I.z],¬B k:=or0 (f_ lr)<|t_<|zt' O<|lt_ (lt_ bK hb.s) hd.s;have aM:=((((a1.e G).e hb).c hd<|g_ aK).e sk).c sm<|g_ aL
   have bL:=lt_ h1.s G.s;have bN:=lt_ (lt_ G.s hb.s) hd.s;obtain ⟨_,e2,cv⟩:=bdS cu;refine E z (d_u call117 z z<|aj.run (B:=a4.z) e2 (Z_<|lt_ (lt_ bN sk.s) sm.s) (((((((((hG.e h4).e h2).e h1).e G).e hb).c hd<|g_ aK).e sk).c sm<|g_ aL).mono h3) (ic (Nat.le_of_lt aB)<|lt_ (repS.len au) v_) (repS.mono (a2.g aM) h3) ((((((a5.e G).e hb).c hd<|djs<|mm1 he.lt bJ).e sk).c sm<|djs<|mm1 he.lt<|lt_ (lt_ bJ hb.s) hd.s).row 0 1 z) (zap' (Z_ bI) he.lt) a9 ((((((a6.e G).e hb).c hd<|djs<|mm1 hf.lt bL).e sk).c sm<|djs<|mm1 hf.lt<|lt_ (lt_ bL hb.s) hd.s).row 0 1 z) (zap' (Z_ h1.s) hf.lt) a0 (repS.mono (a3.g aM) h3) (repS.mono (V.g aM) h3) ((((((((hC3.e h4).e h2).e h1).e G).e hb).c hd<|(g_ aK) _ hC3b).e sk).c sm<|(g_ aL) _ hC3b) (zap' h3 hC3b) ((((((h5.e G).e hb).c hd<|djs<|mm1 h5.lt G.s).e sk).c sm<|djs<|mm1 h5.lt bN).row 0 1 z) h5.lt) ?_;rintro _ bO ⟨aN,rfl,_⟩;obtain ⟨e3,aO,cw⟩:=bdS cv;refine R z (a_6 z z aO)<|E z (fS [(.tmp 79)] a_A z z z (b_b z) (lb z)<|lb z) ?_
   rintro _ bP ⟨rfl,aP⟩;have aQ:=aP.below;have eI:=c_m aP<|b_9<|a_F aO
   obtain ⟨e4,e5,cx⟩:=bdS cw;refine E z (b_u (α:=Str) a_A e5 z z ((ao.e aN).e aQ) ay (aP.blk:Blk bP bO.z [Str.v e3]) (b_9<|a_F aO) an_ a_8) ?_;rintro _ e6 ⟨bQ,e7,e8,e9,rfl,ea,eb,ec,ed⟩;refine Rw z<|Wg<|R z (inc_ aB (lt_ (repS.len au) v_) z z)<|Rm z<|Wl ?_
   have bR:∀k∈Sg,k∈[I.z]∨L.z<=k:=or1 az (io sr)<|x_ lr;exact fun _ q=>⟨e4,(som cx).symm,⟨e7,e8,e9,bQ,q.k<|s5 z z z z z,(cM (D_ (D_ (cM (cr [I.z] L) sm (io sr):Chg (· ∈ [I.z]) L dX) aN:Chg (· ∈ [I.z]) L bO) aQ:Chg (· ∈ [I.z]) L bP) ea bR:Chg (· ∈ [I.z]) L e6),eb,ec,(or2 ed bR an_ (x_<|lt_ (lt_ sm.s aN.s) aQ.s):∀k∈bQ,k∈[I.z]∨L.z<=k)⟩⟩
  ·rintro a8 _ ee ⟨aq,nr,cs,Sg,cy,ef,ao,ay,az⟩;refine Wu ?_ cy;refine Ws<|Rl z z z<|Wn<|Wq<|Wc z (fun hc=>(M_ hc).elim) (fun _=>?_)
   exact We<|fun _ q=>⟨rfl,⟨aq,nr,cs,Sg,q.k<|s1 z,(cM (cr [I.z] L) ef (io sr):Chg (· ∈ [I.z]) L ee),ao,ay,(or1 az (io sr) (x_ lr):∀k∈Sg,k∈[I.z]∨L.z<=k)⟩⟩
  ·rintro a8 eg eh rfl ⟨aq,nr,cs,Sg,_,ei,ao,ay,az⟩;have cz:=elL b8;revert eg;refine Wo<|Wm z ?_
   obtain ⟨_,ej,cA⟩:=bdS cz;refine E z (fc call18 z<|k_B (B:=eh.z) ej zr (a_.rep ao)<|lb z) ?_;rintro _ _ ⟨ek,rfl,_⟩;obtain ⟨_,em,cB⟩:=bdS cA;refine R z (a_6 z z em) ?_;obtain ⟨_,bS,cC⟩:=bdS cB;refine R z (a_6 z z bS)<|Rw z ?_
   obtain rfl:=som cC;have bT:=lt_ hj G.s;exact Wr<|rtO<|b_ hr z ⟨bup (bM (bup (bM (bup (bup (bup (bup h4 h2) h1) G) hb) hd<|m1 bT) sk) ei<|m1<|lt_ (lt_ bT hb.s) hd.s) ek,z,a_F bS⟩
  rintro _ _ _ _ rfl ⟨rfl,cD⟩;have cE:=elR b8;obtain rfl:=som cE;exact ⟨cD,z⟩
 have b9:=ifF b7 ae;refine R z (r_e z ae)<|Re z z z<|Re z z z<|Wx z (fun hc=>(b_4 hc z).elim) (fun _=>?_)
 refine Ws ?_
 rcases bs (ry.1==7) with af | af
 ·refine R z (ta_162 z af)<|Re z z z<|Re z z z<|Wx z (fun _=>?_) (fun hc=>(b_4 z hc).elim)
  refine Ws<|E z (fa r_B) ?_
  rintro _ en ⟨rfl,bU⟩;have ht:=bU.below;refine E0 (fs0 (cur':=[]) z_162 z z (bU.blk:Blk en wa.z []) z z z z) ?_;rintro _ _ ⟨_,eo⟩;have hu:=eo.one;refine Wn<|Wq (Wd (X:=noX) 0 (pl_ 8 [5,6]) mo (by kernel_rfl) fun eJ sv _=>?_)
  have bV:=(((h5.e G).e ht).c hu<|djs<|mm1 h5.lt G.s).e sv;refine dR z z (l0 e_r z<|bV.at z)<|dR z z (H_ z)<|dR z z (fd a_v z) ?_
  have aR:=lt_ hj G.s;have aS:∀k∈[wa.z],¬B k:=or0 (f_ lr)<|t_<|zt' O aR;have bW:=((((((hC3.e h4).e h2).e h1).e G).e ht).c hu<|(g_ aS) _ hC3b).e sv;refine dR z z (l0 g_3 z<|bW.at (j:=0) z)<|dM z z z ?_
  have bX:=lt_ h2.s h1.s;have aT:=(((a1.e G).e ht).c hu<|g_ aS).e sv;have bY:=((((((hG.e h4).e h2).e h1).e G).e ht).c hu<|g_ aS).e sv;obtain ⟨_,ep,cF⟩:=bdS<|ifT b9 af;refine dE z z (d_u call117 z z<|aj.run (B:=a4.z) ep (Z_<|lt_ (lt_ (lt_ G.s ht.s) hu.s) sv.s) (bY.mono h3) (ii z) (repS.mono (a2.g aT) h3) (((((a5.e G).e ht).c hu<|djs<|mm1 he.lt<|lt_ bX G.s).e sv).row 0 1 z) (zap' (Z_ bX) he.lt) a9 (((((a6.e G).e ht).c hu<|djs<|mm1 hf.lt<|lt_ h1.s G.s).e sv).row 0 1 z) (zap' (Z_ h1.s) hf.lt) a0 (repS.mono (a3.g aT) h3) (repS.mono (V.g aT) h3) bW (zap' h3 hC3b) (bV.row 0 1 z) h5.lt) (.inr fun _ _ h=>j_<|h.1) ?_;rintro _ _ ⟨aU,rfl,er⟩;obtain ⟨_,es,cG⟩:=bdS cF;refine dE z z (fc call119 z<|W_w3k es (zt' O<|lt_ (lt_ (lt_ (lt_ aR ht.s) hu.s) sv.s) aU.s) (bY.e aU) a0 (lb z) er<|lb z) (.inr fun _ _ h=>j_<|h.1) ?_;rintro _ _ ⟨eu,rfl,ew⟩;refine dQ z z z<|pD<|Wo ?_
  obtain rfl:=som cG;exact Wr<|rtO<|b_ hr z ⟨bup (bup (bup (bM (bup (bup (bup (bup h4 h2) h1) G) ht) hu<|m1 aR) sv) aU) eu,z,ew⟩
 have ba:=ifF b9 af;refine R z (r_f z af)<|Re z z z<|Re z z z<|Wx z (fun hc=>(b_4 hc z).elim) (fun _=>?_)
 refine Ws ?_
 rcases bs (ry.1==8) with ah | ah
 ·have bb:=ifT ba ah;refine R z (ta_163 z ah)<|Re z z z<|Re z z z<|Wx z (fun _=>?_) (fun hc=>(b_4 z hc).elim)
  refine Ws<|E z (fa r_C) ?_
  rintro _ ex ⟨rfl,bZ⟩;have hw:=bZ.below;refine E0 (fs0 (cur':=[]) z_163 z z (bZ.blk:Blk ex wa.z []) z z z z) ?_;rintro _ _ ⟨_,ey⟩;have hx:=ey.one;refine Wn<|Wq<|Ws ?_
  have c0:=((h5.e G).e hw).c hx<|djs<|mm1 h5.lt G.s
  refine R z (l0 e_r z<|c0.at z)<|R z (H_ z)<|Rf z F_ z ?_
  have aV:=lt_ hj G.s;have aW:∀k∈[wa.z],¬B k:=or0 (f_ lr)<|t_<|zt' O aV;have c1:=(((((hC3.e h4).e h2).e h1).e G).e hw).c hx<|(g_ aW) _ hC3b
  refine R z (l0 I_ z<|c1.at (j:=2) z) ?_;have aX:=((a1.e G).e hw).c hx<|g_ aW
  have h40:=V.g aX;refine R z (lnR K_ z h40)<|Rq z z z<|Wx z (fun aC=>?_) (fun aC=>?_)
  ·refine Ws<|Rw z ?_
   obtain rfl:=som<|ifT bb aC;exact Wr<|rtO<|b_ hr z ⟨bM (bup (bup (bup (bup h4 h2) h1) G) hw) hx<|m1 aV,z,lb z⟩
  refine Wk<|Wm z ?_
  have c2:=lt_ h2.s h1.s;obtain ⟨_,ez,cH⟩:=bdS<|ifF bb aC;refine E z (d_u call117 z z<|aj.run (B:=a4.z) ez (Z_<|lt_ (lt_ G.s hw.s) hx.s) (((((((hG.e h4).e h2).e h1).e G).e hw).c hx<|g_ aW).mono h3) (ii z) (repS.mono (a2.g aX) h3) ((((a5.e G).e hw).c hx<|djs<|mm1 he.lt<|lt_ c2 G.s).row 0 1 z) (zap' (Z_ c2) he.lt) a9 ((((a6.e G).e hw).c hx<|djs<|mm1 hf.lt<|lt_ h1.s G.s).row 0 1 z) (zap' (Z_ h1.s) hf.lt) a0 (repS.mono (a3.g aX) h3) (repS.mono h40 h3) c1 (zap' h3 hC3b) (c0.row 0 1 z) h5.lt) ?_;rintro _ _ ⟨eA,rfl,_⟩;obtain ⟨_,c3,cI⟩:=bdS cH;refine R z (a_6 z z c3)<|Rw z ?_
  obtain rfl:=som cI;exact Wr<|rtO<|b_ hr z ⟨bup (bM (bup (bup (bup (bup h4 h2) h1) G) hw) hx<|m1 aV) eA,z,a_F c3⟩
 have bc:=ifF ba ah;refine R z (r_g z ah)<|Re z z z<|Re z z z<|Wx z (fun hc=>(b_4 hc z).elim) (fun _=>?_)
 refine Ws ?_
 rcases bs (ry.1==9) with ai | ai
 ·refine R z (ta_164 z ai)<|Re z z z<|Re z z z<|Wx z (fun _=>?_) (fun hc=>(b_4 z hc).elim)
  refine Ws<|E z (fa r_D) ?_
  rintro _ eB ⟨rfl,c4⟩;have W:=c4.below;refine E0 (fs0 (cur':=[]) z_164 z z (c4.blk:Blk eB wa.z []) z z z z) ?_;rintro _ _ ⟨_,eC⟩;have Y:=eC.one;refine Wn<|Wm z ?_
  have c5:=lt_ h2.s h1.s;have c6:=lt_ hj G.s;have aY:∀k∈[wa.z],¬B k:=or0 (f_ lr)<|t_<|zt' O c6;have aZ:=((a1.e G).e W).c Y<|g_ aY
  obtain ⟨_,eD,cJ⟩:=bdS<|ifT bc ai;refine E z (d_u call117 z z<|aj.run (B:=a4.z) eD (Z_<|lt_ (lt_ G.s W.s) Y.s) (((((((hG.e h4).e h2).e h1).e G).e W).c Y<|g_ aY).mono h3) (ii z) (repS.mono (a2.g aZ) h3) ((((a5.e G).e W).c Y<|djs<|mm1 he.lt<|lt_ c5 G.s).row 0 1 z) (zap' (Z_ c5) he.lt) a9 ((((a6.e G).e W).c Y<|djs<|mm1 hf.lt<|lt_ h1.s G.s).row 0 1 z) (zap' (Z_ h1.s) hf.lt) a0 (repS.mono (a3.g aZ) h3) (repS.mono (V.g aZ) h3) ((((((hC3.e h4).e h2).e h1).e G).e W).c Y<|(g_ aY) _ hC3b) (zap' h3 hC3b) ((((h5.e G).e W).c Y<|djs<|mm1 h5.lt G.s).row 0 1 z) h5.lt) ?_;rintro _ _ ⟨eE,rfl,_⟩;obtain ⟨_,eF,cK⟩:=bdS cJ;refine R z (a_6 z z eF) ?_;obtain ⟨_,c7,cL⟩:=bdS cK;refine R z (a_6 z z c7)<|Rw z ?_
  obtain rfl:=som cL;exact Wr<|rtO<|b_ hr z ⟨bup (bM (bup (bup (bup (bup h4 h2) h1) G) W) Y<|m1 c6) eE,z,a_F c7⟩
 refine R z (r_h z ai)<|Re z z z<|Re z z z<|Wx z (fun hc=>(b_4 hc z).elim) (fun _=>?_)
 refine Wk<|Ws<|R z (l0 e_r z<|(h5.e G).at z)<|R z (H_ z)<|Rf z a_Q z<|R z (l0 U_ z<|((((hC3.e h4).e h2).e h1).e G).at (j:=1) z) ?_
 obtain ⟨_,eG,cN⟩:=bdS<|ifF bc ai;refine E z (fc call120 z<|W_w3l eG (zt' O<|lt_ hj G.s)<|a3.g<|a1.e G) ?_;rintro _ _ ⟨eH,rfl,_⟩;obtain ⟨_,c8,cO⟩:=bdS cN;refine R z (a_6 z z c8)<|Rw z ?_
 obtain rfl:=som cO;exact Wr<|b_ hr z ⟨bup (bup (bup (bup h4 h2) h1) G) eH,z,a_F c8⟩
theorem T_w1v (ih:k_E n):k_D (h_l n<|a_J n):=by
 obtain ⟨V,_⟩:=ih
 constructor
 intro A7 AL AM N7 C7 b2 o2 b3 o3 NL CL NM CM b4_0 o4_0 b4 o4 B x1 x2 x3 x4 res w0 hm I hG J H hC2 hC2b L hC3 hC3b p4_0_0 p4_0_1 p4_0_2 O p4_0b hC4 hC4b;unfold h_l at hm
 refine goG func117 z z z fun fn hr=>Ws<|Rw z<|Wq (Wd (X:=noX) 0 (.rd 0<|.rd 1<|.rd 2<|.rd 3<|.rd 4<|.rd 6<|.rd 7<|.rd 8<|.rd 9<|.rd 10<|.rd 11<|.ef 5<|.ef 12<|.rd 13 .done) mo (by kernel_rfl) fun wl G _=>?_)
 have h2:=hC2.e G;refine dR z z (lN (vs:=[sl A7 N7 C7]) o_ n_ z z fid h2)<|dR z z (lN (vs:=[sl A7 N7 C7]) o_ n_ z z fid h2)<|dR z z (l0 g_3 z<|(hC3.e G).at0 z) ?_
 have h3:=hC4.e G;refine dR z z (l0 e_r z<|h3.at0 z)<|dM z z z<|dR z z (l0 e_r z<|h3.at0 z)<|dR z z (H_ z)<|dR z z (fd F_ z) ?_
 have h4:=O.e G;refine dR z z (l0 I_ z<|h4.at (j:=2) z)<|dM z z z ?_
 obtain ⟨_,Y,W⟩:=bdS hm;have h5:=p4_0_2.e G;refine dRX z z (at_ (α:=Val) K_ c_ z z z h5 Y) ?_;rintro _ ⟨_,_,_,rfl,h8,h9,ha⟩;obtain ⟨_,_,_,_,_,_,rfl,hb,hc,hd⟩:=b_1 h9;obtain ⟨_,ee,hmf⟩:=bdS W;refine dE z z (fc call72 z<|i_s ee (zt' I G.s) (H.e G) L p4_0_0 (p4_0_1.e G) h5 h4 p4_0b J) (.inr fun _ _ h=>j_<|h.1) ?_;rintro _ _ ⟨s1,rfl,hg⟩;obtain ⟨_,eh,hmi⟩:=bdS hmf;refine dE z z (fc call76 z<|V.run eh (zt' I<|lt_ G.s s1.s) ((hG.e G).e s1) (H.g<|(G.ag B).e s1) hg hb (hc.e s1) (hd.e s1) (h8.e s1) ha) (.inr fun _ _ h=>j_<|h.1) ?_;rintro _ _ ⟨sj,rfl,hk⟩;refine dQ z z z<|pD<|Wo ?_
 obtain rfl:=som hmi;exact Wr<|b_ hr z ⟨bup (bup G s1) sj,z,hk⟩
theorem i_u:∀n,k_E n
  | 0=>⟨⟨fun hm=>by intros;exact nomatch (show none=some _ from hm)⟩,⟨fun hm=>by intros;exact nomatch (show none=some _ from hm)⟩⟩
  | n+1=>⟨T_w09<|i_u n,T_w1v<|i_u n⟩
theorem W_w09:k_C (a_J n).impl_valueText:=(i_u n).1
theorem W_w1v:k_D (a_J n).impl_valueText_1:=(i_u n).2
theorem W_w3m {x1:d_}{x2:Int}{x3:Val}{res:Str}(hm:h_m n x1 x2 x3=some res)(a0:B<=w0.z)(hG:Gl w0 B)(J:repS w0 B (sl A0 N0 C0) x1.rules)(L:inI x2)(O:inI x3.number)(V:repS w0 B (sl A6 N6 C6) x3.bytes)(W:repS w0 B (sl A5 N5 C5) x3.items):h_ prog 47 [(.agg #[sl A0 N0 C0]),vI x2,(.agg #[vI x3.number,sl A6 N6 C6,sl A5 N5 C5])] w0 (Q12 w0 B res):=by
 unfold h_m at hm
 refine goG func47 z z z fun fn hr=>Ws<|E z (fb z) ?_
 rintro _ Y ⟨rfl,h9⟩;have h2:=h9.below;refine E z (fb z) ?_;rintro _ wa ⟨rfl,hb⟩;have h1:=hb.below;have h5:Blk wa Y.z [vI x3.number,sl A6 N6 C6,sl A5 N5 C5]:=hb.blk;refine Rw z<|Wq<|Ws ?_
 have hc:=(h9.blk:Blk Y w0.z [sl A0 N0 C0]).e h1;refine R z (lN (vs:=[sl A0 N0 C0]) o_ n_ z z fid<|hc.row 0 1 z)<|Rm z<|R z (lN (vs:=[vI x3.number,sl A6 N6 C6,sl A5 N5 C5]) i_ c_ z z fid<|h5.row 0 3 z) ?_
 have h4:=(h2.ag B).e h1;have h3:=zt' a0<|lt_ h2.s h1.s
 obtain ⟨_,ef,hmd⟩:=bdS hm;refine E z (fc call43 z<|i_t (B:=B) ef h3 (J.g h4) L O (V.g h4)<|W.g h4) ?_;rintro _ _ ⟨G,rfl⟩;refine R z (not_ z)<|Wx z (fun H=>?_) (fun H=>?_)
 ·refine Ws<|Rw z ?_
  obtain rfl:=som<|ifT hmd H;exact Wr<|b_ hr z ⟨bup (bup h2 h1) G,z,lb z⟩
 refine Wk<|Ws<|R z (lN (vs:=[sl A0 N0 C0]) o_ n_ z z fid<|(hc.e G).row 0 1 z)<|Rm z ?_
 have I:=h4.e G;obtain ⟨_,eg,hmh⟩:=bdS<|ifF hmd H;refine E z (fc call76 z<|W_w09.run (B:=wa.z) eg (Z_ G.s) ((((hG.e h2).e h1).e G).mono h3) (repS.mono (J.g I) h3) L O (repS.mono (V.g I) h3) (repS.mono (W.g I) h3) ((h5.e G).row 0 3 z) h5.lt) ?_;rintro _ _ ⟨si,rfl,hj⟩;refine Rw z ?_
 obtain rfl:=som hmh;exact Wr<|b_ hr z ⟨bup (bup (bup h2 h1) G) si,z,hj⟩
theorem W_w3n {x1:d_}{x2:Val}{x3:A_}{res:Str}(hm:f_0 n x1 x2 x3=some res)(H:B<=w0.z)(hG:Gl w0 B)(L:repS w0 B (sl A0 N0 C0) x1.rules)(V:inI x2.number)(W:repS w0 B (sl AA NA CA) x2.bytes)(Y:repS w0 B (sl AB NB CB) x2.items)(O:x3.path.b.length<=LEN)(a0:inI x3.part.number)(a1:repS w0 B (sl A5 N5 C5) x3.part.bytes)(a2:repS w0 B (sl AK NK CK) x3.part.items):h_ prog 27 [(.agg #[sl A0 N0 C0]),.agg #[vI x2.number,sl AA NA CA,sl AB NB CB],(.agg #[Str.v x3.path,vI x3.part.number,sl A5 N5 C5,sl AK NK CK])] w0 (Q12 w0 B res):=by
 unfold f_0 at hm
 refine goG func27 z z z fun fn hr=>Ws<|E z (fb z) ?_
 rintro _ we ⟨rfl,hf⟩;have h6:=hf.below;have hg:Blk we w0.z [sl A0 N0 C0]:=hf.blk;refine E z (fb z) ?_;rintro _ wh ⟨rfl,hi⟩;have h2:=hi.below;refine E z (fb z) ?_;rintro _ ws ⟨rfl,hj⟩;have h1:=hj.below;have J:Blk ws wh.z [Str.v x3.path,vI x3.part.number,sl A5 N5 C5,sl AK NK CK]:=hj.blk;refine Rw z<|Ws ?_
 have hk:=(hg.e h2).e h1;refine R z (lN (vs:=[sl A0 N0 C0]) o_ n_ z z fid<|hk.row 0 1 z)<|R z (lN (vs:=[vI x2.number,sl AA NA CA,sl AB NB CB]) i_ c_ z z fid<|((hi.blk:Blk wh we.z [vI x2.number,sl AA NA CA,sl AB NB CB]).e h1).row 0 3 z)<|Rf z i_j z<|R z (l0 g_9 z<|J.at z) ?_
 have I:=((h6.ag B).e h2).e h1;have hl:=((hG.e h6).e h2).e h1;have ha:=lt_ (lt_ h6.s h2.s) h1.s;obtain ⟨rv,_,_,ew,hmm⟩:=S_ hm;refine E z (fc call45 z<|W_w3h ew (zt' H ha) hl (L.g I) V (W.g I) (Y.g I) O) ?_;rintro _ wn ⟨G,ax,ny,cz,_,a7,a8,a9,_,rfl,_,_,_,aa,_,_⟩;refine Rm z ?_
 iterate 3 refine Re z z z ?_
 refine E z (fa O_) ?_;rintro _ ab ⟨rfl,ho⟩;have h3:=ho.below;refine E0 (fs0 (cur':=[vI rv.number,sl ax ny cz,sl a7 a8 a9]) c_ z z (ho.blk:Blk ab wn.z [vI 0,sl none 0 0,sl none 0 0]) z z z z) ?_;rintro _ _ ⟨_,ad⟩;have h4:=ad.one;refine Ra z<|Rw z<|Wq<|Wm z<|R z (not_ z)<|Wx z (fun hcb=>?_) (fun hcb=>?_)
 ·refine Ws<|Rw z ?_
  obtain rfl:=som<|ifT hmm hcb;exact Wr<|b_ hr z ⟨bM (bup (bup (bup (bup h6 h2) h1) G) h3) h4<|m1<|lt_ ha G.s,z,lb z⟩
 refine Wk<|Wq (Wd (X:=noX) 0 (.rd 0<|.rd 1<|.rd 4<|.rd 5<|.rd 6<|.rd 7<|.ef 2<|.rd 3<|.ef 8<|.rd 9<|.rd 10 .done) mo (by kernel_rfl) fun aj s5 _=>dR z z (fd i_j z) ?_)
 have hp:=(((J.e G).e h3).c h4<|djs<|mm1 J.lt G.s).e s5;refine dR z z (l0 g_9 z<|hp.at z)<|dR z z (lN (vs:=[sl A0 N0 C0]) o_ n_ z z fid<|((((hk.e G).e h3).c h4<|djs<|mm1 hg.lt<|lt_ (lt_ h2.s h1.s) G.s).e s5).row 0 1 z)<|dM z z z<|dR z z (fd m_S z)<|dR z z (lN (vs:=[vI x3.part.number,sl A5 N5 C5,sl AK NK CK]) i_ c_ z z fid<|hp.row 1 3 z) ?_
 have hc:=lt_ ha G.s;have hq:=lt_ (lt_ (lt_ hc h3.s) h4.s) s5.s;obtain ⟨_,ae,a3⟩:=bdS<|ifF hmm hcb;refine dE z z (fc call46 z<|W_w3i ae (zt' H hq) O) (.inr fun _ _ h=>j_<|h.1) ?_;rintro _ _ ⟨s8,rfl,_⟩;obtain ⟨_,af,a4⟩:=bdS a3;refine dR z z (a_6 z z af) ?_;have ht:∀k∈[wn.z],¬B k:=or0 (f_ lr)<|t_<|zt' H hc;have hd:=((((I.e G).e h3).c h4<|g_ ht).e s5).e s8;obtain ⟨_,ah,a5⟩:=bdS a4;refine dE z z (fc call47 z<|W_w3m (B:=B) (x3:=(⟨x3.part.number,x3.part.bytes,x3.part.items⟩:Val)) ah (zt' H<|lt_ hq s8.s) (((((hl.e G).e h3).c h4<|g_ ht).e s5).e s8) (L.g hd) aa a0 (a1.g hd)<|a2.g hd) (.inr fun _ _ h=>j_<|h.1) ?_;rintro _ _ ⟨ai,rfl,_⟩;obtain ⟨_,er,a6⟩:=bdS a5;refine dR z z (a_6 z z er)<|dQ z z z<|pD<|Wo ?_
 obtain rfl:=som a6;exact Wr<|b_ hr z ⟨bup (bup (bup (bM (bup (bup (bup (bup h6 h2) h1) G) h3) h4<|m1 hc) s5) s8) ai,z,a_F er⟩
theorem W_w3o {x1:d_}{x2:List UInt8}{x3:List UInt8}{res:(List Str)}(hm:f_V n x1 x2 x3=some res)(L:B<=w0.z)(hG:Gl w0 B)(O:repS w0 B (sl A0 N0 C0) x1.rules)(bu:repS w0 B (sl A7 N7 C7) x2)(bv:repS w0 B (sl A9 N9 C9) x3):h_ prog 17 [(.agg #[sl A0 N0 C0]),sl A7 N7 C7,sl A9 N9 C9] w0 (Q2 w0 B res):=by
 unfold f_V at hm
 refine goG func17 z z z fun fn hr=>Ws<|E z (fb z) ?_
 rintro _ G ⟨rfl,aE⟩;have hk:=aE.below;have hu:Blk G w0.z [sl A0 N0 C0]:=aE.blk;refine Rw z<|Ws<|E z (f0 (α:=Str) a_A) ?_
 rintro _ ws ⟨a1,a2,a3,rfl,sm,hf⟩;refine Rw z<|Ws ?_
 have aF:=hu.e sm;refine R z (lN (vs:=[sl A0 N0 C0]) o_ n_ z z fid<|aF.row 0 1 z)<|Rm z ?_
 have a4:=(hk.ag B).e sm;have aG:=(hG.e hk).e sm;have aH:=lt_ hk.s sm.s;obtain ⟨a5,_,bK,bL,bw⟩:=S_ hm;refine E z (fc call25 z<|k_v bL (zt' L aH) aG (O.g a4)<|bu.g a4) ?_;rintro _ wi ⟨s8,a6,a7,a8,_,a9,aa,ab,_,rfl,aI,hn,ho,_,_,_,hp⟩;refine Rm z ?_
 iterate 3 refine Re z z z ?_
 refine E z (fa O_) ?_;rintro _ bN ⟨rfl,aJ⟩;have J:=aJ.below;have ad:Blk bN wi.z [vI 0,sl none 0 0,sl none 0 0]:=aJ.blk;refine E0 (fs0 (cur':=[vI a5.number,sl a6 a7 a8,sl a9 aa ab]) c_ z z ad z z z z) ?_;rintro _ wv ⟨bO,bP⟩;have h6:=bP.one;refine Ra z<|Rw z<|Ws ?_
 have aK:=lt_ sm.s s8.s;have aL:=((aF.e s8).e J).c h6<|djs<|mm1 hu.lt aK
 refine R z (lN (vs:=[sl A0 N0 C0]) o_ n_ z z fid<|aL.row 0 1 z)<|Rm z ?_
 have hz:=lt_ aH s8.s;have aM:∀k∈[wi.z],¬B k:=or0 (f_ lr)<|t_<|zt' L hz;have ae:=((a4.e s8).e J).c h6<|g_ aM
 have aN:=((aG.e s8).e J).c h6<|g_ aM
 have af:=lt_ (lt_ hz J.s) h6.s;obtain ⟨aO,_,bQ,bR,bx⟩:=S_ bw;refine E z (fc call25 z<|k_v bR (zt' L af) aN (O.g ae)<|bv.g ae) ?_;rintro _ wl ⟨s3,aP,aQ,aR,_,aS,aT,aU,_,rfl,bS,ah,ai,_,_,_,aV⟩;refine Rm z ?_
 iterate 3 refine Re z z z ?_
 refine E z (fa O_) ?_;rintro _ bT ⟨rfl,aW⟩;have h4:=aW.below;refine E0 (fs0 (cur':=[vI aO.number,sl aP aQ aR,sl aS aT aU]) c_ z z (aW.blk:Blk bT wl.z [vI 0,sl none 0 0,sl none 0 0]) z z z z) ?_;rintro _ V ⟨bU,bV⟩;have h5:=bV.one;refine Ra z<|Rw z<|Wq<|Wq ?_
 obtain ⟨bW,aA,aB⟩:=bdS bx;refine Wt (fun a w=>∃(aj:Bool),aj=bW/\Sat 56 [(3,pt w0.z),(7,sl a1 a2 a3),(8,pt wi.z),(11,pt wl.z),(36,vB aj)] a/\Below V.z V w) ?_ ?_
 ·refine Wg<|Rm z<|R z (nq z z)<|Rm z ?_
  rcases bs (bK != 0) with hcj | hcj
  ·exact Nh z hcj<|Nh z hcj<|R z (pT z hcj z)<|Wl (fun _ q=>⟨true,som<|ifT aA hcj,q.k<|s5 z z z z z,br V⟩)
  exact Rh z hcj (mv z)<|Rh z hcj (nq z z)<|R z (pF z hcj z)<|Wl (fun _ q=>⟨bQ != 0,som<|ifF aA hcj,q.k<|s5 z z z z z,br V⟩)
 rintro bX W ⟨aj,rfl,_,I⟩;revert bX;refine Wo<|Wc z (fun a0=>?_) (fun a0=>?_)
 ·refine Wm z<|Rw z ?_
  obtain rfl:=som<|ifT aB a0;exact Wr<|b_ hr z ⟨bup (bM (bup (bup (bM (bup (bup (bup hk sm) s8) J) h6<|m1 hz) s3) h4) h5<|m1<|lt_ af s3.s) I,a1,a2,a3,[G.z],z,((((((hf.e s8).e J).c h6<|ds<|mno (a_.lt hf) s8.s).e s3).e h4).c h5<|ds<|mno (a_.lt hf)<|lt_ (lt_ (lt_ s8.s J.s) h6.s) s3.s).e I,R_,m1 hk.s⟩
 refine Wk<|Wq<|Ws ?_
 have aX:=lt_ (lt_ (lt_ aK J.s) h6.s) s3.s;have aY:=(((aL.e s3).e h4).c h5<|djs<|mm1 hu.lt aX).e I;refine R z (lN (vs:=[sl A0 N0 C0]) o_ n_ z z fid<|aY.row 0 1 z) ?_;have aZ:=lt_ h6.s s3.s;have b0:=(((bO.e s3).e h4).c h5<|djs<|mm1 ad.lt aZ).e I;refine R z (lN (vs:=[vI a5.number,sl a6 a7 a8,sl a9 aa ab]) i_ c_ z z fid<|b0.row 0 3 z)<|R z (lN (vs:=[vI aO.number,sl aP aQ aR,sl aS aT aU]) i_ c_ z z fid<|(bU.e I).row 0 3 z) ?_
 have ak:=lt_ af s3.s;have b3:∀k∈[wl.z],¬B k:=or0 (f_ lr)<|t_<|zt' L ak;have b4:=(((ae.e s3).e h4).c h5<|g_ b3).e I;have al:=lt_ (lt_ J.s h6.s) s3.s;have b5:=(((((hn.e J).c h6<|ds<|mnr<|a_.lt hn).e s3).e h4).c h5<|ds<|mno (a_.lt hn) al).e I;have b6:=(((((ho.e J).c h6<|ds<|mnr<|a_.lt ho).e s3).e h4).c h5<|ds<|mno (a_.lt ho) al).e I;have b7:=(((aN.e s3).e h4).c h5<|g_ b3).e I;have am:=lt_ (lt_ (lt_ ak h4.s) h5.s) I.s;have b8:=lt_ (lt_ (lt_ al h4.s) h5.s) I.s;have b9:=lt_ (lt_ h4.s h5.s) I.s;obtain ⟨bY,bZ,bz⟩:=bdS<|ifF aB a0;refine E z (fc call26 z<|W_w38 (B:=zn (zn B ws.z wi.z) wv.z wl.z) bZ (f_1 (f_1 (zt' L am) b8) b9) (b7.mono<|zt a_p<|a_p) (repS.mono (O.g b4)<|zt a_p<|a_p) aI (repS.mono (or_ b5<|zin (B:=B) (al_ hp)<|a_.lt hn)<|zns (zt a_p<|a_p)<|znD<|znI lr lr) (repS.mono (or_ b6<|zin (B:=B) (ar_ hp)<|a_.lt ho)<|zns (zt a_p<|a_p)<|znD<|znI lr lr) bS (repS.mono (or_ (((ah.e h4).c h5<|ds<|mnr<|a_.lt ah).e I)<|zin (B:=B) (al_ aV)<|a_.lt ah)<|zns (zt a_p<|a_p)<|znI lr lr)<|repS.mono (or_ (((ai.e h4).c h5<|ds<|mnr<|a_.lt ai).e I)<|zin (B:=B) (ar_ aV)<|a_.lt ai)<|zns (zt a_p<|a_p)<|znI lr lr) ?_;rintro _ H ⟨sa,c0,c1,c2,rfl,an⟩;refine R z (lnR d_52 z an)<|Rm z<|Wn ?_
 obtain ⟨_,bA,aC⟩:=bdS bz;refine Wf (σ:=List Str) (ρ:=List Str) (fun (ba:Nat)(xq:List Str) a w=>∃ac ng ch Sb,Sat 56 [(3,pt w0.z),(7,sl ac ng ch),(8,pt wi.z),(41,sl c0 c1 c2),(42,vI (bY.length:Int)),(43,vI ((ba:Nat):Int))] a/\Chg (· ∈ [G.z]) H w/\a_ w Sb (sl ac ng ch) xq/\Sb.Nodup/\(∀k∈Sb,k∈[G.z]∨H.z<=k)) (fun (xq:List Str) a w=>∃ac ng ch Sb,Sat 56 [(7,sl ac ng ch)] a/\Chg (· ∈ [G.z]) H w/\a_ w Sb (sl ac ng ch) xq/\Sb.Nodup/\(∀k∈Sb,k∈[G.z]∨H.z<=k)) (rQ prog fn<|Q2 w0 B) bA ?_ ?_ ?_ ?_ ?_
 ·have h40:=(((((((hf.e s8).e J).c h6<|ds<|mno (a_.lt hf) s8.s).e s3).e h4).c h5<|ds<|mno (a_.lt hf)<|lt_ (lt_ (lt_ s8.s J.s) h6.s) s3.s).e I).e sa;exact fun _ q=>⟨a1,a2,a3,[G.z],q.k<|s6 z z z z z z,cr [G.z] H,h40,R_,io sr⟩
 ·rintro ba xq _ ww _ aD ⟨ac,ng,ch,Sb,bB,s7,ht,hx,hy⟩ bC;refine Wu ?_ bB;refine Ws<|Rl z z z<|Wn<|Wq<|Wc z (fun _=>?_) (fun hc=>(L_ aD hc).elim)
  refine Wk<|Wq<|Wb<|Ws ?_
  obtain ⟨xr,c3,bD⟩:=bdS bC;have ao:∀k∈[G.z],¬B k:=or0 (f_ lr)<|t_<|zt' L hk.s;have bb:=lt_ (lt_ s8.s J.s) h6.s;refine RX z (at_ (α:=A_) d_52 f_m z z z (an.c s7<|g_ ((nznL (nznL (nznL ao (a_.lt hf) lr) (a_.lt hf) bb) (a_.lt hf)<|lt_ (lt_ (lt_ (lt_ bb s3.s) h4.s) h5.s) I.s):∀k∈[G.z],¬(zn (zn (zn B ws.z wi.z) wv.z wl.z) W.z H.z) k)) c3) ?_;rintro _ ⟨_,_,_,rfl,c4,c5,_⟩;obtain ⟨ap,aq,ar,au,av,aw,rfl,c6,c7,c8,c9⟩:=i_Q c5;refine R z (lN (vs:=[Str.v xr.path,vI xr.part.number,sl ap aq ar,sl au av aw]) g_56 f_m z z fid c4)<|E z (fa r_E) ?_
  rintro _ bc ⟨rfl,be⟩;have hd:=be.below;refine E0 (fs0 (cur':=[Str.v xr.path,vI xr.part.number,sl ap aq ar,sl au av aw]) f_m z z (be.blk:Blk bc ww.z [(Str.v (⟨[]⟩:Str)),vI 0,sl none 0 0,sl none 0 0]) z z z z) ?_;rintro _ ca ⟨cb,cc⟩;have he:=cc.one;refine Wn<|Wg<|Rm z ?_
  refine R z (lN (vs:=[sl A0 N0 C0]) o_ n_ z z fid<|((((aY.e sa).c s7<|djs<|mmr hu.lt).e hd).c he<|djs<|mm1 hu.lt<|lt_ (lt_ (lt_ (lt_ (lt_ aX h4.s) h5.s) I.s) sa.s) s7.s).row 0 1 z) ?_;refine R z (lN (vs:=[vI a5.number,sl a6 a7 a8,sl a9 aa ab]) i_ c_ z z fid<|((((b0.e sa).c s7<|atp<|mno (a_.lt hf) s8.s).e hd).c he<|djs<|mm1 ad.lt<|lt_ (lt_ (lt_ (lt_ (lt_ aZ h4.s) h5.s) I.s) sa.s) s7.s).row 0 3 z)<|R z (lN (vs:=[Str.v xr.path,vI xr.part.number,sl ap aq ar,sl au av aw]) g_56 f_m z z fid<|cb.row 0 4 z) ?_
  have bf:=lt_ (lt_ am sa.s) s7.s;have bg:=zt' L bf;have bh:∀k∈[ww.z],¬B k:=or0 (f_ lr)<|t_ bg;have Y:=lt_ (lt_ b8 sa.s) s7.s;have bi:=lt_ (lt_ b9 sa.s) s7.s;have bj:=(hd.ag<|zn (zn (zn B ws.z wi.z) wv.z wl.z) W.z H.z).c he<|g_ (or0 (f_ lr) (e_Y (e_Y (e_Y (t_ bg) Y) bi) s7.s):∀k∈[ww.z],¬(zn (zn (zn B ws.z wi.z) wv.z wl.z) W.z H.z) k)
  have bk:=lt_ (lt_ s7.s hd.s) he.s;obtain ⟨cd,ce,bE⟩:=bdS bD;refine E z (fc call27 z<|W_w3n (B:=zn (zn (zn B ws.z wi.z) wv.z wl.z) W.z H.z) ce (f_1 (f_1 (f_1 (zt' L<|lt_ (lt_ bf hd.s) he.s)<|lt_ (lt_ Y hd.s) he.s)<|lt_ (lt_ bi hd.s) he.s) bk) (((((b7.e sa).c s7<|g_ ao).e hd).c he<|g_ bh).mono<|zt a_p<|zt a_p<|a_p) (repS.mono (O.g<|(((b4.e sa).c s7<|g_ ao).e hd).c he<|g_ bh)<|zt a_p<|zt a_p<|a_p) aI (repS.mono (or_ ((((b5.e sa).c s7<|a_x (al_ hp) (a_.lt hf) lr).e hd).c he<|ds<|mno (a_.lt hn) Y)<|zin (B:=B) (al_ hp)<|a_.lt hn)<|zns (zt a_p<|zt a_p<|a_p)<|znD<|znD<|znI lr lr) (repS.mono (or_ ((((b6.e sa).c s7<|a_x (ar_ hp) (a_.lt hf) lr).e hd).c he<|ds<|mno (a_.lt ho) Y)<|zin (B:=B) (ar_ hp)<|a_.lt ho)<|zns (zt a_p<|zt a_p<|a_p)<|znD<|znD<|znI lr lr) c6 c7 (c8.g bj)<|c9.g bj) ?_;rintro _ bm ⟨ax,rfl,bn⟩;refine E z (fS [(.tmp 51)] a_A z z z (b_b z) (lb z)<|lb z) ?_;rintro _ bo ⟨rfl,ay⟩;have az:=ay.below;have cw:=c_m ay<|b_9 bn
  obtain ⟨cf,cg,bF⟩:=bdS bE;refine E z (b_u (α:=Str) a_A cg z z ((((ht.e hd).c he<|ds<|mnr<|a_.lt ht).e ax).e az) hx (ay.blk:Blk bo bm.z [Str.v cd]) (b_9 bn) an_ a_8) ?_;rintro _ ci ⟨bp,cj,ck,cl,rfl,cm,cn,co,cp⟩;refine Rw z<|Wg<|R z (inc_ aD (lt_ (repS.len an) v_) z z)<|Rm z<|Wl ?_
  have bq:∀k∈Sb,k∈[G.z]∨H.z<=k:=or1 hy (io sr)<|x_ lr;exact fun _ q=>⟨cf,(som bF).symm,⟨cj,ck,cl,bp,q.k<|s6 z z z z z z,(cM (D_ (D_ (cM (D_ (cM (cr [G.z] H) s7 (io sr):Chg (· ∈ [G.z]) H ww) hd:Chg (· ∈ [G.z]) H bc) he (mor s7.s:∀k∈[ww.z],k∈[G.z]∨H.z<=k):Chg (· ∈ [G.z]) H ca) ax:Chg (· ∈ [G.z]) H bm) az:Chg (· ∈ [G.z]) H bo) cm bq:Chg (· ∈ [G.z]) H ci),cn,co,(or2 cp bq an_ (x_<|lt_ (lt_ bk ax.s) az.s):∀k∈bp,k∈[G.z]∨H.z<=k)⟩⟩
 ·rintro xq _ cq ⟨ac,ng,ch,Sb,bG,ct,ht,hx,hy⟩;refine Wu ?_ bG;refine Ws<|Rl z z z<|Wn<|Wq<|Wc z (fun hc=>(M_ hc).elim) (fun _=>?_)
  exact We<|fun _ q=>⟨rfl,⟨ac,ng,ch,Sb,q.k<|s1 z,(cM (cr [G.z] H) ct (io sr):Chg (· ∈ [G.z]) H cq),ht,hx,(or1 hy (io sr) (x_ lr):∀k∈Sb,k∈[G.z]∨H.z<=k)⟩⟩
 ·rintro xq cu _ rfl ⟨ac,ng,ch,Sb,_,cv,ht,hx,hy⟩;have bH:=elL aC;revert cu;refine Wo<|Wm z<|Rw z ?_
  obtain rfl:=som bH;have bt:=m1 hk.s;exact Wr<|b_ hr z ⟨bM (bup (bup (bM (bup (bup (bM (bup (bup (bup hk sm) s8) J) h6<|m1 hz) s3) h4) h5<|m1 ak) I) sa) cv bt,ac,ng,ch,Sb,z,ht,hx,a_o hy bt<|lt_ am sa.s⟩
 rintro _ _ _ _ rfl ⟨rfl,bI⟩;have bJ:=elR aC;obtain rfl:=som bJ;exact ⟨bI,z⟩
theorem W_w3p {x1:d_}{x2:List UInt8}{x3:List UInt8}{res:Str}(hm:h_b n x1 x2 x3=some res)(J:B<=w0.z)(hG:Gl w0 B)(I:repS w0 B (sl A0 N0 C0) x1.rules)(Y:repS w0 B (sl A7 N7 C7) x2)(a0:repS w0 B (sl A9 N9 C9) x3):h_ prog 8 [(.agg #[sl A0 N0 C0]),sl A7 N7 C7,sl A9 N9 C9] w0 (Q12 w0 B res):=by
 unfold h_b at hm
 refine goG func8 z z z fun fn hr=>Ws<|E z (fb z) ?_
 rintro _ V ⟨rfl,ha⟩;have G:=ha.below;have h5:Blk V w0.z [sl A0 N0 C0]:=ha.blk;refine Rw z<|Wq<|Wq ?_
 obtain ⟨ui,huj,hmb⟩:=bdS hm;refine Wt (fun a w=>∃(x6:Bool),x6=ui/\Sat 27 [(1,sl A7 N7 C7),(2,sl A9 N9 C9),(3,pt w0.z),(17,vB x6)] a/\Below V.z V w) ?_ ?_
 ·refine Wg<|R z (lN (vs:=[sl A0 N0 C0]) o_ n_ z z fid<|h5.row 0 1 z)<|Rm z ?_
  have hc:=hG.e G;obtain ⟨rk,el,hmd⟩:=bdS huj;refine E z (fc call16 z<|W_w1q el (zt' J G.s) hc (I.e G)<|Y.e G) ?_;rintro _ _ ⟨s3,rfl⟩;refine R z (not_ z)<|Rm z ?_
  rcases bs (!rk) with H | H
  ·iterate 4 refine Nh z H ?_
   exact R z (pT z H z)<|Wl (fun _ q=>⟨true,som<|ifT hmd H,q.k<|s4 z z z z,s3⟩)
  refine Rh z H (lN (vs:=[sl A0 N0 C0]) o_ n_ z z fid<|(h5.e s3).row 0 1 z)<|Rh z H (mv z) ?_
  have he:=(G.ag B).e s3;obtain ⟨rm,en,hmo⟩:=bdS<|ifF hmd H;refine Eg z z H z (fc call16 z<|W_w1q en (zt' J<|lt_ G.s s3.s) (hc.e s3) (I.g he)<|a0.g he) ?_;rintro _ _ ⟨sp,rfl⟩;exact Rh z H (not_ z)<|R z (pF z H z)<|Wl (fun _ q=>⟨!rm,som hmo,q.k<|s4 z z z z,bup s3 sp⟩)
 rintro aq _ ⟨x6,rfl,_,s2⟩;revert aq;refine Wo<|Wc z (fun L=>?_) (fun L=>?_)
 ·refine Ws<|Rw z ?_
  obtain rfl:=som<|ifT hmb L;exact Wr<|b_ hr z ⟨bup G s2,z,lb z⟩
 refine Wk<|Ws<|R z (lN (vs:=[sl A0 N0 C0]) o_ n_ z z fid<|(h5.e s2).row 0 1 z)<|RM z z ?_
 have W:=(G.ag B).e s2;obtain ⟨_,er,hmf⟩:=bdS<|ifF hmb L;refine E z (fc call17 z<|W_w3o er (zt' J<|lt_ G.s s2.s) ((hG.e G).e s2) (I.g W) (Y.g W)<|a0.g W) ?_;rintro _ ws ⟨sg,_,_,_,_,rfl,hh,_,_⟩;refine Rw z<|Wq<|Wm z<|R z (lnR J_ z<|a_.rep hh)<|Rq z z z<|Wx z (fun O=>?_) (fun O=>?_)
 ·refine Ws<|Rw z ?_
  obtain rfl:=som<|ifT hmf O;exact Wr<|b_ hr z ⟨bup (bup G s2) sg,z,lb z⟩
 refine Wk<|Wm z ?_
 obtain ⟨_,et,hmu⟩:=bdS<|ifF hmf O;refine E z (fc call18 z<|k_B (B:=ws.z) et zr (a_.rep hh)<|lb z) ?_;rintro _ _ ⟨sv,rfl,hw⟩;refine Rw z ?_
 obtain rfl:=som hmu;exact Wr<|b_ hr z ⟨bup (bup (bup G s2) sg) sv,z,hw⟩
theorem k_F {x1:List UInt8}{x2:List UInt8}{res:Bool}(hm:e_L x1 x2=some res)(a0:B<=w0.z)(G:repS w0 B (sl A0 N0 C0) x1)(L:repS w0 B (sl A7 N7 C7) x2):h_ prog 10 [sl A0 N0 C0,sl A7 N7 C7] w0 (Q7 w0 B res):=by
 unfold e_L at hm
 refine goG func10 z z z fun fn hr=>Ws<|Rw z<|Wq<|Wm z<|R z (lnR l_ z G)<|Rm z<|R z (lnR l_ z L)<|R z (nq z z)<|Wx z (fun I=>?_) (fun I=>?_)
 ·refine Ws<|Rw z ?_
  obtain rfl:=som<|ifT hm I;exact Wr<|b_ hr z ⟨br w0,z⟩
 refine Wk<|Wq<|Ws<|Rw z ?_
 obtain ⟨_,hua,O⟩:=bdS<|ifF hm I;refine Wf (σ:=Unit) (ρ:=Bool) (fun (k5:Nat)(_:Unit) a w=>Sat 26 [(0,sl A0 N0 C0),(1,sl A7 N7 C7),(5,vI ((k5:Nat):Int))] a/\Below w0.z w0 w) (fun (_:Unit) a w=>Sat 26 [] a/\Below w0.z w0 w) (rQ prog fn<|Q7 w0 B) hua ?_ ?_ ?_ ?_ ?_
 ·exact fun _ q=>⟨q.k<|s3 z z z,br w0⟩
 ·rintro k5 _ _ _ _ V ⟨hSb,H⟩ hmc;refine Wu ?_ hSb;refine Wq<|Wm z<|Rm z<|R z (lnR l_ z<|G.e H)<|Rl z z z<|Wx z (fun _=>?_) (fun hc=>(L_ V hc).elim)
  refine Wk<|Wq<|Wb<|Wq (Wd (X:=noX) 0 (pl_ 9 []) mo (by kernel_rfl) fun wu s2 _=>dM z z z<|dM z z z ?_)
  obtain ⟨_,ed,hme⟩:=bdS hmc;have Y:=(H.ag B).e s2;refine dRX z z (at_ (α:=UInt8) l_ z_5 z z z (G.g Y) ed) ?_;rintro _ ⟨_,_,_,rfl,hf,hg,_⟩;obtain rfl:=u8 hg;refine dR z z (l0 g_5 z<|hf.at0 z)<|dM z z z<|dM z z z ?_
  obtain ⟨_,eh,W⟩:=bdS hme;refine dRX z z (at_ (α:=UInt8) l_ z_5 z z z (L.g Y) eh) ?_;rintro _ ⟨_,_,_,rfl,hi,hj,_⟩;obtain rfl:=u8 hj;refine dR z z (l0 g_5 z<|hi.at0 z)<|dR z z (nq z z)<|pD<|Wo<|Wc z (fun J=>?_) (fun J=>?_)
  ·exact Ws<|Rw z<|Wr<|rtO<|qL (som<|ifT W J).symm<|b_ hr z ⟨bup H s2,z⟩
  exact Wk<|Wg<|Rm z<|R z (inc_ V (lt_ (repS.len G) v_) z z)<|Ra z<|Wl (fun _ q=>⟨(),(som<|ifF W J).symm,⟨q.k<|s3 z z z,bup H s2⟩⟩)
 ·rintro _ _ _ ⟨hSk,s9⟩;refine Wu ?_ hSk;refine Wq<|Wm z<|Rm z<|R z (lnR l_ z<|G.e s9)<|Rl z z z<|Wx z (fun hc=>(M_ hc).elim) (fun _=>?_)
  exact We<|fun _ q=>⟨rfl,⟨q.k sn,s9⟩⟩
 ·rintro _ al _ rfl ⟨_,sm⟩;have hmn:=elL O;revert al;refine Wo<|Ws<|Rw z ?_
  obtain rfl:=som hmn;exact Wr<|b_ hr z ⟨sm,z⟩
 rintro _ _ _ _ rfl ⟨rfl,hqo⟩;have hmp:=elR O;obtain rfl:=som hmp;exact ⟨hqo,z⟩
theorem W_w3q {x1:List Str}{x2:List Str}{res:Bool}(hm:h_5 x1 x2=some res)(a0:B<=w0.z)(G:repS w0 B (sl A0 N0 C0) x1)(L:repS w0 B (sl A7 N7 C7) x2):h_ prog 51 [sl A0 N0 C0,sl A7 N7 C7] w0 (Q7 w0 B res):=by
 unfold h_5 at hm
 refine goG func51 z z z fun fn hr=>Ws<|Rw z<|Wq<|Wm z<|R z (lnR J_ z G)<|Rm z<|R z (lnR J_ z L)<|R z (nq z z)<|Wx z (fun I=>?_) (fun I=>?_)
 ·refine Ws<|Rw z ?_
  obtain rfl:=som<|ifT hm I;exact Wr<|b_ hr z ⟨br w0,z⟩
 refine Wk<|Wq<|Ws<|Rw z ?_
 obtain ⟨_,hua,O⟩:=bdS<|ifF hm I;refine Wf (σ:=Unit) (ρ:=Bool) (fun (k5:Nat)(_:Unit) a w=>Sat 26 [(0,sl A0 N0 C0),(1,sl A7 N7 C7),(5,vI ((k5:Nat):Int))] a/\Below w0.z w0 w) (fun (_:Unit) a w=>Sat 26 [] a/\Below w0.z w0 w) (rQ prog fn<|Q7 w0 B) hua ?_ ?_ ?_ ?_ ?_
 ·exact fun _ q=>⟨q.k<|s3 z z z,br w0⟩
 ·rintro k5 _ _ _ _ V ⟨hSb,H⟩ hmc;refine Wu ?_ hSb;refine Wq<|Wm z<|Rm z<|R z (lnR J_ z<|G.e H)<|Rl z z z<|Wx z (fun _=>?_) (fun hc=>(L_ V hc).elim)
  refine Wk<|Wq<|Wb<|Wq (Wd (X:=noX) 0 (pl_ 9 []) mo (by kernel_rfl) fun wu s2 _=>dM z z z<|dM z z z ?_)
  obtain ⟨_,ed,hme⟩:=bdS hmc;have Y:=(H.ag B).e s2;refine dRX z z (at_ (α:=Str) J_ z_9 z z z (G.g Y) ed) ?_;rintro _ ⟨_,_,_,rfl,hf,hg,_⟩;obtain ⟨rfl,_⟩:=a_R hg;refine dR z z (l0 g_9 z<|hf.at0 z)<|dM z z z<|dM z z z ?_
  obtain ⟨_,eh,W⟩:=bdS hme;refine dRX z z (at_ (α:=Str) J_ z_9 z z z (L.g Y) eh) ?_;rintro _ ⟨_,_,_,rfl,hi,hj,_⟩;obtain ⟨rfl,_⟩:=a_R hj;refine dR z z (l0 g_9 z<|hi.at0 z)<|dR z z (e_i z z)<|pD<|Wo<|Wc z (fun J=>?_) (fun J=>?_)
  ·exact Ws<|Rw z<|Wr<|rtO<|qL (som<|ifT W J).symm<|b_ hr z ⟨bup H s2,z⟩
  exact Wk<|Wg<|Rm z<|R z (inc_ V (lt_ (repS.len G) v_) z z)<|Ra z<|Wl (fun _ q=>⟨(),(som<|ifF W J).symm,⟨q.k<|s3 z z z,bup H s2⟩⟩)
 ·rintro _ _ _ ⟨hSk,s9⟩;refine Wu ?_ hSk;refine Wq<|Wm z<|Rm z<|R z (lnR J_ z<|G.e s9)<|Rl z z z<|Wx z (fun hc=>(M_ hc).elim) (fun _=>?_)
  exact We<|fun _ q=>⟨rfl,⟨q.k sn,s9⟩⟩
 ·rintro _ al _ rfl ⟨_,sm⟩;have hmn:=elL O;revert al;refine Wo<|Ws<|Rw z ?_
  obtain rfl:=som hmn;exact Wr<|b_ hr z ⟨sm,z⟩
 rintro _ _ _ _ rfl ⟨rfl,hqo⟩;have hmp:=elR O;obtain rfl:=som hmp;exact ⟨hqo,z⟩
theorem W_w1w {x1:List Int}{x2:List Int}{res:Bool}(hm:f_B x1 x2=some res)(a0:B<=w0.z)(G:repS w0 B (sl A0 N0 C0) x1)(L:repS w0 B (sl A7 N7 C7) x2):h_ prog 52 [sl A0 N0 C0,sl A7 N7 C7] w0 (Q7 w0 B res):=by
 unfold f_B at hm
 refine goG func52 z z z fun fn hr=>Ws<|Rw z<|Wq<|Wm z<|R z (lnR z_ z G)<|Rm z<|R z (lnR z_ z L)<|R z (nq z z)<|Wx z (fun I=>?_) (fun I=>?_)
 ·refine Ws<|Rw z ?_
  obtain rfl:=som<|ifT hm I;exact Wr<|b_ hr z ⟨br w0,z⟩
 refine Wk<|Wq<|Ws<|Rw z ?_
 obtain ⟨_,hua,O⟩:=bdS<|ifF hm I;refine Wf (σ:=Unit) (ρ:=Bool) (fun (k5:Nat)(_:Unit) a w=>Sat 26 [(0,sl A0 N0 C0),(1,sl A7 N7 C7),(5,vI ((k5:Nat):Int))] a/\Below w0.z w0 w) (fun (_:Unit) a w=>Sat 26 [] a/\Below w0.z w0 w) (rQ prog fn<|Q7 w0 B) hua ?_ ?_ ?_ ?_ ?_
 ·exact fun _ q=>⟨q.k<|s3 z z z,br w0⟩
 ·rintro k5 _ _ _ _ V ⟨hSb,H⟩ hmc;refine Wu ?_ hSb;refine Wq<|Wm z<|Rm z<|R z (lnR z_ z<|G.e H)<|Rl z z z<|Wx z (fun _=>?_) (fun hc=>(L_ V hc).elim)
  refine Wk<|Wq<|Wb<|Wq (Wd (X:=noX) 0 (pl_ 9 []) mo (by kernel_rfl) fun wu s2 _=>dM z z z<|dM z z z ?_)
  obtain ⟨_,ed,hme⟩:=bdS hmc;have Y:=(H.ag B).e s2;refine dRX z z (at_ (α:=Int) z_ z_3 z z z (G.g Y) ed) ?_;rintro _ ⟨_,_,_,rfl,hf,hg,_⟩;obtain ⟨rfl,_⟩:=a_5 hg;refine dR z z (l0 g_3 z<|hf.at0 z)<|dM z z z<|dM z z z ?_
  obtain ⟨_,eh,W⟩:=bdS hme;refine dRX z z (at_ (α:=Int) z_ z_3 z z z (L.g Y) eh) ?_;rintro _ ⟨_,_,_,rfl,hi,hj,_⟩;obtain ⟨rfl,_⟩:=a_5 hj;refine dR z z (l0 g_3 z<|hi.at0 z)<|dR z z (nq z z)<|pD<|Wo<|Wc z (fun J=>?_) (fun J=>?_)
  ·exact Ws<|Rw z<|Wr<|rtO<|qL (som<|ifT W J).symm<|b_ hr z ⟨bup H s2,z⟩
  exact Wk<|Wg<|Rm z<|R z (inc_ V (lt_ (repS.len G) v_) z z)<|Ra z<|Wl (fun _ q=>⟨(),(som<|ifF W J).symm,⟨q.k<|s3 z z z,bup H s2⟩⟩)
 ·rintro _ _ _ ⟨hSk,s9⟩;refine Wu ?_ hSk;refine Wq<|Wm z<|Rm z<|R z (lnR z_ z<|G.e s9)<|Rl z z z<|Wx z (fun hc=>(M_ hc).elim) (fun _=>?_)
  exact We<|fun _ q=>⟨rfl,⟨q.k sn,s9⟩⟩
 ·rintro _ al _ rfl ⟨_,sm⟩;have hmn:=elL O;revert al;refine Wo<|Ws<|Rw z ?_
  obtain rfl:=som hmn;exact Wr<|b_ hr z ⟨sm,z⟩
 rintro _ _ _ _ rfl ⟨rfl,hqo⟩;have hmp:=elR O;obtain rfl:=som hmp;exact ⟨hqo,z⟩
theorem W_w3r {x1:e_}{x2:e_}{res:Bool}(hm:h_6 x1 x2=some res)(H:B<=w0.z)(aa:x1.name.b.length<=LEN)(ab:inI x1.kind)(ad:inI x1.size)(V:repS w0 B (sl AD ND CD) x1.bytes)(W:repS w0 B (sl AC NC CC) x1.names)(Y:repS w0 B (sl AE NE CE) x1.tags)(a0:repS w0 B (sl AF NF CF) x1.kids)(ae:x2.name.b.length<=LEN)(af:inI x2.kind)(ah:inI x2.size)(a1:repS w0 B (sl A2 N2 C2) x2.bytes)(a2:repS w0 B (sl A3 N3 C3) x2.names)(a3:repS w0 B (sl A1 N1 C1) x2.tags)(a4:repS w0 B (sl A4 N4 C4) x2.kids):h_ prog 29 [(.agg #[Str.v x1.name,vI x1.kind,vI x1.size,vB x1.little,sl AD ND CD,sl AC NC CC,sl AE NE CE,sl AF NF CF]),(.agg #[Str.v x2.name,vI x2.kind,vI x2.size,vB x2.little,sl A2 N2 C2,sl A3 N3 C3,sl A1 N1 C1,sl A4 N4 C4])] w0 (Q7 w0 B res):=by
 unfold h_6 at hm
 refine goG func29 z z z fun fn hr=>Ws<|E z (fb z) ?_
 rintro _ wi ⟨rfl,hj⟩;have h1:=hj.below;refine E z (fb z) ?_;rintro _ a5 ⟨rfl,hk⟩;have G:=hk.below;have h5:Blk a5 wi.z (vR x2 A2 N2 C2 A3 N3 C3 A1 N1 C1 A4 N4 C4):=hk.blk;refine Rw z<|Wq<|Ws<|Rf z d_j z ?_
 have h6:=(hj.blk:Blk wi w0.z (vR x1 AD ND CD AC NC CC AE NE CE AF NF CF)).e G;refine R z (l0 g_9 z<|h6.at z)<|Rf z d_j z<|R z (l0 g_9 z<|h5.at z)<|R z (e_i z z)<|Wx z (fun I=>?_) (fun I=>?_)
 ·refine Ws<|Rw z ?_
  obtain rfl:=som<|ifT hm I;exact Wr<|b_ hr z ⟨bup h1 G,z⟩
 have hml:=ifF hm I;refine Wk<|Wq<|Ws<|Rf z a_n z<|R z (l0 g_3 z<|h6.at z)<|Rf z a_n z<|R z (l0 g_3 z<|h5.at z)<|R z (nq z z)<|Wx z (fun J=>?_) (fun J=>?_)
 ·refine Ws<|Rw z ?_
  obtain rfl:=som<|ifT hml J;exact Wr<|b_ hr z ⟨bup h1 G,z⟩
 have hmm:=ifF hml J;refine Wk<|Wq<|Ws<|Rf z a_H z<|R z (l0 g_3 z<|h6.at z)<|Rf z a_H z<|R z (l0 g_3 z<|h5.at z)<|R z (nq z z)<|Wx z (fun L=>?_) (fun L=>?_)
 ·refine Ws<|Rw z ?_
  obtain rfl:=som<|ifT hmm L;exact Wr<|b_ hr z ⟨bup h1 G,z⟩
 have hmn:=ifF hmm L;refine Wk<|Wq<|Ws<|Rf z d_k z<|R z (l0 g_4 z<|h6.at z)<|Rf z d_k z<|R z (l0 g_4 z<|h5.at z)<|R z (o_Z d_4 z z)<|Wx z (fun hca=>?_) (fun hca=>?_)
 ·refine Ws<|Rw z ?_
  obtain rfl:=som<|ifT hmn hca;exact Wr<|b_ hr z ⟨bup h1 G,z⟩
 refine Wk<|Wq<|Ws<|Rf z b_g z<|R z (l0 U_ z<|h6.at z)<|Rf z b_g z<|R z (l0 U_ z<|h5.at z) ?_
 have hb:=(h1.ag B).e G;have ho:=lt_ h1.s G.s;obtain ⟨_,a6,hmp⟩:=bdS<|ifF hmn hca;refine E z (fc call10 z<|k_F a6 (zt' H ho) (V.g hb)<|a1.g hb) ?_;rintro _ _ ⟨s2,rfl⟩;refine R z (not_ z)<|Wx z (fun hcc=>?_) (fun hcc=>?_)
 ·refine Ws<|Rw z ?_
  obtain rfl:=som<|ifT hmp hcc;exact Wr<|b_ hr z ⟨bup (bup h1 G) s2,z⟩
 refine Wk<|Wq<|Ws<|Rf z b_p z ?_
 have hq:=h6.e s2;refine R z (l0 a_E z<|hq.at z)<|Rf z b_p z ?_
 have ht:=h5.e s2;refine R z (l0 a_E z<|ht.at z) ?_;have hd:=hb.e s2;have hu:=lt_ ho s2.s;obtain ⟨_,a7,hmr⟩:=bdS<|ifF hmp hcc;refine E z (fc call51 z<|W_w3q a7 (zt' H hu) (W.g hd)<|a2.g hd) ?_;rintro _ _ ⟨s3,rfl⟩;refine R z (not_ z)<|Wx z (fun hce=>?_) (fun hce=>?_)
 ·refine Ws<|Rw z ?_
  obtain rfl:=som<|ifT hmr hce;exact Wr<|b_ hr z ⟨bup (bup (bup h1 G) s2) s3,z⟩
 refine Wk<|Wq<|Ws<|Rf z b_0 z ?_
 have hv:=hq.e s3;refine R z (l0 B_ z<|hv.at z)<|Rf z b_0 z ?_
 have hw:=ht.e s3;refine R z (l0 B_ z<|hw.at z) ?_;have hf:=hd.e s3;have hx:=lt_ hu s3.s;obtain ⟨_,a8,hms⟩:=bdS<|ifF hmr hce;refine E z (fc call52 z<|W_w1w a8 (zt' H hx) (Y.g hf)<|a3.g hf) ?_;rintro _ _ ⟨s4,rfl⟩;refine R z (not_ z)<|Wx z (fun hcg=>?_) (fun hcg=>?_)
 ·refine Ws<|Rw z ?_
  obtain rfl:=som<|ifT hms hcg;exact Wr<|b_ hr z ⟨bup (bup (bup (bup h1 G) s2) s3) s4,z⟩
 refine Wk<|Wq<|Ws<|Rf z Y_ z<|R z (l0 B_ z<|(hv.e s4).at z)<|Rf z Y_ z<|R z (l0 B_ z<|(hw.e s4).at z) ?_
 have hy:=hf.e s4;obtain ⟨_,a9,hmz⟩:=bdS<|ifF hms hcg;refine E z (fc call52 z<|W_w1w a9 (zt' H<|lt_ hx s4.s) (a0.g hy)<|a4.g hy) ?_;rintro _ _ ⟨O,rfl⟩;refine R z (not_ z)<|Wx z (fun hch=>?_) (fun hch=>?_)
 ·refine Ws<|Rw z ?_
  obtain rfl:=som<|ifT hmz hch;exact Wr<|b_ hr z ⟨bup (bup (bup (bup (bup h1 G) s2) s3) s4) O,z⟩
 refine Wk<|Ws<|Rw z ?_
 obtain rfl:=som<|ifF hmz hch;exact Wr<|b_ hr z ⟨bup (bup (bup (bup (bup h1 G) s2) s3) s4) O,z⟩
theorem W_w3s {x1:List e_}{x2:List e_}{res:Bool}(hm:i_E x1 x2=some res)(a5:B<=w0.z)(G:repS w0 B (sl A0 N0 C0) x1)(L:repS w0 B (sl A7 N7 C7) x2):h_ prog 19 [sl A0 N0 C0,sl A7 N7 C7] w0 (Q7 w0 B res):=by
 unfold i_E at hm
 refine goG func19 z z z fun fn hr=>Ws<|Rw z<|Wq<|Wm z<|R z (lnR a_1 z G)<|Rm z<|R z (lnR a_1 z L)<|R z (nq z z)<|Wx z (fun I=>?_) (fun I=>?_)
 ·refine Ws<|Rw z ?_
  obtain rfl:=som<|ifT hm I;exact Wr<|b_ hr z ⟨br w0,z⟩
 refine Wk<|Wq<|Ws<|Rw z ?_
 obtain ⟨_,hub,O⟩:=bdS<|ifF hm I;refine Wf (σ:=Unit) (ρ:=Bool) (fun (k5:Nat)(_:Unit) a w=>Sat 27 [(0,sl A0 N0 C0),(1,sl A7 N7 C7),(5,vI ((k5:Nat):Int))] a/\Below w0.z w0 w) (fun (_:Unit) a w=>Sat 27 [] a/\Below w0.z w0 w) (rQ prog fn<|Q7 w0 B) hub ?_ ?_ ?_ ?_ ?_
 ·exact fun _ q=>⟨q.k<|s3 z z z,br w0⟩
 ·rintro k5 _ _ _ _ V ⟨hSc,H⟩ hmd;refine Wu ?_ hSc;refine Wq<|Wm z<|Rm z<|R z (lnR a_1 z<|G.e H)<|Rl z z z<|Wx z (fun _=>?_) (fun hc=>(L_ V hc).elim)
  refine Wk<|Wq<|Wb<|Wq (Wd (X:=noX) 0 (pl_ 10 [8]) mo (by kernel_rfl) fun aG s1 _=>dM z z z<|dM z z z ?_)
  obtain ⟨xe,eg,hmf⟩:=bdS hmd;have Y:=(H.ag B).e s1;refine dRX z z (at_ (α:=e_) a_1 p_ z z z (G.g Y) eg) ?_;rintro _ ⟨_,_,_,rfl,hh,hi,_⟩;obtain ⟨aj,nk,cl,am,nn,co,ap,nr,cq,au,ns,ct,rfl,hv,hw,hx,hy,hz,a6,a7⟩:=a_y hi;refine dR z z (lN (vs:=vR xe aj nk cl am nn co ap nr cq au ns ct) G_ p_ z z fid hh)<|dM z z z<|dM z z z ?_
  obtain ⟨a8,a9,a0⟩:=bdS hmf;refine dRX z z (at_ (α:=e_) a_1 p_ z z z (L.g Y) a9) ?_;rintro _ ⟨_,_,_,rfl,aa,ab,_⟩;obtain ⟨ad,ae,af,ah,ai,ak,al,an,ao,aq,ar,av,rfl,aw,ax,ay,az,aA,aB,aC⟩:=a_y ab;refine dR z z (lN (vs:=vR a8 ad ae af ah ai ak al an ao aq ar av) G_ p_ z z fid aa) ?_;obtain ⟨_,aD,W⟩:=bdS a0;refine dE z z (fc call29 z<|W_w3r aD (zt' a5<|lt_ H.s s1.s) hv hw hx hy hz a6 a7 aw ax ay az aA aB aC) (.inr fun _ _ h=>j_<|h.1) ?_;rintro _ _ ⟨s9,rfl⟩;refine dR z z (not_ z)<|pD<|Wo<|Wc z (fun J=>?_) (fun J=>?_)
  ·exact Ws<|Rw z<|Wr<|rtO<|qL (som<|ifT W J).symm<|b_ hr z ⟨bup (bup H s1) s9,z⟩
  exact Wk<|Wg<|Rm z<|R z (inc_ V (lt_ (repS.len G) v_) z z)<|Ra z<|Wl (fun _ q=>⟨(),(som<|ifF W J).symm,⟨q.k<|s3 z z z,bup (bup H s1) s9⟩⟩)
 ·rintro _ _ _ ⟨a1,sa⟩;refine Wu ?_ a1;refine Wq<|Wm z<|Rm z<|R z (lnR a_1 z<|G.e sa)<|Rl z z z<|Wx z (fun hc=>(M_ hc).elim) (fun _=>?_)
  exact We<|fun _ q=>⟨rfl,⟨q.k sn,sa⟩⟩
 ·rintro _ aE _ rfl ⟨_,aF⟩;have a2:=elL O;revert aE;refine Wo<|Ws<|Rw z ?_
  obtain rfl:=som a2;exact Wr<|b_ hr z ⟨aF,z⟩
 rintro _ _ _ _ rfl ⟨rfl,a3⟩;have a4:=elR O;obtain rfl:=som a4;exact ⟨a3,z⟩
theorem W_w3t {x1:d_}{x2:d_}{res:Bool}(hm:h_7 x1 x2=some res)(V:B<=w0.z)(L:repS w0 B (sl A0 N0 C0) x1.rules)(O:repS w0 B (sl A7 N7 C7) x2.rules):h_ prog 9 [(.agg #[sl A0 N0 C0]),(.agg #[sl A7 N7 C7])] w0 (Q7 w0 B res):=by
 unfold h_7 at hm
 refine goG func9 z z z fun fn hr=>Ws<|E z (fb z) ?_
 rintro _ J ⟨rfl,h4⟩;have h1:=h4.below;refine E z (fb z) ?_;rintro _ wa ⟨rfl,h5⟩;have G:=h5.below;refine Rw z<|Wq<|Ws<|Rf z a_c z<|R z (l0 a_e z<|((h4.blk:Blk J w0.z [sl A0 N0 C0]).e G).at z)<|Rf z a_c z<|R z (l0 a_e z<|(h5.blk:Blk wa J.z [sl A7 N7 C7]).at z) ?_
 have h6:=(h1.ag B).e G;obtain ⟨_,ec,I⟩:=bdS hm;refine E z (fc call19 z<|W_w3s ec (zt' V<|lt_ h1.s G.s) (L.g h6)<|O.g h6) ?_;rintro _ _ ⟨s8,rfl⟩;refine R z (not_ z)<|Wx z (fun H=>?_) (fun H=>?_)
 ·refine Ws<|Rw z ?_
  obtain rfl:=som<|ifT I H;exact Wr<|b_ hr z ⟨bup (bup h1 G) s8,z⟩
 refine Wk<|Ws<|Rw z ?_
 obtain rfl:=som<|ifF I H;exact Wr<|b_ hr z ⟨bup (bup h1 G) s8,z⟩
def r_O (w0:World)(B:Zone)(r:Bool)(v:Value)(w':World):Prop:=Bw w0 w'/\(fun G=>(vB G)=v) r
theorem r_P {x1:d_}{x2:List UInt8}{x3:List UInt8}{res:Bool}(hm:h_c n x1 x2 x3=some res)(H:B<=w0.z)(hG:Gl w0 B)(J:repS w0 B (sl A0 N0 C0) x1.rules)(L:repS w0 B (sl A7 N7 C7) x2)(O:repS w0 B (sl A9 N9 C9) x3):h_ prog 3 [(.agg #[sl A0 N0 C0]),sl A7 N7 C7,sl A9 N9 C9] w0 (r_O w0 B res):=by
 unfold h_c at hm
 refine goG func3 z z z fun fn hr=>Ws<|E z (fb z) ?_
 rintro _ aJ ⟨rfl,hx⟩;have G:=hx.below;have hk:Blk aJ w0.z [sl A0 N0 C0]:=hx.blk;refine Rw z<|Wq<|Wm z<|R z (lnR l_ z<|L.e G)<|R z (a_q z z)<|Wx z (fun hcl=>?_) (fun hcl=>?_)
 ·refine Ws<|Rw z ?_
  obtain rfl:=som<|ifT hm hcl;exact Wr<|b_ hr z ⟨G,z⟩
 have hmy:=ifF hm hcl;refine Wk<|Wq<|Wm z<|R z (lnR l_ z<|O.e G)<|R z (a_q z z)<|Wx z (fun hcm=>?_) (fun hcm=>?_)
 ·refine Ws<|Rw z ?_
  obtain rfl:=som<|ifT hmy hcm;exact Wr<|b_ hr z ⟨G,z⟩
 refine Wk<|Ws<|Rw z<|Ws<|R z (lN (vs:=[sl A0 N0 C0]) g_24 z_24 z z fid<|hk.row 0 1 z)<|Rm z ?_
 obtain ⟨_,aK,hmz⟩:=bdS<|ifF hmy hcm;refine E z (fc call4 z<|W_w21 aK (zt' H G.s) (J.e G)<|ii z) ?_;rintro _ _ ⟨s8,rfl,_⟩;refine Rw z<|Wq<|Wm z<|Rl z z z<|Wx z (fun hcn=>?_) (fun hcn=>?_)
 ·refine Ws<|Rw z ?_
  obtain rfl:=som<|ifT hmz hcn;exact Wr<|b_ hr z ⟨bup G s8,z⟩
 refine Wk<|Ws ?_
 have a1:=hk.e s8;refine R z (lN (vs:=[sl A0 N0 C0]) g_24 z_24 z z fid<|a1.row 0 1 z) ?_;have a2:=(G.ag B).e s8;have a3:=lt_ G.s s8.s;obtain ⟨_,aL,az⟩:=bdS<|ifF hmz hcn;refine E z (fc call6 z<|k_4 aL (zt' H a3)<|J.g a2) ?_;rintro _ _ ⟨sb,_,_,_,_,rfl,a4,_,_⟩;refine Rm z ?_;have a5:=a2.e sb;have a6:=lt_ a3 sb.s;obtain ⟨_,aM,aA⟩:=bdS az;refine E z (fc call7 z<|e_t aM (zt' H a6)<|L.g a5) ?_;rintro _ _ ⟨s5,_,_,_,_,rfl,a7,_,_⟩;refine Rm z ?_;have a8:=a5.e s5;have a9:=lt_ a6 s5.s;obtain ⟨_,aN,aB⟩:=bdS aA;refine E z (fc call7 z<|e_t aN (zt' H a9)<|O.g a8) ?_;rintro _ aO ⟨s3,_,_,_,_,rfl,aP,_,_⟩;obtain ⟨_,aQ,aC⟩:=bdS aB;refine E z (fc call5 z<|W_w2t (B:=aO.z) aQ zr (repS.mono (or_ ((a4.e s5).e s3)<|a_.lt a4)<|Z_<|lt_ s5.s s3.s) (repS.mono (or_ (a7.e s3)<|a_.lt a7)<|Z_ s3.s)<|a_.rep aP) ?_;rintro _ _ ⟨sc,rfl,_⟩;refine Rw z<|Ws ?_
 have aa:=(((a1.e sb).e s5).e s3).e sc;refine R z (lN (vs:=[sl A0 N0 C0]) g_24 z_24 z z fid<|aa.row 0 1 z) ?_;have ab:=(a8.e s3).e sc;have ad:=lt_ (lt_ a9 s3.s) sc.s;obtain ⟨_,aR,aD⟩:=bdS aC;refine E z (fc call6 z<|k_4 aR (zt' H ad)<|J.g ab) ?_;rintro _ ae ⟨sd,ao,np,cq,_,rfl,hi,_,_⟩;refine E z (fa k_1) ?_;rintro _ aS ⟨rfl,af⟩;have I:=af.below;refine E0 (fs0 (cur':=[sl ao np cq]) n_ z z (af.blk:Blk aS ae.z [sl none 0 0]) z z z z) ?_;rintro _ _ ⟨aT,aU⟩;have ha:=aU.one;refine Wn<|Wm z ?_
 have hg:=lt_ ad sd.s;have ah:∀k∈[ae.z],¬B k:=or0 (f_ lr)<|t_<|zt' H hg;have ai:=((ab.e sd).e I).c ha<|g_ ah
 have aj:=lt_ (lt_ hg I.s) ha.s;obtain ⟨_,aV,aE⟩:=bdS aD;refine E z (fc call7 z<|e_t aV (zt' H aj)<|L.g ai) ?_;rintro _ _ ⟨s6,_,_,_,_,rfl,ht,_,_⟩;refine Rw z<|Wm z ?_
 have ak:=ai.e s6;have al:=lt_ aj s6.s;obtain ⟨_,aW,aF⟩:=bdS aE;refine E z (fc call7 z<|e_t aW (zt' H al)<|O.g ak) ?_;rintro _ aX ⟨s1,_,_,_,_,rfl,hu,_,_⟩;refine Rw z<|Ws ?_
 have am:=(aT.e s6).e s1;refine R z (lN (vs:=[sl ao np cq]) o_ n_ z z fid<|am.row 0 1 z)<|RM z z ?_
 have an:=(((hi.e I).c ha<|ds<|mnr<|a_.lt hi).e s6).e s1;have ap:=ht.e s1;have aq:=lt_ (lt_ (lt_ I.s ha.s) s6.s) s1.s;have ar:=lt_ al s1.s;obtain ⟨_,aY,V⟩:=bdS aF;refine E z (fc call8 z<|W_w3p (B:=aX.z) aY zr ((((((((((((hG.e G).e s8).e sb).e s5).e s3).e sc).e sd).e I).c ha<|g_ ah).e s6).e s1).mono<|zt' H ar) (repS.mono (or_ an<|a_.lt hi)<|Z_ aq) (repS.mono (or_ ap<|a_.lt ht)<|Z_ s1.s)<|a_.rep hu) ?_;rintro _ _ ⟨s2,rfl,_⟩;refine Rw z<|Wq<|Wm z<|Rm z<|R z (e_i z z)<|Wx z (fun hcr=>?_) (fun hcr=>?_)
 ·refine Ws<|Rw z ?_
  obtain rfl:=som<|ifT V hcr;exact Wr<|b_ hr z ⟨bup (bup (bup (bM (bup (bup (bup (bup (bup (bup (bup G s8) sb) s5) s3) sc) sd) I) ha<|m1 hg) s6) s1) s2,z⟩
 refine Wk<|Wq<|Wq (Wd (X:=noX) 0 (pl_ 5 [2,3]) mo (by kernel_rfl) fun be s4 _=>dR z z (lN (vs:=[sl ao np cq]) o_ n_ z z fid<|((am.e s2).e s4).row 0 1 z) ?_)
 refine dR z z (lN (vs:=[sl A0 N0 C0]) g_24 z_24 z z fid<|(((((((aa.e sd).e I).c ha<|djs<|mm1 hk.lt<|lt_ (lt_ (lt_ (lt_ (lt_ s8.s sb.s) s5.s) s3.s) sc.s) sd.s).e s6).e s1).e s2).e s4).row 0 1 z) ?_;have au:=((ak.e s1).e s2).e s4;have av:=lt_ (lt_ ar s2.s) s4.s;obtain ⟨_,aZ,aG⟩:=bdS<|ifF V hcr;refine dE z z (fc call6 z<|k_4 aZ (zt' H av)<|J.g au) (.inr fun _ _ h=>j_<|h.1) ?_;rintro _ b0 ⟨s7,_,_,_,_,rfl,b3,_,_⟩;obtain ⟨_,b4,W⟩:=bdS aG;refine dE z z (fc call9 z<|W_w3t (B:=b0.z) b4 zr (repS.mono (or_ (((an.e s2).e s4).e s7)<|a_.lt hi)<|Z_<|lt_ (lt_ (lt_ aq s2.s) s4.s) s7.s)<|a_.rep b3) (.inr fun _ _ h=>j_<|h.1) ?_;rintro _ _ ⟨se,rfl⟩;refine dR z z (not_ z)<|pD<|Wo<|Wc z (fun hcs=>?_) (fun hcs=>?_)
 ·refine Ws<|Rw z ?_
  obtain rfl:=som<|ifT W hcs;exact Wr<|b_ hr z ⟨bup (bup (bup (bup (bup (bup (bM (bup (bup (bup (bup (bup (bup (bup G s8) sb) s5) s3) sc) sd) I) ha<|m1 hg) s6) s1) s2) s4) s7) se,z⟩
 refine Wk<|Wq<|Wm z<|Rm z ?_
 have aw:=(au.e s7).e se;have ax:=lt_ (lt_ av s7.s) se.s;obtain ⟨_,b5,aH⟩:=bdS<|ifF W hcs;refine E z (fc call7 z<|e_t b5 (zt' H ax)<|L.g aw) ?_;rintro _ b6 ⟨sf,_,_,_,_,rfl,b7,_,_⟩;obtain ⟨_,b8,Y⟩:=bdS aH;refine E z (fc call10 z<|k_F (B:=b6.z) b8 zr (repS.mono (or_ (((((ap.e s2).e s4).e s7).e se).e sf)<|a_.lt ht)<|Z_<|lt_ (lt_ (lt_ (lt_ (lt_ s1.s s2.s) s4.s) s7.s) se.s) sf.s)<|a_.rep b7) ?_;rintro _ _ ⟨sh,rfl⟩;refine R z (not_ z)<|Wx z (fun hcv=>?_) (fun hcv=>?_)
 ·refine Ws<|Rw z ?_
  obtain rfl:=som<|ifT Y hcv;exact Wr<|b_ hr z ⟨bup (bup (bup (bup (bup (bup (bup (bup (bM (bup (bup (bup (bup (bup (bup (bup G s8) sb) s5) s3) sc) sd) I) ha<|m1 hg) s6) s1) s2) s4) s7) se) sf) sh,z⟩
 refine Wk<|Wq<|Wm z<|Rm z ?_
 obtain ⟨_,b9,aI⟩:=bdS<|ifF Y hcv;refine E z (fc call7 z<|e_t b9 (zt' H<|lt_ (lt_ ax sf.s) sh.s)<|O.g<|(aw.e sf).e sh) ?_;rintro _ ba ⟨sj,_,_,_,_,rfl,bb,_,_⟩;obtain ⟨_,bc,a0⟩:=bdS aI;refine E z (fc call10 z<|k_F (B:=ba.z) bc zr (repS.mono (or_ (((((((hu.e s2).e s4).e s7).e se).e sf).e sh).e sj)<|a_.lt hu)<|Z_<|lt_ (lt_ (lt_ (lt_ (lt_ (lt_ s2.s s4.s) s7.s) se.s) sf.s) sh.s) sj.s)<|a_.rep bb) ?_;rintro _ _ ⟨ay,rfl⟩;refine R z (not_ z)<|Wx z (fun hcw=>?_) (fun hcw=>?_)
 ·refine Ws<|Rw z ?_
  obtain rfl:=som<|ifT a0 hcw;exact Wr<|b_ hr z ⟨bup (bup (bup (bup (bup (bup (bup (bup (bup (bup (bM (bup (bup (bup (bup (bup (bup (bup G s8) sb) s5) s3) sc) sd) I) ha<|m1 hg) s6) s1) s2) s4) s7) se) sf) sh) sj) ay,z⟩
 refine Wk<|Ws<|Rw z ?_
 obtain rfl:=som<|ifF a0 hcw;exact Wr<|b_ hr z ⟨bup (bup (bup (bup (bup (bup (bup (bup (bup (bup (bM (bup (bup (bup (bup (bup (bup (bup G s8) sb) s5) s3) sc) sd) I) ha<|m1 hg) s6) s1) s2) s4) s7) se) sf) sh) sj) ay,z⟩
end Go.Vw
