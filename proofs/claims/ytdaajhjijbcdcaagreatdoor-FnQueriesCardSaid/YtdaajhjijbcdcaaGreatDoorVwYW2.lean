
import Derived.Test.YtdaajhjijbcdcaaGreatDoorVwYW1
set_option linter.unusedVariables false
namespace Go.Vw
open Go.RowKit Dat Go.Proofs
open Go.Proofs.Tryz
open Go.Vw renaming a_p->Wq,a_S->Wg,WC.of_KC->Wo,a_q->Wl,c_6->Wc,c_G->Wr,f_A->Wu,i_h->pT,i_i->pF,g_F->fd,b_z->l1,i_x->lN,b_h->mv,c_L->asg,f_w->lnR,e_N->lss,g_J->eql,g_G->ext_,i_k->bP,g_H->add_,f_v->inc_,d_q->not_,f_x->at_,e_f->fc,b_4->fs,e_e->fb,d_k->fa,i_b->sr,i_f->cr,i_g->cM,c_k->bM,i_4->iS,i_3->iA,i_6->br,b_c->oA,i_7->bs,ltge->lg,inor->io,f_D->nq,i_z->lnT,i_A->sb_,i_9->ar_,i_8->al_,i_a->ds,j_8->m1,i_d->nr_,i_c->nl_,g_v->aa_,d_o->an_,d_f->Wb,g_u->u8,i_0->pD,f_k->We,i_5->Wt,f_q->fS,f_g->or_,i_v->Wf,i_r->qL,h_Z->Wd,i_l->fN,g_w->na_,i_e->nj,e_g->f0,i_j->rX,i_m->tl_,i_n->ic
variable {A0:Option Addr}{N0 C0:Nat}{B:Zone}{w0:World}{n:Nat}{A5:Option Addr}{N5 C5:Nat}{A9:Option Addr}{A8:Option Addr}{AA:Option Addr}{AB:Option Addr}{N9 C9:Nat}{N8 C8:Nat}{NA CA:Nat}{NB CB:Nat}{AC:Option Addr}{AD:Option Addr}{NC CC:Nat}{ND CD:Nat}{A2:Option Addr}{A3:Option Addr}{A1:Option Addr}{A4:Option Addr}{N2 C2:Nat}{N3 C3:Nat}{N1 C1:Nat}{N4 C4:Nat}{A6:Option Addr}{N6 C6:Nat}{A7:Option Addr}{N7 C7:Nat}
theorem W_w26 {x1:u_}{g1:Nat}{res:g_×Int×Int}(hm:f_o n x1=some res)(hB1:Blk w0 g1 [sl A0 N0 C0,vI x1.i,vI x1.h])(ad:B<=w0.z)(hBg:¬B g1)(am:repS w0 B (sl A0 N0 C0) x1.b)(ko:inI x1.i)(kp:inI x1.h):r_ prog 33 [pt g1] w0 (Q8 w0 g1 B A0 N0 C0 x1 res):=by
 unfold f_o at hm
 refine goG func33 z z z λfn hr=>Ws<|E z (fa e_6) ?_
 rintro _ df ⟨rfl,gl⟩;have ae:=gl.below;have bO:Blk df w0.z [sN]:=gl.blk;refine Wn<|Wm z ?_
 obtain ⟨ar,_,_,kq,jf⟩:=t_ hm;refine E z (fc call27 z<|W_w1a (B:=B) kq (hB1.e ae) (zt' ad ae.s) hBg (am.e ae) ko kp) ?_;rintro _ wa ⟨aP,ax,ny,cz,H,rfl,bQ,kr,ks,kt,aQ,au⟩;refine E z (fa e_6) ?_;rintro _ f0 ⟨rfl,gm⟩;have aG:=gm.below;have O:Blk f0 wa.z [sN]:=gm.blk;refine E0 (fs0 (cur':=[sl ax ny cz]) z_ z z O z z z z) ?_;rintro _ gn ⟨aH,ku⟩;have an:=ku.one;refine Wn<|Wm z<|Rf z R_ z<|R z (l0 S_ z<|aH.at z) ?_
 have hb:=mnr<|a_.lt bQ
 have aC:=(bQ.e aG).c an<|ds hb
 refine R z (lnR K_ z<|or_ aC<|zin (B:=B) au<|a_.lt bQ) ?_;have cu:=lt_ ae.s aP.s;have gp:=(((ae.ag B).c aP<|c_<|b_ hBg).e aG).c an<|c_ (or0 (b_ lr) (o_<|zt' ad cu):∀k∈[wa.z],¬B k)
 have L:=mm1 (Blk.lt hB1) cu;have gq:=lt_ (lt_ cu aG.s) an.s;obtain ⟨aw,_,_,kw,jg⟩:=t_ jf;refine E z (fc call34 z<|a_T (B:=B) kw ((kt.e aG).c an<|djs L) (zt' ad gq) hBg (am.g gp) kr ks<|b_5<|repS.len<|or_ aC<|zin (B:=B) au<|a_.lt bQ) ?_;rintro _ gr ⟨st,rfl,_,kx,ky,kz⟩;refine Rw z<|Wq<|Wm z ?_
 have ay:=gp.c st<|c_<|b_ hBg
 have av:=lt_ gq st.s;obtain ⟨_,gs,gt,kA,jh⟩:=t_ jg;refine E z (fc call34 z<|a_T (B:=B) kA kz (zt' ad av) hBg (am.g ay) kx ky<|ii z) ?_;rintro _ G ⟨s3,rfl,_,ao,ap,aq⟩;refine Wn<|Wb<|Ws<|Rq z z z<|Rw z ?_
 obtain ⟨kB,fX,fY⟩:=bdS jh;refine Wt (λa w=>∃(dg:Int)(dh:Int)(f1:List d_),Sum.inl (dg,dh,f1)=kB/\∃(bR:List Nat),Sat 140 [(2,pt w0.z),(3,pt wa.z)] a/\Chg (· ∈ ([g1]++H)) G w/\inI dg/\inI dh/\a_ w bR (sl ax ny cz) f1/\bR.Nodup/\(∀k∈bR,k∈H∨G.z<=k)/\Blk w g1 [sl A0 N0 C0,vI dg,vI dh]/\Blk w wa.z [sl ax ny cz]) ?_ ?_
 .refine Wc z (λeB=>?_)<|λeB=>?_
  .refine Wd (X:=λk=>k∈[g1]∨G.z<=k) 8192 (pl_ 14 [9,10,13]) mo (by kernel_rfl) λbS bo _=>dR z z (fd R_ z) ?_
   have f2:=((aH.c st<|atp L).c s3<|atp L).e bo;have gu:=lt_ (lt_ an.s st.s) s3.s;refine dR z z (l1 S_ z (a_o (atp L)<|Nat.lt_of_lt_of_le O.lt gu)<|f2.at z)<|dM z z z<|dM z z z<|dR z z (fd R_ z)<|dR z z (l1 S_ z (a_o (atp L)<|Nat.lt_of_lt_of_le O.lt gu)<|f2.at z) ?_
   obtain ⟨f3,kC,ji⟩:=bdS<|ifT fX eB;have di:=n_ au (Blk.lt hB1) ae.s;have gv:=((aC.c st di).c s3 di).e bo;refine dRX z z (at_ (α:=d_) K_ p_ z z z (or_ gv<|zin (B:=B) au<|a_.lt bQ) kC) ?_;rintro _ ⟨_,_,_,rfl,kD,kE,gw⟩;obtain ⟨_,_,_,_,_,_,_,_,_,_,_,_,rfl,kF,_,_,_,_,_,_⟩:=a_H kE;refine dR z z (fd e_C z) ?_;have gx:=lt_ av s3.s;refine dR z z (l1 g_9 z (a_o ((c_ ((a_F (b_ hBg) (b_<|Blk.lt hB1) ae.s):∀k∈[g1],¬(zn B df.z wa.z) k)) _ gw)<|zap (a_B (zt' ad gx)<|lt_ (lt_ (lt_ aG.s an.s) st.s) s3.s) gw)<|kD.at (j:=0) z)<|dE z z (fS [(.const<|Str.v ⟨[]⟩),.const<|Str.v ⟨[65]⟩,.tmp 24,(.const<|Str.v ⟨[118,101,114,121,108,111,110,103,110,97,109,101,105,110,100,101,101,100]⟩)] a_5 z z z (L_ z) (lb z)<|lb z) (.inr λ_ _ h=>y_<|h.2.below) ?_
   rintro _ cv ⟨rfl,gy⟩;have bp:=gy.below;have gz:a_ cv [bS.z] (sl (some ⟨bS.z,0,none⟩) 4 4) ([(⟨[]⟩:Str),(⟨[65]⟩:Str),f3.name,(⟨[118,101,114,121,108,111,110,103,110,97,109,101,105,110,100,101,101,100]⟩:Str)]:List Str):=d_L (l:=[(⟨[]⟩:Str),(⟨[65]⟩:Str),f3.name,(⟨[118,101,114,121,108,111,110,103,110,97,109,101,105,110,100,101,101,100]⟩:Str)]) (gy.blk:Blk cv bS.z [(Str.v (⟨[]⟩:Str)),Str.v (⟨[65]⟩:Str),Str.v f3.name,(Str.v (⟨[118,101,114,121,108,111,110,103,110,97,109,101,105,110,100,101,101,100]⟩:Str))]) (ac0 (lb z)<|ac0 (lb z)<|ac0 kF<|ac0 (lb z) an0) z;have gA:=lt_ gx bo.s;obtain ⟨kG,kH,kI,kJ,jj⟩:=t_ ji;refine dE z z (fc call35 z<|e_7 (B:=zn B bS.z cv.z) kJ ((aq.e bo).e bp) (a_B (zt' ad<|lt_ gA bp.s) lr) (atp ((a_F (b_ hBg) (b_<|Blk.lt hB1) gA):∀k∈[g1],¬(zn B bS.z cv.z) k)) (repS.mono (am.g<|((ay.c s3<|c_<|b_ hBg).e bo).e bp) a_r) ao ap<|or_ gz<|zin (B:=B) (b_ lr)<|a_.lt gz) (.inr λ_ _ h=>h.1.mono λk _ hk=>(io sr) k hk) ?_;rintro _ kK ⟨dj,rfl,kL,kM,kN,kO⟩;obtain ⟨bq,gB,jk⟩:=bdS jj;have gC:=(gv.e bp).c dj di;refine dRX z z (d_M (α:=d_) K_ p_ z z gC gB) ?_;rintro _ ⟨_,kP,rfl⟩;refine dR z z (fd e_C z) ?_;obtain ⟨kQ,kR,jl⟩:=bdS jk;refine dE0 z (g_A (α:=d_) (v':=(⟨kG,bq.kind,bq.size,bq.little,bq.bytes,bq.names,bq.tags,bq.kids⟩:d_)) z_9 z kP z z z z gB kR gC aQ (lb z)<|λ_ _ _ h=>n_U h kL) (.inl z) ?_;rintro _ kS ⟨gD,f4,kT,kU,kV⟩;refine pD ?_;exact λ_ q=>⟨kH,kI,kQ,som jl,gD,q.k<|s2 z z,(cM (cM (e_ (e_ (cr ([g1]++H) G) bo:Chg (· ∈ ([g1]++H)) G bS) bp:Chg (· ∈ ([g1]++H)) G cv) dj (io<|i_ sr):Chg (· ∈ ([g1]++H)) G kK) f4 (io<|f_ sr):Chg (· ∈ ([g1]++H)) G kS),kM,kN,kT,kU,(or1 kV (io sr) (j_<|lt_ (lt_ bo.s bp.s) dj.s):∀k∈gD,k∈H∨G.z<=k),kO.c f4<|djs di,((f2.e bp).c dj<|atp L).c f4<|atp hb⟩
  refine Ws<|Rq z z z<|Rw z ?_
  obtain ⟨kW,fZ,g0⟩:=bdS<|ifF fX eB;refine Wt (λa w=>∃(cw:Int)(cx:Int)(dk:List d_),Sum.inl (cw,cx,dk)=kW/\∃(bT:List Nat),Sat 140 [(2,pt w0.z),(3,pt wa.z)] a/\Chg (· ∈ ([g1]++H)) G w/\inI cw/\inI cx/\a_ w bT (sl ax ny cz) dk/\bT.Nodup/\(∀k∈bT,k∈H∨G.z<=k)/\Blk w g1 [sl A0 N0 C0,vI cw,vI cx]/\Blk w wa.z [sl ax ny cz]) ?_ ?_
  .refine Wc z (λeC=>?_)<|λeC=>?_
   .refine Wd (X:=λk=>k∈[g1]∨G.z<=k) 256 (pl_ 9 [4,8]) mo (by kernel_rfl) λkX bs _=>dR z z (fd R_ z) ?_
    have gE:=((aH.c st<|atp L).c s3<|atp L).e bs;refine dR z z (l1 S_ z (a_o (atp L)<|Nat.lt_of_lt_of_le O.lt<|lt_ (lt_ an.s st.s) s3.s)<|gE.at z)<|dM z z z<|dM z z z ?_
    obtain ⟨kY,kZ,l2,l3,jm⟩:=t_<|ifT fZ eC;refine dE z z (fc call34 z<|a_T (B:=B) l3 (aq.e bs) (zt' ad<|lt_ (lt_ av s3.s) bs.s) hBg (am.g<|(ay.c s3<|c_<|b_ hBg).e bs) ao ap<|ii z) (.inr λ_ _ h=>h.1.mono λk _ hk=>(io sr) k hk) ?_;rintro _ l4 ⟨dl,rfl,_,l5,l6,l7⟩;refine dR z z (sb_ z z) ?_;obtain ⟨bt,gF,jn⟩:=bdS jm;have dm:=n_ au (Blk.lt hB1) ae.s;have gG:=(((aC.c st dm).c s3 dm).e bs).c dl dm;refine dRX z z (d_M (α:=d_) K_ p_ z z gG gF) ?_;rintro _ ⟨_,l8,rfl⟩;refine dR z z (fd a_G z) ?_;obtain ⟨l9,la,jo⟩:=bdS jn;refine dE0 z (g_A (α:=d_) (v':=(⟨bt.name,I_ kY 1,bt.size,bt.little,bt.bytes,bt.names,bt.tags,bt.kids⟩:d_)) z_3 z l8 z z z z gF la gG aQ (lb z) (λ_ _ _ h=>n_V h<|iS _ _)) (.inl z) ?_;rintro _ lc ⟨gH,f5,ld,le,lf⟩;refine pD ?_;exact λ_ q=>⟨kZ,l2,l9,som jo,gH,q.k<|s2 z z,(cM (cM (e_ (cr ([g1]++H) G) bs:Chg (· ∈ ([g1]++H)) G kX) dl (io<|i_ sr):Chg (· ∈ ([g1]++H)) G l4) f5 (io<|f_ sr):Chg (· ∈ ([g1]++H)) G lc),l5,l6,ld,le,(or1 lf (io sr) (j_<|lt_ bs.s dl.s):∀k∈gH,k∈H∨G.z<=k),l7.c f5<|djs dm,(gE.c dl<|atp L).c f5<|atp hb⟩
   refine Ws<|Rq z z z<|Rw z ?_
   obtain ⟨lg,g2,g3⟩:=bdS<|ifF fZ eC;refine Wt (λa w=>∃(cy:Int)(cA:Int)(dn:List d_),Sum.inl (cy,cA,dn)=lg/\∃(bU:List Nat),Sat 140 [(2,pt w0.z),(3,pt wa.z)] a/\Chg (· ∈ ([g1]++H)) G w/\inI cy/\inI cA/\a_ w bU (sl ax ny cz) dn/\bU.Nodup/\(∀k∈bU,k∈H∨G.z<=k)/\Blk w g1 [sl A0 N0 C0,vI cy,vI cA]/\Blk w wa.z [sl ax ny cz]) ?_ ?_
   .refine Wc z (λeD=>?_)<|λeD=>?_
    .refine Wd (X:=λk=>k∈[g1]∨G.z<=k) 256 (pl_ 9 [4,5,8]) mo (by kernel_rfl) λbV bu _=>dR z z (fd R_ z) ?_
     have gI:=((aH.c st<|atp L).c s3<|atp L).e bu;refine dR z z (l1 S_ z (a_o (atp L)<|Nat.lt_of_lt_of_le O.lt<|lt_ (lt_ an.s st.s) s3.s)<|gI.at z)<|dM z z z<|dM z z z<|dE z z (fS [(.const<|.int .i64 (-1)),.const<|.int .i64 0,.const<|.int .i64 1,.const<|.int .i64 4,.const<|.int .i64 5,.const<|.int .i64 64,(.const<|.int .i64 65)] a_E z z z (L_ z) (lb z)<|lb z) (.inr λ_ _ h=>y_<|h.2.below) ?_
     rintro _ cB ⟨rfl,gJ⟩;have bv:=gJ.below;have gK:a_ cB [bV.z] (sl (some ⟨bV.z,0,none⟩) 7 7) ([(-1),0,1,4,5,64,65]:List Int):=d_K (l:=[(-1),0,1,4,5,64,65]) (gJ.blk:Blk cB bV.z [vI (-1),vI 0,vI 1,vI 4,vI 5,vI 64,vI 65]) (ac0 (ii z)<|ac0 (ii z)<|ac0 (ii z)<|ac0 (ii z)<|ac0 (ii z)<|ac0 (ii z)<|ac0 (ii z) an0) z;have gL:=lt_ (lt_ av s3.s) bu.s;obtain ⟨lh,li,lj,lk,jp⟩:=t_<|ifT g2 eD;refine dE z z (fc call63 z<|d_e (B:=zn B bV.z cB.z) lk ((aq.e bu).e bv) (a_B (zt' ad<|lt_ gL bv.s) lr) (atp ((a_F (b_ hBg) (b_<|Blk.lt hB1) gL):∀k∈[g1],¬(zn B bV.z cB.z) k)) (repS.mono (am.g<|((ay.c s3<|c_<|b_ hBg).e bu).e bv) a_r) ao ap<|or_ gK<|zin (B:=B) (b_ lr)<|a_.lt gK) (.inr λ_ _ h=>h.1.mono λk _ hk=>(io sr) k hk) ?_;rintro _ ll ⟨dp,rfl,lm,ln,lo,lp⟩;obtain ⟨bw,gM,jq⟩:=bdS jp;have dq:=n_ au (Blk.lt hB1) ae.s;have gN:=((((aC.c st dq).c s3 dq).e bu).e bv).c dp dq;refine dRX z z (d_M (α:=d_) K_ p_ z z gN gM) ?_;rintro _ ⟨_,lq,rfl⟩;refine dR z z (fd a_W z) ?_;obtain ⟨ls,lu,jr⟩:=bdS jq;refine dE0 z (g_A (α:=d_) (v':=(⟨bw.name,bw.kind,lh,bw.little,bw.bytes,bw.names,bw.tags,bw.kids⟩:d_)) z_3 z lq z z z z gM lu gN aQ (lb z)<|λ_ _ _ h=>n_W h lm) (.inl z) ?_;rintro _ lv ⟨gO,f6,lw,lx,ly⟩;refine pD ?_;exact λ_ q=>⟨li,lj,ls,som jr,gO,q.k<|s2 z z,(cM (cM (e_ (e_ (cr ([g1]++H) G) bu:Chg (· ∈ ([g1]++H)) G bV) bv:Chg (· ∈ ([g1]++H)) G cB) dp (io<|i_ sr):Chg (· ∈ ([g1]++H)) G ll) f6 (io<|f_ sr):Chg (· ∈ ([g1]++H)) G lv),ln,lo,lw,lx,(or1 ly (io sr) (j_<|lt_ (lt_ bu.s bv.s) dp.s):∀k∈gO,k∈H∨G.z<=k),lp.c f6<|djs dq,((gI.e bv).c dp<|atp L).c f6<|atp hb⟩
    refine Ws<|Rq z z z<|Rw z ?_
    obtain ⟨lz,g4,g5⟩:=bdS<|ifF g2 eD;refine Wt (λa w=>∃(cC:Int)(cD:Int)(dr:List d_),Sum.inl (cC,cD,dr)=lz/\∃(bW:List Nat),Sat 140 [(2,pt w0.z),(3,pt wa.z)] a/\Chg (· ∈ (H++[g1])) G w/\inI cC/\inI cD/\a_ w bW (sl ax ny cz) dr/\bW.Nodup/\(∀k∈bW,k∈H∨G.z<=k)/\Blk w g1 [sl A0 N0 C0,vI cC,vI cD]/\Blk w wa.z [sl ax ny cz]) ?_ ?_
    .refine Wc z (λeE=>?_)<|λeE=>?_
     .refine Wd (X:=noX) 4096 (pl_ 13 [12]) mo (by kernel_rfl) λlA cE _=>dR z z (fd R_ z) ?_
      have f7:=((aH.c st<|atp L).c s3<|atp L).e cE;refine dR z z (l0 S_ z<|f7.at z)<|dM z z z<|dR z z (fd R_ z)<|dR z z (l0 S_ z<|f7.at z)<|dM z z z ?_
      obtain ⟨lB,lC,js⟩:=bdS<|ifT g4 eE;have f8:=n_ au (Blk.lt hB1) ae.s;have f9:=((aC.c st f8).c s3 f8).e cE;refine dRX z z (at_ (α:=d_) K_ p_ z z z (or_ f9<|zin (B:=B) au<|a_.lt bQ) lC) ?_;rintro _ ⟨_,_,_,rfl,lD,lE,_⟩;obtain ⟨_,_,_,_,_,_,_,_,_,_,_,_,rfl,_,_,_,_,_,_,_⟩:=a_H lE;refine dR z z (fd c_F z)<|dR z z (l0 g_4 z<|lD.at (j:=3) z)<|dR z z (not_ z) ?_
      obtain ⟨bx,gP,jt⟩:=bdS js;refine dRX z z (d_M (α:=d_) K_ p_ z z f9 gP) ?_;rintro _ ⟨_,lF,rfl⟩;refine dR z z (fd c_F z) ?_;obtain ⟨lG,lH,ju⟩:=bdS jt;refine dE0 z (g_A (α:=d_) (v':=(⟨bx.name,bx.kind,bx.size,!lB.little,bx.bytes,bx.names,bx.tags,bx.kids⟩:d_)) z_4 z lF z z z z gP lH f9 aQ (lb z)<|λ_ _ _ h=>n_X h) (.inl z) ?_;rintro _ lI ⟨gQ,fb,lJ,lK,lL⟩;refine pD ?_;exact λ_ q=>⟨gs,gt,lG,som ju,gQ,q.k<|s2 z z,(cM (e_ (cr (H++[g1]) G) cE:Chg (· ∈ (H++[g1])) G lA) fb (io<|i_ sr):Chg (· ∈ (H++[g1])) G lI),ao,ap,lJ,lK,(or1 lL (io sr) (j_ cE.s):∀k∈gQ,k∈H∨G.z<=k),(aq.e cE).c fb<|djs f8,f7.c fb<|atp hb⟩
     refine Ws<|Rq z z z<|Rw z ?_
     obtain ⟨lM,g6,g7⟩:=bdS<|ifF g4 eE;refine Wt (λa w=>∃(cF:Int)(cG:Int)(dt:List d_),Sum.inl (cF,cG,dt)=lM/\∃(bX:List Nat),Sat 140 [(2,pt w0.z),(3,pt wa.z)] a/\Chg (· ∈ ([g1]++H)) G w/\inI cF/\inI cG/\a_ w bX (sl ax ny cz) dt/\bX.Nodup/\(∀k∈bX,k∈H∨G.z<=k)/\Blk w g1 [sl A0 N0 C0,vI cF,vI cG]/\Blk w wa.z [sl ax ny cz]) ?_ ?_
     .refine Wc z (λeF=>?_)<|λeF=>?_
      .obtain ⟨lO,jv,jw⟩:=bdS<|ifT g6 eF;refine Wt (λa w=>∃(cH:Int)(cI:Int)(du:List d_),(cH,cI,du)=lO/\∃(bY:List Nat),Sat 140 [(2,pt w0.z),(3,pt wa.z)] a/\Chg (· ∈ ([g1]++H)) G w/\inI cH/\inI cI/\a_ w bY (sl ax ny cz) du/\bY.Nodup/\(∀k∈bY,k∈H∨G.z<=k)/\Blk w g1 [sl A0 N0 C0,vI cH,vI cI]/\Blk w wa.z [sl ax ny cz]) ?_ ?_
       .refine Wd (X:=λk=>k∈([g1]++H)∨G.z<=k) 65536 (.rd 0<|.rd 1<|.rd 2<|.rd 3<|.rd 4<|.rd 5<|.rd 6<|.rd 7<|.rd 9<|.br 8 (.ef 10<|.rd 11<|.ef 12<|.ef 13<|.rd 14<|.rd 15<|.ef 16 .done) 10<|.rd 11<|.br 8 (.ef 12<|.ef 13<|.rd 14<|.rd 15<|.ef 16 .done) 12<|.ef 8<|.ef 13<|.rd 14<|.rd 15<|.ef 16 .done) mo (by kernel_rfl) λaf ab _=>dR z z (fd R_ z) ?_
        have cJ:=((aH.c st<|atp L).c s3<|atp L).e ab;have cK:=lt_ (lt_ an.s st.s) s3.s;refine dR z z (l1 S_ z (a_o (atp<|nmA L hb)<|Nat.lt_of_lt_of_le O.lt cK)<|cJ.at z)<|dM z z z<|dR z z (fd R_ z)<|dR z z (l1 S_ z (a_o (atp<|nmA L hb)<|Nat.lt_of_lt_of_le O.lt cK)<|cJ.at z)<|dM z z z ?_
        obtain ⟨xc,gR,g8⟩:=bdS jv;have aa:=n_ au (Blk.lt hB1) ae.s;have gS:=((aC.c st aa).c s3 aa).e ab;refine dRX z z (d_M (α:=d_) K_ p_ z z gS gR) ?_;rintro _ ⟨_,lP,rfl⟩;obtain ⟨_,_,fe,lQ,hg,ah,gT,bZ⟩:=i_s lP gS aQ gR;obtain ⟨_,_,_,_,_,_,_,_,_,_,_,_,a3,a4,a5,a6,rfl,rfl,ff,fg,fh,c0,c1,c2,fi⟩:=e_d lQ;refine dR z z (fd Q_ z)<|dM z z z<|b_H ?_ ?_
        .refine dAn z z (l0 F_ z<|fe.at (j:=7) z) ?_;have cL:=lt_ (lt_ av s3.s) ab.s;obtain ⟨lR,lS,lT,lU,jx⟩:=t_ g8;refine dE z z (fc call34 z<|a_T (B:=B) lU (aq.e ab) (zt' ad cL) hBg (am.g<|(ay.c s3<|c_<|b_ hBg).e ab) ao ap<|ii z) (.inr λ_ _ h=>h.1.mono λk _ hk=>(io<|i_ sr) k hk) ?_;rintro _ fj ⟨b3,rfl,_,lV,lW,lX⟩;refine dR z z (sb_ z z)<|dE z z (fS [(.tmp 76)] a_E z z z (L_ z) (lb z)<|lb z) (.inr λ_ _ h=>y_<|h.2.below) ?_
         rintro _ fk ⟨rfl,fl⟩;have aR:=fl.below;have rT:=a_6 fl<|a_O<|iS _ _
         have gU:∀k∈a6,k∉[g1]:=or1 (λk hk=>.inl<|(λk hk=>(λk hk=>(λk hk=>ah k<|List.mem_append_right _ hk) k<|List.mem_append_right _ hk) k<|List.mem_append_right _ hk) k hk) aa<|m_ (b_<|Blk.lt hB1) cL;obtain ⟨gV,lY,jy⟩:=bdS jx;have gW:∀k∈a6,k∈([g1]++H)∨G.z<=k:=or1 (λk hk=>.inl<|(λk hk=>(λk hk=>(λk hk=>ah k<|List.mem_append_right _ hk) k<|List.mem_append_right _ hk) k<|List.mem_append_right _ hk) k hk) (io<|f_ sr)<|j_ ab.s;refine dE z z (a_e (α:=Int) a_E lY z z ((fi.c b3 gU).e aR) (nr_<|nr_<|nr_ hg) (fl.blk:Blk fk fj.z [vI (I_ lR 1)]) (a_O<|iS _ _) an_ v_) (.inr λ_ _ h=>by obtain ⟨_,_,_,_,_,h,_⟩:=h;exact h.mono λk _ hk=>gW k hk) ?_;rintro _ gX ⟨cN,_,_,_,rfl,bz,lZ,m0,dv⟩;refine dR z z (c_9 K_ p_ z z bZ)<|dR z z (fd Q_ z) ?_
         have m1:∀k∈a3,k∉[g1]:=or1 (λk hk=>.inl<|ah k<|List.mem_append_left _ hk) aa<|m_ (b_<|Blk.lt hB1) cL;have m2:∀k∈a4,k∉[g1]:=or1 (λk hk=>.inl<|(λk hk=>ah k<|List.mem_append_right _ hk) k<|List.mem_append_left _ hk) aa<|m_ (b_<|Blk.lt hB1) cL;have m3:∀k∈a5,k∉[g1]:=or1 (λk hk=>.inl<|(λk hk=>(λk hk=>ah k<|List.mem_append_right _ hk) k<|List.mem_append_right _ hk) k<|List.mem_append_left _ hk) aa<|m_ (b_<|Blk.lt hB1) cL;have dw:=lt_ b3.s aR.s;refine dE0 z (c_a (α:=d_) c_p z z z z z bZ (cM (e_ (cM (cr (a3++(a4++(a5++(a6++[g1])))) af) b3 (io<|f_<|f_<|f_<|f_ sr):Chg (· ∈ (a3++(a4++(a5++(a6++[g1]))))) af fj) aR:Chg (· ∈ (a3++(a4++(a5++(a6++[g1]))))) af fk) bz (io<|f_<|f_<|f_<|i_ sr):Chg (· ∈ (a3++(a4++(a5++(a6++[g1]))))) af gX) (λk hk h=>(List.mem_append.1 h).elim (λh=>List.mem_append_left _ h) (λh=>(List.mem_append.1 h).elim (λh=>List.mem_append_right _<|List.mem_append_left _ h) (λh=>(List.mem_append.1 h).elim (λh=>List.mem_append_right _<|List.mem_append_right _<|List.mem_append_left _ h) (λh=>(List.mem_append.1 h).elim (λh=>List.mem_append_right _<|List.mem_append_right _<|List.mem_append_right _ h) (λh=>(λh=>absurd h<|aa k hk) h))))) (b_t (x:=(⟨xc.name,xc.kind,xc.size,xc.little,xc.bytes,xc.names,xc.tags,gV⟩:d_)) (S1:=a3) (S2:=a4) (S3:=a5) (S4:=cN) ff fg fh (((c0.c b3 m1).e aR).c bz<|nmR<|nmR<|nj hg) (((c1.c b3 m2).e aR).c bz<|nmR<|nj<|nr_ hg) (((c2.c b3 m3).e aR).c bz<|nj<|nr_<|nr_ hg) lZ) (na_ (nl_ hg) (na_ (nl_<|nr_ hg) (na_ (nl_<|nr_<|nr_ hg) m0<|ds (or2 dv (ds<|nj<|nr_<|nr_ hg) an_ (m_ (a_.lt c2) dw):∀k∈cN,k∉a5))<|nmA (nmL<|nj<|nr_ hg)<|ds (or2 dv (ds<|nmR<|nj<|nr_ hg) an_ (m_ (a_.lt c1) dw):∀k∈cN,k∉a4))<|nmA (nmL<|nj hg)<|nmA (nmL<|nmR<|nj hg)<|ds (or2 dv (ds<|nmR<|nmR<|nj hg) an_ (m_ (a_.lt c0) dw):∀k∈cN,k∉a3)) (aa_ (io<|i_ sr)<|aa_ (io<|f_<|i_ sr)<|aa_ (io<|f_<|f_<|i_ sr) (or2 dv (io<|f_<|f_<|f_ sr) an_ (j_ dw):∀k∈cN,k∈(a3++(a4++(a5++a6)))∨af.z<=k))<|lb z) (.inl z) ?_;rintro _ m4 ⟨gY,fm,m5,m6,m7⟩;refine pD ?_;have m8:∀k∈a6,k∉[wa.z]:=or1 (λk hk=>.inl<|(λk hk=>(λk hk=>(λk hk=>ah k<|List.mem_append_right _ hk) k<|List.mem_append_right _ hk) k<|List.mem_append_right _ hk) k hk) (ds hb)<|m_ (b_ O.lt)<|lt_ cK ab.s;exact λ_ q=>⟨lS,lT,ar.rules.set (aw).toNat (⟨xc.name,xc.kind,xc.size,xc.little,xc.bytes,xc.names,xc.tags,gV⟩:d_),som jy,gY,q.k<|s2 z z,(cM (cM (e_ (cM (e_ (cr ([g1]++H) G) ab:Chg (· ∈ ([g1]++H)) G af) b3 (io<|i_ sr):Chg (· ∈ ([g1]++H)) G fj) aR:Chg (· ∈ ([g1]++H)) G fk) bz gW:Chg (· ∈ ([g1]++H)) G gX) fm (io<|f_ sr):Chg (· ∈ ([g1]++H)) G m4),lV,lW,m5,m6,(or1 m7 (io sr) (j_ ab.s):∀k∈gY,k∈H∨G.z<=k),((lX.e aR).c bz<|djs gU).c fm<|djs aa,(((cJ.c b3<|atp L).e aR).c bz<|djs m8).c fm<|atp hb⟩
        have aS:=lt_ (lt_ av s3.s) ab.s;obtain ⟨gZ,h0,h1,m9,g9⟩:=t_ g8;refine dE z z (fc call34 z<|a_T (B:=B) m9 (aq.e ab) (zt' ad aS) hBg (am.g<|(ay.c s3<|c_<|b_ hBg).e ab) ao ap<|ii z) (.inr λ_ _ h=>h.1.mono λk _ hk=>(io<|i_ sr) k hk) ?_;rintro _ c3 ⟨ai,rfl,_,h2,h3,h4⟩;refine dR z z (sb_ z z)<|b_H ?_ ?_
        .refine dAn z z (l0 F_ z<|(fe.c ai<|aa _ gT).at (j:=7) z)<|dE z z (fS [(.tmp 76)] a_E z z z (L_ z) (lb z)<|lb z) (.inr λ_ _ h=>y_<|h.2.below) ?_
         rintro _ fo ⟨rfl,fp⟩;have aT:=fp.below;have rU:=a_6 fp<|a_O<|iS _ _
         have h5:∀k∈a6,k∉[g1]:=or1 (λk hk=>.inl<|(λk hk=>(λk hk=>(λk hk=>ah k<|List.mem_append_right _ hk) k<|List.mem_append_right _ hk) k<|List.mem_append_right _ hk) k hk) aa<|m_ (b_<|Blk.lt hB1) aS;obtain ⟨ha,ma,jz⟩:=bdS g9;have hc:∀k∈a6,k∈([g1]++H)∨G.z<=k:=or1 (λk hk=>.inl<|(λk hk=>(λk hk=>(λk hk=>ah k<|List.mem_append_right _ hk) k<|List.mem_append_right _ hk) k<|List.mem_append_right _ hk) k hk) (io<|f_ sr)<|j_ ab.s;refine dE z z (a_e (α:=Int) a_E ma z z ((fi.c ai h5).e aT) (nr_<|nr_<|nr_ hg) (fp.blk:Blk fo c3.z [vI (I_ gZ 1)]) (a_O<|iS _ _) an_ v_) (.inr λ_ _ h=>by obtain ⟨_,_,_,_,_,h,_⟩:=h;exact h.mono λk _ hk=>hc k hk) ?_;rintro _ hd ⟨cO,_,_,_,rfl,bA,mb,mc,dx⟩;refine dR z z (c_9 K_ p_ z z bZ)<|dR z z (fd Q_ z) ?_
         have md:∀k∈a3,k∉[g1]:=or1 (λk hk=>.inl<|ah k<|List.mem_append_left _ hk) aa<|m_ (b_<|Blk.lt hB1) aS;have me:∀k∈a4,k∉[g1]:=or1 (λk hk=>.inl<|(λk hk=>ah k<|List.mem_append_right _ hk) k<|List.mem_append_left _ hk) aa<|m_ (b_<|Blk.lt hB1) aS;have mf:∀k∈a5,k∉[g1]:=or1 (λk hk=>.inl<|(λk hk=>(λk hk=>ah k<|List.mem_append_right _ hk) k<|List.mem_append_right _ hk) k<|List.mem_append_left _ hk) aa<|m_ (b_<|Blk.lt hB1) aS;have dy:=lt_ ai.s aT.s;refine dE0 z (c_a (α:=d_) c_p z z z z z bZ (cM (e_ (cM (cr (a3++(a4++(a5++(a6++[g1])))) af) ai (io<|f_<|f_<|f_<|f_ sr):Chg (· ∈ (a3++(a4++(a5++(a6++[g1]))))) af c3) aT:Chg (· ∈ (a3++(a4++(a5++(a6++[g1]))))) af fo) bA (io<|f_<|f_<|f_<|i_ sr):Chg (· ∈ (a3++(a4++(a5++(a6++[g1]))))) af hd) (λk hk h=>(List.mem_append.1 h).elim (λh=>List.mem_append_left _ h) (λh=>(List.mem_append.1 h).elim (λh=>List.mem_append_right _<|List.mem_append_left _ h) (λh=>(List.mem_append.1 h).elim (λh=>List.mem_append_right _<|List.mem_append_right _<|List.mem_append_left _ h) (λh=>(List.mem_append.1 h).elim (λh=>List.mem_append_right _<|List.mem_append_right _<|List.mem_append_right _ h) (λh=>(λh=>absurd h<|aa k hk) h))))) (b_t (x:=(⟨xc.name,xc.kind,xc.size,xc.little,xc.bytes,xc.names,xc.tags,ha⟩:d_)) (S1:=a3) (S2:=a4) (S3:=a5) (S4:=cO) ff fg fh (((c0.c ai md).e aT).c bA<|nmR<|nmR<|nj hg) (((c1.c ai me).e aT).c bA<|nmR<|nj<|nr_ hg) (((c2.c ai mf).e aT).c bA<|nj<|nr_<|nr_ hg) mb) (na_ (nl_ hg) (na_ (nl_<|nr_ hg) (na_ (nl_<|nr_<|nr_ hg) mc<|ds (or2 dx (ds<|nj<|nr_<|nr_ hg) an_ (m_ (a_.lt c2) dy):∀k∈cO,k∉a5))<|nmA (nmL<|nj<|nr_ hg)<|ds (or2 dx (ds<|nmR<|nj<|nr_ hg) an_ (m_ (a_.lt c1) dy):∀k∈cO,k∉a4))<|nmA (nmL<|nj hg)<|nmA (nmL<|nmR<|nj hg)<|ds (or2 dx (ds<|nmR<|nmR<|nj hg) an_ (m_ (a_.lt c0) dy):∀k∈cO,k∉a3)) (aa_ (io<|i_ sr)<|aa_ (io<|f_<|i_ sr)<|aa_ (io<|f_<|f_<|i_ sr) (or2 dx (io<|f_<|f_<|f_ sr) an_ (j_ dy):∀k∈cO,k∈(a3++(a4++(a5++a6)))∨af.z<=k))<|lb z) (.inl z) ?_;rintro _ mg ⟨he,fq,mh,mi,mj⟩;refine pD ?_;have mk:∀k∈a6,k∉[wa.z]:=or1 (λk hk=>.inl<|(λk hk=>(λk hk=>(λk hk=>ah k<|List.mem_append_right _ hk) k<|List.mem_append_right _ hk) k<|List.mem_append_right _ hk) k hk) (ds hb)<|m_ (b_ O.lt)<|lt_ cK ab.s;exact λ_ q=>⟨h0,h1,ar.rules.set (aw).toNat (⟨xc.name,xc.kind,xc.size,xc.little,xc.bytes,xc.names,xc.tags,ha⟩:d_),som jz,he,q.k<|s2 z z,(cM (cM (e_ (cM (e_ (cr ([g1]++H) G) ab:Chg (· ∈ ([g1]++H)) G af) ai (io<|i_ sr):Chg (· ∈ ([g1]++H)) G c3) aT:Chg (· ∈ ([g1]++H)) G fo) bA hc:Chg (· ∈ ([g1]++H)) G hd) fq (io<|f_ sr):Chg (· ∈ ([g1]++H)) G mg),h2,h3,mh,mi,(or1 mj (io sr) (j_ ab.s):∀k∈he,k∈H∨G.z<=k),((h4.e aT).c bA<|djs h5).c fq<|djs aa,(((cJ.c ai<|atp L).e aT).c bA<|djs mk).c fq<|atp hb⟩
        refine dE z z (fS [(.tmp 76)] a_E z z z (L_ z) (lb z)<|lb z) (.inr λ_ _ h=>y_<|h.2.below) ?_;rintro _ fr ⟨rfl,fs⟩;have aI:=fs.below;have rV:=a_6 fs<|a_O<|iS _ _
        refine dAn z z (l0 F_ z<|((fe.c ai<|aa _ gT).e aI).at (j:=7) z) ?_;have hf:∀k∈a6,k∉[g1]:=or1 (λk hk=>.inl<|(λk hk=>(λk hk=>(λk hk=>ah k<|List.mem_append_right _ hk) k<|List.mem_append_right _ hk) k<|List.mem_append_right _ hk) k hk) aa<|m_ (b_<|Blk.lt hB1) aS;obtain ⟨hh,ml,jA⟩:=bdS g9;have hi:∀k∈a6,k∈([g1]++H)∨G.z<=k:=or1 (λk hk=>.inl<|(λk hk=>(λk hk=>(λk hk=>ah k<|List.mem_append_right _ hk) k<|List.mem_append_right _ hk) k<|List.mem_append_right _ hk) k hk) (io<|f_ sr)<|j_ ab.s;refine dE z z (a_e (α:=Int) a_E ml z z ((fi.c ai hf).e aI) (nr_<|nr_<|nr_ hg) (fs.blk:Blk fr c3.z [vI (I_ gZ 1)]) (a_O<|iS _ _) an_ v_) (.inr λ_ _ h=>by obtain ⟨_,_,_,_,_,h,_⟩:=h;exact h.mono λk _ hk=>hi k hk) ?_;rintro _ hj ⟨cP,_,_,_,rfl,bB,mm,mn,dz⟩;refine dR z z (c_9 K_ p_ z z bZ)<|dR z z (fd Q_ z) ?_
        have mp:∀k∈a3,k∉[g1]:=or1 (λk hk=>.inl<|ah k<|List.mem_append_left _ hk) aa<|m_ (b_<|Blk.lt hB1) aS;have mq:∀k∈a4,k∉[g1]:=or1 (λk hk=>.inl<|(λk hk=>ah k<|List.mem_append_right _ hk) k<|List.mem_append_left _ hk) aa<|m_ (b_<|Blk.lt hB1) aS;have mr:∀k∈a5,k∉[g1]:=or1 (λk hk=>.inl<|(λk hk=>(λk hk=>ah k<|List.mem_append_right _ hk) k<|List.mem_append_right _ hk) k<|List.mem_append_left _ hk) aa<|m_ (b_<|Blk.lt hB1) aS;have dA:=lt_ ai.s aI.s;refine dE0 z (c_a (α:=d_) c_p z z z z z bZ (cM (e_ (cM (cr (a3++(a4++(a5++(a6++[g1])))) af) ai (io<|f_<|f_<|f_<|f_ sr):Chg (· ∈ (a3++(a4++(a5++(a6++[g1]))))) af c3) aI:Chg (· ∈ (a3++(a4++(a5++(a6++[g1]))))) af fr) bB (io<|f_<|f_<|f_<|i_ sr):Chg (· ∈ (a3++(a4++(a5++(a6++[g1]))))) af hj) (λk hk h=>(List.mem_append.1 h).elim (λh=>List.mem_append_left _ h) (λh=>(List.mem_append.1 h).elim (λh=>List.mem_append_right _<|List.mem_append_left _ h) (λh=>(List.mem_append.1 h).elim (λh=>List.mem_append_right _<|List.mem_append_right _<|List.mem_append_left _ h) (λh=>(List.mem_append.1 h).elim (λh=>List.mem_append_right _<|List.mem_append_right _<|List.mem_append_right _ h) (λh=>(λh=>absurd h<|aa k hk) h))))) (b_t (x:=(⟨xc.name,xc.kind,xc.size,xc.little,xc.bytes,xc.names,xc.tags,hh⟩:d_)) (S1:=a3) (S2:=a4) (S3:=a5) (S4:=cP) ff fg fh (((c0.c ai mp).e aI).c bB<|nmR<|nmR<|nj hg) (((c1.c ai mq).e aI).c bB<|nmR<|nj<|nr_ hg) (((c2.c ai mr).e aI).c bB<|nj<|nr_<|nr_ hg) mm) (na_ (nl_ hg) (na_ (nl_<|nr_ hg) (na_ (nl_<|nr_<|nr_ hg) mn<|ds (or2 dz (ds<|nj<|nr_<|nr_ hg) an_ (m_ (a_.lt c2) dA):∀k∈cP,k∉a5))<|nmA (nmL<|nj<|nr_ hg)<|ds (or2 dz (ds<|nmR<|nj<|nr_ hg) an_ (m_ (a_.lt c1) dA):∀k∈cP,k∉a4))<|nmA (nmL<|nj hg)<|nmA (nmL<|nmR<|nj hg)<|ds (or2 dz (ds<|nmR<|nmR<|nj hg) an_ (m_ (a_.lt c0) dA):∀k∈cP,k∉a3)) (aa_ (io<|i_ sr)<|aa_ (io<|f_<|i_ sr)<|aa_ (io<|f_<|f_<|i_ sr) (or2 dz (io<|f_<|f_<|f_ sr) an_ (j_ dA):∀k∈cP,k∈(a3++(a4++(a5++a6)))∨af.z<=k))<|lb z) (.inl z) ?_;rintro _ ms ⟨hl,ft,mt,mu,mw⟩;refine pD ?_;have mx:∀k∈a6,k∉[wa.z]:=or1 (λk hk=>.inl<|(λk hk=>(λk hk=>(λk hk=>ah k<|List.mem_append_right _ hk) k<|List.mem_append_right _ hk) k<|List.mem_append_right _ hk) k hk) (ds hb)<|m_ (b_ O.lt)<|lt_ cK ab.s;exact λ_ q=>⟨h0,h1,ar.rules.set (aw).toNat (⟨xc.name,xc.kind,xc.size,xc.little,xc.bytes,xc.names,xc.tags,hh⟩:d_),som jA,hl,q.k<|s2 z z,(cM (cM (e_ (cM (e_ (cr ([g1]++H) G) ab:Chg (· ∈ ([g1]++H)) G af) ai (io<|i_ sr):Chg (· ∈ ([g1]++H)) G c3) aI:Chg (· ∈ ([g1]++H)) G fr) bB hi:Chg (· ∈ ([g1]++H)) G hj) ft (io<|f_ sr):Chg (· ∈ ([g1]++H)) G ms),h2,h3,mt,mu,(or1 mw (io sr) (j_ ab.s):∀k∈hl,k∈H∨G.z<=k),((h4.e aI).c bB<|djs hf).c ft<|djs aa,(((cJ.c ai<|atp L).e aI).c bB<|djs mx).c ft<|atp hb⟩
       rintro my mz ⟨cH,cI,du,rfl,bY,_,mA,mB,mC,mD,mE,mF,mG,mH⟩;revert my;exact λ_ q=>⟨cH,cI,du,som<|a_w jw,bY,q.k<|s2 z z,(cM (cr ([g1]++H) G) mA (aa_ (io<|i_ sr)<|io<|f_ sr):Chg (· ∈ ([g1]++H)) G mz),mB,mC,mD,mE,(or1 mF (io sr) (j_ lr):∀k∈bY,k∈H∨G.z<=k),mG,mH⟩
      refine Ws<|Rq z z z<|Rw z ?_
      obtain ⟨mI,ga,gb⟩:=bdS<|ifF g6 eF;refine Wt (λa w=>∃(cQ:Int)(cR:Int)(dB:List d_),Sum.inl (cQ,cR,dB)=mI/\∃(c4:List Nat),Sat 140 [(2,pt w0.z),(3,pt wa.z)] a/\Chg (· ∈ ([g1]++H)) G w/\inI cQ/\inI cR/\a_ w c4 (sl ax ny cz) dB/\c4.Nodup/\(∀k∈c4,k∈H∨G.z<=k)/\Blk w g1 [sl A0 N0 C0,vI cQ,vI cR]/\Blk w wa.z [sl ax ny cz]) ?_ ?_
      .refine Wc z (λeG=>?_)<|λeG=>?_
       .obtain ⟨mJ,jB,jC⟩:=bdS<|ifT ga eG;refine Wt (λa w=>∃(cS:Int)(cT:Int)(dC:List d_),(cS,cT,dC)=mJ/\∃(c5:List Nat),Sat 140 [(2,pt w0.z),(3,pt wa.z)] a/\Chg (· ∈ ([g1]++H)) G w/\inI cS/\inI cT/\a_ w c5 (sl ax ny cz) dC/\c5.Nodup/\(∀k∈c5,k∈H∨G.z<=k)/\Blk w g1 [sl A0 N0 C0,vI cS,vI cT]/\Blk w wa.z [sl ax ny cz]) ?_ ?_
        .refine Wd (X:=λk=>k∈([g1]++H)∨G.z<=k) 131072 (.rd 0<|.rd 1<|.rd 2<|.rd 3<|.rd 4<|.rd 5<|.rd 6<|.rd 7<|.rd 9<|.br 8 (.ef 10<|.ef 11<|.rd 12<|.ef 13<|.ef 14<|.rd 15<|.rd 16<|.ef 17 .done) 10<|.br 8 (.ef 11<|.rd 12<|.ef 13<|.ef 14<|.rd 15<|.rd 16<|.ef 17 .done) 11<|.rd 12<|.br 8 (.ef 13<|.ef 14<|.rd 15<|.rd 16<|.ef 17 .done) 13<|.ef 8<|.ef 14<|.rd 15<|.rd 16<|.ef 17 .done) mo (by kernel_rfl) λwd a0 _=>dR z z (fd R_ z) ?_
         have c6:=((aH.c st<|atp L).c s3<|atp L).e a0;have c7:=lt_ (lt_ an.s st.s) s3.s;refine dR z z (l1 S_ z (a_o (atp<|nmA L hb)<|Nat.lt_of_lt_of_le O.lt c7)<|c6.at z)<|dM z z z<|dR z z (fd R_ z)<|dR z z (l1 S_ z (a_o (atp<|nmA L hb)<|Nat.lt_of_lt_of_le O.lt c7)<|c6.at z)<|dM z z z ?_
         obtain ⟨x2,hn,eH⟩:=bdS jB;have V:=n_ au (Blk.lt hB1) ae.s;have ho:=((aC.c st V).c s3 V).e a0;refine dRX z z (d_M (α:=d_) K_ p_ z z ho hn) ?_;rintro _ ⟨_,mK,rfl⟩;obtain ⟨_,_,dD,mL,h6,a7,hp,b4⟩:=i_s mK ho aQ hn;obtain ⟨_,_,_,_,_,_,_,_,_,_,_,_,Sh,Si,Sj,Sk,rfl,rfl,dF,dG,dH,dI,b5,b6,b7⟩:=e_d mL;refine dR z z (fd a_X z)<|dM z z z<|b_H ?_ ?_
         .refine dAn z z (l0 a_0 z<|dD.at (j:=4) z)<|dE z z (fS [(.const<|.int .i64 0),(.const<|.int .i64 92)] a_E z z z (L_ z) (lb z)<|lb z) (.inr λ_ _ h=>y_<|h.2.below) ?_
          rintro _ c8 ⟨rfl,hq⟩;have aD:=hq.below;have ht:a_ c8 [wd.z] (sl (some ⟨wd.z,0,none⟩) 2 2) ([0,92]:List Int):=d_K (l:=[0,92]) (hq.blk:Blk c8 wd.z [vI 0,vI 92]) (ac0 (ii z)<|ac0 (ii z) an0) z;have c9:=lt_ (lt_ av s3.s) a0.s;obtain ⟨mM,mN,mO,mP,jD⟩:=t_ eH;refine dE z z (fc call63 z<|d_e (B:=zn B wd.z c8.z) mP ((aq.e a0).e aD) (a_B (zt' ad<|lt_ c9 aD.s) lr) (atp ((a_F (b_ hBg) (b_<|Blk.lt hB1) c9):∀k∈[g1],¬(zn B wd.z c8.z) k)) (repS.mono (am.g<|((ay.c s3<|c_<|b_ hBg).e a0).e aD) a_r) ao ap<|or_ ht<|zin (B:=B) (b_ lr)<|a_.lt ht) (.inr λ_ _ h=>h.1.mono λk _ hk=>(io<|i_ sr) k hk) ?_;rintro _ fu ⟨b8,rfl,_,mQ,mR,mS⟩;refine dR z z (c_H d_3 d_5 z)<|dE z z (fS [(.tmp 95)] a_3 z z z (L_ z) (lb z)<|lb z) (.inr λ_ _ h=>y_<|h.2.below) ?_
          rintro _ fv ⟨rfl,fw⟩;have aU:=fw.below;have rW:=a_6 fw a_P;have hx:∀k∈Sh,k∉[g1]:=or1 (λk hk=>.inl<|a7 k<|List.mem_append_left _ hk) V<|m_ (b_<|Blk.lt hB1) c9;obtain ⟨hy,mT,jE⟩:=bdS jD;have hz:∀k∈Sh,k∈([g1]++H)∨G.z<=k:=or1 (λk hk=>.inl<|a7 k<|List.mem_append_left _ hk) (io<|f_ sr)<|j_ a0.s;refine dE z z (a_e (α:=UInt8) a_3 mT z z (((dI.e aD).c b8 hx).e aU) (nl_ h6) (fw.blk:Blk fv fu.z [(vU<|byteI<|mkB mM)]) a_P an_ v_) (.inr λ_ _ h=>by obtain ⟨_,_,_,_,_,h,_⟩:=h;exact h.mono λk _ hk=>hz k hk) ?_;rintro _ hA ⟨cU,_,_,_,rfl,bC,mU,mV,dJ⟩;refine dR z z (c_9 K_ p_ z z b4)<|dR z z (fd a_X z) ?_
          have mW:∀k∈Si,k∉[g1]:=or1 (λk hk=>.inl<|(λk hk=>a7 k<|List.mem_append_right _ hk) k<|List.mem_append_left _ hk) V<|m_ (b_<|Blk.lt hB1) c9;have mX:∀k∈Sj,k∉[g1]:=or1 (λk hk=>.inl<|(λk hk=>(λk hk=>a7 k<|List.mem_append_right _ hk) k<|List.mem_append_right _ hk) k<|List.mem_append_left _ hk) V<|m_ (b_<|Blk.lt hB1) c9;have mY:∀k∈Sk,k∉[g1]:=or1 (λk hk=>.inl<|(λk hk=>(λk hk=>(λk hk=>a7 k<|List.mem_append_right _ hk) k<|List.mem_append_right _ hk) k<|List.mem_append_right _ hk) k hk) V<|m_ (b_<|Blk.lt hB1) c9;have dK:=lt_ (lt_ aD.s b8.s) aU.s;refine dE0 z (c_a (α:=d_) e_D z z z z z b4 (cM (e_ (cM (e_ (cr (Sh++(Si++(Sj++(Sk++[g1])))) wd) aD:Chg (· ∈ (Sh++(Si++(Sj++(Sk++[g1]))))) wd c8) b8 (io<|f_<|f_<|f_<|f_ sr):Chg (· ∈ (Sh++(Si++(Sj++(Sk++[g1]))))) wd fu) aU:Chg (· ∈ (Sh++(Si++(Sj++(Sk++[g1]))))) wd fv) bC (io<|i_ sr):Chg (· ∈ (Sh++(Si++(Sj++(Sk++[g1]))))) wd hA) (λk hk h=>(List.mem_append.1 h).elim (λh=>List.mem_append_left _ h) (λh=>(List.mem_append.1 h).elim (λh=>List.mem_append_right _<|List.mem_append_left _ h) (λh=>(List.mem_append.1 h).elim (λh=>List.mem_append_right _<|List.mem_append_right _<|List.mem_append_left _ h) (λh=>(List.mem_append.1 h).elim (λh=>List.mem_append_right _<|List.mem_append_right _<|List.mem_append_right _ h) (λh=>(λh=>absurd h<|V k hk) h))))) (b_t (x:=(⟨x2.name,x2.kind,x2.size,x2.little,hy,x2.names,x2.tags,x2.kids⟩:d_)) (S1:=cU) (S2:=Si) (S3:=Sj) (S4:=Sk) dF dG dH mU ((((b5.e aD).c b8 mW).e aU).c bC<|ds<|nmL<|nj h6) ((((b6.e aD).c b8 mX).e aU).c bC<|ds<|nmL<|nmR<|nj h6)<|(((b7.e aD).c b8 mY).e aU).c bC<|ds<|nmR<|nmR<|nj h6) (na_ mV (na_ (nl_<|nr_ h6) (na_ (nl_<|nr_<|nr_ h6) (nr_<|nr_<|nr_ h6)<|nj<|nr_<|nr_ h6)<|nmA (nmL<|nj<|nr_ h6)<|nmR<|nj<|nr_ h6)<|nmA (or2 dJ (nmL<|nj h6) an_ (m_ (a_.lt b5) dK):∀k∈cU,k∉Si)<|nmA (or2 dJ (nmL<|nmR<|nj h6) an_ (m_ (a_.lt b6) dK):∀k∈cU,k∉Sj) (or2 dJ (nmR<|nmR<|nj h6) an_ (m_ (a_.lt b7) dK):∀k∈cU,k∉Sk)) (aa_ (or2 dJ (io<|i_ sr) an_ (j_ dK):∀k∈cU,k∈(Sh++(Si++(Sj++Sk)))∨wd.z<=k)<|aa_ (io<|f_<|i_ sr)<|aa_ (io<|f_<|f_<|i_ sr)<|io<|f_<|f_<|f_ sr)<|lb z) (.inl z) ?_;rintro _ mZ ⟨hB,fx,n0,n1,n2⟩;refine pD ?_;have n3:∀k∈Sh,k∉[wa.z]:=or1 (λk hk=>.inl<|a7 k<|List.mem_append_left _ hk) (ds hb)<|m_ (b_ O.lt)<|lt_ c7 a0.s;exact λ_ q=>⟨mN,mO,ar.rules.set (aw).toNat (⟨x2.name,x2.kind,x2.size,x2.little,hy,x2.names,x2.tags,x2.kids⟩:d_),som jE,hB,q.k<|s2 z z,(cM (cM (e_ (cM (e_ (e_ (cr ([g1]++H) G) a0:Chg (· ∈ ([g1]++H)) G wd) aD:Chg (· ∈ ([g1]++H)) G c8) b8 (io<|i_ sr):Chg (· ∈ ([g1]++H)) G fu) aU:Chg (· ∈ ([g1]++H)) G fv) bC hz:Chg (· ∈ ([g1]++H)) G hA) fx (io<|f_ sr):Chg (· ∈ ([g1]++H)) G mZ),mQ,mR,n0,n1,(or1 n2 (io sr) (j_ a0.s):∀k∈hB,k∈H∨G.z<=k),((mS.e aU).c bC<|djs hx).c fx<|djs V,((((c6.e aD).c b8<|atp L).e aU).c bC<|djs n3).c fx<|atp hb⟩
         refine dE z z (fS [(.const<|.int .i64 0),(.const<|.int .i64 92)] a_E z z z (L_ z) (lb z)<|lb z) (.inr λ_ _ h=>y_<|h.2.below) ?_;rintro _ az ⟨rfl,hC⟩;have hu:=hC.below;have dL:a_ az [wd.z] (sl (some ⟨wd.z,0,none⟩) 2 2) ([0,92]:List Int):=d_K (l:=[0,92]) (hC.blk:Blk az wd.z [vI 0,vI 92]) (ac0 (ii z)<|ac0 (ii z) an0) z;refine b_H ?_ ?_
         .refine dAn z z (l0 a_0 z<|(dD.e hu).at (j:=4) z) ?_;have ca:=lt_ (lt_ av s3.s) a0.s;obtain ⟨n4,n5,n6,n7,jF⟩:=t_ eH;refine dE z z (fc call63 z<|d_e (B:=zn B wd.z az.z) n7 ((aq.e a0).e hu) (a_B (zt' ad<|lt_ ca hu.s) lr) (atp ((a_F (b_ hBg) (b_<|Blk.lt hB1) ca):∀k∈[g1],¬(zn B wd.z az.z) k)) (repS.mono (am.g<|((ay.c s3<|c_<|b_ hBg).e a0).e hu) a_r) ao ap<|or_ dL<|zin (B:=B) (b_ lr)<|a_.lt dL) (.inr λ_ _ h=>h.1.mono λk _ hk=>(io<|i_ sr) k hk) ?_;rintro _ fy ⟨b9,rfl,_,n8,n9,na⟩;refine dR z z (c_H d_3 d_5 z)<|dE z z (fS [(.tmp 95)] a_3 z z z (L_ z) (lb z)<|lb z) (.inr λ_ _ h=>y_<|h.2.below) ?_
          rintro _ fz ⟨rfl,fA⟩;have aV:=fA.below;have rX:=a_6 fA a_P;have hD:∀k∈Sh,k∉[g1]:=or1 (λk hk=>.inl<|a7 k<|List.mem_append_left _ hk) V<|m_ (b_<|Blk.lt hB1) ca;obtain ⟨hE,nb,jG⟩:=bdS jF;have hF:∀k∈Sh,k∈([g1]++H)∨G.z<=k:=or1 (λk hk=>.inl<|a7 k<|List.mem_append_left _ hk) (io<|f_ sr)<|j_ a0.s;refine dE z z (a_e (α:=UInt8) a_3 nb z z (((dI.e hu).c b9 hD).e aV) (nl_ h6) (fA.blk:Blk fz fy.z [(vU<|byteI<|mkB n4)]) a_P an_ v_) (.inr λ_ _ h=>by obtain ⟨_,_,_,_,_,h,_⟩:=h;exact h.mono λk _ hk=>hF k hk) ?_;rintro _ hG ⟨cV,_,_,_,rfl,bD,nc,nd,dN⟩;refine dR z z (c_9 K_ p_ z z b4)<|dR z z (fd a_X z) ?_
          have ne:∀k∈Si,k∉[g1]:=or1 (λk hk=>.inl<|(λk hk=>a7 k<|List.mem_append_right _ hk) k<|List.mem_append_left _ hk) V<|m_ (b_<|Blk.lt hB1) ca;have nf:∀k∈Sj,k∉[g1]:=or1 (λk hk=>.inl<|(λk hk=>(λk hk=>a7 k<|List.mem_append_right _ hk) k<|List.mem_append_right _ hk) k<|List.mem_append_left _ hk) V<|m_ (b_<|Blk.lt hB1) ca;have ng:∀k∈Sk,k∉[g1]:=or1 (λk hk=>.inl<|(λk hk=>(λk hk=>(λk hk=>a7 k<|List.mem_append_right _ hk) k<|List.mem_append_right _ hk) k<|List.mem_append_right _ hk) k hk) V<|m_ (b_<|Blk.lt hB1) ca;have dO:=lt_ (lt_ hu.s b9.s) aV.s;refine dE0 z (c_a (α:=d_) e_D z z z z z b4 (cM (e_ (cM (e_ (cr (Sh++(Si++(Sj++(Sk++[g1])))) wd) hu:Chg (· ∈ (Sh++(Si++(Sj++(Sk++[g1]))))) wd az) b9 (io<|f_<|f_<|f_<|f_ sr):Chg (· ∈ (Sh++(Si++(Sj++(Sk++[g1]))))) wd fy) aV:Chg (· ∈ (Sh++(Si++(Sj++(Sk++[g1]))))) wd fz) bD (io<|i_ sr):Chg (· ∈ (Sh++(Si++(Sj++(Sk++[g1]))))) wd hG) (λk hk h=>(List.mem_append.1 h).elim (λh=>List.mem_append_left _ h) (λh=>(List.mem_append.1 h).elim (λh=>List.mem_append_right _<|List.mem_append_left _ h) (λh=>(List.mem_append.1 h).elim (λh=>List.mem_append_right _<|List.mem_append_right _<|List.mem_append_left _ h) (λh=>(List.mem_append.1 h).elim (λh=>List.mem_append_right _<|List.mem_append_right _<|List.mem_append_right _ h) (λh=>(λh=>absurd h<|V k hk) h))))) (b_t (x:=(⟨x2.name,x2.kind,x2.size,x2.little,hE,x2.names,x2.tags,x2.kids⟩:d_)) (S1:=cV) (S2:=Si) (S3:=Sj) (S4:=Sk) dF dG dH nc ((((b5.e hu).c b9 ne).e aV).c bD<|ds<|nmL<|nj h6) ((((b6.e hu).c b9 nf).e aV).c bD<|ds<|nmL<|nmR<|nj h6)<|(((b7.e hu).c b9 ng).e aV).c bD<|ds<|nmR<|nmR<|nj h6) (na_ nd (na_ (nl_<|nr_ h6) (na_ (nl_<|nr_<|nr_ h6) (nr_<|nr_<|nr_ h6)<|nj<|nr_<|nr_ h6)<|nmA (nmL<|nj<|nr_ h6)<|nmR<|nj<|nr_ h6)<|nmA (or2 dN (nmL<|nj h6) an_ (m_ (a_.lt b5) dO):∀k∈cV,k∉Si)<|nmA (or2 dN (nmL<|nmR<|nj h6) an_ (m_ (a_.lt b6) dO):∀k∈cV,k∉Sj) (or2 dN (nmR<|nmR<|nj h6) an_ (m_ (a_.lt b7) dO):∀k∈cV,k∉Sk)) (aa_ (or2 dN (io<|i_ sr) an_ (j_ dO):∀k∈cV,k∈(Sh++(Si++(Sj++Sk)))∨wd.z<=k)<|aa_ (io<|f_<|i_ sr)<|aa_ (io<|f_<|f_<|i_ sr)<|io<|f_<|f_<|f_ sr)<|lb z) (.inl z) ?_;rintro _ nh ⟨hH,fB,ni,nk,nl⟩;refine pD ?_;have nm:∀k∈Sh,k∉[wa.z]:=or1 (λk hk=>.inl<|a7 k<|List.mem_append_left _ hk) (ds hb)<|m_ (b_ O.lt)<|lt_ c7 a0.s;exact λ_ q=>⟨n5,n6,ar.rules.set (aw).toNat (⟨x2.name,x2.kind,x2.size,x2.little,hE,x2.names,x2.tags,x2.kids⟩:d_),som jG,hH,q.k<|s2 z z,(cM (cM (e_ (cM (e_ (e_ (cr ([g1]++H) G) a0:Chg (· ∈ ([g1]++H)) G wd) hu:Chg (· ∈ ([g1]++H)) G az) b9 (io<|i_ sr):Chg (· ∈ ([g1]++H)) G fy) aV:Chg (· ∈ ([g1]++H)) G fz) bD hF:Chg (· ∈ ([g1]++H)) G hG) fB (io<|f_ sr):Chg (· ∈ ([g1]++H)) G nh),n8,n9,ni,nk,(or1 nl (io sr) (j_ a0.s):∀k∈hH,k∈H∨G.z<=k),((na.e aV).c bD<|djs hD).c fB<|djs V,((((c6.e hu).c b9<|atp L).e aV).c bD<|djs nm).c fB<|atp hb⟩
         have aJ:=lt_ (lt_ av s3.s) a0.s;obtain ⟨hI,hJ,hK,np,gc⟩:=t_ eH;refine dE z z (fc call63 z<|d_e (B:=zn B wd.z az.z) np ((aq.e a0).e hu) (a_B (zt' ad<|lt_ aJ hu.s) lr) (atp ((a_F (b_ hBg) (b_<|Blk.lt hB1) aJ):∀k∈[g1],¬(zn B wd.z az.z) k)) (repS.mono (am.g<|((ay.c s3<|c_<|b_ hBg).e a0).e hu) a_r) ao ap<|or_ dL<|zin (B:=B) (b_ lr)<|a_.lt dL) (.inr λ_ _ h=>h.1.mono λk _ hk=>(io<|i_ sr) k hk) ?_;rintro _ cb ⟨aj,rfl,_,hL,hM,hN⟩;refine dR z z (c_H d_3 d_5 z)<|b_H ?_ ?_
         .refine dAn z z (l0 a_0 z<|((dD.e hu).c aj<|V _ hp).at (j:=4) z)<|dE z z (fS [(.tmp 95)] a_3 z z z (L_ z) (lb z)<|lb z) (.inr λ_ _ h=>y_<|h.2.below) ?_
          rintro _ fC ⟨rfl,fD⟩;have aW:=fD.below;have rY:=a_6 fD a_P;have hO:∀k∈Sh,k∉[g1]:=or1 (λk hk=>.inl<|a7 k<|List.mem_append_left _ hk) V<|m_ (b_<|Blk.lt hB1) aJ;obtain ⟨hP,nq,jH⟩:=bdS gc;have hQ:∀k∈Sh,k∈([g1]++H)∨G.z<=k:=or1 (λk hk=>.inl<|a7 k<|List.mem_append_left _ hk) (io<|f_ sr)<|j_ a0.s;refine dE z z (a_e (α:=UInt8) a_3 nq z z (((dI.e hu).c aj hO).e aW) (nl_ h6) (fD.blk:Blk fC cb.z [(vU<|byteI<|mkB hI)]) a_P an_ v_) (.inr λ_ _ h=>by obtain ⟨_,_,_,_,_,h,_⟩:=h;exact h.mono λk _ hk=>hQ k hk) ?_;rintro _ hR ⟨cW,_,_,_,rfl,bE,nr,ns,dP⟩;refine dR z z (c_9 K_ p_ z z b4)<|dR z z (fd a_X z) ?_
          have nt:∀k∈Si,k∉[g1]:=or1 (λk hk=>.inl<|(λk hk=>a7 k<|List.mem_append_right _ hk) k<|List.mem_append_left _ hk) V<|m_ (b_<|Blk.lt hB1) aJ;have nu:∀k∈Sj,k∉[g1]:=or1 (λk hk=>.inl<|(λk hk=>(λk hk=>a7 k<|List.mem_append_right _ hk) k<|List.mem_append_right _ hk) k<|List.mem_append_left _ hk) V<|m_ (b_<|Blk.lt hB1) aJ;have nv:∀k∈Sk,k∉[g1]:=or1 (λk hk=>.inl<|(λk hk=>(λk hk=>(λk hk=>a7 k<|List.mem_append_right _ hk) k<|List.mem_append_right _ hk) k<|List.mem_append_right _ hk) k hk) V<|m_ (b_<|Blk.lt hB1) aJ;have dS:=lt_ (lt_ hu.s aj.s) aW.s;refine dE0 z (c_a (α:=d_) e_D z z z z z b4 (cM (e_ (cM (e_ (cr (Sh++(Si++(Sj++(Sk++[g1])))) wd) hu:Chg (· ∈ (Sh++(Si++(Sj++(Sk++[g1]))))) wd az) aj (io<|f_<|f_<|f_<|f_ sr):Chg (· ∈ (Sh++(Si++(Sj++(Sk++[g1]))))) wd cb) aW:Chg (· ∈ (Sh++(Si++(Sj++(Sk++[g1]))))) wd fC) bE (io<|i_ sr):Chg (· ∈ (Sh++(Si++(Sj++(Sk++[g1]))))) wd hR) (λk hk h=>(List.mem_append.1 h).elim (λh=>List.mem_append_left _ h) (λh=>(List.mem_append.1 h).elim (λh=>List.mem_append_right _<|List.mem_append_left _ h) (λh=>(List.mem_append.1 h).elim (λh=>List.mem_append_right _<|List.mem_append_right _<|List.mem_append_left _ h) (λh=>(List.mem_append.1 h).elim (λh=>List.mem_append_right _<|List.mem_append_right _<|List.mem_append_right _ h) (λh=>(λh=>absurd h<|V k hk) h))))) (b_t (x:=(⟨x2.name,x2.kind,x2.size,x2.little,hP,x2.names,x2.tags,x2.kids⟩:d_)) (S1:=cW) (S2:=Si) (S3:=Sj) (S4:=Sk) dF dG dH nr ((((b5.e hu).c aj nt).e aW).c bE<|ds<|nmL<|nj h6) ((((b6.e hu).c aj nu).e aW).c bE<|ds<|nmL<|nmR<|nj h6)<|(((b7.e hu).c aj nv).e aW).c bE<|ds<|nmR<|nmR<|nj h6) (na_ ns (na_ (nl_<|nr_ h6) (na_ (nl_<|nr_<|nr_ h6) (nr_<|nr_<|nr_ h6)<|nj<|nr_<|nr_ h6)<|nmA (nmL<|nj<|nr_ h6)<|nmR<|nj<|nr_ h6)<|nmA (or2 dP (nmL<|nj h6) an_ (m_ (a_.lt b5) dS):∀k∈cW,k∉Si)<|nmA (or2 dP (nmL<|nmR<|nj h6) an_ (m_ (a_.lt b6) dS):∀k∈cW,k∉Sj) (or2 dP (nmR<|nmR<|nj h6) an_ (m_ (a_.lt b7) dS):∀k∈cW,k∉Sk)) (aa_ (or2 dP (io<|i_ sr) an_ (j_ dS):∀k∈cW,k∈(Sh++(Si++(Sj++Sk)))∨wd.z<=k)<|aa_ (io<|f_<|i_ sr)<|aa_ (io<|f_<|f_<|i_ sr)<|io<|f_<|f_<|f_ sr)<|lb z) (.inl z) ?_;rintro _ nw ⟨hS,fE,nx,nA,nB⟩;refine pD ?_;have nC:∀k∈Sh,k∉[wa.z]:=or1 (λk hk=>.inl<|a7 k<|List.mem_append_left _ hk) (ds hb)<|m_ (b_ O.lt)<|lt_ c7 a0.s;exact λ_ q=>⟨hJ,hK,ar.rules.set (aw).toNat (⟨x2.name,x2.kind,x2.size,x2.little,hP,x2.names,x2.tags,x2.kids⟩:d_),som jH,hS,q.k<|s2 z z,(cM (cM (e_ (cM (e_ (e_ (cr ([g1]++H) G) a0:Chg (· ∈ ([g1]++H)) G wd) hu:Chg (· ∈ ([g1]++H)) G az) aj (io<|i_ sr):Chg (· ∈ ([g1]++H)) G cb) aW:Chg (· ∈ ([g1]++H)) G fC) bE hQ:Chg (· ∈ ([g1]++H)) G hR) fE (io<|f_ sr):Chg (· ∈ ([g1]++H)) G nw),hL,hM,nx,nA,(or1 nB (io sr) (j_ a0.s):∀k∈hS,k∈H∨G.z<=k),((hN.e aW).c bE<|djs hO).c fE<|djs V,((((c6.e hu).c aj<|atp L).e aW).c bE<|djs nC).c fE<|atp hb⟩
         refine dE z z (fS [(.tmp 95)] a_3 z z z (L_ z) (lb z)<|lb z) (.inr λ_ _ h=>y_<|h.2.below) ?_;rintro _ fF ⟨rfl,fG⟩;have aK:=fG.below;have rZ:=a_6 fG a_P;refine dAn z z (l0 a_0 z<|(((dD.e hu).c aj<|V _ hp).e aK).at (j:=4) z) ?_;have hT:∀k∈Sh,k∉[g1]:=or1 (λk hk=>.inl<|a7 k<|List.mem_append_left _ hk) V<|m_ (b_<|Blk.lt hB1) aJ;obtain ⟨hU,nD,jI⟩:=bdS gc;have hV:∀k∈Sh,k∈([g1]++H)∨G.z<=k:=or1 (λk hk=>.inl<|a7 k<|List.mem_append_left _ hk) (io<|f_ sr)<|j_ a0.s;refine dE z z (a_e (α:=UInt8) a_3 nD z z (((dI.e hu).c aj hT).e aK) (nl_ h6) (fG.blk:Blk fF cb.z [(vU<|byteI<|mkB hI)]) a_P an_ v_) (.inr λ_ _ h=>by obtain ⟨_,_,_,_,_,h,_⟩:=h;exact h.mono λk _ hk=>hV k hk) ?_;rintro _ hW ⟨cX,_,_,_,rfl,bF,nE,nF,dT⟩;refine dR z z (c_9 K_ p_ z z b4)<|dR z z (fd a_X z) ?_
         have nG:∀k∈Si,k∉[g1]:=or1 (λk hk=>.inl<|(λk hk=>a7 k<|List.mem_append_right _ hk) k<|List.mem_append_left _ hk) V<|m_ (b_<|Blk.lt hB1) aJ;have nH:∀k∈Sj,k∉[g1]:=or1 (λk hk=>.inl<|(λk hk=>(λk hk=>a7 k<|List.mem_append_right _ hk) k<|List.mem_append_right _ hk) k<|List.mem_append_left _ hk) V<|m_ (b_<|Blk.lt hB1) aJ;have nI:∀k∈Sk,k∉[g1]:=or1 (λk hk=>.inl<|(λk hk=>(λk hk=>(λk hk=>a7 k<|List.mem_append_right _ hk) k<|List.mem_append_right _ hk) k<|List.mem_append_right _ hk) k hk) V<|m_ (b_<|Blk.lt hB1) aJ;have dU:=lt_ (lt_ hu.s aj.s) aK.s;refine dE0 z (c_a (α:=d_) e_D z z z z z b4 (cM (e_ (cM (e_ (cr (Sh++(Si++(Sj++(Sk++[g1])))) wd) hu:Chg (· ∈ (Sh++(Si++(Sj++(Sk++[g1]))))) wd az) aj (io<|f_<|f_<|f_<|f_ sr):Chg (· ∈ (Sh++(Si++(Sj++(Sk++[g1]))))) wd cb) aK:Chg (· ∈ (Sh++(Si++(Sj++(Sk++[g1]))))) wd fF) bF (io<|i_ sr):Chg (· ∈ (Sh++(Si++(Sj++(Sk++[g1]))))) wd hW) (λk hk h=>(List.mem_append.1 h).elim (λh=>List.mem_append_left _ h) (λh=>(List.mem_append.1 h).elim (λh=>List.mem_append_right _<|List.mem_append_left _ h) (λh=>(List.mem_append.1 h).elim (λh=>List.mem_append_right _<|List.mem_append_right _<|List.mem_append_left _ h) (λh=>(List.mem_append.1 h).elim (λh=>List.mem_append_right _<|List.mem_append_right _<|List.mem_append_right _ h) (λh=>(λh=>absurd h<|V k hk) h))))) (b_t (x:=(⟨x2.name,x2.kind,x2.size,x2.little,hU,x2.names,x2.tags,x2.kids⟩:d_)) (S1:=cX) (S2:=Si) (S3:=Sj) (S4:=Sk) dF dG dH nE ((((b5.e hu).c aj nG).e aK).c bF<|ds<|nmL<|nj h6) ((((b6.e hu).c aj nH).e aK).c bF<|ds<|nmL<|nmR<|nj h6)<|(((b7.e hu).c aj nI).e aK).c bF<|ds<|nmR<|nmR<|nj h6) (na_ nF (na_ (nl_<|nr_ h6) (na_ (nl_<|nr_<|nr_ h6) (nr_<|nr_<|nr_ h6)<|nj<|nr_<|nr_ h6)<|nmA (nmL<|nj<|nr_ h6)<|nmR<|nj<|nr_ h6)<|nmA (or2 dT (nmL<|nj h6) an_ (m_ (a_.lt b5) dU):∀k∈cX,k∉Si)<|nmA (or2 dT (nmL<|nmR<|nj h6) an_ (m_ (a_.lt b6) dU):∀k∈cX,k∉Sj) (or2 dT (nmR<|nmR<|nj h6) an_ (m_ (a_.lt b7) dU):∀k∈cX,k∉Sk)) (aa_ (or2 dT (io<|i_ sr) an_ (j_ dU):∀k∈cX,k∈(Sh++(Si++(Sj++Sk)))∨wd.z<=k)<|aa_ (io<|f_<|i_ sr)<|aa_ (io<|f_<|f_<|i_ sr)<|io<|f_<|f_<|f_ sr)<|lb z) (.inl z) ?_;rintro _ nJ ⟨hX,fH,nK,nL,nM⟩;refine pD ?_;have nN:∀k∈Sh,k∉[wa.z]:=or1 (λk hk=>.inl<|a7 k<|List.mem_append_left _ hk) (ds hb)<|m_ (b_ O.lt)<|lt_ c7 a0.s;exact λ_ q=>⟨hJ,hK,ar.rules.set (aw).toNat (⟨x2.name,x2.kind,x2.size,x2.little,hU,x2.names,x2.tags,x2.kids⟩:d_),som jI,hX,q.k<|s2 z z,(cM (cM (e_ (cM (e_ (e_ (cr ([g1]++H) G) a0:Chg (· ∈ ([g1]++H)) G wd) hu:Chg (· ∈ ([g1]++H)) G az) aj (io<|i_ sr):Chg (· ∈ ([g1]++H)) G cb) aK:Chg (· ∈ ([g1]++H)) G fF) bF hV:Chg (· ∈ ([g1]++H)) G hW) fH (io<|f_ sr):Chg (· ∈ ([g1]++H)) G nJ),hL,hM,nK,nL,(or1 nM (io sr) (j_ a0.s):∀k∈hX,k∈H∨G.z<=k),((hN.e aK).c bF<|djs hT).c fH<|djs V,((((c6.e hu).c aj<|atp L).e aK).c bF<|djs nN).c fH<|atp hb⟩
        rintro nO nP ⟨cS,cT,dC,rfl,c5,_,nQ,nR,nS,nT,nU,nV,nW,nX⟩;revert nO;exact λ_ q=>⟨cS,cT,dC,som<|a_w jC,c5,q.k<|s2 z z,(cM (cr ([g1]++H) G) nQ (aa_ (io<|i_ sr)<|io<|f_ sr):Chg (· ∈ ([g1]++H)) G nP),nR,nS,nT,nU,(or1 nV (io sr) (j_ lr):∀k∈c5,k∈H∨G.z<=k),nW,nX⟩
       refine Ws<|Rq z z z<|Rw z ?_
       obtain ⟨nY,ge,gf⟩:=bdS<|ifF ga eG;refine Wt (λa w=>∃(cY:Int)(cZ:Int)(dV:List d_),Sum.inl (cY,cZ,dV)=nY/\∃(cc:List Nat),Sat 140 [(2,pt w0.z),(3,pt wa.z)] a/\Chg (· ∈ ([g1]++H)) G w/\inI cY/\inI cZ/\a_ w cc (sl ax ny cz) dV/\cc.Nodup/\(∀k∈cc,k∈H∨G.z<=k)/\Blk w g1 [sl A0 N0 C0,vI cY,vI cZ]/\Blk w wa.z [sl ax ny cz]) ?_ ?_
       .refine Wc z (λeI=>?_)<|λeI=>?_
        .obtain ⟨nZ,jJ,jK⟩:=bdS<|ifT ge eI;refine Wt (λa w=>∃(d0:Int)(d1:Int)(dW:List d_),(d0,d1,dW)=nZ/\∃(cd:List Nat),Sat 140 [(2,pt w0.z),(3,pt wa.z)] a/\Chg (· ∈ ([g1]++H)) G w/\inI d0/\inI d1/\a_ w cd (sl ax ny cz) dW/\cd.Nodup/\(∀k∈cd,k∈H∨G.z<=k)/\Blk w g1 [sl A0 N0 C0,vI d0,vI d1]/\Blk w wa.z [sl ax ny cz]) ?_ ?_
         .refine Wd (X:=λk=>k∈([g1]++H)∨G.z<=k) 65536 (.rd 0<|.rd 1<|.rd 2<|.rd 3<|.rd 4<|.rd 5<|.rd 6<|.rd 7<|.rd 9<|.br 8 (.ef 10<|.ef 11<|.ef 12<|.ef 13<|.rd 14<|.rd 15<|.ef 16 .done) 10<|.br 8 (.ef 11<|.ef 12<|.ef 13<|.rd 14<|.rd 15<|.ef 16 .done) 11<|.br 8 (.ef 12<|.ef 13<|.rd 14<|.rd 15<|.ef 16 .done) 12<|.ef 8<|.ef 13<|.rd 14<|.rd 15<|.ef 16 .done) mo (by kernel_rfl) λwe a1 _=>dR z z (fd R_ z) ?_
          have ce:=((aH.c st<|atp L).c s3<|atp L).e a1;have cf:=lt_ (lt_ an.s st.s) s3.s;refine dR z z (l1 S_ z (a_o (atp<|nmA L hb)<|Nat.lt_of_lt_of_le O.lt cf)<|ce.at z)<|dM z z z<|dR z z (fd R_ z)<|dR z z (l1 S_ z (a_o (atp<|nmA L hb)<|Nat.lt_of_lt_of_le O.lt cf)<|ce.at z)<|dM z z z ?_
          obtain ⟨x4,hY,eJ⟩:=bdS jJ;have W:=n_ au (Blk.lt hB1) ae.s;have hZ:=((aC.c st W).c s3 W).e a1;refine dRX z z (d_M (α:=d_) K_ p_ z z hZ hY) ?_;rintro _ ⟨_,o0,rfl⟩;obtain ⟨_,_,dX,o1,I,a8,i0,ba⟩:=i_s o0 hZ aQ hY;obtain ⟨_,_,_,_,_,_,_,_,_,_,_,_,Sl,Sm,Sn,So,rfl,rfl,dY,dZ,e0,bb,e1,bc,be⟩:=e_d o1;refine dR z z (fd b_K z)<|dM z z z<|b_H ?_ ?_
          .refine dAn z z (l0 a_R z<|dX.at (j:=5) z)<|dE z z (fS [(.const<|Str.v ⟨[112,49]⟩),.const<|Str.v ⟨[81]⟩,(.const<|Str.v ⟨[122]⟩)] a_5 z z z (L_ z) (lb z)<|lb z) (.inr λ_ _ h=>y_<|h.2.below) ?_
           rintro _ cg ⟨rfl,i1⟩;have aE:=i1.below;have i2:a_ cg [we.z] (sl (some ⟨we.z,0,none⟩) 3 3) ([(⟨[112,49]⟩:Str),(⟨[81]⟩:Str),(⟨[122]⟩:Str)]:List Str):=d_L (l:=[(⟨[112,49]⟩:Str),(⟨[81]⟩:Str),(⟨[122]⟩:Str)]) (i1.blk:Blk cg we.z [(Str.v (⟨[112,49]⟩:Str)),Str.v (⟨[81]⟩:Str),(Str.v (⟨[122]⟩:Str))]) (ac0 (lb z)<|ac0 (lb z)<|ac0 (lb z) an0) z;have ch:=lt_ (lt_ av s3.s) a1.s;obtain ⟨o2,o3,o4,o5,jL⟩:=t_ eJ;refine dE z z (fc call35 z<|e_7 (B:=zn B we.z cg.z) o5 ((aq.e a1).e aE) (a_B (zt' ad<|lt_ ch aE.s) lr) (atp ((a_F (b_ hBg) (b_<|Blk.lt hB1) ch):∀k∈[g1],¬(zn B we.z cg.z) k)) (repS.mono (am.g<|((ay.c s3<|c_<|b_ hBg).e a1).e aE) a_r) ao ap<|or_ i2<|zin (B:=B) (b_ lr)<|a_.lt i2) (.inr λ_ _ h=>h.1.mono λk _ hk=>(io<|i_ sr) k hk) ?_;rintro _ fI ⟨bf,rfl,i3,o6,o7,o8⟩;refine dE z z (fS [(.tmp 113)] a_5 z z z (L_ z) (lb z)<|lb z) (.inr λ_ _ h=>y_<|h.2.below) ?_;rintro _ fJ ⟨rfl,fK⟩;have aX:=fK.below;have s0:=a_6 fK<|a_Z i3
           have i4:∀k∈Sm,k∉[g1]:=or1 (λk hk=>.inl<|(λk hk=>a8 k<|List.mem_append_right _ hk) k<|List.mem_append_left _ hk) W<|m_ (b_<|Blk.lt hB1) ch;obtain ⟨i5,o9,jM⟩:=bdS jL;have i6:∀k∈Sm,k∈([g1]++H)∨G.z<=k:=or1 (λk hk=>.inl<|(λk hk=>a8 k<|List.mem_append_right _ hk) k<|List.mem_append_left _ hk) (io<|f_ sr)<|j_ a1.s;refine dE z z (a_e (α:=Str) a_5 o9 z z (((e1.e aE).c bf i4).e aX) (nl_<|nr_ I) (fK.blk:Blk fJ fI.z [Str.v o2]) (a_Z i3) an_ v_) (.inr λ_ _ h=>by obtain ⟨_,_,_,_,_,h,_⟩:=h;exact h.mono λk _ hk=>i6 k hk) ?_;rintro _ i7 ⟨d2,_,_,_,rfl,bG,oa,ob,e2⟩;refine dR z z (c_9 K_ p_ z z ba)<|dR z z (fd b_K z) ?_
           have oc:∀k∈Sl,k∉[g1]:=or1 (λk hk=>.inl<|a8 k<|List.mem_append_left _ hk) W<|m_ (b_<|Blk.lt hB1) ch;have od:∀k∈Sn,k∉[g1]:=or1 (λk hk=>.inl<|(λk hk=>(λk hk=>a8 k<|List.mem_append_right _ hk) k<|List.mem_append_right _ hk) k<|List.mem_append_left _ hk) W<|m_ (b_<|Blk.lt hB1) ch;have oe:∀k∈So,k∉[g1]:=or1 (λk hk=>.inl<|(λk hk=>(λk hk=>(λk hk=>a8 k<|List.mem_append_right _ hk) k<|List.mem_append_right _ hk) k<|List.mem_append_right _ hk) k hk) W<|m_ (b_<|Blk.lt hB1) ch;have e3:=lt_ (lt_ aE.s bf.s) aX.s;refine dE0 z (c_a (α:=d_) b_U z z z z z ba (cM (e_ (cM (e_ (cr (Sl++(Sm++(Sn++(So++[g1])))) we) aE:Chg (· ∈ (Sl++(Sm++(Sn++(So++[g1]))))) we cg) bf (io<|f_<|f_<|f_<|f_ sr):Chg (· ∈ (Sl++(Sm++(Sn++(So++[g1]))))) we fI) aX:Chg (· ∈ (Sl++(Sm++(Sn++(So++[g1]))))) we fJ) bG (io<|f_<|i_ sr):Chg (· ∈ (Sl++(Sm++(Sn++(So++[g1]))))) we i7) (λk hk h=>(List.mem_append.1 h).elim (λh=>List.mem_append_left _ h) (λh=>(List.mem_append.1 h).elim (λh=>List.mem_append_right _<|List.mem_append_left _ h) (λh=>(List.mem_append.1 h).elim (λh=>List.mem_append_right _<|List.mem_append_right _<|List.mem_append_left _ h) (λh=>(List.mem_append.1 h).elim (λh=>List.mem_append_right _<|List.mem_append_right _<|List.mem_append_right _ h) (λh=>(λh=>absurd h<|W k hk) h))))) (b_t (x:=(⟨x4.name,x4.kind,x4.size,x4.little,x4.bytes,i5,x4.tags,x4.kids⟩:d_)) (S1:=Sl) (S2:=d2) (S3:=Sn) (S4:=So) dY dZ e0 ((((bb.e aE).c bf oc).e aX).c bG<|nmL<|nj I) oa ((((bc.e aE).c bf od).e aX).c bG<|ds<|nmL<|nj<|nr_ I)<|(((be.e aE).c bf oe).e aX).c bG<|ds<|nmR<|nj<|nr_ I) (na_ (nl_ I) (na_ ob (na_ (nl_<|nr_<|nr_ I) (nr_<|nr_<|nr_ I)<|nj<|nr_<|nr_ I)<|nmA (or2 e2 (nmL<|nj<|nr_ I) an_ (m_ (a_.lt bc) e3):∀k∈d2,k∉Sn) (or2 e2 (nmR<|nj<|nr_ I) an_ (m_ (a_.lt be) e3):∀k∈d2,k∉So))<|nmA (ds (or2 e2 (ds<|nmL<|nj I) an_ (m_ (a_.lt bb) e3):∀k∈d2,k∉Sl))<|nmA (nmL<|nmR<|nj I)<|nmR<|nmR<|nj I) (aa_ (io<|i_ sr)<|aa_ (or2 e2 (io<|f_<|i_ sr) an_ (j_ e3):∀k∈d2,k∈(Sl++(Sm++(Sn++So)))∨we.z<=k)<|aa_ (io<|f_<|f_<|i_ sr)<|io<|f_<|f_<|f_ sr)<|lb z) (.inl z) ?_;rintro _ og ⟨i8,fL,oh,oi,oj⟩;refine pD ?_;have ol:∀k∈Sm,k∉[wa.z]:=or1 (λk hk=>.inl<|(λk hk=>a8 k<|List.mem_append_right _ hk) k<|List.mem_append_left _ hk) (ds hb)<|m_ (b_ O.lt)<|lt_ cf a1.s;exact λ_ q=>⟨o3,o4,ar.rules.set (aw).toNat (⟨x4.name,x4.kind,x4.size,x4.little,x4.bytes,i5,x4.tags,x4.kids⟩:d_),som jM,i8,q.k<|s2 z z,(cM (cM (e_ (cM (e_ (e_ (cr ([g1]++H) G) a1:Chg (· ∈ ([g1]++H)) G we) aE:Chg (· ∈ ([g1]++H)) G cg) bf (io<|i_ sr):Chg (· ∈ ([g1]++H)) G fI) aX:Chg (· ∈ ([g1]++H)) G fJ) bG i6:Chg (· ∈ ([g1]++H)) G i7) fL (io<|f_ sr):Chg (· ∈ ([g1]++H)) G og),o6,o7,oh,oi,(or1 oj (io sr) (j_ a1.s):∀k∈i8,k∈H∨G.z<=k),((o8.e aX).c bG<|djs i4).c fL<|djs W,((((ce.e aE).c bf<|atp L).e aX).c bG<|djs ol).c fL<|atp hb⟩
          refine dE z z (fS [(.const<|Str.v ⟨[112,49]⟩),.const<|Str.v ⟨[81]⟩,(.const<|Str.v ⟨[122]⟩)] a_5 z z z (L_ z) (lb z)<|lb z) (.inr λ_ _ h=>y_<|h.2.below) ?_;rintro _ aA ⟨rfl,i9⟩;have hv:=i9.below;have e4:a_ aA [we.z] (sl (some ⟨we.z,0,none⟩) 3 3) ([(⟨[112,49]⟩:Str),(⟨[81]⟩:Str),(⟨[122]⟩:Str)]:List Str):=d_L (l:=[(⟨[112,49]⟩:Str),(⟨[81]⟩:Str),(⟨[122]⟩:Str)]) (i9.blk:Blk aA we.z [(Str.v (⟨[112,49]⟩:Str)),Str.v (⟨[81]⟩:Str),(Str.v (⟨[122]⟩:Str))]) (ac0 (lb z)<|ac0 (lb z)<|ac0 (lb z) an0) z;refine b_H ?_ ?_
          .refine dAn z z (l0 a_R z<|(dX.e hv).at (j:=5) z) ?_;have ci:=lt_ (lt_ av s3.s) a1.s;obtain ⟨om,oo,oq,os,jN⟩:=t_ eJ;refine dE z z (fc call35 z<|e_7 (B:=zn B we.z aA.z) os ((aq.e a1).e hv) (a_B (zt' ad<|lt_ ci hv.s) lr) (atp ((a_F (b_ hBg) (b_<|Blk.lt hB1) ci):∀k∈[g1],¬(zn B we.z aA.z) k)) (repS.mono (am.g<|((ay.c s3<|c_<|b_ hBg).e a1).e hv) a_r) ao ap<|or_ e4<|zin (B:=B) (b_ lr)<|a_.lt e4) (.inr λ_ _ h=>h.1.mono λk _ hk=>(io<|i_ sr) k hk) ?_;rintro _ fM ⟨bg,rfl,ia,ot,ou,ov⟩;refine dE z z (fS [(.tmp 113)] a_5 z z z (L_ z) (lb z)<|lb z) (.inr λ_ _ h=>y_<|h.2.below) ?_;rintro _ fN ⟨rfl,fO⟩;have aY:=fO.below;have sa:=a_6 fO<|a_Z ia
           have ib:∀k∈Sm,k∉[g1]:=or1 (λk hk=>.inl<|(λk hk=>a8 k<|List.mem_append_right _ hk) k<|List.mem_append_left _ hk) W<|m_ (b_<|Blk.lt hB1) ci;obtain ⟨ic,ow,jO⟩:=bdS jN;have id:∀k∈Sm,k∈([g1]++H)∨G.z<=k:=or1 (λk hk=>.inl<|(λk hk=>a8 k<|List.mem_append_right _ hk) k<|List.mem_append_left _ hk) (io<|f_ sr)<|j_ a1.s;refine dE z z (a_e (α:=Str) a_5 ow z z (((e1.e hv).c bg ib).e aY) (nl_<|nr_ I) (fO.blk:Blk fN fM.z [Str.v om]) (a_Z ia) an_ v_) (.inr λ_ _ h=>by obtain ⟨_,_,_,_,_,h,_⟩:=h;exact h.mono λk _ hk=>id k hk) ?_;rintro _ ie ⟨d3,_,_,_,rfl,bH,ox,oy,e5⟩;refine dR z z (c_9 K_ p_ z z ba)<|dR z z (fd b_K z) ?_
           have oz:∀k∈Sl,k∉[g1]:=or1 (λk hk=>.inl<|a8 k<|List.mem_append_left _ hk) W<|m_ (b_<|Blk.lt hB1) ci;have oA:∀k∈Sn,k∉[g1]:=or1 (λk hk=>.inl<|(λk hk=>(λk hk=>a8 k<|List.mem_append_right _ hk) k<|List.mem_append_right _ hk) k<|List.mem_append_left _ hk) W<|m_ (b_<|Blk.lt hB1) ci;have oB:∀k∈So,k∉[g1]:=or1 (λk hk=>.inl<|(λk hk=>(λk hk=>(λk hk=>a8 k<|List.mem_append_right _ hk) k<|List.mem_append_right _ hk) k<|List.mem_append_right _ hk) k hk) W<|m_ (b_<|Blk.lt hB1) ci;have e6:=lt_ (lt_ hv.s bg.s) aY.s;refine dE0 z (c_a (α:=d_) b_U z z z z z ba (cM (e_ (cM (e_ (cr (Sl++(Sm++(Sn++(So++[g1])))) we) hv:Chg (· ∈ (Sl++(Sm++(Sn++(So++[g1]))))) we aA) bg (io<|f_<|f_<|f_<|f_ sr):Chg (· ∈ (Sl++(Sm++(Sn++(So++[g1]))))) we fM) aY:Chg (· ∈ (Sl++(Sm++(Sn++(So++[g1]))))) we fN) bH (io<|f_<|i_ sr):Chg (· ∈ (Sl++(Sm++(Sn++(So++[g1]))))) we ie) (λk hk h=>(List.mem_append.1 h).elim (λh=>List.mem_append_left _ h) (λh=>(List.mem_append.1 h).elim (λh=>List.mem_append_right _<|List.mem_append_left _ h) (λh=>(List.mem_append.1 h).elim (λh=>List.mem_append_right _<|List.mem_append_right _<|List.mem_append_left _ h) (λh=>(List.mem_append.1 h).elim (λh=>List.mem_append_right _<|List.mem_append_right _<|List.mem_append_right _ h) (λh=>(λh=>absurd h<|W k hk) h))))) (b_t (x:=(⟨x4.name,x4.kind,x4.size,x4.little,x4.bytes,ic,x4.tags,x4.kids⟩:d_)) (S1:=Sl) (S2:=d3) (S3:=Sn) (S4:=So) dY dZ e0 ((((bb.e hv).c bg oz).e aY).c bH<|nmL<|nj I) ox ((((bc.e hv).c bg oA).e aY).c bH<|ds<|nmL<|nj<|nr_ I)<|(((be.e hv).c bg oB).e aY).c bH<|ds<|nmR<|nj<|nr_ I) (na_ (nl_ I) (na_ oy (na_ (nl_<|nr_<|nr_ I) (nr_<|nr_<|nr_ I)<|nj<|nr_<|nr_ I)<|nmA (or2 e5 (nmL<|nj<|nr_ I) an_ (m_ (a_.lt bc) e6):∀k∈d3,k∉Sn) (or2 e5 (nmR<|nj<|nr_ I) an_ (m_ (a_.lt be) e6):∀k∈d3,k∉So))<|nmA (ds (or2 e5 (ds<|nmL<|nj I) an_ (m_ (a_.lt bb) e6):∀k∈d3,k∉Sl))<|nmA (nmL<|nmR<|nj I)<|nmR<|nmR<|nj I) (aa_ (io<|i_ sr)<|aa_ (or2 e5 (io<|f_<|i_ sr) an_ (j_ e6):∀k∈d3,k∈(Sl++(Sm++(Sn++So)))∨we.z<=k)<|aa_ (io<|f_<|f_<|i_ sr)<|io<|f_<|f_<|f_ sr)<|lb z) (.inl z) ?_;rintro _ oC ⟨ig,fP,oD,oE,oF⟩;refine pD ?_;have oG:∀k∈Sm,k∉[wa.z]:=or1 (λk hk=>.inl<|(λk hk=>a8 k<|List.mem_append_right _ hk) k<|List.mem_append_left _ hk) (ds hb)<|m_ (b_ O.lt)<|lt_ cf a1.s;exact λ_ q=>⟨oo,oq,ar.rules.set (aw).toNat (⟨x4.name,x4.kind,x4.size,x4.little,x4.bytes,ic,x4.tags,x4.kids⟩:d_),som jO,ig,q.k<|s2 z z,(cM (cM (e_ (cM (e_ (e_ (cr ([g1]++H) G) a1:Chg (· ∈ ([g1]++H)) G we) hv:Chg (· ∈ ([g1]++H)) G aA) bg (io<|i_ sr):Chg (· ∈ ([g1]++H)) G fM) aY:Chg (· ∈ ([g1]++H)) G fN) bH id:Chg (· ∈ ([g1]++H)) G ie) fP (io<|f_ sr):Chg (· ∈ ([g1]++H)) G oC),ot,ou,oD,oE,(or1 oF (io sr) (j_ a1.s):∀k∈ig,k∈H∨G.z<=k),((ov.e aY).c bH<|djs ib).c fP<|djs W,((((ce.e hv).c bg<|atp L).e aY).c bH<|djs oG).c fP<|atp hb⟩
          have aL:=lt_ (lt_ av s3.s) a1.s;obtain ⟨ih,ij,ik,oH,gg⟩:=t_ eJ;refine dE z z (fc call35 z<|e_7 (B:=zn B we.z aA.z) oH ((aq.e a1).e hv) (a_B (zt' ad<|lt_ aL hv.s) lr) (atp ((a_F (b_ hBg) (b_<|Blk.lt hB1) aL):∀k∈[g1],¬(zn B we.z aA.z) k)) (repS.mono (am.g<|((ay.c s3<|c_<|b_ hBg).e a1).e hv) a_r) ao ap<|or_ e4<|zin (B:=B) (b_ lr)<|a_.lt e4) (.inr λ_ _ h=>h.1.mono λk _ hk=>(io<|i_ sr) k hk) ?_;rintro _ cj ⟨ak,rfl,e7,il,im,ip⟩;refine b_H ?_ ?_
          .refine dAn z z (l0 a_R z<|((dX.e hv).c ak<|W _ i0).at (j:=5) z)<|dE z z (fS [(.tmp 113)] a_5 z z z (L_ z) (lb z)<|lb z) (.inr λ_ _ h=>y_<|h.2.below) ?_
           rintro _ fQ ⟨rfl,fR⟩;have aZ:=fR.below;have sb:=a_6 fR<|a_Z e7
           have iq:∀k∈Sm,k∉[g1]:=or1 (λk hk=>.inl<|(λk hk=>a8 k<|List.mem_append_right _ hk) k<|List.mem_append_left _ hk) W<|m_ (b_<|Blk.lt hB1) aL;obtain ⟨ir,oI,jP⟩:=bdS gg;have it:∀k∈Sm,k∈([g1]++H)∨G.z<=k:=or1 (λk hk=>.inl<|(λk hk=>a8 k<|List.mem_append_right _ hk) k<|List.mem_append_left _ hk) (io<|f_ sr)<|j_ a1.s;refine dE z z (a_e (α:=Str) a_5 oI z z (((e1.e hv).c ak iq).e aZ) (nl_<|nr_ I) (fR.blk:Blk fQ cj.z [Str.v ih]) (a_Z e7) an_ v_) (.inr λ_ _ h=>by obtain ⟨_,_,_,_,_,h,_⟩:=h;exact h.mono λk _ hk=>it k hk) ?_;rintro _ iu ⟨d4,_,_,_,rfl,bI,oJ,oK,e8⟩;refine dR z z (c_9 K_ p_ z z ba)<|dR z z (fd b_K z) ?_
           have oL:∀k∈Sl,k∉[g1]:=or1 (λk hk=>.inl<|a8 k<|List.mem_append_left _ hk) W<|m_ (b_<|Blk.lt hB1) aL;have oM:∀k∈Sn,k∉[g1]:=or1 (λk hk=>.inl<|(λk hk=>(λk hk=>a8 k<|List.mem_append_right _ hk) k<|List.mem_append_right _ hk) k<|List.mem_append_left _ hk) W<|m_ (b_<|Blk.lt hB1) aL;have oN:∀k∈So,k∉[g1]:=or1 (λk hk=>.inl<|(λk hk=>(λk hk=>(λk hk=>a8 k<|List.mem_append_right _ hk) k<|List.mem_append_right _ hk) k<|List.mem_append_right _ hk) k hk) W<|m_ (b_<|Blk.lt hB1) aL;have e9:=lt_ (lt_ hv.s ak.s) aZ.s;refine dE0 z (c_a (α:=d_) b_U z z z z z ba (cM (e_ (cM (e_ (cr (Sl++(Sm++(Sn++(So++[g1])))) we) hv:Chg (· ∈ (Sl++(Sm++(Sn++(So++[g1]))))) we aA) ak (io<|f_<|f_<|f_<|f_ sr):Chg (· ∈ (Sl++(Sm++(Sn++(So++[g1]))))) we cj) aZ:Chg (· ∈ (Sl++(Sm++(Sn++(So++[g1]))))) we fQ) bI (io<|f_<|i_ sr):Chg (· ∈ (Sl++(Sm++(Sn++(So++[g1]))))) we iu) (λk hk h=>(List.mem_append.1 h).elim (λh=>List.mem_append_left _ h) (λh=>(List.mem_append.1 h).elim (λh=>List.mem_append_right _<|List.mem_append_left _ h) (λh=>(List.mem_append.1 h).elim (λh=>List.mem_append_right _<|List.mem_append_right _<|List.mem_append_left _ h) (λh=>(List.mem_append.1 h).elim (λh=>List.mem_append_right _<|List.mem_append_right _<|List.mem_append_right _ h) (λh=>(λh=>absurd h<|W k hk) h))))) (b_t (x:=(⟨x4.name,x4.kind,x4.size,x4.little,x4.bytes,ir,x4.tags,x4.kids⟩:d_)) (S1:=Sl) (S2:=d4) (S3:=Sn) (S4:=So) dY dZ e0 ((((bb.e hv).c ak oL).e aZ).c bI<|nmL<|nj I) oJ ((((bc.e hv).c ak oM).e aZ).c bI<|ds<|nmL<|nj<|nr_ I)<|(((be.e hv).c ak oN).e aZ).c bI<|ds<|nmR<|nj<|nr_ I) (na_ (nl_ I) (na_ oK (na_ (nl_<|nr_<|nr_ I) (nr_<|nr_<|nr_ I)<|nj<|nr_<|nr_ I)<|nmA (or2 e8 (nmL<|nj<|nr_ I) an_ (m_ (a_.lt bc) e9):∀k∈d4,k∉Sn) (or2 e8 (nmR<|nj<|nr_ I) an_ (m_ (a_.lt be) e9):∀k∈d4,k∉So))<|nmA (ds (or2 e8 (ds<|nmL<|nj I) an_ (m_ (a_.lt bb) e9):∀k∈d4,k∉Sl))<|nmA (nmL<|nmR<|nj I)<|nmR<|nmR<|nj I) (aa_ (io<|i_ sr)<|aa_ (or2 e8 (io<|f_<|i_ sr) an_ (j_ e9):∀k∈d4,k∈(Sl++(Sm++(Sn++So)))∨we.z<=k)<|aa_ (io<|f_<|f_<|i_ sr)<|io<|f_<|f_<|f_ sr)<|lb z) (.inl z) ?_;rintro _ oO ⟨iv,fT,oP,oQ,oR⟩;refine pD ?_;have oS:∀k∈Sm,k∉[wa.z]:=or1 (λk hk=>.inl<|(λk hk=>a8 k<|List.mem_append_right _ hk) k<|List.mem_append_left _ hk) (ds hb)<|m_ (b_ O.lt)<|lt_ cf a1.s;exact λ_ q=>⟨ij,ik,ar.rules.set (aw).toNat (⟨x4.name,x4.kind,x4.size,x4.little,x4.bytes,ir,x4.tags,x4.kids⟩:d_),som jP,iv,q.k<|s2 z z,(cM (cM (e_ (cM (e_ (e_ (cr ([g1]++H) G) a1:Chg (· ∈ ([g1]++H)) G we) hv:Chg (· ∈ ([g1]++H)) G aA) ak (io<|i_ sr):Chg (· ∈ ([g1]++H)) G cj) aZ:Chg (· ∈ ([g1]++H)) G fQ) bI it:Chg (· ∈ ([g1]++H)) G iu) fT (io<|f_ sr):Chg (· ∈ ([g1]++H)) G oO),il,im,oP,oQ,(or1 oR (io sr) (j_ a1.s):∀k∈iv,k∈H∨G.z<=k),((ip.e aZ).c bI<|djs iq).c fT<|djs W,((((ce.e hv).c ak<|atp L).e aZ).c bI<|djs oS).c fT<|atp hb⟩
          refine dE z z (fS [(.tmp 113)] a_5 z z z (L_ z) (lb z)<|lb z) (.inr λ_ _ h=>y_<|h.2.below) ?_;rintro _ fU ⟨rfl,fV⟩;have aM:=fV.below;have sd:=a_6 fV<|a_Z e7
          refine dAn z z (l0 a_R z<|(((dX.e hv).c ak<|W _ i0).e aM).at (j:=5) z) ?_;have iw:∀k∈Sm,k∉[g1]:=or1 (λk hk=>.inl<|(λk hk=>a8 k<|List.mem_append_right _ hk) k<|List.mem_append_left _ hk) W<|m_ (b_<|Blk.lt hB1) aL;obtain ⟨ix,oT,jQ⟩:=bdS gg;have iy:∀k∈Sm,k∈([g1]++H)∨G.z<=k:=or1 (λk hk=>.inl<|(λk hk=>a8 k<|List.mem_append_right _ hk) k<|List.mem_append_left _ hk) (io<|f_ sr)<|j_ a1.s;refine dE z z (a_e (α:=Str) a_5 oT z z (((e1.e hv).c ak iw).e aM) (nl_<|nr_ I) (fV.blk:Blk fU cj.z [Str.v ih]) (a_Z e7) an_ v_) (.inr λ_ _ h=>by obtain ⟨_,_,_,_,_,h,_⟩:=h;exact h.mono λk _ hk=>iy k hk) ?_;rintro _ iz ⟨d5,_,_,_,rfl,bJ,oU,oV,ea⟩;refine dR z z (c_9 K_ p_ z z ba)<|dR z z (fd b_K z) ?_
          have oW:∀k∈Sl,k∉[g1]:=or1 (λk hk=>.inl<|a8 k<|List.mem_append_left _ hk) W<|m_ (b_<|Blk.lt hB1) aL;have oX:∀k∈Sn,k∉[g1]:=or1 (λk hk=>.inl<|(λk hk=>(λk hk=>a8 k<|List.mem_append_right _ hk) k<|List.mem_append_right _ hk) k<|List.mem_append_left _ hk) W<|m_ (b_<|Blk.lt hB1) aL;have oY:∀k∈So,k∉[g1]:=or1 (λk hk=>.inl<|(λk hk=>(λk hk=>(λk hk=>a8 k<|List.mem_append_right _ hk) k<|List.mem_append_right _ hk) k<|List.mem_append_right _ hk) k hk) W<|m_ (b_<|Blk.lt hB1) aL;have eb:=lt_ (lt_ hv.s ak.s) aM.s;refine dE0 z (c_a (α:=d_) b_U z z z z z ba (cM (e_ (cM (e_ (cr (Sl++(Sm++(Sn++(So++[g1])))) we) hv:Chg (· ∈ (Sl++(Sm++(Sn++(So++[g1]))))) we aA) ak (io<|f_<|f_<|f_<|f_ sr):Chg (· ∈ (Sl++(Sm++(Sn++(So++[g1]))))) we cj) aM:Chg (· ∈ (Sl++(Sm++(Sn++(So++[g1]))))) we fU) bJ (io<|f_<|i_ sr):Chg (· ∈ (Sl++(Sm++(Sn++(So++[g1]))))) we iz) (λk hk h=>(List.mem_append.1 h).elim (λh=>List.mem_append_left _ h) (λh=>(List.mem_append.1 h).elim (λh=>List.mem_append_right _<|List.mem_append_left _ h) (λh=>(List.mem_append.1 h).elim (λh=>List.mem_append_right _<|List.mem_append_right _<|List.mem_append_left _ h) (λh=>(List.mem_append.1 h).elim (λh=>List.mem_append_right _<|List.mem_append_right _<|List.mem_append_right _ h) (λh=>(λh=>absurd h<|W k hk) h))))) (b_t (x:=(⟨x4.name,x4.kind,x4.size,x4.little,x4.bytes,ix,x4.tags,x4.kids⟩:d_)) (S1:=Sl) (S2:=d5) (S3:=Sn) (S4:=So) dY dZ e0 ((((bb.e hv).c ak oW).e aM).c bJ<|nmL<|nj I) oU ((((bc.e hv).c ak oX).e aM).c bJ<|ds<|nmL<|nj<|nr_ I)<|(((be.e hv).c ak oY).e aM).c bJ<|ds<|nmR<|nj<|nr_ I) (na_ (nl_ I) (na_ oV (na_ (nl_<|nr_<|nr_ I) (nr_<|nr_<|nr_ I)<|nj<|nr_<|nr_ I)<|nmA (or2 ea (nmL<|nj<|nr_ I) an_ (m_ (a_.lt bc) eb):∀k∈d5,k∉Sn) (or2 ea (nmR<|nj<|nr_ I) an_ (m_ (a_.lt be) eb):∀k∈d5,k∉So))<|nmA (ds (or2 ea (ds<|nmL<|nj I) an_ (m_ (a_.lt bb) eb):∀k∈d5,k∉Sl))<|nmA (nmL<|nmR<|nj I)<|nmR<|nmR<|nj I) (aa_ (io<|i_ sr)<|aa_ (or2 ea (io<|f_<|i_ sr) an_ (j_ eb):∀k∈d5,k∈(Sl++(Sm++(Sn++So)))∨we.z<=k)<|aa_ (io<|f_<|f_<|i_ sr)<|io<|f_<|f_<|f_ sr)<|lb z) (.inl z) ?_;rintro _ oZ ⟨iA,fW,p0,p1,p2⟩;refine pD ?_;have p3:∀k∈Sm,k∉[wa.z]:=or1 (λk hk=>.inl<|(λk hk=>a8 k<|List.mem_append_right _ hk) k<|List.mem_append_left _ hk) (ds hb)<|m_ (b_ O.lt)<|lt_ cf a1.s;exact λ_ q=>⟨ij,ik,ar.rules.set (aw).toNat (⟨x4.name,x4.kind,x4.size,x4.little,x4.bytes,ix,x4.tags,x4.kids⟩:d_),som jQ,iA,q.k<|s2 z z,(cM (cM (e_ (cM (e_ (e_ (cr ([g1]++H) G) a1:Chg (· ∈ ([g1]++H)) G we) hv:Chg (· ∈ ([g1]++H)) G aA) ak (io<|i_ sr):Chg (· ∈ ([g1]++H)) G cj) aM:Chg (· ∈ ([g1]++H)) G fU) bJ iy:Chg (· ∈ ([g1]++H)) G iz) fW (io<|f_ sr):Chg (· ∈ ([g1]++H)) G oZ),il,im,p0,p1,(or1 p2 (io sr) (j_ a1.s):∀k∈iA,k∈H∨G.z<=k),((ip.e aM).c bJ<|djs iw).c fW<|djs W,((((ce.e hv).c ak<|atp L).e aM).c bJ<|djs p3).c fW<|atp hb⟩
         rintro p4 p5 ⟨d0,d1,dW,rfl,cd,_,p6,p7,p8,p9,pa,pb,pc,pd⟩;revert p4;exact λ_ q=>⟨d0,d1,dW,som<|a_w jK,cd,q.k<|s2 z z,(cM (cr ([g1]++H) G) p6 (aa_ (io<|i_ sr)<|io<|f_ sr):Chg (· ∈ ([g1]++H)) G p5),p7,p8,p9,pa,(or1 pb (io sr) (j_ lr):∀k∈cd,k∈H∨G.z<=k),pc,pd⟩
        refine Ws<|Rq z z z<|Rw z ?_
        obtain ⟨pe,gh,gi⟩:=bdS<|ifF ge eI;refine Wt (λa w=>∃(d6:Int)(d7:Int)(ec:List d_),Sum.inl (d6,d7,ec)=pe/\∃(ck:List Nat),Sat 140 [(2,pt w0.z),(3,pt wa.z)] a/\Chg (· ∈ ([g1]++H)) G w/\inI d6/\inI d7/\a_ w ck (sl ax ny cz) ec/\ck.Nodup/\(∀k∈ck,k∈H∨G.z<=k)/\Blk w g1 [sl A0 N0 C0,vI d6,vI d7]/\Blk w wa.z [sl ax ny cz]) ?_ ?_
        .refine Wc z (λeK=>?_)<|λeK=>?_
         .obtain ⟨pf,jR,jS⟩:=bdS<|ifT gh eK;refine Wt (λa w=>∃(d8:Int)(d9:Int)(ed:List d_),(d8,d9,ed)=pf/\∃(cl:List Nat),Sat 140 [(2,pt w0.z),(3,pt wa.z)] a/\Chg (· ∈ ([g1]++H)) G w/\inI d8/\inI d9/\a_ w cl (sl ax ny cz) ed/\cl.Nodup/\(∀k∈cl,k∈H∨G.z<=k)/\Blk w g1 [sl A0 N0 C0,vI d8,vI d9]/\Blk w wa.z [sl ax ny cz]) ?_ ?_
          .refine Wd (X:=λk=>k∈([g1]++H)∨G.z<=k) 65536 (.rd 0<|.rd 1<|.rd 2<|.rd 3<|.rd 4<|.rd 5<|.rd 6<|.rd 7<|.rd 9<|.br 8 (.ef 10<|.ef 11<|.ef 12<|.ef 13<|.rd 14<|.rd 15<|.ef 16 .done) 10<|.br 8 (.ef 11<|.ef 12<|.ef 13<|.rd 14<|.rd 15<|.ef 16 .done) 11<|.br 8 (.ef 12<|.ef 13<|.rd 14<|.rd 15<|.ef 16 .done) 12<|.ef 8<|.ef 13<|.rd 14<|.rd 15<|.ef 16 .done) mo (by kernel_rfl) λwf a2 _=>dR z z (fd R_ z) ?_
           have cm:=((aH.c st<|atp L).c s3<|atp L).e a2;have cn:=lt_ (lt_ an.s st.s) s3.s;refine dR z z (l1 S_ z (a_o (atp<|nmA L hb)<|Nat.lt_of_lt_of_le O.lt cn)<|cm.at z)<|dM z z z<|dR z z (fd R_ z)<|dR z z (l1 S_ z (a_o (atp<|nmA L hb)<|Nat.lt_of_lt_of_le O.lt cn)<|cm.at z)<|dM z z z ?_
           obtain ⟨x5,iB,ez⟩:=bdS jR;have Y:=n_ au (Blk.lt hB1) ae.s;have iC:=((aC.c st Y).c s3 Y).e a2;refine dRX z z (d_M (α:=d_) K_ p_ z z iC iB) ?_;rintro _ ⟨_,pg,rfl⟩;obtain ⟨_,_,ee,ph,J,a9,iD,bh⟩:=i_s pg iC aQ iB;obtain ⟨_,_,_,_,_,_,_,_,_,_,_,_,Sp,Sq,Sr,Ss,rfl,rfl,eg,eh,ei,bi,bj,ej,bk⟩:=e_d ph;refine dR z z (fd b_3 z)<|dM z z z<|b_H ?_ ?_
           .refine dAn z z (l0 F_ z<|ee.at (j:=6) z)<|dE z z (fS [(.const<|.int .i64 (-1)),.const<|.int .i64 0,.const<|.int .i64 5,.const<|.int .i64 256,(.const<|.int .i64 70000)] a_E z z z (L_ z) (lb z)<|lb z) (.inr λ_ _ h=>y_<|h.2.below) ?_
            rintro _ co ⟨rfl,iE⟩;have aF:=iE.below;have iF:a_ co [wf.z] (sl (some ⟨wf.z,0,none⟩) 5 5) ([(-1),0,5,256,70000]:List Int):=d_K (l:=[(-1),0,5,256,70000]) (iE.blk:Blk co wf.z [vI (-1),vI 0,vI 5,vI 256,vI 70000]) (ac0 (ii z)<|ac0 (ii z)<|ac0 (ii z)<|ac0 (ii z)<|ac0 (ii z) an0) z;have cp:=lt_ (lt_ av s3.s) a2.s;obtain ⟨pi,pj,pk,pl,jT⟩:=t_ ez;refine dE z z (fc call63 z<|d_e (B:=zn B wf.z co.z) pl ((aq.e a2).e aF) (a_B (zt' ad<|lt_ cp aF.s) lr) (atp ((a_F (b_ hBg) (b_<|Blk.lt hB1) cp):∀k∈[g1],¬(zn B wf.z co.z) k)) (repS.mono (am.g<|((ay.c s3<|c_<|b_ hBg).e a2).e aF) a_r) ao ap<|or_ iF<|zin (B:=B) (b_ lr)<|a_.lt iF) (.inr λ_ _ h=>h.1.mono λk _ hk=>(io<|i_ sr) k hk) ?_;rintro _ eL ⟨bm,rfl,iG,pm,pn,po⟩;refine dE z z (fS [(.tmp 131)] a_E z z z (L_ z) (lb z)<|lb z) (.inr λ_ _ h=>y_<|h.2.below) ?_;rintro _ eM ⟨rfl,eN⟩;have b0:=eN.below;have se:=a_6 eN<|a_O iG
            have iH:∀k∈Sr,k∉[g1]:=or1 (λk hk=>.inl<|(λk hk=>(λk hk=>a9 k<|List.mem_append_right _ hk) k<|List.mem_append_right _ hk) k<|List.mem_append_left _ hk) Y<|m_ (b_<|Blk.lt hB1) cp;obtain ⟨iI,pp,jU⟩:=bdS jT;have iJ:∀k∈Sr,k∈([g1]++H)∨G.z<=k:=or1 (λk hk=>.inl<|(λk hk=>(λk hk=>a9 k<|List.mem_append_right _ hk) k<|List.mem_append_right _ hk) k<|List.mem_append_left _ hk) (io<|f_ sr)<|j_ a2.s;refine dE z z (a_e (α:=Int) a_E pp z z (((ej.e aF).c bm iH).e b0) (nl_<|nr_<|nr_ J) (eN.blk:Blk eM eL.z [vI pi]) (a_O iG) an_ v_) (.inr λ_ _ h=>by obtain ⟨_,_,_,_,_,h,_⟩:=h;exact h.mono λk _ hk=>iJ k hk) ?_;rintro _ iK ⟨da,_,_,_,rfl,bK,pq,pr,ek⟩;refine dR z z (c_9 K_ p_ z z bh)<|dR z z (fd b_3 z) ?_
            have ps:∀k∈Sp,k∉[g1]:=or1 (λk hk=>.inl<|a9 k<|List.mem_append_left _ hk) Y<|m_ (b_<|Blk.lt hB1) cp;have pu:∀k∈Sq,k∉[g1]:=or1 (λk hk=>.inl<|(λk hk=>a9 k<|List.mem_append_right _ hk) k<|List.mem_append_left _ hk) Y<|m_ (b_<|Blk.lt hB1) cp;have pw:∀k∈Ss,k∉[g1]:=or1 (λk hk=>.inl<|(λk hk=>(λk hk=>(λk hk=>a9 k<|List.mem_append_right _ hk) k<|List.mem_append_right _ hk) k<|List.mem_append_right _ hk) k hk) Y<|m_ (b_<|Blk.lt hB1) cp;have em:=lt_ (lt_ aF.s bm.s) b0.s;refine dE0 z (c_a (α:=d_) c_p z z z z z bh (cM (e_ (cM (e_ (cr (Sp++(Sq++(Sr++(Ss++[g1])))) wf) aF:Chg (· ∈ (Sp++(Sq++(Sr++(Ss++[g1]))))) wf co) bm (io<|f_<|f_<|f_<|f_ sr):Chg (· ∈ (Sp++(Sq++(Sr++(Ss++[g1]))))) wf eL) b0:Chg (· ∈ (Sp++(Sq++(Sr++(Ss++[g1]))))) wf eM) bK (io<|f_<|f_<|i_ sr):Chg (· ∈ (Sp++(Sq++(Sr++(Ss++[g1]))))) wf iK) (λk hk h=>(List.mem_append.1 h).elim (λh=>List.mem_append_left _ h) (λh=>(List.mem_append.1 h).elim (λh=>List.mem_append_right _<|List.mem_append_left _ h) (λh=>(List.mem_append.1 h).elim (λh=>List.mem_append_right _<|List.mem_append_right _<|List.mem_append_left _ h) (λh=>(List.mem_append.1 h).elim (λh=>List.mem_append_right _<|List.mem_append_right _<|List.mem_append_right _ h) (λh=>(λh=>absurd h<|Y k hk) h))))) (b_t (x:=(⟨x5.name,x5.kind,x5.size,x5.little,x5.bytes,x5.names,iI,x5.kids⟩:d_)) (S1:=Sp) (S2:=Sq) (S3:=da) (S4:=Ss) eg eh ei ((((bi.e aF).c bm ps).e b0).c bK<|nmL<|nmR<|nj J) ((((bj.e aF).c bm pu).e b0).c bK<|nmL<|nj<|nr_ J) pq<|(((bk.e aF).c bm pw).e b0).c bK<|ds<|nj<|nr_<|nr_ J) (na_ (nl_ J) (na_ (nl_<|nr_ J) (na_ pr (nr_<|nr_<|nr_ J) (or2 ek (nj<|nr_<|nr_ J) an_ (m_ (a_.lt bk) em):∀k∈da,k∉Ss))<|nmA (ds (or2 ek (ds<|nmL<|nj<|nr_ J) an_ (m_ (a_.lt bj) em):∀k∈da,k∉Sq))<|nmR<|nj<|nr_ J)<|nmA (nmL<|nj J)<|nmA (ds (or2 ek (ds<|nmL<|nmR<|nj J) an_ (m_ (a_.lt bi) em):∀k∈da,k∉Sp))<|nmR<|nmR<|nj J) (aa_ (io<|i_ sr)<|aa_ (io<|f_<|i_ sr)<|aa_ (or2 ek (io<|f_<|f_<|i_ sr) an_ (j_ em):∀k∈da,k∈(Sp++(Sq++(Sr++Ss)))∨wf.z<=k)<|io<|f_<|f_<|f_ sr)<|lb z) (.inl z) ?_;rintro _ px ⟨iL,eO,py,pz,pA⟩;refine pD ?_;have pB:∀k∈Sr,k∉[wa.z]:=or1 (λk hk=>.inl<|(λk hk=>(λk hk=>a9 k<|List.mem_append_right _ hk) k<|List.mem_append_right _ hk) k<|List.mem_append_left _ hk) (ds hb)<|m_ (b_ O.lt)<|lt_ cn a2.s;exact λ_ q=>⟨pj,pk,ar.rules.set (aw).toNat (⟨x5.name,x5.kind,x5.size,x5.little,x5.bytes,x5.names,iI,x5.kids⟩:d_),som jU,iL,q.k<|s2 z z,(cM (cM (e_ (cM (e_ (e_ (cr ([g1]++H) G) a2:Chg (· ∈ ([g1]++H)) G wf) aF:Chg (· ∈ ([g1]++H)) G co) bm (io<|i_ sr):Chg (· ∈ ([g1]++H)) G eL) b0:Chg (· ∈ ([g1]++H)) G eM) bK iJ:Chg (· ∈ ([g1]++H)) G iK) eO (io<|f_ sr):Chg (· ∈ ([g1]++H)) G px),pm,pn,py,pz,(or1 pA (io sr) (j_ a2.s):∀k∈iL,k∈H∨G.z<=k),((po.e b0).c bK<|djs iH).c eO<|djs Y,((((cm.e aF).c bm<|atp L).e b0).c bK<|djs pB).c eO<|atp hb⟩
           refine dE z z (fS [(.const<|.int .i64 (-1)),.const<|.int .i64 0,.const<|.int .i64 5,.const<|.int .i64 256,(.const<|.int .i64 70000)] a_E z z z (L_ z) (lb z)<|lb z) (.inr λ_ _ h=>y_<|h.2.below) ?_;rintro _ aB ⟨rfl,iM⟩;have hw:=iM.below;have en:a_ aB [wf.z] (sl (some ⟨wf.z,0,none⟩) 5 5) ([(-1),0,5,256,70000]:List Int):=d_K (l:=[(-1),0,5,256,70000]) (iM.blk:Blk aB wf.z [vI (-1),vI 0,vI 5,vI 256,vI 70000]) (ac0 (ii z)<|ac0 (ii z)<|ac0 (ii z)<|ac0 (ii z)<|ac0 (ii z) an0) z;refine b_H ?_ ?_
           .refine dAn z z (l0 F_ z<|(ee.e hw).at (j:=6) z) ?_;have cq:=lt_ (lt_ av s3.s) a2.s;obtain ⟨pC,pE,pF,pG,jV⟩:=t_ ez;refine dE z z (fc call63 z<|d_e (B:=zn B wf.z aB.z) pG ((aq.e a2).e hw) (a_B (zt' ad<|lt_ cq hw.s) lr) (atp ((a_F (b_ hBg) (b_<|Blk.lt hB1) cq):∀k∈[g1],¬(zn B wf.z aB.z) k)) (repS.mono (am.g<|((ay.c s3<|c_<|b_ hBg).e a2).e hw) a_r) ao ap<|or_ en<|zin (B:=B) (b_ lr)<|a_.lt en) (.inr λ_ _ h=>h.1.mono λk _ hk=>(io<|i_ sr) k hk) ?_;rintro _ eP ⟨bn,rfl,iN,pH,pI,pJ⟩;refine dE z z (fS [(.tmp 131)] a_E z z z (L_ z) (lb z)<|lb z) (.inr λ_ _ h=>y_<|h.2.below) ?_;rintro _ eQ ⟨rfl,eR⟩;have b1:=eR.below;have sf:=a_6 eR<|a_O iN
            have iO:∀k∈Sr,k∉[g1]:=or1 (λk hk=>.inl<|(λk hk=>(λk hk=>a9 k<|List.mem_append_right _ hk) k<|List.mem_append_right _ hk) k<|List.mem_append_left _ hk) Y<|m_ (b_<|Blk.lt hB1) cq;obtain ⟨iP,pK,jW⟩:=bdS jV;have iQ:∀k∈Sr,k∈([g1]++H)∨G.z<=k:=or1 (λk hk=>.inl<|(λk hk=>(λk hk=>a9 k<|List.mem_append_right _ hk) k<|List.mem_append_right _ hk) k<|List.mem_append_left _ hk) (io<|f_ sr)<|j_ a2.s;refine dE z z (a_e (α:=Int) a_E pK z z (((ej.e hw).c bn iO).e b1) (nl_<|nr_<|nr_ J) (eR.blk:Blk eQ eP.z [vI pC]) (a_O iN) an_ v_) (.inr λ_ _ h=>by obtain ⟨_,_,_,_,_,h,_⟩:=h;exact h.mono λk _ hk=>iQ k hk) ?_;rintro _ iR ⟨db,_,_,_,rfl,bL,pL,pM,eo⟩;refine dR z z (c_9 K_ p_ z z bh)<|dR z z (fd b_3 z) ?_
            have pN:∀k∈Sp,k∉[g1]:=or1 (λk hk=>.inl<|a9 k<|List.mem_append_left _ hk) Y<|m_ (b_<|Blk.lt hB1) cq;have pO:∀k∈Sq,k∉[g1]:=or1 (λk hk=>.inl<|(λk hk=>a9 k<|List.mem_append_right _ hk) k<|List.mem_append_left _ hk) Y<|m_ (b_<|Blk.lt hB1) cq;have pP:∀k∈Ss,k∉[g1]:=or1 (λk hk=>.inl<|(λk hk=>(λk hk=>(λk hk=>a9 k<|List.mem_append_right _ hk) k<|List.mem_append_right _ hk) k<|List.mem_append_right _ hk) k hk) Y<|m_ (b_<|Blk.lt hB1) cq;have ep:=lt_ (lt_ hw.s bn.s) b1.s;refine dE0 z (c_a (α:=d_) c_p z z z z z bh (cM (e_ (cM (e_ (cr (Sp++(Sq++(Sr++(Ss++[g1])))) wf) hw:Chg (· ∈ (Sp++(Sq++(Sr++(Ss++[g1]))))) wf aB) bn (io<|f_<|f_<|f_<|f_ sr):Chg (· ∈ (Sp++(Sq++(Sr++(Ss++[g1]))))) wf eP) b1:Chg (· ∈ (Sp++(Sq++(Sr++(Ss++[g1]))))) wf eQ) bL (io<|f_<|f_<|i_ sr):Chg (· ∈ (Sp++(Sq++(Sr++(Ss++[g1]))))) wf iR) (λk hk h=>(List.mem_append.1 h).elim (λh=>List.mem_append_left _ h) (λh=>(List.mem_append.1 h).elim (λh=>List.mem_append_right _<|List.mem_append_left _ h) (λh=>(List.mem_append.1 h).elim (λh=>List.mem_append_right _<|List.mem_append_right _<|List.mem_append_left _ h) (λh=>(List.mem_append.1 h).elim (λh=>List.mem_append_right _<|List.mem_append_right _<|List.mem_append_right _ h) (λh=>(λh=>absurd h<|Y k hk) h))))) (b_t (x:=(⟨x5.name,x5.kind,x5.size,x5.little,x5.bytes,x5.names,iP,x5.kids⟩:d_)) (S1:=Sp) (S2:=Sq) (S3:=db) (S4:=Ss) eg eh ei ((((bi.e hw).c bn pN).e b1).c bL<|nmL<|nmR<|nj J) ((((bj.e hw).c bn pO).e b1).c bL<|nmL<|nj<|nr_ J) pL<|(((bk.e hw).c bn pP).e b1).c bL<|ds<|nj<|nr_<|nr_ J) (na_ (nl_ J) (na_ (nl_<|nr_ J) (na_ pM (nr_<|nr_<|nr_ J) (or2 eo (nj<|nr_<|nr_ J) an_ (m_ (a_.lt bk) ep):∀k∈db,k∉Ss))<|nmA (ds (or2 eo (ds<|nmL<|nj<|nr_ J) an_ (m_ (a_.lt bj) ep):∀k∈db,k∉Sq))<|nmR<|nj<|nr_ J)<|nmA (nmL<|nj J)<|nmA (ds (or2 eo (ds<|nmL<|nmR<|nj J) an_ (m_ (a_.lt bi) ep):∀k∈db,k∉Sp))<|nmR<|nmR<|nj J) (aa_ (io<|i_ sr)<|aa_ (io<|f_<|i_ sr)<|aa_ (or2 eo (io<|f_<|f_<|i_ sr) an_ (j_ ep):∀k∈db,k∈(Sp++(Sq++(Sr++Ss)))∨wf.z<=k)<|io<|f_<|f_<|f_ sr)<|lb z) (.inl z) ?_;rintro _ pQ ⟨iT,eS,pR,pS,pT⟩;refine pD ?_;have pU:∀k∈Sr,k∉[wa.z]:=or1 (λk hk=>.inl<|(λk hk=>(λk hk=>a9 k<|List.mem_append_right _ hk) k<|List.mem_append_right _ hk) k<|List.mem_append_left _ hk) (ds hb)<|m_ (b_ O.lt)<|lt_ cn a2.s;exact λ_ q=>⟨pE,pF,ar.rules.set (aw).toNat (⟨x5.name,x5.kind,x5.size,x5.little,x5.bytes,x5.names,iP,x5.kids⟩:d_),som jW,iT,q.k<|s2 z z,(cM (cM (e_ (cM (e_ (e_ (cr ([g1]++H) G) a2:Chg (· ∈ ([g1]++H)) G wf) hw:Chg (· ∈ ([g1]++H)) G aB) bn (io<|i_ sr):Chg (· ∈ ([g1]++H)) G eP) b1:Chg (· ∈ ([g1]++H)) G eQ) bL iQ:Chg (· ∈ ([g1]++H)) G iR) eS (io<|f_ sr):Chg (· ∈ ([g1]++H)) G pQ),pH,pI,pR,pS,(or1 pT (io sr) (j_ a2.s):∀k∈iT,k∈H∨G.z<=k),((pJ.e b1).c bL<|djs iO).c eS<|djs Y,((((cm.e hw).c bn<|atp L).e b1).c bL<|djs pU).c eS<|atp hb⟩
           have aN:=lt_ (lt_ av s3.s) a2.s;obtain ⟨iU,iV,iW,pV,gj⟩:=t_ ez;refine dE z z (fc call63 z<|d_e (B:=zn B wf.z aB.z) pV ((aq.e a2).e hw) (a_B (zt' ad<|lt_ aN hw.s) lr) (atp ((a_F (b_ hBg) (b_<|Blk.lt hB1) aN):∀k∈[g1],¬(zn B wf.z aB.z) k)) (repS.mono (am.g<|((ay.c s3<|c_<|b_ hBg).e a2).e hw) a_r) ao ap<|or_ en<|zin (B:=B) (b_ lr)<|a_.lt en) (.inr λ_ _ h=>h.1.mono λk _ hk=>(io<|i_ sr) k hk) ?_;rintro _ ct ⟨al,rfl,er,iX,iY,iZ⟩;refine b_H ?_ ?_
           .refine dAn z z (l0 F_ z<|((ee.e hw).c al<|Y _ iD).at (j:=6) z)<|dE z z (fS [(.tmp 131)] a_E z z z (L_ z) (lb z)<|lb z) (.inr λ_ _ h=>y_<|h.2.below) ?_
            rintro _ eT ⟨rfl,eU⟩;have b2:=eU.below;have sg:=a_6 eU<|a_O er
            have j0:∀k∈Sr,k∉[g1]:=or1 (λk hk=>.inl<|(λk hk=>(λk hk=>a9 k<|List.mem_append_right _ hk) k<|List.mem_append_right _ hk) k<|List.mem_append_left _ hk) Y<|m_ (b_<|Blk.lt hB1) aN;obtain ⟨j1,pW,jX⟩:=bdS gj;have j2:∀k∈Sr,k∈([g1]++H)∨G.z<=k:=or1 (λk hk=>.inl<|(λk hk=>(λk hk=>a9 k<|List.mem_append_right _ hk) k<|List.mem_append_right _ hk) k<|List.mem_append_left _ hk) (io<|f_ sr)<|j_ a2.s;refine dE z z (a_e (α:=Int) a_E pW z z (((ej.e hw).c al j0).e b2) (nl_<|nr_<|nr_ J) (eU.blk:Blk eT ct.z [vI iU]) (a_O er) an_ v_) (.inr λ_ _ h=>by obtain ⟨_,_,_,_,_,h,_⟩:=h;exact h.mono λk _ hk=>j2 k hk) ?_;rintro _ j3 ⟨dc,_,_,_,rfl,bM,pX,pY,es⟩;refine dR z z (c_9 K_ p_ z z bh)<|dR z z (fd b_3 z) ?_
            have pZ:∀k∈Sp,k∉[g1]:=or1 (λk hk=>.inl<|a9 k<|List.mem_append_left _ hk) Y<|m_ (b_<|Blk.lt hB1) aN;have q0:∀k∈Sq,k∉[g1]:=or1 (λk hk=>.inl<|(λk hk=>a9 k<|List.mem_append_right _ hk) k<|List.mem_append_left _ hk) Y<|m_ (b_<|Blk.lt hB1) aN;have q1:∀k∈Ss,k∉[g1]:=or1 (λk hk=>.inl<|(λk hk=>(λk hk=>(λk hk=>a9 k<|List.mem_append_right _ hk) k<|List.mem_append_right _ hk) k<|List.mem_append_right _ hk) k hk) Y<|m_ (b_<|Blk.lt hB1) aN;have eu:=lt_ (lt_ hw.s al.s) b2.s;refine dE0 z (c_a (α:=d_) c_p z z z z z bh (cM (e_ (cM (e_ (cr (Sp++(Sq++(Sr++(Ss++[g1])))) wf) hw:Chg (· ∈ (Sp++(Sq++(Sr++(Ss++[g1]))))) wf aB) al (io<|f_<|f_<|f_<|f_ sr):Chg (· ∈ (Sp++(Sq++(Sr++(Ss++[g1]))))) wf ct) b2:Chg (· ∈ (Sp++(Sq++(Sr++(Ss++[g1]))))) wf eT) bM (io<|f_<|f_<|i_ sr):Chg (· ∈ (Sp++(Sq++(Sr++(Ss++[g1]))))) wf j3) (λk hk h=>(List.mem_append.1 h).elim (λh=>List.mem_append_left _ h) (λh=>(List.mem_append.1 h).elim (λh=>List.mem_append_right _<|List.mem_append_left _ h) (λh=>(List.mem_append.1 h).elim (λh=>List.mem_append_right _<|List.mem_append_right _<|List.mem_append_left _ h) (λh=>(List.mem_append.1 h).elim (λh=>List.mem_append_right _<|List.mem_append_right _<|List.mem_append_right _ h) (λh=>(λh=>absurd h<|Y k hk) h))))) (b_t (x:=(⟨x5.name,x5.kind,x5.size,x5.little,x5.bytes,x5.names,j1,x5.kids⟩:d_)) (S1:=Sp) (S2:=Sq) (S3:=dc) (S4:=Ss) eg eh ei ((((bi.e hw).c al pZ).e b2).c bM<|nmL<|nmR<|nj J) ((((bj.e hw).c al q0).e b2).c bM<|nmL<|nj<|nr_ J) pX<|(((bk.e hw).c al q1).e b2).c bM<|ds<|nj<|nr_<|nr_ J) (na_ (nl_ J) (na_ (nl_<|nr_ J) (na_ pY (nr_<|nr_<|nr_ J) (or2 es (nj<|nr_<|nr_ J) an_ (m_ (a_.lt bk) eu):∀k∈dc,k∉Ss))<|nmA (ds (or2 es (ds<|nmL<|nj<|nr_ J) an_ (m_ (a_.lt bj) eu):∀k∈dc,k∉Sq))<|nmR<|nj<|nr_ J)<|nmA (nmL<|nj J)<|nmA (ds (or2 es (ds<|nmL<|nmR<|nj J) an_ (m_ (a_.lt bi) eu):∀k∈dc,k∉Sp))<|nmR<|nmR<|nj J) (aa_ (io<|i_ sr)<|aa_ (io<|f_<|i_ sr)<|aa_ (or2 es (io<|f_<|f_<|i_ sr) an_ (j_ eu):∀k∈dc,k∈(Sp++(Sq++(Sr++Ss)))∨wf.z<=k)<|io<|f_<|f_<|f_ sr)<|lb z) (.inl z) ?_;rintro _ q2 ⟨j4,eV,q3,q4,q5⟩;refine pD ?_;have q6:∀k∈Sr,k∉[wa.z]:=or1 (λk hk=>.inl<|(λk hk=>(λk hk=>a9 k<|List.mem_append_right _ hk) k<|List.mem_append_right _ hk) k<|List.mem_append_left _ hk) (ds hb)<|m_ (b_ O.lt)<|lt_ cn a2.s;exact λ_ q=>⟨iV,iW,ar.rules.set (aw).toNat (⟨x5.name,x5.kind,x5.size,x5.little,x5.bytes,x5.names,j1,x5.kids⟩:d_),som jX,j4,q.k<|s2 z z,(cM (cM (e_ (cM (e_ (e_ (cr ([g1]++H) G) a2:Chg (· ∈ ([g1]++H)) G wf) hw:Chg (· ∈ ([g1]++H)) G aB) al (io<|i_ sr):Chg (· ∈ ([g1]++H)) G ct) b2:Chg (· ∈ ([g1]++H)) G eT) bM j2:Chg (· ∈ ([g1]++H)) G j3) eV (io<|f_ sr):Chg (· ∈ ([g1]++H)) G q2),iX,iY,q3,q4,(or1 q5 (io sr) (j_ a2.s):∀k∈j4,k∈H∨G.z<=k),((iZ.e b2).c bM<|djs j0).c eV<|djs Y,((((cm.e hw).c al<|atp L).e b2).c bM<|djs q6).c eV<|atp hb⟩
           refine dE z z (fS [(.tmp 131)] a_E z z z (L_ z) (lb z)<|lb z) (.inr λ_ _ h=>y_<|h.2.below) ?_;rintro _ eW ⟨rfl,eX⟩;have aO:=eX.below;have sh:=a_6 eX<|a_O er
           refine dAn z z (l0 F_ z<|(((ee.e hw).c al<|Y _ iD).e aO).at (j:=6) z) ?_;have j5:∀k∈Sr,k∉[g1]:=or1 (λk hk=>.inl<|(λk hk=>(λk hk=>a9 k<|List.mem_append_right _ hk) k<|List.mem_append_right _ hk) k<|List.mem_append_left _ hk) Y<|m_ (b_<|Blk.lt hB1) aN;obtain ⟨j6,q7,jY⟩:=bdS gj;have j7:∀k∈Sr,k∈([g1]++H)∨G.z<=k:=or1 (λk hk=>.inl<|(λk hk=>(λk hk=>a9 k<|List.mem_append_right _ hk) k<|List.mem_append_right _ hk) k<|List.mem_append_left _ hk) (io<|f_ sr)<|j_ a2.s;refine dE z z (a_e (α:=Int) a_E q7 z z (((ej.e hw).c al j5).e aO) (nl_<|nr_<|nr_ J) (eX.blk:Blk eW ct.z [vI iU]) (a_O er) an_ v_) (.inr λ_ _ h=>by obtain ⟨_,_,_,_,_,h,_⟩:=h;exact h.mono λk _ hk=>j7 k hk) ?_;rintro _ j8 ⟨dd,_,_,_,rfl,bN,q8,q9,ew⟩;refine dR z z (c_9 K_ p_ z z bh)<|dR z z (fd b_3 z) ?_
           have qa:∀k∈Sp,k∉[g1]:=or1 (λk hk=>.inl<|a9 k<|List.mem_append_left _ hk) Y<|m_ (b_<|Blk.lt hB1) aN;have qb:∀k∈Sq,k∉[g1]:=or1 (λk hk=>.inl<|(λk hk=>a9 k<|List.mem_append_right _ hk) k<|List.mem_append_left _ hk) Y<|m_ (b_<|Blk.lt hB1) aN;have qc:∀k∈Ss,k∉[g1]:=or1 (λk hk=>.inl<|(λk hk=>(λk hk=>(λk hk=>a9 k<|List.mem_append_right _ hk) k<|List.mem_append_right _ hk) k<|List.mem_append_right _ hk) k hk) Y<|m_ (b_<|Blk.lt hB1) aN;have ex:=lt_ (lt_ hw.s al.s) aO.s;refine dE0 z (c_a (α:=d_) c_p z z z z z bh (cM (e_ (cM (e_ (cr (Sp++(Sq++(Sr++(Ss++[g1])))) wf) hw:Chg (· ∈ (Sp++(Sq++(Sr++(Ss++[g1]))))) wf aB) al (io<|f_<|f_<|f_<|f_ sr):Chg (· ∈ (Sp++(Sq++(Sr++(Ss++[g1]))))) wf ct) aO:Chg (· ∈ (Sp++(Sq++(Sr++(Ss++[g1]))))) wf eW) bN (io<|f_<|f_<|i_ sr):Chg (· ∈ (Sp++(Sq++(Sr++(Ss++[g1]))))) wf j8) (λk hk h=>(List.mem_append.1 h).elim (λh=>List.mem_append_left _ h) (λh=>(List.mem_append.1 h).elim (λh=>List.mem_append_right _<|List.mem_append_left _ h) (λh=>(List.mem_append.1 h).elim (λh=>List.mem_append_right _<|List.mem_append_right _<|List.mem_append_left _ h) (λh=>(List.mem_append.1 h).elim (λh=>List.mem_append_right _<|List.mem_append_right _<|List.mem_append_right _ h) (λh=>(λh=>absurd h<|Y k hk) h))))) (b_t (x:=(⟨x5.name,x5.kind,x5.size,x5.little,x5.bytes,x5.names,j6,x5.kids⟩:d_)) (S1:=Sp) (S2:=Sq) (S3:=dd) (S4:=Ss) eg eh ei ((((bi.e hw).c al qa).e aO).c bN<|nmL<|nmR<|nj J) ((((bj.e hw).c al qb).e aO).c bN<|nmL<|nj<|nr_ J) q8<|(((bk.e hw).c al qc).e aO).c bN<|ds<|nj<|nr_<|nr_ J) (na_ (nl_ J) (na_ (nl_<|nr_ J) (na_ q9 (nr_<|nr_<|nr_ J) (or2 ew (nj<|nr_<|nr_ J) an_ (m_ (a_.lt bk) ex):∀k∈dd,k∉Ss))<|nmA (ds (or2 ew (ds<|nmL<|nj<|nr_ J) an_ (m_ (a_.lt bj) ex):∀k∈dd,k∉Sq))<|nmR<|nj<|nr_ J)<|nmA (nmL<|nj J)<|nmA (ds (or2 ew (ds<|nmL<|nmR<|nj J) an_ (m_ (a_.lt bi) ex):∀k∈dd,k∉Sp))<|nmR<|nmR<|nj J) (aa_ (io<|i_ sr)<|aa_ (io<|f_<|i_ sr)<|aa_ (or2 ew (io<|f_<|f_<|i_ sr) an_ (j_ ex):∀k∈dd,k∈(Sp++(Sq++(Sr++Ss)))∨wf.z<=k)<|io<|f_<|f_<|f_ sr)<|lb z) (.inl z) ?_;rintro _ qd ⟨j9,eY,qe,qf,qg⟩;refine pD ?_;have qh:∀k∈Sr,k∉[wa.z]:=or1 (λk hk=>.inl<|(λk hk=>(λk hk=>a9 k<|List.mem_append_right _ hk) k<|List.mem_append_right _ hk) k<|List.mem_append_left _ hk) (ds hb)<|m_ (b_ O.lt)<|lt_ cn a2.s;exact λ_ q=>⟨iV,iW,ar.rules.set (aw).toNat (⟨x5.name,x5.kind,x5.size,x5.little,x5.bytes,x5.names,j6,x5.kids⟩:d_),som jY,j9,q.k<|s2 z z,(cM (cM (e_ (cM (e_ (e_ (cr ([g1]++H) G) a2:Chg (· ∈ ([g1]++H)) G wf) hw:Chg (· ∈ ([g1]++H)) G aB) al (io<|i_ sr):Chg (· ∈ ([g1]++H)) G ct) aO:Chg (· ∈ ([g1]++H)) G eW) bN j7:Chg (· ∈ ([g1]++H)) G j8) eY (io<|f_ sr):Chg (· ∈ ([g1]++H)) G qd),iX,iY,qe,qf,(or1 qg (io sr) (j_ a2.s):∀k∈j9,k∈H∨G.z<=k),((iZ.e aO).c bN<|djs j5).c eY<|djs Y,((((cm.e hw).c al<|atp L).e aO).c bN<|djs qh).c eY<|atp hb⟩
          rintro qi qj ⟨d8,d9,ed,rfl,cl,_,qk,ql,qm,qn,qo,qp,qq,qr⟩;revert qi;exact λ_ q=>⟨d8,d9,ed,som<|a_w jS,cl,q.k<|s2 z z,(cM (cr ([g1]++H) G) qk (aa_ (io<|i_ sr)<|io<|f_ sr):Chg (· ∈ ([g1]++H)) G qj),ql,qm,qn,qo,(or1 qp (io sr) (j_ lr):∀k∈cl,k∈H∨G.z<=k),qq,qr⟩
         have gk:=ifF gh eK;refine Ws<|Rq z z z<|Rw z<|Wc z (λeA=>?_) (λeA=>?_)
         .refine Ws<|R z (bP (parts:=[]) (cs:=[sN]) n_k z z) ?_
          have ey:=mmr<|Blk.lt hB1
          refine E0 (fs0 (cur':=[sN]) z_ z z (((((bO.c aP<|atp ey).e aG).c an<|djs<|mm1 bO.lt aP.s).c st<|atp ey).c s3<|atp ey) z z z z) ?_;rintro _ qs ⟨qt,qu⟩;have ja:=qu.one;refine Wn ?_;obtain rfl:=som<|ifT gk eA;have jZ:=elR gi;obtain rfl:=som jZ;have k0:=elR gf;obtain rfl:=som k0;have ka:=elR gb;obtain rfl:=som ka;have kb:=elR g7;obtain rfl:=som kb;have kc:=elR g5;obtain rfl:=som kc;have kd:=elR g3;obtain rfl:=som kd;have ke:=elR g0;obtain rfl:=som ke;have kf:=elR fY;obtain rfl:=som kf;exact Wr<|rtO<|k_ hr (x_ B_ z_ z qt z) ⟨(cM (cM (cM (cM (e_ (cM (e_ (cr [g1] w0) ae:Cg [g1] w0 df) aP (io sr):Cg [g1] w0 wa) aG:Cg [g1] w0 f0) an (mor cu:∀k∈[wa.z],k∈[g1]∨w0.z<=k):Cg [g1] w0 gn) st (io sr):Cg [g1] w0 gr) s3 (io sr):Cg [g1] w0 G) ja (mor lr:∀k∈[w0.z],k∈[g1]∨w0.z<=k):Cg [g1] w0 qs),none,0,0,[],z,onL,ao,ap,aq.c ja<|djs ey,v_,an_⟩
         refine Z_ ?_;have jb:=n_ au (Blk.lt hB1) ae.s;exact λ_ q=>⟨gs,gt,ar.rules,som<|ifF gk eA,H,q.k<|s2 z z,cr ([g1]++H) G,ao,ap,(aC.c st jb).c s3 jb,aQ,io sr,aq,(aH.c st<|atp L).c s3<|atp L⟩
        rintro qv qw ⟨d6,d7,ec,rfl,ck,_,qx,qy,qz,qA,qB,qC,qD,qE⟩;have kg:=elL gi;revert qv;exact λ_ q=>⟨d6,d7,ec,som<|a_w kg,ck,q.k<|s2 z z,(cM (cr ([g1]++H) G) qx (aa_ (io<|i_ sr)<|io<|f_ sr):Chg (· ∈ ([g1]++H)) G qw),qy,qz,qA,qB,(or1 qC (io sr) (j_ lr):∀k∈ck,k∈H∨G.z<=k),qD,qE⟩
       rintro qF qG ⟨cY,cZ,dV,rfl,cc,_,qH,qI,qJ,qK,qL,qM,qN,qO⟩;have kh:=elL gf;revert qF;exact λ_ q=>⟨cY,cZ,dV,som<|a_w kh,cc,q.k<|s2 z z,(cM (cr ([g1]++H) G) qH (aa_ (io<|i_ sr)<|io<|f_ sr):Chg (· ∈ ([g1]++H)) G qG),qI,qJ,qK,qL,(or1 qM (io sr) (j_ lr):∀k∈cc,k∈H∨G.z<=k),qN,qO⟩
      rintro qP qQ ⟨cQ,cR,dB,rfl,c4,_,qR,qS,qT,qU,qV,qW,qX,qY⟩;have ki:=elL gb;revert qP;exact λ_ q=>⟨cQ,cR,dB,som<|a_w ki,c4,q.k<|s2 z z,(cM (cr ([g1]++H) G) qR (aa_ (io<|i_ sr)<|io<|f_ sr):Chg (· ∈ ([g1]++H)) G qQ),qS,qT,qU,qV,(or1 qW (io sr) (j_ lr):∀k∈c4,k∈H∨G.z<=k),qX,qY⟩
     rintro qZ r0 ⟨cF,cG,dt,rfl,bX,_,r1,r2,r3,r4,r5,r6,r7,r8⟩;have kj:=elL g7;revert qZ;exact λ_ q=>⟨cF,cG,dt,som<|a_w kj,bX,q.k<|s2 z z,(cM (cr (H++[g1]) G) r1 (aa_ (io<|f_ sr)<|io<|i_ sr):Chg (· ∈ (H++[g1])) G r0),r2,r3,r4,r5,(or1 r6 (io sr) (j_ lr):∀k∈bX,k∈H∨G.z<=k),r7,r8⟩
    rintro r9 ra ⟨cC,cD,dr,rfl,bW,_,rb,rc,re,rf,rg,rh,ri,rj⟩;have kk:=elL g5;revert r9;exact λ_ q=>⟨cC,cD,dr,som<|a_w kk,bW,q.k<|s2 z z,(cM (cr ([g1]++H) G) rb (aa_ (io<|f_ sr)<|io<|i_ sr):Chg (· ∈ ([g1]++H)) G ra),rc,re,rf,rg,(or1 rh (io sr) (j_ lr):∀k∈bW,k∈H∨G.z<=k),ri,rj⟩
   rintro rk rl ⟨cy,cA,dn,rfl,bU,_,rm,rn,ro,rp,rq,rr,ru,rv⟩;have kl:=elL g3;revert rk;exact λ_ q=>⟨cy,cA,dn,som<|a_w kl,bU,q.k<|s2 z z,(cM (cr ([g1]++H) G) rm (aa_ (io<|i_ sr)<|io<|f_ sr):Chg (· ∈ ([g1]++H)) G rl),rn,ro,rp,rq,(or1 rr (io sr) (j_ lr):∀k∈bU,k∈H∨G.z<=k),ru,rv⟩
  rintro rx ry ⟨cw,cx,dk,rfl,bT,_,rz,rA,rB,rC,rD,rE,rF,rG⟩;have km:=elL g0;revert rx;exact λ_ q=>⟨cw,cx,dk,som<|a_w km,bT,q.k<|s2 z z,(cM (cr ([g1]++H) G) rz (aa_ (io<|i_ sr)<|io<|f_ sr):Chg (· ∈ ([g1]++H)) G ry),rA,rB,rC,rD,(or1 rE (io sr) (j_ lr):∀k∈bT,k∈H∨G.z<=k),rF,rG⟩
 rintro rH rI ⟨dg,dh,f1,rfl,bR,_,jc,rJ,rK,rL,rM,jd,rN,rO⟩;have kn:=elL fY;revert rH;refine Wo<|Ws<|R z (lN (vs:=[sl ax ny cz]) B_ z_ z z fid<|rO.row 0 1 z) ?_
 have de:=mmr<|Blk.lt hB1
 have je:=n_ au bO.lt lr;refine E0 (fs0 (cur':=[sl ax ny cz]) z_ z z ((((((bO.c aP<|atp de).e aG).c an<|djs<|mm1 bO.lt aP.s).c st<|atp de).c s3<|atp de).c jc<|atp<|nmA de<|ds je) z z z z) ?_;rintro _ rP ⟨rR,rS⟩;have eZ:=rS.one;refine Wn ?_;obtain rfl:=som<|a_w kn;exact Wr<|k_ hr (x_ B_ z_ z rR z) ⟨(cM (cM (cM (cM (cM (e_ (cM (e_ (cr [g1] w0) ae:Cg [g1] w0 df) aP (io sr):Cg [g1] w0 wa) aG:Cg [g1] w0 f0) an (mor cu:∀k∈[wa.z],k∈[g1]∨w0.z<=k):Cg [g1] w0 gn) st (io sr):Cg [g1] w0 gr) s3 (io sr):Cg [g1] w0 G) jc (aa_ (io sr) (or0 au (j_ ae.s):∀k∈H,k∈[g1]∨w0.z<=k)):Cg [g1] w0 rI) eZ (mor lr:∀k∈[w0.z],k∈[g1]∨w0.z<=k):Cg [g1] w0 rP),ax,ny,cz,bR,z,rL.c eZ (or1 jd je (m_ (b_ bO.lt)<|lt_ (lt_ (lt_ (lt_ aP.s aG.s) an.s) st.s) s3.s):∀k∈bR,k∉[w0.z]),rJ,rK,rN.c eZ<|djs de,rM,a_u jd (q_ au ae.s)<|lt_ av s3.s⟩
def Q14 (w0:World)(B:Zone)(r:g_×Bt×Str)(v:Value)(w':World):Prop:=Bw w0 w'/\un3 (λV W G=>∃H I J S1 a2 L O,v = .tuple #[(.agg #[.slice H I J]),sl a2 L O,Str.v G]/\a_ w' S1 (sl H I J) V.rules/\repS w' (zn B w0.z w'.z) (sl a2 L O) W/\G.b.length<=LEN/\S1.Nodup/\(∀k∈S1,w0.z<=k)) r
theorem W_w27 {x1:Bt}{res:g_×Bt×Str}(hm:g_o n x1=some res)(I:B<=w0.z)(bQ:repS w0 B (sl A0 N0 C0) x1):r_ prog 11 [sl A0 N0 C0] w0 (Q14 w0 B res):=by
 unfold g_o at hm
 refine goG func11 z z z λfn hr=>Ws<|E z (fa e_6) ?_
 rintro _ c3 ⟨rfl,aW⟩;have hx:=aW.below;have hh:Blk c3 w0.z [sN]:=aW.blk;refine Ra z<|Rw z<|Wm z ?_
 have aX:=zt' I hx.s;obtain ⟨_,c4,bR⟩:=bdS hm;refine E z (fc call12 z<|W_w18 (B:=B) c4 aX<|bQ.e hx) ?_;rintro _ wy ⟨sz,G,an,ao,ap,rfl,h6,aq,hk,c5,c6⟩;refine Rw z<|Wm z ?_
 have h4:∀k∈[G],¬B k:=or0 (b_ aq)<|o_ aX;have au:=lt_ hx.s sz.s;obtain ⟨c7,_,_,c8,bS⟩:=t_ bR;refine E z (fc call27 z<|W_w1a (B:=B) c8 h6 (zt' I au) (atp h4) hk c5 c6) ?_;rintro _ H ⟨sm,J,L,O,av,rfl,hi,c9,ca,cb,cc,hj⟩;refine E z (fa e_6) ?_;rintro _ cd ⟨rfl,aY⟩;have he:=aY.below;have V:Blk cd H.z [sN]:=aY.blk;refine E0 (fs0 (cur':=[sl J L O]) z_ z z V z z z z) ?_;rintro _ aw ⟨ax,ce⟩;have hb:=ce.one;refine Wn<|Wm z<|R z (lN (vs:=[sl J L O]) B_ z_ z z fid<|ax.row 0 1 z)<|Rf z R_ z<|R z (l0 S_ z<|ax.at z) ?_
 have ay:=(hi.e he).c hb<|ds<|mnr<|a_.lt hi
 refine R z (lnR K_ z<|or_ ay<|zin (B:=B) hj<|a_.lt hi)<|R z (sb_ z z) ?_
 have az:=lt_ au sm.s;have aZ:∀k∈[H.z],¬B k:=or0 (b_ lr)<|o_<|zt' I az;have b0:=((sm.agc B<|c_ h4).e he).c hb<|c_ aZ
 have ha:=mm1 (Blk.lt h6) sm.s;have b1:=lt_ (lt_ az he.s) hb.s;have b2:=lt_ he.s hb.s;obtain ⟨aA,_,_,cf,bT⟩:=t_ bS;refine E z (fc call28 z<|W_w0d.run (B:=zn B wy.z H.z) cf ((cb.e he).c hb<|djs ha) (a_B (zt' I b1) b2) (atp ((a_F h4 (b_<|Blk.lt h6) lr):∀k∈[G],¬(zn B wy.z H.z) k)) (repS.mono (hk.g b0) a_r) c9 ca (or_ ay<|zin (B:=B) hj<|a_.lt hi) (iS _ _)<|ii z) ?_;rintro _ W ⟨sc,aB,aC,aD,_,aE,aF,aG,_,rfl,b3,a8,a9,cg,ch,ci,_,aa⟩;refine E z (fa a_k) ?_;rintro _ cj ⟨rfl,b4⟩;have h2:=b4.below;refine E0 (fs0 (cur':=[vI aA.number,sl aB aC aD,sl aE aF aG]) l_ z z (b4.blk:Blk cj W.z [vI 0,sN,sN]) z z z z) ?_;rintro _ wl ⟨b5,ck⟩;have h3:=ck.one;refine Wn<|Ws ?_
 have aH:=lt_ hb.s sc.s;have aI:=((ax.c sc<|atp ha).e h2).c h3<|djs<|mm1 V.lt aH
 refine R z (lN (vs:=[sl J L O]) B_ z_ z z fid<|aI.row 0 1 z)<|Rf z R_ z<|R z (l0 S_ z<|aI.at z) ?_
 have Y:=n_ hj (Blk.lt h6) lr;have b6:=lt_ b2 sc.s;have aJ:=((ay.c sc Y).e h2).c h3<|ds<|mno (a_.lt hi) b6
 refine R z (lnR K_ z<|or_ aJ<|zin (B:=B) hj<|a_.lt hi)<|R z (sb_ z z)<|R z (lN (vs:=[vI aA.number,sl aB aC aD,sl aE aF aG]) D_ l_ z z fid<|b5.row 0 3 z) ?_
 have b7:=(a8.e h2).c h3<|ds<|mnr<|a_.lt a8
 have b8:=(a9.e h2).c h3<|ds<|mnr<|a_.lt a9
 have aK:=lt_ b1 sc.s;have aL:=lt_ (lt_ aK h2.s) h3.s;have b9:=lt_ (lt_ b6 h2.s) h3.s;have ba:=lt_ h2.s h3.s;obtain ⟨bb,cl,bU⟩:=bdS bT;refine E z (fc call29 z<|W_w0e.run (B:=zn (zn B wy.z H.z) aw.z W.z) cl (a_B (a_B (zt' I aL) b9) ba) (repS.mono (or_ aJ<|zin (B:=B) hj<|a_.lt hi)<|zns (zt a_r<|a_r)<|znD<|znI lr lr) (iS _ _) b3 (repS.mono (or_ b7<|zin (B:=B) (al_ aa)<|a_.lt a8)<|zns (zt a_r<|a_r)<|znI lr lr)<|repS.mono (or_ b8<|zin (B:=B) (ar_ aa)<|a_.lt a9)<|zns (zt a_r<|a_r)<|znI lr lr) ?_;rintro _ wn ⟨s8,bc,be,bf,_,rfl,ht,_,hu⟩;refine Rw z<|Wm z ?_
 have aM:=aI.e s8;refine R z (lN (vs:=[sl J L O]) B_ z_ z z fid<|aM.row 0 1 z)<|R z (lN (vs:=[vI aA.number,sl aB aC aD,sl aE aF aG]) D_ l_ z z fid<|(b5.e s8).row 0 3 z) ?_
 have ab:=(((b0.c sc<|c_ h4).e h2).c h3<|c_ (or0 (b_ lr) (o_<|zt' I aK):∀k∈[W.z],¬B k)).e s8;have bg:=aJ.e s8;have bh:=lt_ (lt_ sm.s he.s) hb.s;have a0:=lt_ bh sc.s;have ad:=lt_ aL s8.s;obtain ⟨aN,cm,cn,co,bV⟩:=t_ bU;refine E z (fc call30 z<|W_w24 (B:=zn (zn B wy.z H.z) aw.z W.z) co (((ci.e h2).c h3<|djs<|mm1 (Blk.lt h6) a0).e s8) (a_B (a_B (zt' I ad)<|lt_ b9 s8.s)<|lt_ ba s8.s) (atp ((a_F (a_F h4 (b_<|Blk.lt h6) lr) (b_<|Blk.lt h6) bh):∀k∈[G],¬(zn (zn B wy.z H.z) aw.z W.z) k)) (repS.mono (hk.g ab)<|zt a_r<|a_r) cg ch (repS.mono (or_ bg<|zin (B:=B) hj<|a_.lt hi)<|zns (zt a_r<|a_r)<|znD<|znI lr lr) b3 (repS.mono (or_ (b7.e s8)<|zin (B:=B) (al_ aa)<|a_.lt a8)<|zns (zt a_r<|a_r)<|znI lr lr)<|repS.mono (or_ (b8.e s8)<|zin (B:=B) (ar_ aa)<|a_.lt a9)<|zns (zt a_r<|a_r)<|znI lr lr) ?_;rintro _ ae ⟨s1,rfl,cp,bi,bj,bk⟩;refine Rw z<|Wq<|Wq ?_
 obtain ⟨cq,aT,bW⟩:=bdS bV;refine Wt (λa w=>∃(aO:Bool)(a1:Int)(a2:Int),(aO,a1,a2)=cq/\Sat 49 [(2,pt w0.z),(5,pt G),(6,pt H.z),(8,sl bc be bf),(9,Str.v aN),(38,vB aO)] a/\Cg [G] ae w/\inI a1/\inI a2/\Blk w G [sl an ao ap,vI a1,vI a2]) ?_ ?_
 .refine Wg<|Rm z<|R z (lnR w_ z<|or_ (ht.c s1<|n_ hu (Blk.lt h6)<|lt_ (lt_ a0 h2.s) h3.s)<|zin (B:=B) hu<|a_.lt ht)<|R z (a_b z z)<|Rm z ?_
  rcases bs (decide<|0<(bb.length:Int)) with hcf | hcf
  .refine Rh z hcf (mv z) ?_;obtain ⟨ct,cu,cw,cx,bX⟩:=t_<|ifT aT hcf;refine Eg z z hcf z (fc call31 z<|g_d (B:=B) cx bk (zt' I<|lt_ ad s1.s) (atp h4) (hk.g<|ab.c s1<|c_ h4) bi bj<|ii z) ?_;rintro _ cy ⟨cz,rfl,cA,cB,cC⟩;refine R z (pT z hcf z)<|Wl ?_
   exact λ_ q=>⟨ct,cu,cw,som bX,q.k<|s6 z z z z z z,(cM (cr [G] ae) cz (io sr):Cg [G] ae cy),cA,cB,cC⟩
  exact Nh z hcf<|Nh z hcf<|R z (pF z hcf z)<|Wl (λ_ q=>⟨false,cm,cn,som<|ifF aT hcf,q.k<|s6 z z z z z z,cr [G] ae,bi,bj,bk⟩)
 rintro cD wg ⟨aO,a1,a2,rfl,_,s7,bm,bn,bo⟩;revert cD;refine Wo ?_;obtain ⟨cE,aU,bY⟩:=bdS<|a_w bW;refine Wt (λa w=>∃(aP:Bt)(af:Int)(ah:Int),(aP,af,ah)=cE/\∃a3 a4 a5,Sat 49 [(2,pt w0.z),(5,pt G),(6,pt H.z),(8,sl a3 a4 a5),(9,Str.v aN)] a/\Cg [G] wg w/\repS w (zn (zn B wl.z wn.z) wg.z w.z) (sl a3 a4 a5) aP/\inI af/\inI ah/\Blk w G [sl an ao ap,vI af,vI ah]) ?_ ?_
 .refine Wc z (λal=>?_)<|λal=>?_
  .refine Wg<|RM z z ?_
   have bp:=lt_ (lt_ a0 h2.s) h3.s;have bq:=n_ hu (Blk.lt h6) bp;obtain ⟨cF,cG,cH,cI,bZ⟩:=t_<|ifT aU al;refine E z (fc call32 z<|W_w25 (B:=zn B wl.z wn.z) cI bo (a_B (zt' I<|lt_ (lt_ ad s1.s) s7.s)<|lt_ s1.s s7.s) (atp ((a_F h4 (b_<|Blk.lt h6) bp):∀k∈[G],¬(zn B wl.z wn.z) k)) (repS.mono (hk.g<|(ab.c s1<|c_ h4).c s7<|c_ h4) a_r) bm bn<|or_ ((ht.c s1 bq).c s7 bq)<|zin (B:=B) hu<|a_.lt ht) ?_;rintro _ cJ ⟨cK,cL,cN,cO,rfl,cP,cQ,cR,cS⟩;refine Ra z<|Wl ?_
   exact λ_ q=>⟨cF,cG,cH,som bZ,cL,cN,cO,q.k<|s5 z z z z z,(cM (cr [G] wg) cK (io sr):Cg [G] wg cJ),cP,cQ,cR,cS⟩
  refine Z_ ?_;have br:=n_ hu (Blk.lt h6)<|lt_ (lt_ a0 h2.s) h3.s
  exact λ_ q=>⟨bb,a1,a2,som<|ifF aU al,bc,be,bf,q.k<|s5 z z z z z,cr [G] wg,repS.mono (or_ ((ht.c s1 br).c s7 br)<|zin (B:=B) hu<|a_.lt ht)<|zns (zt a_r<|a_r)<|znD<|znI lr lr,bm,bn,bo⟩
 rintro cT ai ⟨aP,af,ah,rfl,a3,a4,a5,_,sd,cU,cV,cW,cX⟩;revert cT;refine Wo<|Wq<|Wm z ?_
 have bt:=((ab.c s1<|c_ h4).c s7<|c_ h4).c sd<|c_ h4
 have bu:=lt_ (lt_ ad s1.s) s7.s;have aQ:=lt_ bu sd.s;obtain ⟨_,cY,cZ,d0,c0⟩:=t_<|a_w bY;refine E z (fc call31 z<|g_d (B:=B) d0 cX (zt' I aQ) (atp h4) (hk.g bt) cV cW<|ii z) ?_;rintro _ wo ⟨s9,rfl,bv,bw,bx⟩;refine Wn ?_;obtain ⟨d1,aV,c1⟩:=bdS c0;refine Wt (λa w=>∃(aj:Int)(ak:Int)(aR:List d_),(aj,ak,aR)=d1/\∃ar ns cv Sw,Sat 49 [(2,pt w0.z),(6,pt H.z),(8,sl a3 a4 a5),(9,Str.v aN)] a/\Chg (· ∈ ([G]++[H.z])) wo w/\inI aj/\inI ak/\a_ w Sw (sl ar ns cv) aR/\Sw.Nodup/\(∀k∈Sw,k∈av∨wo.z<=k)/\Blk w G [sl an ao ap,vI aj,vI ak]/\Blk w H.z [sl ar ns cv]) ?_ ?_
 .refine Wc z (λam=>?_)<|λam=>?_
  .refine Wg<|Rm z ?_
   obtain ⟨d2,d3,d4,d5,c2⟩:=t_<|ifT aV am;refine E z (fc call33 z<|W_w26 (B:=B) d5 bx (zt' I<|lt_ aQ s9.s) (atp h4) (hk.g<|bt.c s9<|c_ h4) bv bw) ?_;rintro _ d6 ⟨bz,bA,bB,bC,bD,rfl,d7,d8,d9,da,db,bE⟩;refine E0 (fs0 (cur':=[sl bA bB bC]) z_ z z (((((aM.c s1<|atp ha).c s7<|atp ha).c sd<|atp ha).c s9<|atp ha).c bz<|atp ha) z z z z) ?_;rintro _ dc ⟨dd,de⟩;have aS:=de.one;refine Wl ?_;exact λ_ q=>⟨d3,d4,d2.rules,som c2,bA,bB,bC,bD,q.k<|s4 z z z z,(cM (cM (cr ([G]++[H.z]) wo) bz (io<|i_ sr):Chg (· ∈ ([G]++[H.z])) wo d6) aS (io<|f_ sr):Chg (· ∈ ([G]++[H.z])) wo dc),d8,d9,d7.c aS<|n_ bE V.lt<|lt_ (lt_ (lt_ (lt_ (lt_ (lt_ (lt_ aH h2.s) h3.s) s8.s) s1.s) s7.s) sd.s) s9.s,db,(or0 bE (j_ lr):∀k∈bD,k∈av∨wo.z<=k),da.c aS<|djs ha,dd⟩
  exact Z_<|λ_ q=>⟨cY,cZ,c7.rules,som<|ifF aV am,J,L,O,av,q.k<|s4 z z z z,cr ([G]++[H.z]) wo,bv,bw,(((bg.c s1 Y).c s7 Y).c sd Y).c s9 Y,cc,io sr,bx,(((aM.c s1<|atp ha).c s7<|atp ha).c sd<|atp ha).c s9<|atp ha⟩
 rintro df _ ⟨aj,ak,aR,rfl,ar,ns,cv,Sw,_,a6,_,_,dg,dh,bF,_,di⟩;revert df;refine Wo<|Ws<|R z (lN (vs:=[sl ar ns cv]) B_ z_ z z fid<|di.row 0 1 z)<|RM z z ?_
 have hp:=n_ (b_ aq) hh.lt lr;have bG:=lt_ sz.s sm.s;have bH:=mm1 hh.lt bG;have bI:=lt_ (lt_ (lt_ bG he.s) hb.s) sc.s;refine E0 (fs0 (cur':=[sl ar ns cv]) z_ z z (((((((((((((hh.e sz).c sm<|djs hp).e he).c hb<|djs bH).c sc<|djs hp).e h2).c h3<|djs<|mm1 hh.lt bI).e s8).c s1<|djs hp).c s7<|djs hp).c sd<|djs hp).c s9<|djs hp).c a6<|atp<|nmA (ds hp)<|ds bH) z z z z) ?_;rintro _ _ ⟨dj,dk⟩;have a7:=dk.one;refine Ra z<|Rw z ?_
 obtain rfl:=som<|a_w c1;have bJ:=lt_ (lt_ bI h2.s) h3.s;have bK:=lt_ (lt_ (lt_ bJ s8.s) s1.s) s7.s;have bL:=lt_ (lt_ a0 h2.s) h3.s;have bN:∀k∈[G],¬(zn (zn B wl.z wn.z) wg.z ai.z) k:=a_F (a_F h4 (b_<|Blk.lt h6) bL) (b_<|Blk.lt h6)<|lt_ (lt_ (lt_ bL s8.s) s1.s) s7.s;have bO:=lt_ (lt_ aH h2.s) h3.s;have hq:=q_ (b_ aq) hx.s;have bP:=m1 az;exact Wr<|E_ hr (x_ B_ z_ z dj z) z z ⟨bM (bM (bM (bM (bM (bM (bup (bM (bup (bM (bM (bup (bM (bup hx sz) sm hq) he) hb bP) sc hq) h2) h3<|m1 aK) s8) s1 hq) s7 hq) sd hq) s9 hq) a6<|aa_ hq bP) a7<|b_ lr,ar,ns,cv,Sw,a3,a4,a5,z,dg.c a7 (or1 bF (n_ hj hh.lt sz.s) (m_ (b_ hh.lt)<|lt_ (lt_ bK sd.s) s9.s):∀k∈Sw,k∉[w0.z]),repS.mono (cU.g<|((s9.agc (zn (zn B wl.z wn.z) wg.z ai.z)<|c_ bN).c a6<|nmA (c_ bN)<|c_ ((a_F (a_F aZ (b_ V.lt) bO) (b_ V.lt)<|lt_ (lt_ (lt_ bO s8.s) s1.s) s7.s):∀k∈[H.z],¬(zn (zn B wl.z wn.z) wg.z ai.z) k)).c a7<|c_ ((a_F (a_F (or0 (b_ lr) (o_ I):∀k∈[w0.z],¬B k) (b_ hh.lt) bJ) (b_ hh.lt) bK):∀k∈[w0.z],¬(zn (zn B wl.z wn.z) wg.z ai.z) k))<|zns (zns a_r<|znI aL<|lt_ (lt_ (lt_ (lt_ (lt_ s1.s s7.s) sd.s) s9.s) a6.s) a7.s)<|znI bu<|lt_ (lt_ s9.s a6.s) a7.s,cp,dh,a_u bF (q_ hj au)<|lt_ aQ s9.s⟩
theorem W_w1d {x1:Str}{x2:UInt8}{res:(List Str)}(hm:f_Q n x1 x2=some res)(aM:B<=w0.z)(Y:x1.b.length<=LEN):r_ prog 47 [Str.v x1,vU<|byteI x2] w0 (Q12 w0 B res):=by
 unfold f_Q at hm
 refine goG func47 z z z λfn hr=>Ws<|Rw z<|Ws<|E z (f0 (α:=Str) a_5) ?_
 rintro _ H ⟨ah,aj,ak,rfl,ss,al⟩;refine Rw z<|Ws<|Rw z<|Wq<|Ws<|Rw z ?_
 obtain ⟨_,a4,hmr⟩:=bdS hm;refine b_Y (σ:=(List Str)×Int×Int) (ρ:=List Str) (λs a w=>un3 (λW V x3=>∃a2 J L G,Sat 36 [(0,Str.v x1),(1,vU<|byteI x2),(5,sl a2 J L),(6,vI V),(7,vI x3)] a/\Cg [w0.z] H w/\a_ w G (sl a2 J L) W/\G.Nodup/\(∀k∈G,k∈[w0.z]∨H.z<=k)/\inI V/\inI x3) s) (λs a w=>un3 (λW V x3=>∃a2 J L G,Sat 36 [(5,sl a2 J L)] a/\Cg [w0.z] H w/\a_ w G (sl a2 J L) W/\G.Nodup/\(∀k∈G,k∈[w0.z]∨H.z<=k)/\inI V/\inI x3) s) (rQ prog fn<|Q12 w0 B) a4 ?_ ?_ ?_ ?_
 .exact λ_ q=>⟨ah,aj,ak,[w0.z],q.k<|s5 z z z z z,cr [w0.z] H,al,a_A,io sr,ii z,ii z⟩
 .rintro ⟨W,V,x3⟩ _ wa _ ⟨a2,J,L,G,a5,sm,hc,hd,hf,hl,hv⟩ a6;have hmw:=a_w a6;refine Wu ?_ a5;refine Wq<|Wm z<|Rm z<|R z (lnT d_9 z)<|R z (c_M z z)<|Wx z (λhcn=>?_) (λhcn=>?_)
  .refine Wk<|Wq<|Wb<|Wq ?_
   obtain ⟨am,hux,a7⟩:=bdS<|ifT hmw hcn;refine Wt (λa w=>∃(xo:Bool),xo=am/\Sat 36 [(0,Str.v x1),(1,vU<|byteI x2),(5,sl a2 J L),(6,vI V),(7,vI x3),(25,vB xo)] a/\Below wa.z wa w) ?_ ?_
   .refine Wg<|RM z z<|R z (lnT d_9 z)<|Rq z z z<|Rm z ?_
    rcases bs (x3==(x1.b.length:Int)) with I | I
    .iterate 5 refine Nh z I ?_
     exact R z (pT z I z)<|Wl (λ_ q=>⟨true,som<|ifT hux I,q.k<|s6 z z z z z z,br wa⟩)
    refine Rh z I (mv z)<|Rh z I (mv z) ?_
    obtain ⟨an,ey,a8⟩:=bdS<|ifF hux I;exact Rh z I (c_m d_9 z z (a_J ey).1 (a_J ey).2.1)<|Rh z I (mv z)<|Rh z I (eql z z)<|R z (pF z I z)<|Wl (λ_ q=>⟨(byteI an)==(byteI x2),som a8,q.k<|s6 z z z z z z,br wa⟩)
   rintro ao O ⟨xo,rfl,_,sg⟩;revert ao;refine Wo ?_;obtain ⟨ap,huz,a9⟩:=bdS a7;refine Wt (λa w=>∃(xh:List Str)(xe:Int),(xh,xe)=ap/\∃ai nj ck Sb,Sat 36 [(0,Str.v x1),(1,vU<|byteI x2),(5,sl ai nj ck),(6,vI xe),(7,vI x3)] a/\Cg G O w/\a_ w Sb (sl ai nj ck) xh/\Sb.Nodup/\(∀k∈Sb,k∈G∨O.z<=k)/\inI xe) ?_ ?_
   .refine Wc z (λhcp=>?_)<|λhcp=>?_
    .refine Wm z<|RM z z<|Rm z ?_
     obtain ⟨aq,eq,aa⟩:=bdS<|ifT huz hcp;refine R z (j_N d_9 z z z Y eq)<|E z (fS [(.tmp 30)] a_5 z z z (L_ z) (lb z)<|lb z) ?_
     rintro _ a0 ⟨rfl,ht⟩;have hu:=ht.below;have aN:=a_6 ht<|a_Z<|f_y eq Y
     obtain ⟨ar,au,ab⟩:=bdS aa;refine E z (a_e (α:=Str) a_5 au z z ((hc.e sg).e hu) hd (ht.blk:Blk a0 O.z [Str.v aq]) (a_Z<|f_y eq Y) an_ v_) ?_;rintro _ av ⟨a1,aw,ax,ay,rfl,az,aA,aB,aC⟩;refine Rw z<|Wg<|Rm z<|R z (add_ z z)<|Ra z<|Wl ?_
     exact λ_ q=>⟨ar,h_ x3 1,som ab,aw,ax,ay,a1,q.k<|s5 z z z z z,(cM (e_ (cr G O) hu:Cg G O a0) az (io sr):Cg G O av),aA,aB,(or2 aC (io sr) an_ (j_ hu.s):∀k∈a1,k∈G∨O.z<=k),iA _ _⟩
    exact Z_<|λ_ q=>⟨W,V,som<|ifF huz hcp,a2,J,L,G,q.k<|s5 z z z z z,cr G O,hc.e sg,hd,io sr,hl⟩
   rintro aD aE ⟨xh,xe,rfl,ai,nj,ck,Sb,_,aF,aG,aH,aI,aJ⟩;revert aD;refine Wo<|Wg<|Rm z<|R z (add_ z z)<|Ra z<|Wl ?_
   have a3:∀k∈G,k∈[w0.z]∨H.z<=k:=or1 hf (io sr)<|j_ lr;exact λ_ q=>⟨(xh,xe,h_ x3 1),(som<|a_M a9).symm,⟨ai,nj,ck,Sb,q.k<|s5 z z z z z,(cM (e_ (cM (cr [w0.z] H) sm (io sr):Cg [w0.z] H wa) sg:Cg [w0.z] H O) aF a3:Cg [w0.z] H aE),aG,aH,(or1 aI a3 (j_<|lt_ sm.s sg.s):∀k∈Sb,k∈[w0.z]∨H.z<=k),aJ,iA _ _⟩⟩
  exact We<|λ_ q=>b_x (som<|ifF hmw hcn).symm ⟨a2,J,L,G,q.k<|s1 z,(cM (cr [w0.z] H) sm (io sr):Cg [w0.z] H wa),hc,hd,(or1 hf (io sr) (j_ lr):∀k∈G,k∈[w0.z]∨H.z<=k),hl,hv⟩
 .rintro ⟨W,V,x3⟩ aK _ rfl ⟨a2,J,L,G,_,aL,hc,hd,hf,hl,hv⟩;have ad:=elL hmr;revert aK;refine Wo<|Wm z<|Rw z ?_
  obtain rfl:=som<|a_w ad;exact Wr<|k_ hr z ⟨bM ss aL<|b_ lr,a2,J,L,G,z,hc,hd,(or1 hf (b_ lr) (b_f ss.s):∀k∈G,w0.z<=k)⟩
 rintro _ _ _ _ rfl ⟨rfl,ae⟩;have af:=elR hmr;obtain rfl:=som af;exact ⟨ae,z⟩
theorem k_J {x1:Str}{res:Bool}(hm:f_0 x1=some res)(a9:B<=w0.z)(Y:x1.b.length<=LEN):r_ prog 79 [Str.v x1] w0 (Q0 w0 B res):=by
 unfold f_0 at hm
 refine goG func79 z z z λfn hr=>Ws<|Rw z<|Wq<|Ws<|Rw z ?_
 obtain ⟨_,hus,hmc⟩:=bdS hm;refine Wf (σ:=Unit) (ρ:=Bool) (λ(k4:Nat)(_:Unit) a w=>Sat 45 [(0,Str.v x1),(3,vI ((k4:Nat):Int))] a/\Below w0.z w0 w) (λ(_:Unit) a w=>Sat 45 [(0,Str.v x1)] a/\Below w0.z w0 w) (rQ prog fn<|Q0 w0 B) hus ?_ ?_ ?_ ?_ ?_
 .exact λ_ q=>⟨q.k<|s2 z z,br w0⟩
 .rintro k4 _ _ O _ hkd ⟨hSt,se⟩ hmu;refine Wu ?_ hSt;refine Wq<|Wm z<|Rm z<|R z (lnT d_9 z)<|Rl z z z<|Wx z (λ_=>?_) (λhc=>(a_g hkd hc).elim)
  refine Wk<|Wq<|Wb<|Wq ?_
  obtain ⟨uv,huw,hmx⟩:=bdS hmu;refine Wt (λa w=>∃(x5:Bool),x5=uv/\Sat 45 [(0,Str.v x1),(3,vI ((k4:Nat):Int)),(4,vB x5)] a/\Below O.z O w) ?_ ?_
  .refine Wg<|RM z z ?_
   obtain ⟨xy,ef,hmg⟩:=bdS huw;refine R z (c_m d_9 z z (a_J ef).1 (a_J ef).2.1)<|R z (b_P z z)<|Rm z ?_
   rcases bs (decide<|(byteI (97:UInt8))<=(byteI xy)) with H | H
   .refine Rh z H (mv z)<|Rh z H (mv z) ?_
    obtain ⟨xz,eh,a0⟩:=bdS<|ifT hmg H;exact Rh z H (c_m d_9 z z (a_J eh).1 (a_J eh).2.1)<|Rh z H (c_M z z)<|R z (pT z H z)<|Ra z<|Wl (λ_ q=>⟨decide<|(byteI xz)<=(byteI (122:UInt8)),som a0,q.k<|s3 z z z,br O⟩)
   iterate 4 refine Nh z H ?_
   exact R z (pF z H z)<|Ra z<|Wl (λ_ q=>⟨false,som<|ifF hmg H,q.k<|s3 z z z,br O⟩)
  rintro aa V ⟨x5,rfl,_,si⟩;revert aa;refine Wo<|Wq ?_
  obtain ⟨ab,a1,a2⟩:=bdS hmx;refine Wt (λa w=>∃(W:Bool),W=ab/\Sat 45 [(0,Str.v x1),(3,vI ((k4:Nat):Int)),(4,vB x5),(5,vB W)] a/\Below V.z V w) ?_ ?_
  .refine Wg<|RM z z ?_
   obtain ⟨ad,ej,hmk⟩:=bdS a1;refine R z (c_m d_9 z z (a_J ej).1 (a_J ej).2.1)<|R z (b_P z z)<|Rm z ?_
   rcases bs (decide<|(byteI (48:UInt8))<=(byteI ad)) with I | I
   .refine Rh z I (mv z)<|Rh z I (mv z) ?_
    obtain ⟨ae,el,a3⟩:=bdS<|ifT hmk I;exact Rh z I (c_m d_9 z z (a_J el).1 (a_J el).2.1)<|Rh z I (c_M z z)<|R z (pT z I z)<|Ra z<|Wl (λ_ q=>⟨decide<|(byteI ae)<=(byteI (57:UInt8)),som a3,q.k<|s4 z z z z,br V⟩)
   iterate 4 refine Nh z I ?_
   exact R z (pF z I z)<|Ra z<|Wl (λ_ q=>⟨false,som<|ifF hmk I,q.k<|s4 z z z z,br V⟩)
  rintro af L ⟨W,rfl,_,sm⟩;revert af;refine Wo<|Wq ?_
  obtain ⟨ah,hun,hmo⟩:=bdS a2;refine Wt (λa w=>∃(xa:Bool),xa=ah/\Sat 45 [(0,Str.v x1),(3,vI ((k4:Nat):Int)),(41,vB xa)] a/\Below L.z L w) ?_ ?_
  .refine Wg<|Rm z<|R z (not_ z)<|Rm z ?_
   rcases bs (!x5) with G | G
   .have hmp:=ifT hun G;refine Rh z G (mv z)<|Rh z G (not_ z)<|Rh z G (mv z) ?_
    rcases bs (!W) with J | J
    .exact Nh z J<|Nh z J<|Rh z G (pT z J z)<|R z (pT z G z)<|Wl (λ_ q=>⟨true,som<|ifT hmp J,q.k<|s3 z z z,br L⟩)
    exact Rh z J (mv z)<|Rh z J (eql z z)<|Rh z G (pF z J z)<|R z (pT z G z)<|Wl (λ_ q=>⟨((k4:Nat):Int)==0,som<|ifF hmp J,q.k<|s3 z z z,br L⟩)
   iterate 3 refine Nh z G ?_
   exact Nv z<|Nv z<|Nh z G<|R z (pF z G z)<|Wl (λ_ q=>⟨false,som<|ifF hun G,q.k<|s3 z z z,br L⟩)
  rintro ai _ ⟨xa,rfl,_,sq⟩;revert ai;refine Wo<|Wc z (λhcb=>?_) (λhcb=>?_)
  .exact Ws<|Rw z<|Wr<|rtO<|qL (som<|ifT hmo hcb).symm<|k_ hr z ⟨bup (bup (bup se si) sm) sq,z⟩
  exact Wk<|Wg<|Rm z<|R z (inc_ hkd (lt_ Y O_) z z)<|Ra z<|Wl (λ_ q=>⟨(),(som<|ifF hmo hcb).symm,⟨q.k<|s2 z z,bup (bup (bup se si) sm) sq⟩⟩)
 .rintro _ _ _ ⟨a4,aj⟩;refine Wu ?_ a4;refine Wq<|Wm z<|Rm z<|R z (lnT d_9 z)<|Rl z z z<|Wx z (λhc=>(a_h hc).elim) (λ_=>?_)
  exact We<|λ_ q=>⟨rfl,⟨q.k<|s1 z,aj⟩⟩
 .rintro _ ak _ rfl ⟨_,sr⟩;have a5:=elL hmc;revert ak;refine Wo<|Wm z<|R z (lnT d_9 z) ?_
  obtain ⟨_,al,a6⟩:=bdS a5;refine E z (fc call80 z<|b_F al (zt' a9 sr.s) (b_5 Y) (ii z)<|ii z) ?_;rintro _ _ ⟨am,rfl⟩;refine Rw z ?_
  obtain rfl:=som a6;exact Wr<|k_ hr z ⟨bup sr am,z⟩
 rintro _ _ _ _ rfl ⟨rfl,a7⟩;have a8:=elR hmc;obtain rfl:=som a8;exact ⟨a7,z⟩
def Q15 (w0:World)(B:Zone)(r:Int×Bool)(v:Value)(w':World):Prop:=Bw w0 w'/\un2 (λG H=>v = .tuple #[vI G,vB H]/\inI G) r
theorem W_w1e {x1:Str}{res:Int×Bool}(hm:f_R n x1=some res)(I:B<=w0.z)(V:x1.b.length<=LEN):r_ prog 49 [Str.v x1] w0 (Q15 w0 B res):=by
 unfold f_R at hm
 refine goG func49 z z z λfn hr=>Ws<|Ra z<|Rw z<|Wq<|Wm z<|R z (lnT d_9 z) ?_
 obtain ⟨_,en,hmc⟩:=bdS hm;refine E z (fc call80 z<|b_F (B:=B) en I (b_5 V) (ii z)<|ii z) ?_;rintro _ H ⟨s4,rfl⟩;refine R z (not_ z)<|Wx z (λJ=>?_) (λJ=>?_)
 .refine Ws<|Ra z<|Rw z ?_
  obtain rfl:=som<|ifT hmc J;exact Wr<|a_i hr z z ⟨s4,z,ii z⟩
 refine Wk<|Ws<|Rw z<|Wq<|Ws<|Rw z ?_
 obtain ⟨_,huo,hmd⟩:=bdS<|ifF hmc J;refine Wf (σ:=Int) (ρ:=Int×Bool) (λ(ke:Nat)(x0:Int) a w=>Sat 39 [(0,Str.v x1),(4,vI x0),(5,vI ((ke:Nat):Int))] a/\Below H.z H w/\inI x0) (λ(x0:Int) a w=>Sat 39 [(0,Str.v x1),(4,vI x0)] a/\Below H.z H w/\inI x0) (rQ prog fn<|Q15 w0 B) huo ?_ ?_ ?_ ?_ ?_
 .exact λ_ q=>⟨q.k<|s3 z z z,br H,ii z⟩
 .rintro ke x0 _ _ _ hkf ⟨hSp,s6,h3⟩ hmq;refine Wu ?_ hSp;refine Wq<|Wm z<|Rm z<|R z (lnT d_9 z)<|Rl z z z<|Wx z (λ_=>?_) (λhc=>(a_g hkf hc).elim)
  refine Wk<|Wq<|Wb<|Wq<|Wm z<|Rm z ?_
  obtain ⟨_,eg,hmr⟩:=bdS hmq;refine R z (c_m d_9 z z (a_J eg).1 (a_J eg).2.1)<|R z (c_8 d_5 d_3 z) ?_
  obtain ⟨_,es,hmh⟩:=bdS hmr;refine E z (fc call80 z<|b_F es (zt' I<|lt_ s4.s s6.s) (j_G _) (ii z)<|ii z) ?_;rintro _ _ ⟨si,rfl⟩;refine R z (not_ z)<|Wx z (λL=>?_) (λL=>?_)
  .exact Ws<|Ra z<|Rw z<|Wr<|rtO<|qL (som<|ifT hmh L).symm<|a_i hr z z ⟨bup (bup s4 s6) si,z,ii z⟩
  refine Wk<|Wg<|Rm z<|R z (d_1 z z)<|RM z z ?_
  obtain ⟨xt,ej,hmu⟩:=bdS<|ifF hmh L;exact R z (c_m d_9 z z (a_J ej).1 (a_J ej).2.1)<|R z (l_w z z)<|R z (c_8 d_5 d_3 z)<|R z (add_ z z)<|Rw z<|Wg<|Rm z<|R z (inc_ hkf (lt_ V O_) z z)<|Ra z<|Wl (λ_ q=>⟨h_ (a_j 10 x0)<|byteI<|mkB (byteI xt - byteI (48:UInt8)),(som hmu).symm,⟨q.k<|s3 z z z,bup s6 si,iA _ _⟩⟩)
 .rintro x0 _ _ ⟨hSv,sw,h3⟩;refine Wu ?_ hSv;refine Wq<|Wm z<|Rm z<|R z (lnT d_9 z)<|Rl z z z<|Wx z (λhc=>(a_h hc).elim) (λ_=>?_)
  exact We<|λ_ q=>⟨rfl,⟨q.k<|s2 z z,sw,h3⟩⟩
 .rintro x0 ax O rfl ⟨_,s9,h3⟩;have hmy:=elL hmd;revert ax;refine Wo<|Wq<|Wq ?_
  obtain ⟨uz,huk,hml⟩:=bdS hmy;refine Wt (λa w=>∃(xa:Bool),xa=uz/\Sat 39 [(4,vI x0),(37,vB xa)] a/\Below O.z O w) ?_ ?_
  .refine Wg<|Rm z<|R z (a_b z z)<|Rm z ?_
   rcases bs (decide<|1000000000000<x0) with G | G
   .iterate 4 refine Nh z G ?_
    exact R z (pT z G z)<|Wl (λ_ q=>⟨true,som<|ifT huk G,q.k<|s2 z z,br O⟩)
   refine Rh z G (mv z) ?_;obtain ⟨a1,a2,W⟩:=bdS<|ifF huk G;refine Eg z z G z (fc call78 z<|h_U a2 (zt' I<|lt_ s4.s s9.s) h3) ?_;rintro _ _ ⟨a3,rfl,_⟩;exact Rh z G (mv z)<|Rh z G (f_E z z)<|R z (pF z G z)<|Wl (λ_ q=>⟨a1.b != x1.b,som W,q.k<|s2 z z,a3⟩)
  rintro a4 _ ⟨xa,rfl,_,sm⟩;revert a4;refine Wo<|Wc z (λhcb=>?_) (λhcb=>?_)
  .refine Ws<|Ra z<|Rw z ?_
   obtain rfl:=som<|ifT hml hcb;exact Wr<|a_i hr z z ⟨bup (bup s4 s9) sm,z,ii z⟩
  refine Wk<|Wm z<|Ra z<|Rw z ?_
  obtain rfl:=som<|ifF hml hcb;exact Wr<|a_i hr z z ⟨bup (bup s4 s9) sm,z,h3⟩
 rintro _ _ _ _ rfl ⟨rfl,Y⟩;have a0:=elR hmd;obtain rfl:=som a0;exact ⟨Y,z⟩
theorem W_w1f {x1:Str}{res:Bool}(hm:e_0 n x1=some res)(L:B<=w0.z)(Y:x1.b.length<=LEN):r_ prog 48 [Str.v x1] w0 (Q0 w0 B res):=by
 unfold e_0 at hm
 refine goG func48 z z z λfn hr=>Ws<|Rw z<|Wq<|Wq ?_
 obtain ⟨ug,huh,hma⟩:=bdS hm;refine Wt (λa w=>∃(x6:Bool),x6=ug/\Sat 31 [(0,Str.v x1),(18,vB x6)] a/\Below w0.z w0 w) ?_ ?_
 .refine Wg<|Rm z ?_
  obtain ⟨ri,ej,hmb⟩:=bdS huh;refine E z (fc call79 z<|k_J (B:=B) ej L Y) ?_;rintro _ _ ⟨s4,rfl⟩;refine Rm z ?_
  rcases bs ri with H | H
  .exact Nh z H<|Nh z H<|R z (pT z H z)<|Rm z<|Nh z z<|Nh z z<|R z (pT z z z)<|Rm z<|Nh z z<|Nh z z<|R z (pT z z z)<|Wl (λ_ q=>⟨true,som<|ifT hmb H,q.k<|s2 z z,s4⟩)
  have hmc:=ifF hmb H;refine Rh z H (mv z)<|Rh z H (b_7 z z)<|R z (pF z H z)<|Rm z ?_
  rcases bs (x1.b==(⟨[42]⟩:Str).b) with I | I
  .exact Nh z I<|Nh z I<|R z (pT z I z)<|Rm z<|Nh z z<|Nh z z<|R z (pT z z z)<|Wl (λ_ q=>⟨true,som<|ifT hmc I,q.k<|s2 z z,s4⟩)
  have hmd:=ifF hmc I;refine Rh z I (mv z)<|Rh z I (b_7 z z)<|R z (pF z I z)<|Rm z ?_
  rcases bs (x1.b==(⟨[63]⟩:Str).b) with J | J
  .exact Nh z J<|Nh z J<|R z (pT z J z)<|Wl (λ_ q=>⟨true,som<|ifT hmd J,q.k<|s2 z z,s4⟩)
  exact Rh z J (mv z)<|Rh z J (b_7 z z)<|R z (pF z J z)<|Wl (λ_ q=>⟨x1.b==(⟨[43]⟩:Str).b,som<|ifF hmd J,q.k<|s2 z z,s4⟩)
 rintro ak _ ⟨x6,rfl,_,s5⟩;revert ak;refine Wo<|Wc z (λO=>?_) (λO=>?_)
 .refine Ws<|Rw z ?_
  obtain rfl:=som<|ifT hma O;exact Wr<|k_ hr z ⟨s5,z⟩
 refine Wk<|Wm z ?_
 obtain ⟨_,rl,em,hmn⟩:=a_v<|ifF hma O;refine E z (fc call49 z<|W_w1e em (zt' L s5.s) Y) ?_;rintro _ V ⟨se,rfl,ho⟩;refine Rm z<|Re z z z<|Re z z z<|Ra z<|Rw z<|Wq ?_
 obtain ⟨up,huf,hmq⟩:=bdS hmn;refine Wt (λa w=>∃(W:Bool),W=up/\Sat 31 [(2,vB W)] a/\Below V.z V w) ?_ ?_
 .refine Wg<|RM z z ?_
  rcases bs rl with G | G
  .refine Rh z G (mv z) ?_;obtain ⟨rr,es,hmt⟩:=bdS<|ifT huf G;refine Eg z z G z (fc call78 z<|h_U es (zt' L<|lt_ s5.s se.s) ho) ?_;rintro _ _ ⟨su,rfl,_⟩;exact Rh z G (mv z)<|Rh z G (b_7 z z)<|R z (pT z G z)<|Ra z<|Wl (λ_ q=>⟨rr.b==x1.b,som hmt,q.k<|s1 z,su⟩)
  iterate 4 refine Nh z G ?_
  exact R z (pF z G z)<|Ra z<|Wl (λ_ q=>⟨false,som<|ifF huf G,q.k<|s1 z,br V⟩)
 rintro av _ ⟨W,rfl,_,sw⟩;revert av;refine Wo ?_;obtain rfl:=som hmq;exact Wr<|k_ hr z ⟨bup (bup s5 se) sw,z⟩
def Q16 (w0:World)(B:Zone)(r:(List Str)×Bool)(v:Value)(w':World):Prop:=Bw w0 w'/\un2 (λJ L=>∃G H I,v = .tuple #[sl G H I,vB L]/\repS w' (zn B w0.z w'.z) (sl G H I) J) r
theorem k_K {x1:Str}{res:(List Str)×Bool}(hm:f_1 n x1=some res)(O:B<=w0.z)(V:x1.b.length<=LEN):r_ prog 22 [Str.v x1] w0 (Q16 w0 B res):=by
 unfold f_1 at hm
 refine goG func22 z z z λfn hr=>Ws<|Ra z<|Rw z<|Wq<|Wm z<|R z (b_7 z z)<|Wx z (λI=>?_) (λI=>?_)
 .refine Ws<|E z (f0 (α:=Str) a_5) ?_
  rintro _ _ ⟨aq,nr,cs,rfl,st,hc⟩;refine Ra z<|Rw z ?_
  obtain rfl:=som<|ifT hm I;exact Wr<|a_i hr z z ⟨st,aq,nr,cs,z,or_ hc<|zin (B:=B) (b_ lr)<|a_.lt hc⟩
 refine Wk<|Wm z ?_
 obtain ⟨_,eu,hmv⟩:=bdS<|ifF hm I;refine E z (fc call47 z<|W_w1d (B:=B) eu O V) ?_;rintro _ H ⟨s3,ad,ne,cf,_,rfl,G,_,h4⟩;refine Rw z<|Wq<|Wm z ?_
 obtain ⟨_,ew,hmg⟩:=bdS hmv;refine RX z (at_ (α:=Str) N_ z_9 z z z (or_ G<|zin (B:=B) h4<|a_.lt G) ew) ?_;rintro _ ⟨_,_,_,rfl,hx,hy,_⟩;obtain ⟨rfl,_⟩:=a_z hy;refine R z (l0 g_9 z<|hx.at0 z)<|R z (f_E z z)<|Wx z (λJ=>?_) (λJ=>?_)
 .refine Ws<|E z (f0 (α:=Str) a_5) ?_
  rintro _ _ ⟨az,a5,a6,rfl,a7,hh⟩;refine Ra z<|Rw z ?_
  obtain rfl:=som<|ifT hmg J;exact Wr<|a_i hr z z ⟨bup s3 a7,az,a5,a6,z,repS.mono (or_ hh<|zin (B:=B) (b_ lr)<|a_.lt hh)<|g_D s3.s lr⟩
 refine Wk<|Wq<|Ws<|Rw z ?_
 obtain ⟨_,W,hmi⟩:=bdS<|ifF hmg J;refine b_Y (σ:=Int) (ρ:=(List Str)×Bool) (λ(x2:Int) a w=>Sat 34 [(4,sl ad ne cf),(5,vI x2)] a/\Below H.z H w/\inI x2) (λ(x2:Int) a w=>Sat 34 [(4,sl ad ne cf)] a/\Below H.z H w/\inI x2) (rQ prog fn<|Q16 w0 B) W ?_ ?_ ?_ ?_
 .exact λ_ q=>⟨q.k<|s2 z z,br H,ii z⟩
 .rintro x2 _ _ _ ⟨Y,s5,hj⟩ hmk;refine Wu ?_ Y;refine Wq<|Wm z<|Rm z ?_
  have hl:=G.e s5;refine R z (lnR N_ z<|or_ hl<|zin (B:=B) h4<|a_.lt G)<|Rl z z z<|Wx z (λL=>?_) (λL=>?_)
  .refine Wk<|Wq<|Wb<|Wm z<|Rm z ?_
   obtain ⟨_,a8,a0⟩:=bdS<|ifT hmk L;refine RX z (at_ (α:=Str) N_ z_9 z z z (or_ hl<|zin (B:=B) h4<|a_.lt G) a8) ?_;rintro _ ⟨_,_,_,rfl,a9,aa,_⟩;obtain ⟨rfl,ab⟩:=a_z aa;refine R z (l0 g_9 z<|a9.at0 z) ?_;have hn:=lt_ s3.s s5.s;obtain ⟨_,ae,hmm⟩:=bdS a0;refine E z (fc call48 z<|W_w1f ae (zt' O hn) ab) ?_;rintro _ _ ⟨s9,rfl⟩;refine R z (not_ z)<|Wx z (λhca=>?_) (λhca=>?_)
   .refine Ws<|E z (f0 (α:=Str) a_5) ?_
    rintro _ _ ⟨af,ah,ai,rfl,aj,ho⟩;exact Ra z<|Rw z<|Wr<|rtO<|qL (som<|ifT hmm hca).symm<|a_i hr z z ⟨bup (bup (bup s3 s5) s9) aj,af,ah,ai,z,repS.mono (or_ ho<|zin (B:=B) (b_ lr)<|a_.lt ho)<|g_D (lt_ hn s9.s) lr⟩
   exact Wk<|Wg<|Rm z<|R z (add_ z z)<|Ra z<|Wl (λ_ q=>⟨h_ x2 1,(som<|ifF hmm hca).symm,⟨q.k<|s2 z z,bup s5 s9,iA _ _⟩⟩)
  exact We<|λ_ q=>b_x (som<|ifF hmk L).symm ⟨q.k<|s1 z,s5,hj⟩
 .rintro x2 ak _ rfl ⟨_,sb,hj⟩;have a1:=elL hmi;revert ak;refine Wo<|Wm z ?_
  obtain ⟨_,al,a2⟩:=bdS a1;have hp:=G.e sb;refine RX z (rX N_ z_9 z z (or_ hp<|zin (B:=B) h4<|a_.lt G) z z al) ?_;rintro _ ⟨am,an,ao,rfl,ap⟩;refine Rm z<|R z (lnR N_ z<|or_ hp<|zin (B:=B) h4<|a_.lt G)<|R z (a_b z z)<|Ra z<|Rw z ?_
  obtain rfl:=som a2;exact Wr<|a_i hr z z ⟨bup s3 sb,am,an,ao,z,repS.mono ap<|g_D lr sb.s⟩
 rintro _ _ _ _ rfl ⟨rfl,a3⟩;have a4:=elR hmi;obtain rfl:=som a4;exact ⟨a3,z⟩
theorem W_w28 {x1:List Str}{res:Str}(hm:f_p x1=some res)(O:B<=w0.z)(G:repS w0 B (sl A0 N0 C0) x1):r_ prog 36 [sl A0 N0 C0] w0 (Q4 w0 B res):=by
 unfold f_p at hm
 refine goG func36 z z z λfn hr=>Ws<|Rw z<|Ws<|Rw z<|Wq<|Ws<|Rw z ?_
 obtain ⟨_,L,H⟩:=bdS hm;refine Wf (σ:=Str) (ρ:=Str) (λ(k3:Nat)(x0:Str) a w=>Sat 19 [(0,sl A0 N0 C0),(3,Str.v x0),(4,vI ((k3:Nat):Int))] a/\Below w0.z w0 w/\x0.b.length<=LEN) (λ(x0:Str) a w=>Sat 19 [(3,Str.v x0)] a/\Below w0.z w0 w/\x0.b.length<=LEN) (rQ prog fn<|Q4 w0 B) L ?_ ?_ ?_ ?_ ?_
 .exact λ_ q=>⟨q.k<|s3 z z z,br w0,lb z⟩
 .rintro k3 x0 _ _ _ I ⟨hSa,s5,h1⟩ hmb;refine Wu ?_ hSa;refine Wq<|Wm z<|Rm z ?_
  have h6:=G.e s5;refine R z (lnR N_ z h6)<|Rl z z z<|Wx z (λ_=>?_) (λhc=>(a_g I hc).elim)
  refine Wk<|Wq<|Wb<|Wg<|Rm z ?_
  obtain ⟨_,ec,hmd⟩:=bdS hmb;refine R z (c_r z z ec)<|RM z z ?_
  obtain ⟨_,ee,hmf⟩:=bdS hmd;refine RX z (at_ (α:=Str) N_ z_9 z z z h6 ee) ?_;rintro _ ⟨_,_,_,rfl,hg,hh,_⟩;obtain ⟨rfl,_⟩:=a_z hh;refine R z (l0 g_9 z<|hg.at0 z) ?_;obtain ⟨xi,J,hmj⟩:=bdS hmf;exact R z (c_r z z J)<|Rw z<|Wg<|Rm z<|R z (inc_ I (lt_ (repS.len G) O_) z z)<|Ra z<|Wl (λ_ q=>⟨xi,(som hmj).symm,⟨q.k<|s3 z z z,s5,d_m J⟩⟩)
 .rintro x0 _ _ ⟨hSk,s8,h1⟩;refine Wu ?_ hSk;refine Wq<|Wm z<|Rm z<|R z (lnR N_ z<|G.e s8)<|Rl z z z<|Wx z (λhc=>(a_h hc).elim) (λ_=>?_)
  exact We<|λ_ q=>⟨rfl,⟨q.k<|s1 z,s8,h1⟩⟩
 .rintro x0 al _ rfl ⟨_,sm,h1⟩;have hmn:=elL H;revert al;refine Wo<|Wm z<|Rw z ?_
  obtain rfl:=som hmn;exact Wr<|k_ hr z ⟨sm,z,h1⟩
 rintro _ _ _ _ rfl ⟨rfl,hqo⟩;have hmp:=elR H;obtain rfl:=som hmp;exact ⟨hqo,z⟩
theorem W_w29 {x1:u_}{g1:Nat}{x2:Str}{res:Str×Int×Int}(hm:g_p n x1 x2=some res)(hB1:Blk w0 g1 [sl A0 N0 C0,vI x1.i,vI x1.h])(Y:B<=w0.z)(hBg:¬B g1)(ah:repS w0 B (sl A0 N0 C0) x1.b)(bn:inI x1.i)(bo:inI x1.h)(bp:x2.b.length<=LEN):r_ prog 13 [pt g1,Str.v x2] w0 (Q3 w0 g1 B A0 N0 C0 x1 res):=by
 unfold g_p at hm
 refine goG func13 z z z λfn hr=>Ws<|Rw z<|Wm z ?_
 obtain ⟨_,_,bO,bq⟩:=a_v hm;refine E z (fc call22 z<|k_K (B:=B) bO Y bp) ?_;rintro _ I ⟨s3,aw,ns,cx,rfl,hn⟩;refine Rm z<|Re z z z<|Re z z z<|Ra z<|Rw z<|Ws<|E z (f0 (α:=Str) a_5) ?_
 rintro _ J ⟨bP,bQ,bR,rfl,sc,bS⟩;refine Rw z<|Wq<|Ws<|Rw z ?_
 obtain ⟨_,br,aK⟩:=bdS bq;refine Wf (σ:=(List Str)×Int×Int) (ρ:=Str×Int×Int) (λ(ko:Nat) s a w=>un3 (λxg xd xe=>∃O V W G,Sat 59 [(0,pt g1),(5,sl aw ns cx),(7,sl O V W),(8,vI ((ko:Nat):Int))] a/\Chg (· ∈ ([g1]++[I.z])) J w/\a_ w G (sl O V W) xg/\G.Nodup/\(∀k∈G,k∈[I.z]∨J.z<=k)/\inI xd/\inI xe/\Blk w g1 [sl A0 N0 C0,vI xd,vI xe]) s) (λs a w=>un3 (λxg xd xe=>∃O V W G,Sat 59 [(0,pt g1),(7,sl O V W)] a/\Chg (· ∈ ([g1]++[I.z])) J w/\a_ w G (sl O V W) xg/\G.Nodup/\(∀k∈G,k∈[I.z]∨J.z<=k)/\inI xd/\inI xe/\Blk w g1 [sl A0 N0 C0,vI xd,vI xe]) s) (rQ prog fn<|Q3 w0 g1 B A0 N0 C0 x1) br ?_ ?_ ?_ ?_ ?_
 .exact λ_ q=>⟨bP,bQ,bR,[I.z],q.k<|s4 z z z z,cr ([g1]++[I.z]) J,bS,a_A,io sr,bn,bo,(hB1.e s3).e sc⟩
 .rintro ko ⟨xg,xd,xe⟩ _ bT _ aL ⟨O,V,W,G,bs,sp,ha,hb,h6,hq,ht,hu⟩ bt;refine Wu ?_ bs;refine Wq<|Wm z<|Rm z ?_
  have aQ:=zt' Y s3.s;have am:∀k∈[g1],¬(zn B w0.z I.z) k:=a_F (b_ hBg) (b_<|Blk.lt hB1) lr;have an:=(sc.ag<|zn B w0.z I.z).c sp<|nmA (c_ am)<|c_ (or0 (b_ lr) (lenz (o_ aQ) lr):∀k∈[I.z],¬(zn B w0.z I.z) k)
  refine R z (lnR N_ z<|hn.g an)<|Rl z z z<|Wx z (λ_=>?_) (λhc=>(a_g aL hc).elim)
  refine Wk<|Wq<|Wb<|Wm z ?_
  have hh:=lt_ s3.s sc.s;obtain ⟨_,bU,bV,bW,bu⟩:=t_<|a_w bt;refine E z (fc call34 z<|a_T (B:=B) bW hu (zt' Y<|lt_ hh sp.s) hBg (ah.g<|((s3.ag B).e sc).c sp<|nmA (c_<|b_ hBg)<|c_ (or0 (b_ lr) (o_ aQ):∀k∈[I.z],¬B k)) hq ht<|ii z) ?_;rintro _ H ⟨sf,rfl,_,bX,bY,bZ⟩;refine Wn<|Wb<|Ws<|Rq z z z<|Rw z ?_
  obtain ⟨c0,aM,bv⟩:=bdS bu;refine Wt (λa w=>∃(xy:List Str),xy=c0/\∃az a0 a1 Si,Sat 59 [(0,pt g1),(5,sl aw ns cx),(7,sl az a0 a1),(8,vI ((ko:Nat):Int))] a/\Cg G H w/\a_ w Si (sl az a0 a1) xy/\Si.Nodup/\(∀k∈Si,k∈G∨H.z<=k)) ?_ ?_
  .refine Wc z (λai=>?_)<|λai=>?_
   .refine Wg<|Rm z<|E z (fS [(.const<|Str.v ⟨[35]⟩)] a_5 z z z (L_ z) (lb z)<|lb z) ?_
    rintro _ aR ⟨rfl,ao⟩;have ap:=ao.below;have dI:=a_6 ao<|a_Z<|lb z
    obtain ⟨c1,c2,bw⟩:=bdS<|ifT aM ai;refine E z (a_e (α:=Str) a_5 c2 z z ((ha.c sf (or1 h6 (mm1 (Blk.lt hB1) s3.s) (m_ (b_<|Blk.lt hB1) hh):∀k∈G,k∉[g1])).e ap) hb (ao.blk:Blk aR H.z [(Str.v (⟨[35]⟩:Str))]) (a_Z<|lb z) an_ v_) ?_;rintro _ c3 ⟨aS,c4,c5,c6,rfl,c7,c8,ca,cb⟩;refine Ra z<|Wl ?_
    exact λ_ q=>⟨c1,som bw,c4,c5,c6,aS,q.k<|s4 z z z z,(cM (e_ (cr G H) ap:Cg G H aR) c7 (io sr):Cg G H c3),c8,ca,(or2 cb (io sr) an_ (j_ ap.s):∀k∈aS,k∈G∨H.z<=k)⟩
   refine Ws<|Rq z z z<|Rw z ?_
   obtain ⟨cc,aN,bx⟩:=bdS<|ifF aM ai;refine Wt (λa w=>∃(a2:List Str),a2=cc/\∃a3 a4 a5 Sj,Sat 59 [(0,pt g1),(5,sl aw ns cx),(7,sl a3 a4 a5),(8,vI ((ko:Nat):Int))] a/\Cg G H w/\a_ w Sj (sl a3 a4 a5) a2/\Sj.Nodup/\(∀k∈Sj,k∈G∨H.z<=k)) ?_ ?_
   .refine Wc z (λaj=>?_)<|λaj=>?_
    .refine Wg<|Rm z<|E z (fS [(.const<|Str.v ⟨[46,46]⟩)] a_5 z z z (L_ z) (lb z)<|lb z) ?_
     rintro _ aT ⟨rfl,aq⟩;have ar:=aq.below;have dJ:=a_6 aq<|a_Z<|lb z
     obtain ⟨cd,ce,bz⟩:=bdS<|ifT aN aj;refine E z (a_e (α:=Str) a_5 ce z z ((ha.c sf (or1 h6 (mm1 (Blk.lt hB1) s3.s) (m_ (b_<|Blk.lt hB1) hh):∀k∈G,k∉[g1])).e ar) hb (aq.blk:Blk aT H.z [(Str.v (⟨[46,46]⟩:Str))]) (a_Z<|lb z) an_ v_) ?_;rintro _ cf ⟨aU,cg,ch,ci,rfl,cj,ck,cl,cm⟩;refine Ra z<|Wl ?_
     exact λ_ q=>⟨cd,som bz,cg,ch,ci,aU,q.k<|s4 z z z z,(cM (e_ (cr G H) ar:Cg G H aT) cj (io sr):Cg G H cf),ck,cl,(or2 cm (io sr) an_ (j_ ar.s):∀k∈aU,k∈G∨H.z<=k)⟩
    refine Ws<|Rq z z z<|Rw z ?_
    obtain ⟨cn,aO,bA⟩:=bdS<|ifF aN aj;refine Wt (λa w=>∃(a6:List Str),a6=cn/\∃a8 a9 aa Sk,Sat 59 [(0,pt g1),(5,sl aw ns cx),(7,sl a8 a9 aa),(8,vI ((ko:Nat):Int))] a/\Cg G H w/\a_ w Sk (sl a8 a9 aa) a6/\Sk.Nodup/\(∀k∈Sk,k∈G∨H.z<=k)) ?_ ?_
    .refine Wc z (λak=>?_)<|λak=>?_
     .refine Wg<|RM z z<|Rm z ?_
      obtain ⟨au,co,bB⟩:=bdS<|ifT aO ak;refine RX z (at_ (α:=Str) N_ z_9 z z z (hn.g<|an.c sf<|c_ am) co) ?_;rintro _ ⟨_,_,_,rfl,cp,cq,_⟩;obtain ⟨rfl,ct⟩:=a_z cq;refine R z (l0 g_9 z<|cp.at0 z)<|E z (fS [(.const<|Str.v ⟨[46,46]⟩),(.tmp 46)] a_5 z z z (L_ z) (lb z)<|lb z) ?_
      rintro _ av ⟨rfl,aV⟩;have ax:=aV.below;have aW:a_ av [H.z] (sl (some ⟨H.z,0,none⟩) 2 2) ([(⟨[46,46]⟩:Str),au]:List Str):=d_L (l:=[(⟨[46,46]⟩:Str),au]) (aV.blk:Blk av H.z [(Str.v (⟨[46,46]⟩:Str)),Str.v au]) (ac0 (lb z)<|ac0 ct an0) z;obtain ⟨cu,cv,bC⟩:=bdS bB;refine E z (fN (α:=Str) a_5 cv z z ((ha.c sf (or1 h6 (mm1 (Blk.lt hB1) s3.s) (m_ (b_<|Blk.lt hB1) hh):∀k∈G,k∉[g1])).e ax) hb<|or_ aW<|zin (B:=B) (b_ lr)<|a_.lt aW) ?_;rintro _ cw ⟨aX,cy,cz,cA,rfl,cB,cC,cD,cE⟩;refine Ra z<|Wl ?_
      exact λ_ q=>⟨cu,som bC,cy,cz,cA,aX,q.k<|s4 z z z z,(cM (e_ (cr G H) ax:Cg G H av) cB (io sr):Cg G H cw),cC,cD,(or1 cE (io sr) (j_ ax.s):∀k∈aX,k∈G∨H.z<=k)⟩
     refine Wg<|RM z z<|Rm z ?_
     obtain ⟨cF,cG,bD⟩:=bdS<|ifF aO ak;refine RX z (at_ (α:=Str) N_ z_9 z z z (hn.g<|an.c sf<|c_ am) cG) ?_;rintro _ ⟨_,_,_,rfl,cH,cI,_⟩;obtain ⟨rfl,aY⟩:=a_z cI;refine R z (l0 g_9 z<|cH.at0 z)<|E z (fS [(.tmp 27)] a_5 z z z (L_ z) (lb z)<|lb z) ?_
     rintro _ aZ ⟨rfl,ay⟩;have aA:=ay.below;have dK:=a_6 ay<|a_Z aY
     obtain ⟨cJ,cK,bE⟩:=bdS bD;refine E z (a_e (α:=Str) a_5 cK z z ((ha.c sf (or1 h6 (mm1 (Blk.lt hB1) s3.s) (m_ (b_<|Blk.lt hB1) hh):∀k∈G,k∉[g1])).e aA) hb (ay.blk:Blk aZ H.z [Str.v cF]) (a_Z aY) an_ v_) ?_;rintro _ cL ⟨b0,cN,cO,cP,rfl,cQ,cR,cS,cT⟩;refine Ra z<|Wl ?_
     exact λ_ q=>⟨cJ,som bE,cN,cO,cP,b0,q.k<|s4 z z z z,(cM (e_ (cr G H) aA:Cg G H aZ) cQ (io sr):Cg G H cL),cR,cS,(or2 cT (io sr) an_ (j_ aA.s):∀k∈b0,k∈G∨H.z<=k)⟩
    rintro cU cV ⟨a6,rfl,a8,a9,aa,Sk,_,cW,cX,cY,cZ⟩;revert cU;exact λ_ q=>⟨a6,som bA,a8,a9,aa,Sk,q.k<|s4 z z z z,(cM (cr G H) cW (io sr):Cg G H cV),cX,cY,(or1 cZ (io sr) (j_ lr):∀k∈Sk,k∈G∨H.z<=k)⟩
   rintro d0 d1 ⟨a2,rfl,a3,a4,a5,Sj,_,d2,d3,d4,d5⟩;revert d0;exact λ_ q=>⟨a2,som bx,a3,a4,a5,Sj,q.k<|s4 z z z z,(cM (cr G H) d2 (io sr):Cg G H d1),d3,d4,(or1 d5 (io sr) (j_ lr):∀k∈Sj,k∈G∨H.z<=k)⟩
  rintro d6 d7 ⟨xy,rfl,az,a0,a1,Si,_,b1,d8,d9,da⟩;revert d6;refine Wo<|Wg<|Rm z<|R z (inc_ aL (lt_ (repS.len hn) O_) z z)<|Ra z<|Wl ?_
  exact λ_ q=>⟨(xy,bU,bV),(som bv).symm,⟨az,a0,a1,Si,q.k<|s4 z z z z,(cM (cM (cM (cr ([g1]++[I.z]) J) sp (aa_ (io<|i_ sr)<|io<|f_ sr):Chg (· ∈ ([g1]++[I.z])) J bT) sf (io<|i_ sr):Chg (· ∈ ([g1]++[I.z])) J H) b1 (or1 h6 (io<|f_ sr) (j_ lr):∀k∈G,k∈([g1]++[I.z])∨J.z<=k):Chg (· ∈ ([g1]++[I.z])) J d7),d8,d9,(or1 da (or1 h6 (io sr) (j_ lr):∀k∈G,k∈[I.z]∨J.z<=k) (j_<|lt_ sp.s sf.s):∀k∈Si,k∈[I.z]∨J.z<=k),bX,bY,bZ.c b1<|djs (or1 h6 (mm1 (Blk.lt hB1) s3.s) (m_ (b_<|Blk.lt hB1) hh):∀k∈G,k∉[g1])⟩⟩
 .rintro ⟨xg,xd,xe⟩ _ db ⟨O,V,W,G,bF,b2,ha,hb,h6,hq,ht,hu⟩;refine Wu ?_ bF;refine Wq<|Wm z<|Rm z ?_
  refine R z (lnR N_ z<|hn.g<|(sc.ag<|zn B w0.z I.z).c b2<|nmA (c_ ((a_F (b_ hBg) (b_<|Blk.lt hB1) lr):∀k∈[g1],¬(zn B w0.z I.z) k))<|c_ (or0 (b_ lr) (lenz (o_<|zt' Y s3.s) lr):∀k∈[I.z],¬(zn B w0.z I.z) k))<|Rl z z z<|Wx z (λhc=>(a_h hc).elim) (λ_=>?_)
  exact We<|λ_ q=>⟨rfl,⟨O,V,W,G,q.k<|s2 z z,(cM (cr ([g1]++[I.z]) J) b2 (aa_ (io<|i_ sr)<|io<|f_ sr):Chg (· ∈ ([g1]++[I.z])) J db),ha,hb,(or1 h6 (io sr) (j_ lr):∀k∈G,k∈[I.z]∨J.z<=k),hq,ht,hu⟩⟩
 .rintro ⟨xg,xd,xe⟩ dc dd rfl ⟨O,V,W,G,_,aB,ha,hb,h6,hq,ht,hu⟩;have bG:=elL aK;revert dc;refine Wo<|Wq<|Wm z ?_
  have b3:=((s3.ag B).e sc).c aB<|nmA (c_<|b_ hBg)<|c_ (or0 (b_ lr) (o_<|zt' Y s3.s):∀k∈[I.z],¬B k)
  have hv:=lt_ s3.s sc.s;have aC:=lt_ hv aB.s;obtain ⟨_,de,df,dg,bH⟩:=t_<|a_w bG;refine E z (fc call31 z<|g_d (B:=B) dg hu (zt' Y aC) hBg (ah.g b3) hq ht<|ii z) ?_;rintro _ L ⟨sm,rfl,b4,b5,b6⟩;refine Wn ?_;obtain ⟨dh,aP,bI⟩:=bdS bH;refine Wt (λa w=>∃(aD:List Str)(ab:Int)(ad:Int),(aD,ab,ad)=dh/\∃aE aF aG ae,Sat 59 [(7,sl aE aF aG)] a/\Chg (· ∈ ([g1]++G)) L w/\a_ w ae (sl aE aF aG) aD/\ae.Nodup/\(∀k∈ae,k∈G∨L.z<=k)/\inI ab/\inI ad/\Blk w g1 [sl A0 N0 C0,vI ab,vI ad]) ?_ ?_
  .refine Wc z (λal=>?_)<|λal=>?_
   .refine Wg<|RM z z<|E z (fS [(.const<|Str.v ⟨[46,46]⟩),.const<|Str.v ⟨[35]⟩,.const<|Str.v ⟨[112,49]⟩,(.const<|Str.v ⟨[35,35]⟩)] a_5 z z z (L_ z) (lb z)<|lb z) ?_
    rintro _ wr ⟨rfl,b7⟩;have hl:=b7.below;have b8:a_ wr [L.z] (sl (some ⟨L.z,0,none⟩) 4 4) ([(⟨[46,46]⟩:Str),(⟨[35]⟩:Str),(⟨[112,49]⟩:Str),(⟨[35,35]⟩:Str)]:List Str):=d_L (l:=[(⟨[46,46]⟩:Str),(⟨[35]⟩:Str),(⟨[112,49]⟩:Str),(⟨[35,35]⟩:Str)]) (b7.blk:Blk wr L.z [(Str.v (⟨[46,46]⟩:Str)),Str.v (⟨[35]⟩:Str),Str.v (⟨[112,49]⟩:Str),(Str.v (⟨[35,35]⟩:Str))]) (ac0 (lb z)<|ac0 (lb z)<|ac0 (lb z)<|ac0 (lb z) an0) z;have b9:=lt_ aC sm.s;obtain ⟨di,dj,dk,dl,bJ⟩:=t_<|ifT aP al;refine E z (fc call35 z<|e_7 (B:=zn B L.z wr.z) dl (b6.e hl) (a_B (zt' Y<|lt_ b9 hl.s) lr) (atp ((a_F (b_ hBg) (b_<|Blk.lt hB1) b9):∀k∈[g1],¬(zn B L.z wr.z) k)) (repS.mono (ah.g<|(b3.c sm<|c_<|b_ hBg).e hl) a_r) b4 b5<|or_ b8<|zin (B:=B) (b_ lr)<|a_.lt b8) ?_;rintro _ ba ⟨aH,rfl,bb,dm,dn,dp⟩;refine E z (fS [(.tmp 54)] a_5 z z z (L_ z) (lb z)<|lb z) ?_;rintro _ bc ⟨rfl,aI⟩;have af:=aI.below;have dL:=a_6 aI<|a_Z bb
    have aJ:∀k∈G,k∉[g1]:=or1 h6 (mm1 (Blk.lt hB1) s3.s)<|m_ (b_<|Blk.lt hB1) hv;obtain ⟨dq,dr,bK⟩:=bdS bJ;refine E z (a_e (α:=Str) a_5 dr z z ((((ha.c sm aJ).e hl).c aH aJ).e af) hb (aI.blk:Blk bc ba.z [Str.v di]) (a_Z bb) an_ v_) ?_;rintro _ ds ⟨be,dt,du,dv,rfl,bf,dw,dx,dy⟩;refine Ra z<|Wl ?_
    exact λ_ q=>⟨dq,dj,dk,som bK,dt,du,dv,be,q.k<|s1 z,(cM (e_ (cM (e_ (cr ([g1]++G) L) hl:Chg (· ∈ ([g1]++G)) L wr) aH (io<|i_ sr):Chg (· ∈ ([g1]++G)) L ba) af:Chg (· ∈ ([g1]++G)) L bc) bf (io<|f_ sr):Chg (· ∈ ([g1]++G)) L ds),dw,dx,(or2 dy (io sr) an_ (j_<|lt_ (lt_ hl.s aH.s) af.s):∀k∈be,k∈G∨L.z<=k),dm,dn,(dp.e af).c bf<|djs aJ⟩
   refine Z_ ?_;exact λ_ q=>⟨xg,de,df,som<|ifF aP al,O,V,W,G,q.k<|s1 z,cr ([g1]++G) L,ha.c sm (or1 h6 (mm1 (Blk.lt hB1) s3.s) (m_ (b_<|Blk.lt hB1) hv):∀k∈G,k∉[g1]),hb,io sr,b4,b5,b6⟩
  rintro dz bg ⟨aD,ab,ad,rfl,aE,aF,aG,ae,_,bh,bi,_,dA,dB,dC,dD⟩;revert dz;refine Wo<|Wm z ?_
  have bj:=lt_ aC sm.s;obtain ⟨_,dF,bL⟩:=bdS<|a_w bI;refine E z (fc call36 z<|W_w28 (B:=zn B w0.z bg.z) dF (a_B (zt' Y<|lt_ bj bh.s) lr)<|or_ bi<|zin (B:=B) (a_u dA (a_u h6 (m1 s3.s) hv) bj)<|a_.lt bi) ?_;rintro _ dG ⟨bk,rfl,dH⟩;refine Rw z ?_
  obtain rfl:=som bL;have bm:∀k∈[I.z],k∈[g1]∨w0.z<=k:=mor s3.s;exact Wr<|k_ hr z ⟨(e_ (cM (cM (cM (e_ (e_ (cr [g1] w0) s3:Cg [g1] w0 I) sc:Cg [g1] w0 J) aB (aa_ (io sr) bm):Cg [g1] w0 dd) sm (io sr):Cg [g1] w0 L) bh (aa_ (io sr) (or1 h6 bm (j_ hv):∀k∈G,k∈[g1]∨w0.z<=k)):Cg [g1] w0 bg) bk:Cg [g1] w0 dG),z,dH,dB,dC,dD.e bk⟩
 rintro _ _ _ _ rfl ⟨rfl,bM⟩;have bN:=elR aK;obtain rfl:=som bN;exact ⟨bM,z⟩
theorem W_w2a {x1:Bt}{res:g_×Bt×Str}(hm:g_q n x1=some res)(J:B<=w0.z)(V:repS w0 B (sl A0 N0 C0) x1):r_ prog 5 [sl A0 N0 C0] w0 (Q14 w0 B res):=by
 unfold g_q at hm
 refine goG func5 z z z λfn hr=>Ws<|E z (fa e_6) ?_
 rintro _ L ⟨rfl,hn⟩;have h4:=hn.below;have O:Blk L w0.z [sN]:=hn.blk;refine Ra z<|Rw z<|Wm z ?_
 obtain ⟨_,_,_,em,hmr⟩:=t_ hm;refine E z (fc call11 z<|W_w27 em (zt' J h4.s)<|V.e h4) ?_;rintro _ H ⟨s6,ab,nc,cd,Ss,au,nv,cw,rfl,hf,hx,hy,hz,ho⟩;refine Rm z ?_
 iterate 3 refine Re z z z ?_
 refine E z (fa e_6) ?_;rintro _ a0 ⟨rfl,hp⟩;have h2:=hp.below;have hg:Blk a0 H.z [sN]:=hp.blk;refine E0 (fs0 (cur':=[sl ab nc cd]) z_ z z hg z z z z) ?_;rintro _ _ ⟨a1,a2⟩;have G:=a2.one;refine Ra z<|Rw z<|Wm z ?_
 have hh:=lt_ h4.s s6.s;have hq:=zt' J hh;have hi:=lt_ (lt_ hh h2.s) G.s;have hj:=zt' J hi;obtain ⟨_,a3,W⟩:=bdS hmr;refine E z (fc call12 z<|W_w18 (B:=B) a3 hj<|V.g<|(((h4.ag B).e s6).e h2).c G<|c_ (or0 (b_ lr) (o_ hq):∀k∈[H.z],¬B k)) ?_;rintro _ a4 ⟨s3,gk,_,_,_,rfl,a5,I,a6,a7,a8⟩;refine Rw z<|Wq (Wd (X:=λk=>k∈([gk]++[w0.z])∨a4.z<=k) 0 (pl_ 8 [4,5]) mo (by kernel_rfl) λaf s1 _=>?_)
 have ht:=mm1 O.lt s6.s;refine dR z z (lN (vs:=[sl ab nc cd]) B_ z_ z z (a_o (atp<|nmA (ds<|n_ (b_ I) hg.lt G.s) ht)<|Nat.lt_of_lt_of_le hg.lt<|lt_ G.s s3.s)<|((a1.e s3).e s1).row 0 1 z) ?_
 iterate 3 refine dM z z z ?_
 obtain ⟨_,_,_,a9,Y⟩:=t_ W;refine dE z z (fc call13 z<|W_w29 (B:=B) a9 (a5.e s1) (zt' J<|lt_ (lt_ hi s3.s) s1.s) (atp (or0 (b_ I) (o_ hj):∀k∈[gk],¬B k)) (a6.e s1) a7 a8 hy) (.inr λ_ _ h=>h.1.mono λk _ hk=>(io<|i_ sr) k hk) ?_;rintro _ _ ⟨sa,rfl,aa,_,_,_⟩;refine dE0 z (fs0 (cur':=[sl ab nc cd]) z_ z z ((((((O.e s6).e h2).c G<|djs ht).e s3).e s1).c sa<|djs<|n_ (b_ I) O.lt<|lt_ (lt_ s6.s h2.s) G.s) z z z z) (.inr λ_ _ h=>chgInN (List.mem_append_right _<|List.mem_singleton.2 rfl) h.2) ?_;rintro _ _ ⟨ad,ae⟩;have he:=ae.one;refine dQ z z z<|dQ z z z<|pD<|Wo ?_
 obtain rfl:=som Y;have hl:=lt_ h2.s G.s;exact Wr<|E_ hr (x_ B_ z_ z ad z) z z ⟨bM (bM (bup (bup (bM (bup (bup h4 s6) h2) G<|m1 hh) s3) s1) sa<|q_ (b_ I) hi) he<|b_ lr,ab,nc,cd,Ss,au,nv,cw,z,(((((hf.e h2).c G<|ds<|mnr<|a_.lt hf).e s3).e s1).c sa<|ds<|c_z (b_ I) (a_.lt hf) hl).c he<|n_ ho O.lt lr,repS.mono (hx.g<|(((((h2.ag<|zn B L.z H.z).c G<|c_ (or0 (b_ lr) (lenz (o_ hq) lr):∀k∈[H.z],¬(zn B L.z H.z) k)).e s3).e s1).c sa<|c_ (or0 (b_ I) (lenz (o_ hj) hl):∀k∈[gk],¬(zn B L.z H.z) k)).c he<|c_ ((a_F (or0 (b_ lr) (o_ J):∀k∈[w0.z],¬B k) (b_ O.lt) lr):∀k∈[w0.z],¬(zn B L.z H.z) k))<|g_D h4.s<|lt_ (lt_ (lt_ (lt_ hl s3.s) s1.s) sa.s) he.s,aa,hz,q_ ho h4.s⟩
theorem k_L {x1:g_}{res:Int}(hm:f_Y x1=some res)(J:B<=w0.z)(H:repS w0 B (sl A0 N0 C0) x1.rules):r_ prog 39 [(.agg #[sl A0 N0 C0])] w0 (Q9 w0 B res):=by
 unfold f_Y at hm
 refine goG func39 z z z λfn hr=>Ws<|E z (fb z) ?_
 rintro _ I ⟨rfl,G⟩;have h1:=G.below;refine Rw z<|Ws<|Rf z R_ z<|R z (l0 S_ z<|(G.blk:Blk I w0.z [sl A0 N0 C0]).at z)<|R z (lnR K_ z<|H.e h1)<|R z (sb_ z z)<|Rw z ?_
 obtain rfl:=som hm;exact Wr<|k_ hr z ⟨h1,z,iS _ _⟩
theorem e_F {x1:Int}{x2:Int}{x3:Int}{res:Bool}(hm:c_D x1 x2 x3=some res)(Y:B<=w0.z)(O:inI x1)(V:inI x2)(W:inI x3):r_ prog 127 [vI x1,vI x2,vI x3] w0 (Q0 w0 B res):=by
 unfold c_D at hm
 refine goG func127 z z z λfn hr=>Ws<|Rw z<|Wq ?_
 obtain ⟨J,H,I⟩:=bdS hm;refine Wt (λa w=>∃(x4:Bool),x4=J/\Sat 15 [(6,vB x4)] a/\Below w0.z w0 w) ?_ ?_
 .refine Wg<|RM z z<|R z (c_M z z)<|Rm z ?_
  rcases bs (decide<|x2<=x1) with G | G
  .exact Rh z G (mv z)<|Rh z G (mv z)<|Rh z G (c_M z z)<|R z (pT z G z)<|Ra z<|Wl (λ_ q=>⟨decide<|x1<=x3,som<|ifT H G,q.k<|s1 z,br w0⟩)
  iterate 3 refine Nh z G ?_
  exact R z (pF z G z)<|Ra z<|Wl (λ_ q=>⟨false,som<|ifF H G,q.k<|s1 z,br w0⟩)
 rintro L _ ⟨x4,rfl,_,s6⟩;revert L;refine Wo ?_;obtain rfl:=som I;exact Wr<|k_ hr z ⟨s6,z⟩
theorem k_M {x1:g_}{x2:Int}{res:Bool}(hm:e_w x1 x2=some res)(Y:B<=w0.z)(J:repS w0 B (sl A0 N0 C0) x1.rules)(W:inI x2):r_ prog 98 [(.agg #[sl A0 N0 C0]),vI x2] w0 (Q0 w0 B res):=by
 unfold e_w at hm
 refine goG func98 z z z λfn hr=>Ws<|E z (fb z) ?_
 rintro _ H ⟨rfl,h2⟩;have h4:=h2.below;refine Rw z<|Wq ?_
 obtain ⟨O,I,L⟩:=bdS hm;refine Wt (λa w=>∃(x3:Bool),x3=O/\Sat 14 [(4,vB x3)] a/\Below H.z H w) ?_ ?_
 .refine Wg<|Rm z<|R z (b_P z z)<|Rm z ?_
  rcases bs (decide<|0<=x2) with G | G
  .exact Rh z G (mv z)<|Rh z G (fd R_ z)<|Rh z G (l0 S_ z<|(h2.blk:Blk H w0.z [sl A0 N0 C0]).at z)<|Rh z G (lnR K_ z<|J.e h4)<|Rh z G (lss z z)<|R z (pT z G z)<|Ra z<|Wl (λ_ q=>⟨decide<|x2<(x1.rules.length:Int),som<|ifT I G,q.k<|s1 z,br H⟩)
  iterate 5 refine Nh z G ?_
  exact R z (pF z G z)<|Ra z<|Wl (λ_ q=>⟨false,som<|ifF I G,q.k<|s1 z,br H⟩)
 rintro V _ ⟨x3,rfl,_,sa⟩;revert V;refine Wo ?_;obtain rfl:=som L;exact Wr<|k_ hr z ⟨bup h4 sa,z⟩
theorem k_N {x1:Str}{res:Bool}(hm:e_u n x1=some res)(ap:B<=w0.z)(ao:x1.b.length<=LEN):r_ prog 92 [Str.v x1] w0 (Q0 w0 B res):=by
 unfold e_u at hm
 refine goG func92 z z z λfn hr=>Ws<|Rw z<|Wq<|Wq ?_
 obtain ⟨a8,huo,hmp⟩:=bdS hm;refine Wt (λa w=>∃(xg:Bool),xg=a8/\Sat 43 [(0,Str.v x1),(14,vB xg)] a/\Below w0.z w0 w) ?_ ?_
 .refine Wg<|Rm z<|R z (lnT d_9 z)<|Rl z z z<|Rm z ?_
  rcases bs (decide<|(x1.b.length:Int)<1) with J | J
  .iterate 3 refine Nh z J ?_
   exact R z (pT z J z)<|Wl (λ_ q=>⟨true,som<|ifT huo J,q.k<|s2 z z,br w0⟩)
  exact Rh z J (mv z)<|Rh z J (lnT d_9 z)<|Rh z J (a_b z z)<|R z (pF z J z)<|Wl (λ_ q=>⟨decide<|12<(x1.b.length:Int),som<|ifF huo J,q.k<|s2 z z,br w0⟩)
 rintro a9 G ⟨xg,rfl,_,s9⟩;revert a9;refine Wo<|Wc z (λhch=>?_) (λhch=>?_)
 .refine Ws<|Rw z ?_
  obtain rfl:=som<|ifT hmp hch;exact Wr<|k_ hr z ⟨s9,z⟩
 refine Wk<|Wq<|Wm z<|E z (o_s d_9 z) ?_
 rintro _ I ⟨rfl,sq,aa⟩;refine Wn ?_;obtain ⟨_,a1,hmr⟩:=bdS<|ifF hmp hch;refine b_Y (σ:=Nat) (ρ:=Bool) (λ(x0:Nat) a w=>Sat 43 [(16,pt G.z)] a/\Cg [G.z] I w/\b_y w G.z x1 x0) (λ(x0:Nat) a w=>Sat 43 [] a/\Cg [G.z] I w/\b_y w G.z x1 x0) (rQ prog fn<|Q0 w0 B) a1 ?_ ?_ ?_ ?_
 .exact λ_ q=>⟨q.k<|s1 z,cr [G.z] I,aa⟩
 .rintro x0 _ ws _ ⟨a2,si,he⟩ hmt;refine Wu ?_ a2;refine Ws ?_
  rcases bs (decide<|x0<x1.b.length) with hca | hca
  .refine E z (o_t z he<|of_decide_eq_true hca) ?_;rintro _ wb ⟨rfl,ab,su⟩;refine Re z z z<|Wn<|Wq<|Wc z (λ_=>?_) (λhc=>(bcon z hc).elim)
   refine Wk<|Wb<|Ws<|Re z z z<|Re z z z<|Ra z<|Rw z<|Wq ?_
   obtain ⟨ad,huv,a3⟩:=bdS<|ifT hmt hca;refine Wt (λa w=>∃(xc:Bool),xc=ad/\Sat 43 [(3,vI (x0:Int)),(4,.int .i32<|(dec x1 x0).1),(5,vB xc),(16,pt G.z)] a/\Below wb.z wb w) ?_ ?_
   .refine Wg<|Rm z<|R z (b_P z z)<|Rm z ?_
    rcases bs (decide<|97<=((dec x1 x0).1)) with L | L
    .exact Rh z L (mv z)<|Rh z L (c_M z z)<|R z (pT z L z)<|Ra z<|Wl (λ_ q=>⟨decide<|((dec x1 x0).1)<=122,som<|ifT huv L,q.k<|s4 z z z z,br wb⟩)
    exact Nh z L<|Nh z L<|R z (pF z L z)<|Ra z<|Wl (λ_ q=>⟨false,som<|ifF huv L,q.k<|s4 z z z z,br wb⟩)
   rintro ae wd ⟨xc,rfl,_,sj⟩;revert ae;refine Wo<|Wq ?_
   obtain ⟨af,huw,a4⟩:=bdS a3;refine Wt (λa w=>∃(xf:Bool),xf=af/\Sat 43 [(3,vI (x0:Int)),(5,vB xc),(6,vB xf),(16,pt G.z)] a/\Below wd.z wd w) ?_ ?_
   .refine Wg<|Rm z<|R z (b_P z z)<|Rm z ?_
    rcases bs (decide<|48<=((dec x1 x0).1)) with O | O
    .exact Rh z O (mv z)<|Rh z O (c_M z z)<|R z (pT z O z)<|Ra z<|Wl (λ_ q=>⟨decide<|((dec x1 x0).1)<=57,som<|ifT huw O,q.k<|s4 z z z z,br wd⟩)
    exact Nh z O<|Nh z O<|R z (pF z O z)<|Ra z<|Wl (λ_ q=>⟨false,som<|ifF huw O,q.k<|s4 z z z z,br wd⟩)
   rintro ah W ⟨xf,rfl,_,sk⟩;revert ah;refine Wo<|Wq ?_
   obtain ⟨ai,hux,hmy⟩:=bdS a4;refine Wt (λa w=>∃(xl:Bool),xl=ai/\Sat 43 [(16,pt G.z),(42,vB xl)] a/\Below W.z W w) ?_ ?_
   .refine Wg<|Rm z<|R z (not_ z)<|Rm z ?_
    rcases bs (!xc) with H | H
    .have hmz:=ifT hux H;refine Rh z H (mv z)<|Rh z H (not_ z)<|Rh z H (mv z) ?_
     rcases bs (!xf) with V | V
     .exact Nh z V<|Nh z V<|Rh z H (pT z V z)<|R z (pT z H z)<|Wl (λ_ q=>⟨true,som<|ifT hmz V,q.k<|s2 z z,br W⟩)
     exact Rh z V (mv z)<|Rh z V (eql z z)<|Rh z H (pF z V z)<|R z (pT z H z)<|Wl (λ_ q=>⟨(x0:Int)==0,som<|ifF hmz V,q.k<|s2 z z,br W⟩)
    iterate 3 refine Nh z H ?_
    exact Nv z<|Nv z<|Nh z H<|R z (pF z H z)<|Wl (λ_ q=>⟨false,som<|ifF hux H,q.k<|s2 z z,br W⟩)
   rintro aj ak ⟨xl,rfl,_,sm⟩;revert aj;refine Wo<|Wc z (λhcn=>?_) (λhcn=>?_)
   .refine Ws<|Rw z ?_
    have Y:=m1 s9.s;exact Wr<|rtO<|qL (som<|ifT hmy hcn).symm<|k_ hr z ⟨bup (bup (bup (bM (bM (bup s9 sq) si Y) su Y) sj) sk) sm,z⟩
   refine Z_ ?_;exact λ_ q=>⟨x0+(dec x1 x0).2,(som<|ifF hmy hcn).symm,⟨q.k<|s1 z,(e_ (e_ (e_ (cM (cM (cr [G.z] I) si (io sr):Cg [G.z] I ws) su (io sr):Cg [G.z] I wb) sj:Cg [G.z] I wd) sk:Cg [G.z] I W) sm:Cg [G.z] I ak),((ab.e sj).e sk).e sm⟩⟩
  refine E z (o_u z he<|of_decide_eq_false hca) ?_;rintro _ al ⟨rfl,a0⟩;refine Re z z z<|Wn<|Wq<|Wc z (λhc=>(bcon hc z).elim) (λ_=>?_)
  exact We<|λ_ q=>b_x (som<|ifF hmt hca).symm ⟨q.k sn,(e_ (cM (cr [G.z] I) si (io sr):Cg [G.z] I ws) a0:Cg [G.z] I al),he.e a0⟩
 .rintro x0 am _ rfl ⟨_,an,he⟩;have a5:=elL hmr;revert am;refine Wo<|Ws<|Rw z ?_
  obtain rfl:=som a5;exact Wr<|k_ hr z ⟨bM (bup s9 sq) an<|m1 s9.s,z⟩
 rintro _ _ _ _ rfl ⟨rfl,a6⟩;have a7:=elR hmr;obtain rfl:=som a7;exact ⟨a6,z⟩
theorem e_8 {x1:d_}{x2:Bool}{x3:Bool}{x4:Bool}{x5:Bool}{x6:Int}{res:Bool}(hm:c_E x1 x2 x3 x4 x5 x6=some res)(a8:B<=w0.z)(a4:x1.name.b.length<=LEN)(a5:inI x1.kind)(a6:inI x1.size)(a0:repS w0 B (sl A9 N9 C9) x1.bytes)(a1:repS w0 B (sl A8 N8 C8) x1.names)(a2:repS w0 B (sl AA NA CA) x1.tags)(a3:repS w0 B (sl AB NB CB) x1.kids)(a7:inI x6):r_ prog 138 [(.agg #[Str.v x1.name,vI x1.kind,vI x1.size,vB x1.little,sl A9 N9 C9,sl A8 N8 C8,sl AA NA CA,sl AB NB CB]),vB x2,vB x3,vB x4,vB x5,vI x6] w0 (Q0 w0 B res):=by
 unfold c_E at hm
 refine goG func138 z z z λfn hr=>Ws<|E z (fb z) ?_
 rintro _ w9 ⟨rfl,hd⟩;have ha:=hd.below;have hb:Blk w9 w0.z (vR x1 A9 N9 C9 A8 N8 C8 AA NA CA AB NB CB):=hd.blk;refine Rw z<|Wq ?_
 obtain ⟨ur,hus,hmt⟩:=bdS hm;refine Wt (λa w=>∃(xc:Bool),xc=ur/\Sat 57 [(12,vB xc)] a/\Below w9.z w9 w) ?_ ?_
 .refine Wg<|RM z z ?_
  obtain ⟨ue,huf,hmu⟩:=bdS hus;refine d_H 18 ue 4 ?_ ?_
  .rcases bs x2 with Y | Y
   .iterate 3 refine Nh z Y ?_
    exact R z (pT z Y z)<|WLq 4 (ifT huf Y) z z z
   exact Rh z Y (fd a_W z)<|Rh z Y (l0 g_3 z<|hb.at z)<|Rh z Y (eql z z)<|R z (pF z Y z)<|WLq 4 (ifF huf Y) z z z
  refine Rm z ?_;obtain ⟨ug,huh,hmv⟩:=bdS hmu;refine d_H 27 ug 8 ?_ ?_
  .rcases bs ue with G | G
   .have hmi:=ifT huh G;refine Rh z G (mv z)<|Rh z G (mv z) ?_
    rcases bs x3 with O | O
    .iterate 4 refine Nh z O ?_
     exact Rh z G (pT z O z)<|R z (pT z G z)<|WLq 8 (ifT hmi O) z z z
    exact Rh z O (fd a_X z)<|Rh z O (l0 a_0 z<|hb.at z)<|Rh z O (lnR w_ z<|a0.e ha)<|Rh z O (eql z z)<|Rh z G (pF z O z)<|R z (pT z G z)<|WLq 8 (ifF hmi O) z z z
   exact Nh z G<|Nh z G<|Nv z<|Nv z<|Nv z<|Nv z<|Nh z G<|R z (pF z G z)<|WLq 8 (ifF huh G) z z z
  refine Rm z ?_;obtain ⟨uj,huk,hmw⟩:=bdS hmv;refine d_H 36 uj 8 ?_ ?_
  .rcases bs ug with H | H
   .have hml:=ifT huk H;refine Rh z H (mv z)<|Rh z H (mv z) ?_
    rcases bs x4 with V | V
    .iterate 4 refine Nh z V ?_
     exact Rh z H (pT z V z)<|R z (pT z H z)<|WLq 8 (ifT hml V) z z z
    exact Rh z V (fd b_K z)<|Rh z V (l0 a_R z<|hb.at z)<|Rh z V (lnR N_ z<|a1.e ha)<|Rh z V (eql z z)<|Rh z H (pF z V z)<|R z (pT z H z)<|WLq 8 (ifF hml V) z z z
   exact Nh z H<|Nh z H<|Nv z<|Nv z<|Nv z<|Nv z<|Nh z H<|R z (pF z H z)<|WLq 8 (ifF huk H) z z z
  refine Rm z ?_;obtain ⟨um,hun,hmo⟩:=bdS hmw;refine d_H 45 um 8 ?_ ?_
  .rcases bs uj with I | I
   .have hmp:=ifT hun I;refine Rh z I (mv z)<|Rh z I (mv z) ?_
    rcases bs x5 with W | W
    .iterate 4 refine Nh z W ?_
     exact Rh z I (pT z W z)<|R z (pT z I z)<|WLq 8 (ifT hmp W) z z z
    exact Rh z W (fd b_3 z)<|Rh z W (l0 F_ z<|hb.at z)<|Rh z W (lnR G_ z<|a2.e ha)<|Rh z W (eql z z)<|Rh z I (pF z W z)<|R z (pT z I z)<|WLq 8 (ifF hmp W) z z z
   exact Nh z I<|Nh z I<|Nv z<|Nv z<|Nv z<|Nv z<|Nh z I<|R z (pF z I z)<|WLq 8 (ifF hun I) z z z
  refine Rm z ?_
  rcases bs um with J | J
  .have hmq:=ifT hmo J;refine Rh z J (mv z)<|Rh z J (lss z z)<|Rh z J (mv z) ?_
   rcases bs (decide<|x6<0) with L | L
   .iterate 5 refine Nh z L ?_
    exact Rh z J (pT z L z)<|R z (pT z J z)<|Ra z<|Wl (λ_ q=>⟨true,som<|ifT hmq L,q.k<|s1 z,br w9⟩)
   exact Rh z L (fd Q_ z)<|Rh z L (l0 F_ z<|hb.at z)<|Rh z L (lnR G_ z<|a3.e ha)<|Rh z L (mv z)<|Rh z L (eql z z)<|Rh z J (pF z L z)<|R z (pT z J z)<|Ra z<|Wl (λ_ q=>⟨(x1.kids.length:Int)==x6,som<|ifF hmq L,q.k<|s1 z,br w9⟩)
  iterate 3 refine Nh z J ?_
  exact Nv z<|Nv z<|Nv z<|Nv z<|Nv z<|Nh z J<|R z (pF z J z)<|Ra z<|Wl (λ_ q=>⟨false,som<|ifF hmo J,q.k<|s1 z,br w9⟩)
 rintro ax _ ⟨xc,rfl,_,sy⟩;revert ax;refine Wo ?_;obtain rfl:=som hmt;exact Wr<|k_ hr z ⟨bup ha sy,z⟩
theorem k_O {x1:g_}{x2:Int}{res:Int}(hm:f_6 x1 x2=some res)(V:B<=w0.z)(I:repS w0 B (sl A0 N0 C0) x1.rules)(Y:inI x2):r_ prog 139 [(.agg #[sl A0 N0 C0]),vI x2] w0 (Q9 w0 B res):=by
 unfold f_6 at hm
 refine goG func139 z z z λfn hr=>Ws<|E z (fb z) ?_
 rintro _ L ⟨rfl,W⟩;have h2:=W.below;have h6:Blk L w0.z [sl A0 N0 C0]:=W.blk;refine Rw z<|Wq<|Wq ?_
 obtain ⟨uf,hug,hma⟩:=bdS hm;refine Wt (λa w=>∃(O:Bool),O=uf/\Sat 37 [(1,vI x2),(2,pt w0.z),(27,vB O)] a/\Below L.z L w) ?_ ?_
 .refine Wg<|R z (lN (vs:=[sl A0 N0 C0]) B_ z_ z z fid<|h6.row 0 1 z)<|Rm z ?_
  obtain ⟨rh,ei,hmb⟩:=bdS hug;refine E z (fc call98 z<|k_M ei (zt' V h2.s) (I.e h2) Y) ?_;rintro _ _ ⟨s4,rfl⟩;refine R z (not_ z)<|Rm z ?_
  rcases bs (!rh) with H | H
  .iterate 7 refine Nh z H ?_
   exact R z (pT z H z)<|Rm z<|Nh z z<|Nh z z<|Nh z z<|Nh z z<|Nh z z<|Nh z z<|Nh z z<|Nh z z<|R z (pT z z z)<|Wl (λ_ q=>⟨true,som<|ifT hmb H,q.k<|s3 z z z,s4⟩)
  refine Rh z H (fd R_ z) ?_;have hc:=h6.e s4;refine Rh z H (l0 S_ z<|hc.at z)<|Rh z H (mv z) ?_
  obtain ⟨xj,ek,hmd⟩:=bdS<|ifF hmb H;have he:=I.g<|(h2.ag B).e s4
  refine RXg z z H z (at_ (α:=d_) K_ p_ z z z he ek) ?_;rintro _ ⟨_,_,_,rfl,hl,hn,_⟩;obtain ⟨_,_,_,_,_,_,_,_,_,_,_,_,rfl,_,_,_,_,_,_,_⟩:=a_H hn;refine Rh z H (fd a_G z)<|Rh z H (l0 g_3 z<|hl.at (j:=1) z)<|Rh z H (nq z z)<|R z (pF z H z)<|Rm z ?_
  rcases bs (xj.kind != 1) with G | G
  .iterate 8 refine Nh z G ?_
   exact R z (pT z G z)<|Wl (λ_ q=>⟨true,som<|ifT hmd G,q.k<|s3 z z z,s4⟩)
  refine Rh z G (fd R_ z)<|Rh z G (l0 S_ z<|hc.at z)<|Rh z G (mv z) ?_
  obtain ⟨_,em,hmo⟩:=bdS<|ifF hmd G;refine RXg z z G z (at_ (α:=d_) K_ p_ z z z he em) ?_;rintro _ ⟨_,_,_,rfl,hp,hq,_⟩;obtain ⟨_,_,_,_,_,_,_,_,_,_,_,_,rfl,_,_,ht,_,_,_,_⟩:=a_H hq;refine Rh z G (fd a_W z)<|Rh z G (l0 g_3 z<|hp.at (j:=2) z) ?_
  obtain ⟨rr,es,hmu⟩:=bdS hmo;refine Eg z z G z (fc call127 z<|e_F es (zt' V<|lt_ h2.s s4.s) ht (ii z)<|ii z) ?_;rintro _ _ ⟨sv,rfl⟩;exact Rh z G (not_ z)<|R z (pF z G z)<|Wl (λ_ q=>⟨!rr,som hmu,q.k<|s3 z z z,bup s4 sv⟩)
 rintro aw _ ⟨O,rfl,_,s5⟩;revert aw;refine Wo<|Wc z (λJ=>?_) (λJ=>?_)
 .refine Ws<|Rw z ?_
  obtain rfl:=som<|ifT hma J;exact Wr<|k_ hr z ⟨bup h2 s5,z,ii z⟩
 refine Wk<|Ws<|Rf z R_ z<|R z (l0 S_ z<|(h6.e s5).at z)<|Rm z ?_
 obtain ⟨_,ex,hmy⟩:=bdS<|ifF hma J;refine RX z (at_ (α:=d_) K_ p_ z z z (I.g<|(h2.ag B).e s5) ex) ?_;rintro _ ⟨_,_,_,rfl,hz,a1,_⟩;obtain ⟨_,_,_,_,_,_,_,_,_,_,_,_,rfl,_,_,_,_,_,_,_⟩:=a_H a1;refine Rf z a_W z<|R z (l0 g_3 z<|hz.at (j:=2) z)<|R z (d_1 z z) ?_
 obtain ⟨_,a2,a0⟩:=bdS hmy;refine R z (i_B z z<|nnS a2)<|R z (sb_ z z)<|Rw z ?_
 obtain rfl:=som a0;exact Wr<|k_ hr z ⟨bup h2 s5,z,iS _ _⟩
theorem W_w2b {x1:List Str}{x2:Str}{res:Bool}(hm:f_X x1 x2=some res)(a1:B<=w0.z)(G:repS w0 B (sl A0 N0 C0) x1)(a0:x2.b.length<=LEN):r_ prog 146 [sl A0 N0 C0,Str.v x2] w0 (Q0 w0 B res):=by
 unfold f_X at hm
 refine goG func146 z z z λfn hr=>Ws<|Rw z<|Wq<|Wm z<|R z (lnR N_ z G)<|Rm z<|Wn ?_
 obtain ⟨_,V,J⟩:=bdS hm;refine Wf (σ:=Unit) (ρ:=Bool) (λ(k3:Nat)(_:Unit) a w=>Sat 17 [(1,Str.v x2),(7,sl A0 N0 C0),(8,vI (x1.length:Int)),(9,vI ((k3:Nat):Int))] a/\Below w0.z w0 w) (λ(_:Unit) a w=>Sat 17 [] a/\Below w0.z w0 w) (rQ prog fn<|Q0 w0 B) V ?_ ?_ ?_ ?_ ?_
 .exact λ_ q=>⟨q.k<|s4 z z z z,br w0⟩
 .rintro k3 _ _ _ _ L ⟨W,I⟩ Y;refine Wu ?_ W;refine Ws<|Rl z z z<|Wn<|Wq<|Wc z (λ_=>?_) (λhc=>(a_g L hc).elim)
  refine Wk<|Wq<|Wb<|Ws ?_
  obtain ⟨_,e9,O⟩:=bdS Y;refine RX z (at_ (α:=Str) N_ z_9 z z z (G.e I) e9) ?_;rintro _ ⟨_,_,_,rfl,ha,hb,_⟩;obtain ⟨rfl,_⟩:=a_z hb;refine R z (l0 g_9 z<|ha.at0 z)<|Rw z<|Wm z<|Rm z<|R z (b_7 z z)<|Wx z (λH=>?_) (λH=>?_)
  .exact Ws<|Rw z<|Wr<|rtO<|qL (som<|ifT O H).symm<|k_ hr z ⟨I,z⟩
  exact Wk<|Wg<|R z (inc_ L (lt_ (repS.len G) O_) z z)<|Rm z<|Wl (λ_ q=>⟨(),(som<|ifF O H).symm,⟨q.k<|s4 z z z z,I⟩⟩)
 .rintro _ _ _ ⟨hSc,sd⟩;refine Wu ?_ hSc;refine Ws<|Rl z z z<|Wn<|Wq<|Wc z (λhc=>(a_h hc).elim) (λ_=>?_)
  exact We<|λ_ q=>⟨rfl,⟨q.k sn,sd⟩⟩
 .rintro _ ae _ rfl ⟨_,sf⟩;have hmg:=elL J;revert ae;refine Wo<|Ws<|Rw z ?_
  obtain rfl:=som hmg;exact Wr<|k_ hr z ⟨sf,z⟩
 rintro _ _ _ _ rfl ⟨rfl,hqh⟩;have hmi:=elR J;obtain rfl:=som hmi;exact ⟨hqh,z⟩
theorem W_w2c {x1:d_}{res:Bool}(hm:h_k n x1=some res)(O:B<=w0.z)(Y:x1.name.b.length<=LEN)(a0:inI x1.kind)(a1:inI x1.size)(a2:repS w0 B (sl A9 N9 C9) x1.bytes)(J:repS w0 B (sl A8 N8 C8) x1.names)(a3:repS w0 B (sl AA NA CA) x1.tags)(W:repS w0 B (sl AB NB CB) x1.kids):r_ prog 140 [(.agg #[Str.v x1.name,vI x1.kind,vI x1.size,vB x1.little,sl A9 N9 C9,sl A8 N8 C8,sl AA NA CA,sl AB NB CB])] w0 (Q0 w0 B res):=by
 unfold h_k at hm
 refine goG func140 z z z λfn hr=>Ws<|E z (fb z) ?_
 rintro _ V ⟨rfl,hi⟩;have h1:=hi.below;have ha:Blk V w0.z (vR x1 A9 N9 C9 A8 N8 C8 AA NA CA AB NB CB):=hi.blk;refine Rw z<|Wq<|Wq ?_
 obtain ⟨uy,huz,hmj⟩:=bdS hm;refine Wt (λa w=>∃(xb:Bool),xb=uy/\Sat 44 [(1,pt w0.z),(23,vB xb)] a/\Below V.z V w) ?_ ?_
 .refine Wg<|R z (lN (vs:=vR x1 A9 N9 C9 A8 N8 C8 AA NA CA AB NB CB) M_ p_ z z fid<|ha.row 0 8 z) ?_
  obtain ⟨ai,aj,hmk⟩:=bdS huz;refine E z (fc call138 z<|e_8 aj (zt' O h1.s) Y a0 a1 (a2.e h1) (J.e h1) (a3.e h1) (W.e h1)<|ii z) ?_;rintro _ _ ⟨s6,rfl⟩;refine R z (not_ z)<|Rm z ?_
  rcases bs (!ai) with G | G
  .iterate 7 refine Nh z G ?_
   exact R z (pT z G z)<|Rm z<|Nh z z<|Nh z z<|Nh z z<|Nh z z<|Nh z z<|R z (pT z z z)<|Wl (λ_ q=>⟨true,som<|ifT hmk G,q.k<|s2 z z,s6⟩)
  have hml:=ifF hmk G;refine Rh z G (fd Q_ z) ?_;have hd:=ha.e s6;refine Rh z G (l0 F_ z<|hd.at z) ?_;have hn:=(h1.ag B).e s6;have he:=W.g hn;refine Rh z G (lnR G_ z he)<|Rh z G (fd b_K z)<|Rh z G (l0 a_R z<|hd.at z)<|Rh z G (lnR N_ z<|J.g hn)<|Rh z G (nq z z)<|R z (pF z G z)<|Rm z ?_
  rcases bs ((x1.kids.length:Int) != (x1.names.length:Int)) with I | I
  .iterate 5 refine Nh z I ?_
   exact R z (pT z I z)<|Wl (λ_ q=>⟨true,som<|ifT hml I,q.k<|s2 z z,s6⟩)
  refine Rh z I (fd Q_ z)<|Rh z I (l0 F_ z<|hd.at z)<|Rh z I (lnR G_ z he) ?_
  obtain ⟨ak,al,a4⟩:=bdS<|ifF hml I;refine Eg z z I z (fc call127 z<|e_F al (zt' O<|lt_ h1.s s6.s) (b_5<|repS.len he) (ii z)<|ii z) ?_;rintro _ _ ⟨am,rfl⟩;exact Rh z I (not_ z)<|R z (pF z I z)<|Wl (λ_ q=>⟨!ak,som a4,q.k<|s2 z z,bup s6 am⟩)
 rintro an L ⟨xb,rfl,_,s7⟩;revert an;refine Wo<|Wc z (λhcc=>?_) (λhcc=>?_)
 .refine Ws<|Rw z ?_
  obtain rfl:=som<|ifT hmj hcc;exact Wr<|k_ hr z ⟨bup h1 s7,z⟩
 refine Wk<|Wq<|Ws<|Rf z b_K z ?_
 have ho:=ha.e s7;refine R z (l0 a_R z<|ho.at z) ?_;have hp:=(h1.ag B).e s7;refine R z (lnR N_ z<|J.g hp)<|Rm z<|Wn ?_
 obtain ⟨_,a5,hmm⟩:=bdS<|ifF hmj hcc;refine Wf (σ:=Unit) (ρ:=Bool) (λ(kf:Nat)(_:Unit) a w=>Sat 44 [(1,pt w0.z),(25,sl A8 N8 C8),(26,vI (x1.names.length:Int)),(27,vI ((kf:Nat):Int))] a/\Below L.z L w) (λ(_:Unit) a w=>Sat 44 [] a/\Below L.z L w) (rQ prog fn<|Q0 w0 B) a5 ?_ ?_ ?_ ?_ ?_
 .exact λ_ q=>⟨q.k<|s4 z z z z,br L⟩
 .rintro kf _ _ wq _ hkr ⟨a6,s8⟩ a7;refine Wu ?_ a6;refine Ws<|Rl z z z<|Wn<|Wq<|Wc z (λ_=>?_) (λhc=>(a_g hkr hc).elim)
  refine Wk<|Wq<|Wb<|Wm z ?_
  obtain ⟨_,ao,a8⟩:=bdS a7;have ht:=hp.e s8;refine RX z (at_ (α:=Str) N_ z_9 z z z (J.g ht) ao) ?_;rintro _ ⟨_,_,_,rfl,ap,aq,_⟩;obtain ⟨rfl,hu⟩:=a_z aq;refine R z (l0 g_9 z<|ap.at0 z)<|Ra z<|Rw z<|Wq ?_
  obtain ⟨ar,a9,hms⟩:=bdS a8;refine Wt (λa w=>∃(xg:Bool),xg=ar/\Sat 44 [(1,pt w0.z),(25,sl A8 N8 C8),(26,vI (x1.names.length:Int)),(27,vI ((kf:Nat):Int)),(42,vB xg)] a/\Below wq.z wq w) ?_ ?_
  .refine Wg<|Rm z ?_
   have hv:=lt_ (lt_ h1.s s7.s) s8.s;obtain ⟨au,av,hmw⟩:=bdS a9;refine E z (fc call92 z<|k_N av (zt' O hv) hu) ?_;rintro _ _ ⟨s9,rfl⟩;refine R z (not_ z)<|Rm z ?_
   rcases bs (!au) with H | H
   .iterate 6 refine Nh z H ?_
    exact R z (pT z H z)<|Wl (λ_ q=>⟨true,som<|ifT hmw H,q.k<|s5 z z z z z,s9⟩)
   refine Rh z H (fd b_K z)<|Rh z H (l0 a_R z<|((ho.e s8).e s9).at z)<|Rh z H (mv z) ?_
   obtain ⟨_,aw,aa⟩:=bdS<|ifF hmw H;refine RXg z z H z (rX N_ z_9 z z (J.g<|ht.e s9) z z aw) ?_;rintro _ ⟨_,_,_,rfl,ax⟩;refine Rh z H (mv z) ?_;obtain ⟨ay,az,ab⟩:=bdS aa;refine Eg z z H z (fc call146 z<|W_w2b az (zt' O<|lt_ hv s9.s) ax hu) ?_;rintro _ _ ⟨aA,rfl⟩;exact R z (pF z H z)<|Wl (λ_ q=>⟨ay,som ab,q.k<|s5 z z z z z,bup s9 aA⟩)
  rintro aB _ ⟨xg,rfl,_,sx⟩;revert aB;refine Wo<|Wc z (λhch=>?_) (λhch=>?_)
  .exact Ws<|Rw z<|Wr<|rtO<|qL (som<|ifT hms hch).symm<|k_ hr z ⟨bup (bup (bup h1 s7) s8) sx,z⟩
  exact Wk<|Wg<|R z (inc_ hkr (lt_ (repS.len J) O_) z z)<|Rm z<|Wl (λ_ q=>⟨(),(som<|ifF hms hch).symm,⟨q.k<|s4 z z z z,bup s8 sx⟩⟩)
 .rintro _ _ _ ⟨ad,aC⟩;refine Wu ?_ ad;refine Ws<|Rl z z z<|Wn<|Wq<|Wc z (λhc=>(a_h hc).elim) (λ_=>?_)
  exact We<|λ_ q=>⟨rfl,⟨q.k sn,aC⟩⟩
 .rintro _ aD _ rfl ⟨_,aE⟩;have ae:=elL hmm;revert aD;refine Wo<|Ws<|Rw z ?_
  obtain rfl:=som ae;exact Wr<|k_ hr z ⟨bup (bup h1 s7) aE,z⟩
 rintro _ _ _ _ rfl ⟨rfl,af⟩;have ah:=elR hmm;obtain rfl:=som ah;exact ⟨af,z⟩
theorem W_w2d {x1:g_}{x2:d_}{res:Bool}(hm:h_l x1 x2=some res)(O:B<=w0.z)(a4:repS w0 B (sl A0 N0 C0) x1.rules)(a5:x2.name.b.length<=LEN)(a6:inI x2.kind)(a7:inI x2.size)(a8:repS w0 B (sl A2 N2 C2) x2.bytes)(a9:repS w0 B (sl A3 N3 C3) x2.names)(J:repS w0 B (sl A1 N1 C1) x2.tags)(V:repS w0 B (sl A4 N4 C4) x2.kids):r_ prog 141 [(.agg #[sl A0 N0 C0]),(.agg #[Str.v x2.name,vI x2.kind,vI x2.size,vB x2.little,sl A2 N2 C2,sl A3 N3 C3,sl A1 N1 C1,sl A4 N4 C4])] w0 (Q0 w0 B res):=by
 unfold h_l at hm
 refine goG func141 z z z λfn hr=>Ws<|E z (fb z) ?_
 rintro _ L ⟨rfl,hn⟩;have h4:=hn.below;refine E z (fb z) ?_;rintro _ wg ⟨rfl,ho⟩;have h3:=ho.below;have he:Blk wg L.z (vR x2 A2 N2 C2 A3 N3 C3 A1 N1 C1 A4 N4 C4):=ho.blk;refine Rw z<|Wq<|Wq ?_
 obtain ⟨aq,aa,hmp⟩:=bdS hm;refine Wt (λa w=>∃(xh:Bool),xh=aq/\Sat 57 [(2,pt w0.z),(3,pt L.z),(21,vB xh)] a/\Below wg.z wg w) ?_ ?_
 .refine Wg<|R z (lN (vs:=vR x2 A2 N2 C2 A3 N3 C3 A1 N1 C1 A4 N4 C4) M_ p_ z z fid<|he.row 0 8 z)<|Rf z b_3 z<|R z (l0 F_ z<|he.at z) ?_
  have h6:=(h4.ag B).e h3;have hq:=J.g h6;refine R z (lnR G_ z hq)<|R z (add_ z z) ?_
  have ht:=lt_ h4.s h3.s;obtain ⟨ar,au,hmr⟩:=bdS aa;refine E z (fc call138 z<|e_8 au (zt' O ht) a5 a6 a7 (a8.g h6) (a9.g h6) hq (V.g h6)<|iA _ _) ?_;rintro _ _ ⟨s9,rfl⟩;refine R z (not_ z)<|Rm z ?_
  rcases bs (!ar) with I | I
  .iterate 5 refine Nh z I ?_
   exact R z (pT z I z)<|Wl (λ_ q=>⟨true,som<|ifT hmr I,q.k<|s3 z z z,s9⟩)
  refine Rh z I (fd b_3 z)<|Rh z I (l0 F_ z<|(he.e s9).at z) ?_
  have hu:=J.g<|h6.e s9
  refine Rh z I (lnR G_ z hu) ?_;obtain ⟨av,aw,ab⟩:=bdS<|ifF hmr I;refine Eg z z I z (fc call127 z<|e_F aw (zt' O<|lt_ ht s9.s) (b_5<|repS.len hu) (ii z)<|ii z) ?_;rintro _ _ ⟨ax,rfl⟩;exact Rh z I (not_ z)<|R z (pF z I z)<|Wl (λ_ q=>⟨!av,som ab,q.k<|s3 z z z,bup s9 ax⟩)
 rintro ay _ ⟨xh,rfl,_,s7⟩;revert ay;refine Wo<|Wc z (λhci=>?_) (λhci=>?_)
 .refine Ws<|Rw z ?_
  obtain rfl:=som<|ifT hmp hci;exact Wr<|k_ hr z ⟨bup (bup h4 h3) s7,z⟩
 refine Wk<|Wq (Wd (X:=noX) 0 (pl_ 7 [5]) mo (by kernel_rfl) λaV s8 _=>dR z z (lN (vs:=[sl A0 N0 C0]) B_ z_ z z fid<|((((hn.blk:Blk L w0.z [sl A0 N0 C0]).e h3).e s7).e s8).row 0 1 z)<|dR z z (fd Q_ z) ?_)
 have hv:=(he.e s7).e s8;refine dR z z (l0 F_ z<|hv.at z) ?_;obtain ⟨_,az,ad⟩:=bdS<|ifF hmp hci;have hj:=(((h4.ag B).e h3).e s7).e s8;refine dRX z z (at_ (α:=Int) G_ z_3 z z z (V.g hj) az) ?_;rintro _ ⟨_,_,_,rfl,aA,aB,_⟩;obtain ⟨rfl,aC⟩:=U_ aB;refine dR z z (l0 g_3 z<|aA.at0 z) ?_;have hw:=lt_ (lt_ (lt_ h4.s h3.s) s7.s) s8.s;obtain ⟨rk,aD,ae⟩:=bdS ad;refine dE z z (fc call139 z<|k_O aD (zt' O hw) (a4.g hj) aC) (.inr λ_ _ h=>y_<|h.1) ?_;rintro _ wa ⟨sb,rfl,aE⟩;refine dQ z z z<|pD<|Wo<|Wq<|Ws<|Rf z b_3 z ?_
 have hx:=hv.e sb;refine R z (l0 F_ z<|hx.at z) ?_;have hy:=hj.e sb;refine R z (lnR G_ z<|J.g hy)<|Rm z<|Wn ?_
 obtain ⟨_,af,hms⟩:=bdS ae;refine Wf (σ:=Unit) (ρ:=Bool) (λ(kf:Nat)(_:Unit) a w=>Sat 57 [(3,pt L.z),(5,vI rk),(29,sl A1 N1 C1),(30,vI (x2.tags.length:Int)),(31,vI ((kf:Nat):Int))] a/\Below wa.z wa w) (λ(_:Unit) a w=>Sat 57 [(5,vI rk)] a/\Below wa.z wa w) (rQ prog fn<|Q0 w0 B) af ?_ ?_ ?_ ?_ ?_
 .exact λ_ q=>⟨q.k<|s5 z z z z z,br wa⟩
 .rintro kf _ _ wz _ W ⟨ah,sc⟩ ai;refine Wu ?_ ah;refine Ws<|Rl z z z<|Wn<|Wq<|Wc z (λ_=>?_) (λhc=>(a_g W hc).elim)
  refine Wk<|Wq<|Wb<|Wm z ?_
  obtain ⟨aF,aG,aj⟩:=bdS ai;have a2:=hy.e sc;refine RX z (at_ (α:=Int) G_ z_3 z z z (J.g a2) aG) ?_;rintro _ ⟨_,_,_,rfl,aH,aI,_⟩;obtain ⟨rfl,aJ⟩:=U_ aI;refine R z (l0 g_3 z<|aH.at0 z)<|Ra z<|Rw z<|Wq ?_
  obtain ⟨aK,ak,Y⟩:=bdS aj;refine Wt (λa w=>∃(xl:Bool),xl=aK/\Sat 57 [(3,pt L.z),(5,vI rk),(29,sl A1 N1 C1),(30,vI (x2.tags.length:Int)),(31,vI ((kf:Nat):Int)),(53,vB xl)] a/\Below wz.z wz w) ?_ ?_
  .refine Wg<|RM z z ?_
   obtain ⟨aL,aM,a0⟩:=bdS ak;refine E z (fc call127 z<|e_F aM (zt' O<|lt_ (lt_ hw sb.s) sc.s) aJ (ii z) aE) ?_;rintro _ _ ⟨sd,rfl⟩;refine R z (not_ z)<|Rm z ?_
   rcases bs (!aL) with H | H
   .iterate 3 refine Nh z H ?_
    exact Nv z<|Nv z<|Nv z<|Nv z<|Nv z<|Nv z<|Nv z<|Nv z<|Nh z H<|R z (pT z H z)<|Wl (λ_ q=>⟨true,som<|ifT a0 H,q.k<|s6 z z z z z z,sd⟩)
   have a1:=ifF a0 H;refine Rh z H (mv z)<|Rh z H (a_b z z)<|Rh z H (mv z) ?_
   rcases bs (decide<|0<((kf:Nat):Int)) with G | G
   .refine Rh z G (fd b_3 z)<|Rh z G (l0 F_ z<|((hx.e sc).e sd).at z)<|Rh z G (mv z)<|Rh z G (sb_ z z) ?_
    obtain ⟨aN,aO,al⟩:=bdS<|ifT a1 G;refine RXg z z G z (at_ (α:=Int) G_ z_3 z z z (J.g<|a2.e sd) aO) ?_;rintro _ ⟨_,_,_,rfl,aP,aQ,_⟩;obtain ⟨rfl,_⟩:=U_ aQ;exact Rh z G (l0 g_3 z<|aP.at0 z)<|Rh z G (mv z)<|Rh z G (b_P z z)<|Rh z H (pT z G z)<|R z (pF z H z)<|Wl (λ_ q=>⟨decide<|aF<=aN,som al,q.k<|s6 z z z z z z,sd⟩)
   iterate 8 refine Nh z G ?_
   exact Rh z H (pF z G z)<|R z (pF z H z)<|Wl (λ_ q=>⟨false,som<|ifF a1 G,q.k<|s6 z z z z z z,sd⟩)
  rintro aR _ ⟨xl,rfl,_,a3⟩;revert aR;refine Wo<|Wc z (λhcm=>?_) (λhcm=>?_)
  .exact Ws<|Rw z<|Wr<|rtO<|qL (som<|ifT Y hcm).symm<|k_ hr z ⟨bup (bup (bup (bup (bup (bup h4 h3) s7) s8) sb) sc) a3,z⟩
  exact Wk<|Wg<|R z (inc_ W (lt_ (repS.len J) O_) z z)<|Rm z<|Wl (λ_ q=>⟨(),(som<|ifF Y hcm).symm,⟨q.k<|s5 z z z z z,bup sc a3⟩⟩)
 .rintro _ _ _ ⟨am,aS⟩;refine Wu ?_ am;refine Ws<|Rl z z z<|Wn<|Wq<|Wc z (λhc=>(a_h hc).elim) (λ_=>?_)
  exact We<|λ_ q=>⟨rfl,⟨q.k<|s1 z,aS⟩⟩
 .rintro _ aT _ rfl ⟨_,aU⟩;have an:=elL hms;revert aT;refine Wo<|Wm z<|R z (a_b z z)<|Rw z ?_
  obtain rfl:=som an;exact Wr<|k_ hr z ⟨bup (bup (bup (bup (bup h4 h3) s7) s8) sb) aU,z⟩
 rintro _ _ _ _ rfl ⟨rfl,ao⟩;have ap:=elR hms;obtain rfl:=som ap;exact ⟨ao,z⟩
theorem W_w2e {x1:g_}{x2:d_}{res:Bool}(hm:h_m n x1 x2=some res)(L:B<=w0.z)(a7:repS w0 B (sl A0 N0 C0) x1.rules)(a3:x2.name.b.length<=LEN)(a4:inI x2.kind)(V:inI x2.size)(W:repS w0 B (sl A2 N2 C2) x2.bytes)(a5:repS w0 B (sl A3 N3 C3) x2.names)(a6:repS w0 B (sl A1 N1 C1) x2.tags)(Y:repS w0 B (sl A4 N4 C4) x2.kids):r_ prog 136 [(.agg #[sl A0 N0 C0]),(.agg #[Str.v x2.name,vI x2.kind,vI x2.size,vB x2.little,sl A2 N2 C2,sl A3 N3 C3,sl A1 N1 C1,sl A4 N4 C4])] w0 (Q0 w0 B res):=by
 unfold h_m at hm
 refine goG func136 z z z λfn hr=>Ws<|E z (fb z) ?_
 rintro _ ww ⟨rfl,aJ⟩;have h1:=aJ.below;have hx:Blk ww w0.z [sl A0 N0 C0]:=aJ.blk;refine E z (fb z) ?_;rintro _ J ⟨rfl,aK⟩;have G:=aK.below;have h6:Blk J ww.z (vR x2 A2 N2 C2 A3 N3 C3 A1 N1 C1 A4 N4 C4):=aK.blk;refine Rw z<|Wq<|Ws<|Rf z a_G z<|R z (l0 g_3 z<|h6.at z)<|Wn<|Wb<|Ws<|Rq z z z<|Rw z<|Wc z (λhcy=>?_) (λhcy=>?_)
 .refine Wq ?_;obtain ⟨bp,b1,b2⟩:=bdS<|ifT hm hcy;refine Wt (λa w=>∃(xz:Bool),xz=bp/\Sat 102 [(4,vB xz)] a/\Below J.z J w) ?_ ?_
  .refine Wg<|R z (lN (vs:=vR x2 A2 N2 C2 A3 N3 C3 A1 N1 C1 A4 N4 C4) M_ p_ z z fid<|h6.row 0 8 z) ?_
   have hq:=(h1.ag B).e G;have aL:=lt_ h1.s G.s;obtain ⟨bq,bt,ap⟩:=bdS b1;refine E z (fc call138 z<|e_8 bt (zt' L aL) a3 a4 V (W.g hq) (a5.g hq) (a6.g hq) (Y.g hq)<|ii z) ?_;rintro _ _ ⟨se,rfl⟩;refine Rm z ?_
   rcases bs bq with hca | hca
   .refine Rh z hca (fd a_W z) ?_;have aM:=h6.e se;refine Rh z hca (l0 g_3 z<|aM.at z) ?_;obtain ⟨bu,bv,aq⟩:=bdS<|ifT ap hca;refine Eg z z hca z (fc call127 z<|e_F bv (zt' L<|lt_ aL se.s) V (ii z)<|ii z) ?_;rintro _ _ ⟨sr,rfl⟩;refine R z (pT z hca z)<|Rm z ?_
    rcases bs bu with O | O
    .have ar:=ifT aq O;refine Rh z O (fd c_F z) ?_;have aN:=aM.e sr;refine Rh z O (l0 g_4 z<|aN.at z)<|Rh z O (not_ z)<|Rh z O (mv z) ?_
     rcases bs (!x2.little) with hcb | hcb
     .iterate 3 refine Nh z hcb ?_
      exact Rh z O (pT z hcb z)<|R z (pT z O z)<|Ra z<|Wl (λ_ q=>⟨true,som<|ifT ar hcb,q.k<|s1 z,bup se sr⟩)
     exact Rh z hcb (fd a_W z)<|Rh z hcb (l0 g_3 z<|aN.at z)<|Rh z hcb (a_b z z)<|Rh z O (pF z hcb z)<|R z (pT z O z)<|Ra z<|Wl (λ_ q=>⟨decide<|1<x2.size,som<|ifF ar hcb,q.k<|s1 z,bup se sr⟩)
    iterate 4 refine Nh z O ?_
    exact Nv z<|Nv z<|Nv z<|Nh z O<|R z (pF z O z)<|Ra z<|Wl (λ_ q=>⟨false,som<|ifF aq O,q.k<|s1 z,bup se sr⟩)
   iterate 3 refine Nh z hca ?_
   exact R z (pF z hca z)<|Rm z<|Nh z z<|Nh z z<|Nh z z<|Nh z z<|Nv z<|Nv z<|Nv z<|Nh z z<|R z (pF z z z)<|Ra z<|Wl (λ_ q=>⟨false,som<|ifF ap hca,q.k<|s1 z,se⟩)
  rintro bw _ ⟨xz,rfl,_,bx⟩;revert bw;refine Wo ?_;obtain rfl:=som b2;exact Wr<|rtO<|k_ hr z ⟨bup (bup h1 G) bx,z⟩
 have au:=ifF hm hcy;refine Ws<|Rq z z z<|Rw z<|Wc z (λa8=>?_) (λa8=>?_)
 .refine Wq ?_;obtain ⟨bz,b3,b4⟩:=bdS<|ifT au a8;refine Wt (λa w=>∃(aj:Bool),aj=bz/\Sat 102 [(4,vB aj)] a/\Below J.z J w) ?_ ?_
  .refine Wg<|R z (lN (vs:=vR x2 A2 N2 C2 A3 N3 C3 A1 N1 C1 A4 N4 C4) M_ p_ z z fid<|h6.row 0 8 z) ?_
   have hj:=(h1.ag B).e G;have aO:=lt_ h1.s G.s;obtain ⟨bA,bB,av⟩:=bdS b3;refine E z (fc call138 z<|e_8 bB (zt' L aO) a3 a4 V (W.g hj) (a5.g hj) (a6.g hj) (Y.g hj)<|ii z) ?_;rintro _ _ ⟨sk,rfl⟩;refine Rm z ?_
   rcases bs bA with a1 | a1
   .refine Rh z a1 (fd a_X z)<|Rh z a1 (l0 a_0 z<|(h6.e sk).at z) ?_
    have aP:=W.g<|hj.e sk
    refine Rh z a1 (lnR w_ z aP) ?_;obtain ⟨bC,bD,b5⟩:=bdS<|ifT av a1;refine Eg z z a1 z (fc call127 z<|e_F bD (zt' L<|lt_ aO sk.s) (b_5<|repS.len aP) (ii z)<|ii z) ?_;rintro _ _ ⟨bE,rfl⟩;exact R z (pT z a1 z)<|Ra z<|Wl (λ_ q=>⟨bC,som b5,q.k<|s1 z,bup sk bE⟩)
   iterate 4 refine Nh z a1 ?_
   exact R z (pF z a1 z)<|Ra z<|Wl (λ_ q=>⟨false,som<|ifF av a1,q.k<|s1 z,sk⟩)
  rintro bF _ ⟨aj,rfl,_,bG⟩;revert bF;refine Wo ?_;obtain rfl:=som b4;exact Wr<|rtO<|k_ hr z ⟨bup (bup h1 G) bG,z⟩
 have aw:=ifF au a8;refine Ws<|Rq z z z<|Rw z<|Wc z (λa9=>?_) (λa9=>?_)
 .refine Wq ?_;obtain ⟨bH,b6,b7⟩:=bdS<|ifT aw a9;refine Wt (λa w=>∃(ak:Bool),ak=bH/\Sat 102 [(4,vB ak)] a/\Below J.z J w) ?_ ?_
  .refine Wg<|R z (lN (vs:=vR x2 A2 N2 C2 A3 N3 C3 A1 N1 C1 A4 N4 C4) M_ p_ z z fid<|h6.row 0 8 z) ?_
   have ht:=(h1.ag B).e G;have aQ:=lt_ h1.s G.s;obtain ⟨bI,bJ,ax⟩:=bdS b6;refine E z (fc call138 z<|e_8 bJ (zt' L aQ) a3 a4 V (W.g ht) (a5.g ht) (a6.g ht) (Y.g ht)<|ii z) ?_;rintro _ _ ⟨ss,rfl⟩;refine Rm z ?_
   rcases bs bI with hcc | hcc
   .refine Rh z hcc (fd a_W z)<|Rh z hcc (l0 g_3 z<|(h6.e ss).at z) ?_
    obtain ⟨bK,bL,b8⟩:=bdS<|ifT ax hcc;refine Eg z z hcc z (fc call127 z<|e_F bL (zt' L<|lt_ aQ ss.s) V (ii z)<|ii z) ?_;rintro _ _ ⟨bM,rfl⟩;exact R z (pT z hcc z)<|Ra z<|Wl (λ_ q=>⟨bK,som b8,q.k<|s1 z,bup ss bM⟩)
   iterate 3 refine Nh z hcc ?_
   exact R z (pF z hcc z)<|Ra z<|Wl (λ_ q=>⟨false,som<|ifF ax hcc,q.k<|s1 z,ss⟩)
  rintro bN _ ⟨ak,rfl,_,bO⟩;revert bN;refine Wo ?_;obtain rfl:=som b7;exact Wr<|rtO<|k_ hr z ⟨bup (bup h1 G) bO,z⟩
 have ay:=ifF aw a9;refine Ws<|Rq z z z<|Rw z<|Wc z (λaa=>?_) (λaa=>?_)
 .refine Wq ?_;obtain ⟨bP,b9,ba⟩:=bdS<|ifT ay aa;refine Wt (λa w=>∃(al:Bool),al=bP/\Sat 102 [(4,vB al)] a/\Below J.z J w) ?_ ?_
  .refine Wd (X:=noX) 0 (pl_ 12 [1,8]) mo (by kernel_rfl) λcv sf _=>?_
   have aR:=h6.e sf;refine dR z z (lN (vs:=vR x2 A2 N2 C2 A3 N3 C3 A1 N1 C1 A4 N4 C4) M_ p_ z z fid<|aR.row 0 8 z) ?_;have hl:=((h1.ag B).e G).e sf;have aS:=lt_ (lt_ h1.s G.s) sf.s;obtain ⟨bQ,bR,az⟩:=bdS b9;refine dE z z (fc call138 z<|e_8 bR (zt' L aS) a3 a4 V (W.g hl) (a5.g hl) (a6.g hl) (Y.g hl)<|ii z) (.inr λ_ _ h=>y_<|h.1) ?_;rintro _ _ ⟨sg,rfl⟩;refine dM z z z ?_
   rcases bs bQ with H | H
   .refine dRg z z z H z (lN (vs:=[sl A0 N0 C0]) B_ z_ z z fid<|(((hx.e G).e sf).e sg).row 0 1 z)<|dRg z z z H z (fd Q_ z)<|dRg z z z H z (l0 F_ z<|(aR.e sg).at z) ?_
    obtain ⟨_,bS,bb⟩:=bdS<|ifT az H;have aT:=hl.e sg;refine b_w z z z H z (at_ (α:=Int) G_ z_3 z z z (Y.g aT) bS) ?_;rintro _ ⟨_,_,_,rfl,bT,bU,_⟩;obtain ⟨rfl,bV⟩:=U_ bU;refine dRg z z z H z (l0 g_3 z<|bT.at0 z) ?_;obtain ⟨bW,bX,bc⟩:=bdS bb;refine dEg z z z H z (fc call139 z<|k_O bX (zt' L<|lt_ aS sg.s) (a7.g aT) bV) (.inr λ_ _ h=>y_<|h.1) ?_;rintro _ _ ⟨bY,rfl,_⟩;exact dRg z z z H z (a_b z z)<|dR z z (pT z H z)<|dQ z z z<|pD (λ_ q=>⟨decide<|0<bW,som bc,q.k<|s1 z,bup (bup sf sg) bY⟩)
   iterate 5 refine dRn z z z H z ?_
   exact dEn z z z H z<|dRn z z z H z<|dR z z (pF z H z)<|dQ z z z<|pD (λ_ q=>⟨false,som<|ifF az H,q.k<|s1 z,bup sf sg⟩)
  rintro bZ _ ⟨al,rfl,_,c0⟩;revert bZ;refine Wo ?_;obtain rfl:=som ba;exact Wr<|rtO<|k_ hr z ⟨bup (bup h1 G) c0,z⟩
 have aA:=ifF ay aa;refine Ws<|Rq z z z<|Rw z<|Wc z (λab=>?_) (λab=>?_)
 .refine Wq ?_;obtain ⟨c1,be,bf⟩:=bdS<|ifT aA ab;refine Wt (λa w=>∃(am:Bool),am=c1/\Sat 102 [(4,vB am)] a/\Below J.z J w) ?_ ?_
  .refine Wd (X:=noX) 0 (pl_ 12 [1,8]) mo (by kernel_rfl) λcw sh _=>?_
   have aU:=h6.e sh;refine dR z z (lN (vs:=vR x2 A2 N2 C2 A3 N3 C3 A1 N1 C1 A4 N4 C4) M_ p_ z z fid<|aU.row 0 8 z) ?_;have hn:=((h1.ag B).e G).e sh;have aV:=lt_ (lt_ h1.s G.s) sh.s;obtain ⟨c2,c3,aB⟩:=bdS be;refine dE z z (fc call138 z<|e_8 c3 (zt' L aV) a3 a4 V (W.g hn) (a5.g hn) (a6.g hn) (Y.g hn)<|ii z) (.inr λ_ _ h=>y_<|h.1) ?_;rintro _ _ ⟨si,rfl⟩;refine dM z z z ?_
   rcases bs c2 with I | I
   .refine dRg z z z I z (lN (vs:=[sl A0 N0 C0]) B_ z_ z z fid<|(((hx.e G).e sh).e si).row 0 1 z)<|dRg z z z I z (fd Q_ z)<|dRg z z z I z (l0 F_ z<|(aU.e si).at z) ?_
    obtain ⟨_,c4,bg⟩:=bdS<|ifT aB I;have aW:=hn.e si;refine b_w z z z I z (at_ (α:=Int) G_ z_3 z z z (Y.g aW) c4) ?_;rintro _ ⟨_,_,_,rfl,c5,c6,_⟩;obtain ⟨rfl,c7⟩:=U_ c6;refine dRg z z z I z (l0 g_3 z<|c5.at0 z) ?_;obtain ⟨c8,c9,bh⟩:=bdS bg;refine dEg z z z I z (fc call139 z<|k_O c9 (zt' L<|lt_ aV si.s) (a7.g aW) c7) (.inr λ_ _ h=>y_<|h.1) ?_;rintro _ _ ⟨ca,rfl,_⟩;exact dRg z z z I z (a_b z z)<|dR z z (pT z I z)<|dQ z z z<|pD (λ_ q=>⟨decide<|0<c8,som bh,q.k<|s1 z,bup (bup sh si) ca⟩)
   iterate 5 refine dRn z z z I z ?_
   exact dEn z z z I z<|dRn z z z I z<|dR z z (pF z I z)<|dQ z z z<|pD (λ_ q=>⟨false,som<|ifF aB I,q.k<|s1 z,bup sh si⟩)
  rintro cb _ ⟨am,rfl,_,cc⟩;revert cb;refine Wo ?_;obtain rfl:=som bf;exact Wr<|rtO<|k_ hr z ⟨bup (bup h1 G) cc,z⟩
 have aC:=ifF aA ab;refine Ws<|Rq z z z<|Rw z<|Wc z (λad=>?_) (λad=>?_)
 .refine Ws<|R z (lN (vs:=vR x2 A2 N2 C2 A3 N3 C3 A1 N1 C1 A4 N4 C4) M_ p_ z z fid<|h6.row 0 8 z) ?_
  have hu:=(h1.ag B).e G;obtain ⟨_,cd,bi⟩:=bdS<|ifT aC ad;refine E z (fc call140 z<|W_w2c cd (zt' L<|lt_ h1.s G.s) a3 a4 V (W.g hu) (a5.g hu) (a6.g hu)<|Y.g hu) ?_;rintro _ _ ⟨ce,rfl⟩;refine Rw z ?_
  obtain rfl:=som bi;exact Wr<|rtO<|k_ hr z ⟨bup (bup h1 G) ce,z⟩
 have aD:=ifF aC ad;refine Ws<|Rq z z z<|Rw z<|Wc z (λae=>?_) (λae=>?_)
 .refine Ws<|R z (lN (vs:=[sl A0 N0 C0]) B_ z_ z z fid<|(hx.e G).row 0 1 z)<|R z (lN (vs:=vR x2 A2 N2 C2 A3 N3 C3 A1 N1 C1 A4 N4 C4) M_ p_ z z fid<|h6.row 0 8 z) ?_
  have ho:=(h1.ag B).e G;obtain ⟨_,cf,bj⟩:=bdS<|ifT aD ae;refine E z (fc call141 z<|W_w2d cf (zt' L<|lt_ h1.s G.s) (a7.g ho) a3 a4 V (W.g ho) (a5.g ho) (a6.g ho)<|Y.g ho) ?_;rintro _ _ ⟨cg,rfl⟩;refine Rw z ?_
  obtain rfl:=som bj;exact Wr<|rtO<|k_ hr z ⟨bup (bup h1 G) cg,z⟩
 refine Wq<|Ws<|Rq z z z<|Rw z ?_
 obtain ⟨ch,aE,aF⟩:=bdS<|ifF aD ae;refine Wt (λa w=>∃(an:Bool),an=ch/\Sat 102 [(3,pt ww.z),(6,vI x2.kind),(80,vB an)] a/\Below J.z J w) ?_ ?_
 .refine Wc z (λaf=>?_)<|λaf=>?_
  .exact Z_<|λ_ q=>⟨x2.kind==8,som<|ifT aE af,q.k<|s3 z z z,br J⟩
  exact Wg<|Rq z z z<|Ra z<|Wl (λ_ q=>⟨x2.kind==9,som<|ifF aE af,q.k<|s3 z z z,br J⟩)
 rintro ci aX ⟨an,rfl,_,sd⟩;revert ci;refine Wo<|Wc z (λah=>?_) (λah=>?_)
 .refine Ws<|R z (lN (vs:=vR x2 A2 N2 C2 A3 N3 C3 A1 N1 C1 A4 N4 C4) M_ p_ z z fid<|(h6.e sd).row 0 8 z) ?_
  have hv:=((h1.ag B).e G).e sd;obtain ⟨_,cj,bk⟩:=bdS<|ifT aF ah;refine E z (fc call138 z<|e_8 cj (zt' L<|lt_ (lt_ h1.s G.s) sd.s) a3 a4 V (W.g hv) (a5.g hv) (a6.g hv) (Y.g hv)<|ii z) ?_;rintro _ _ ⟨ck,rfl⟩;refine Rw z ?_
  obtain rfl:=som bk;exact Wr<|rtO<|k_ hr z ⟨bup (bup (bup h1 G) sd) ck,z⟩
 have aG:=ifF aF ah;refine Ws<|Rq z z z<|Rw z<|Wc z (λai=>?_) (λai=>?_)
 .refine Wq ?_;obtain ⟨cl,bm,bn⟩:=bdS<|ifT aG ai;refine Wt (λa w=>∃(ao:Bool),ao=cl/\Sat 102 [(4,vB ao)] a/\Below aX.z aX w) ?_ ?_
  .refine Wg ?_;have aY:=h6.e sd;refine R z (lN (vs:=vR x2 A2 N2 C2 A3 N3 C3 A1 N1 C1 A4 N4 C4) M_ p_ z z fid<|aY.row 0 8 z) ?_;have hp:=((h1.ag B).e G).e sd;obtain ⟨cm,cn,aH⟩:=bdS bm;refine E z (fc call138 z<|e_8 cn (zt' L<|lt_ (lt_ h1.s G.s) sd.s) a3 a4 V (W.g hp) (a5.g hp) (a6.g hp) (Y.g hp)<|ii z) ?_;rintro _ _ ⟨sm,rfl⟩;refine Rm z ?_
   rcases bs cm with a2 | a2
   .have aI:=ifT aH a2;refine Rh z a2 (fd a_X z) ?_;have aZ:=aY.e sm;refine Rh z a2 (l0 a_0 z<|aZ.at z) ?_;have b0:=W.g<|hp.e sm
    refine Rh z a2 (lnR w_ z b0)<|Rh z a2 (eql z z)<|R z (pT z a2 z)<|Rm z ?_
    rcases bs ((x2.bytes.length:Int)==1) with a0 | a0
    .refine Rh z a0 (fd a_X z)<|Rh z a0 (l0 a_0 z<|aZ.at z) ?_
     obtain ⟨co,cp,bo⟩:=bdS<|ifT aI a0;refine RXg z z a0 z (at_ (α:=UInt8) w_ z_5 z z z b0 cp) ?_;rintro _ ⟨_,_,_,rfl,cq,cr,_⟩;obtain rfl:=u8 cr;exact Rh z a0 (l0 g_5 z<|cq.at0 z)<|Rh z a0 (nq z z)<|R z (pT z a0 z)<|Ra z<|Wl (λ_ q=>⟨(byteI co) != (byteI (92:UInt8)),som bo,q.k<|s1 z,sm⟩)
    iterate 5 refine Nh z a0 ?_
    exact R z (pF z a0 z)<|Ra z<|Wl (λ_ q=>⟨false,som<|ifF aI a0,q.k<|s1 z,sm⟩)
   iterate 4 refine Nh z a2 ?_
   exact R z (pF z a2 z)<|Rm z<|Nh z z<|Nh z z<|Nh z z<|Nh z z<|Nh z z<|R z (pF z z z)<|Ra z<|Wl (λ_ q=>⟨false,som<|ifF aH a2,q.k<|s1 z,sm⟩)
  rintro ct _ ⟨ao,rfl,_,cu⟩;revert ct;refine Wo ?_;obtain rfl:=som bn;exact Wr<|rtO<|k_ hr z ⟨bup (bup (bup h1 G) sd) cu,z⟩
 refine Wk<|Ws<|Rw z ?_
 obtain rfl:=som<|ifF aG ai;exact Wr<|k_ hr z ⟨bup (bup h1 G) sd,z⟩
theorem W_w2f {x1:g_}{x2:Int}{res:Bool}(hm:h_n n x1 x2=some res)(V:B<=w0.z)(O:repS w0 B (sl A0 N0 C0) x1.rules)(aU:inI x2):r_ prog 128 [(.agg #[sl A0 N0 C0]),vI x2] w0 (Q0 w0 B res):=by
 unfold h_n at hm
 refine goG func128 z z z λfn hr=>Ws<|E z (fb z) ?_
 rintro _ bf ⟨rfl,am⟩;have h2:=am.below;have ho:Blk bf w0.z [sl A0 N0 C0]:=am.blk;refine Rw z<|Wq<|Ws<|R z (lN (vs:=[sl A0 N0 C0]) B_ z_ z z fid<|ho.row 0 1 z)<|Rm z ?_
 obtain ⟨_,bg,a8⟩:=bdS hm;refine E z (fc call98 z<|k_M bg (zt' V h2.s) (O.e h2) aU) ?_;rintro _ J ⟨s5,rfl⟩;refine R z (not_ z)<|Wx z (λhcp=>?_) (λhcp=>?_)
 .refine Ws<|Rw z ?_
  obtain rfl:=som<|ifT a8 hcp;exact Wr<|k_ hr z ⟨bup h2 s5,z⟩
 refine Wk<|Ws<|Rf z R_ z ?_
 have an:=ho.e s5;refine R z (l0 S_ z<|an.at z)<|Rm z ?_
 obtain ⟨L,bh,aV⟩:=bdS<|ifF a8 hcp;have ao:=(h2.ag B).e s5;refine RX z (at_ (α:=d_) K_ p_ z z z (O.g ao) bh) ?_;rintro _ ⟨_,_,_,rfl,bi,bj,_⟩;obtain ⟨aq,nr,cs,au,nt,cv,aw,nx,cy,ae,nf,cg,rfl,ap,bk,bm,bn,bo,bp,hj⟩:=a_H bj;refine R z (lN (vs:=vR L aq nr cs au nt cv aw nx cy ae nf cg) M_ p_ z z fid bi)<|E z (fa b_M) ?_
 rintro _ bq ⟨rfl,ar⟩;have h4:=ar.below;have av:Blk bq J.z [(Str.v (⟨[]⟩:Str)),vI 0,vI 0,vB false,sN,sN,sN,sN]:=ar.blk;refine E0 (fs0 (cur':=vR L aq nr cs au nt cv aw nx cy ae nf cg) p_ z z av z z z z) ?_;rintro _ ax ⟨hk,bt⟩;have h3:=bt.one;refine Wn<|Wq<|Wq ?_
 obtain ⟨bu,aW,a9⟩:=bdS aV;refine Wt (λa w=>∃(xz:Bool),xz=bu/\Sat 65 [(1,vI x2),(2,pt w0.z),(5,pt J.z),(31,vB xz)] a/\Below ax.z ax w) ?_ ?_
 .refine Wg<|Rf z e_C z<|R z (l0 g_9 z<|hk.at z) ?_
  obtain ⟨bv,bw,aa⟩:=bdS aW;refine E z (fc call92 z<|k_N bw (zt' V<|lt_ (lt_ (lt_ h2.s s5.s) h4.s) h3.s) ap) ?_;rintro _ _ ⟨sm,rfl⟩;refine R z (not_ z)<|Rm z ?_
  rcases bs (!bv) with G | G
  .iterate 3 refine Nh z G ?_
   exact Nv z<|Nv z<|Nv z<|Nh z G<|R z (pT z G z)<|Wl (λ_ q=>⟨true,som<|ifT aa G,q.k<|s4 z z z z,sm⟩)
  have ab:=ifF aa G;refine Rh z G (fd c_F z) ?_;have ay:=hk.e sm;refine Rh z G (l0 g_4 z<|ay.at z)<|Rh z G (mv z) ?_
  rcases bs L.little with H | H
  .exact Rh z H (fd a_G z)<|Rh z H (l0 g_3 z<|ay.at z)<|Rh z H (nq z z)<|Rh z G (pT z H z)<|R z (pF z G z)<|Wl (λ_ q=>⟨L.kind != 1,som<|ifT ab H,q.k<|s4 z z z z,sm⟩)
  iterate 3 refine Nh z H ?_
  exact Rh z G (pF z H z)<|R z (pF z G z)<|Wl (λ_ q=>⟨false,som<|ifF ab H,q.k<|s4 z z z z,sm⟩)
 rintro bx wh ⟨xz,rfl,_,s1⟩;revert bx;refine Wo<|Wc z (λW=>?_) (λW=>?_)
 .refine Ws<|Rw z ?_
  obtain rfl:=som<|ifT a9 W;exact Wr<|k_ hr z ⟨bup (bM (bup (bup h2 s5) h4) h3<|m1<|lt_ h2.s s5.s) s1,z⟩
 refine Wk<|Wq<|Ws<|Rf z R_ z ?_
 have az:=((an.e h4).c h3<|djs<|mm1 ho.lt s5.s).e s1;refine R z (l0 S_ z<|az.at z)<|Rm z ?_
 obtain ⟨bz,bA,aX⟩:=bdS<|ifF a9 W;have hd:=lt_ h2.s s5.s;have aA:∀k∈[J.z],¬B k:=or0 (b_ lr)<|o_<|zt' V hd;have aB:=((ao.e h4).c h3<|c_ aA).e s1;refine RX z (rX K_ p_ z z (O.g aB) z z bA) ?_;rintro _ ⟨bB,bC,bD,rfl,a1⟩;refine R z (lnR K_ z a1)<|Rm z<|Wn ?_
 obtain ⟨_,aY,ad⟩:=bdS aX;refine Wf (σ:=Unit) (ρ:=Bool) (λ(aC:Nat)(_:Unit) a w=>Sat 65 [(1,vI x2),(2,pt w0.z),(5,pt J.z),(35,sl bB bC bD),(36,vI (bz.length:Int)),(37,vI ((aC:Nat):Int))] a/\Below wh.z wh w) (λ(_:Unit) a w=>Sat 65 [(1,vI x2),(2,pt w0.z),(5,pt J.z)] a/\Below wh.z wh w) (rQ prog fn<|Q0 w0 B) aY ?_ ?_ ?_ ?_ ?_
 .exact λ_ q=>⟨q.k<|s6 z z z z z z,br wh⟩
 .rintro aC _ _ bE _ af ⟨aZ,sa⟩ b0;refine Wu ?_ aZ;refine Ws<|Rl z z z<|Wn<|Wq<|Wc z (λ_=>?_) (λhc=>(a_g af hc).elim)
  refine Wk<|Wq<|Wb<|Ws ?_
  obtain ⟨aD,bF,ah⟩:=bdS b0;refine RX z (at_ (α:=d_) K_ p_ z z z (a1.e sa) bF) ?_;rintro _ ⟨_,_,_,rfl,bG,bH,_⟩;obtain ⟨aE,aF,aG,aH,aI,aJ,aK,aL,aM,aN,aO,aP,rfl,_,_,_,_,_,_,_⟩:=a_H bH;refine R z (lN (vs:=vR aD aE aF aG aH aI aJ aK aL aM aN aO aP) M_ p_ z z fid bG)<|E z (fa b_M) ?_
  rintro _ bI ⟨rfl,aQ⟩;have a2:=aQ.below;refine E0 (fs0 (cur':=vR aD aE aF aG aH aI aJ aK aL aM aN aO aP) p_ z z (aQ.blk:Blk bI bE.z [(Str.v (⟨[]⟩:Str)),vI 0,vI 0,vB false,sN,sN,sN,sN]) z z z z) ?_;rintro _ _ ⟨bJ,bK⟩;have a3:=bK.one;refine Wn<|Ws<|Rf z e_C z<|R z (l0 g_9 z<|bJ.at z)<|Rf z e_C z<|R z (l0 g_9 z<|((((hk.e s1).e sa).e a2).c a3<|djs<|mm1 av.lt<|lt_ (lt_ h3.s s1.s) sa.s).at z)<|R z (b_7 z z)<|Wx z (λY=>?_) (λY=>?_)
  .exact Ws<|Rw z<|Wr<|rtO<|qL (som<|ifT ah Y).symm<|k_ hr z ⟨bM (bup (bup (bup (bM (bup (bup h2 s5) h4) h3<|m1 hd) s1) sa) a2) a3<|m1<|lt_ (lt_ (lt_ (lt_ hd h4.s) h3.s) s1.s) sa.s,z⟩
  exact Wk<|Wg<|R z (inc_ af (lt_ (repS.len a1) O_) z z)<|Rm z<|Wl (λ_ q=>⟨(),(som<|ifF ah Y).symm,⟨q.k<|s6 z z z z z z,bM (bup sa a2) a3<|m1 sa.s⟩⟩)
 .rintro _ _ _ ⟨b1,bL⟩;refine Wu ?_ b1;refine Ws<|Rl z z z<|Wn<|Wq<|Wc z (λhc=>(a_h hc).elim) (λ_=>?_)
  exact We<|λ_ q=>⟨rfl,⟨q.k<|s3 z z z,bL⟩⟩
 .rintro _ bN wi rfl ⟨_,sb⟩;have b2:=elL ad;revert bN;refine Wo<|Wq<|Ws<|Rf z Q_ z ?_
  have aR:=(hk.e s1).e sb;refine R z (l0 F_ z<|aR.at z) ?_;have a4:=(((h4.ag B).c h3<|c_ aA).e s1).e sb;refine R z (lnR G_ z<|hj.g a4)<|Rm z<|Wn ?_
  obtain ⟨_,b3,ai⟩:=bdS b2;refine Wf (σ:=Unit) (ρ:=Bool) (λ(a5:Nat)(_:Unit) a w=>Sat 65 [(1,vI x2),(2,pt w0.z),(5,pt J.z),(48,sl ae nf cg),(49,vI (L.kids.length:Int)),(50,vI ((a5:Nat):Int))] a/\Below wi.z wi w) (λ(_:Unit) a w=>Sat 65 [(2,pt w0.z),(5,pt J.z)] a/\Below wi.z wi w) (rQ prog fn<|Q0 w0 B) b3 ?_ ?_ ?_ ?_ ?_
  .exact λ_ q=>⟨q.k<|s6 z z z z z z,br wi⟩
  .rintro a5 _ _ wl _ aj ⟨b4,a6⟩ b5;refine Wu ?_ b4;refine Ws<|Rl z z z<|Wn<|Wq<|Wc z (λ_=>?_) (λhc=>(a_g aj hc).elim)
   refine Wk<|Wq<|Wb<|Ws ?_
   obtain ⟨aS,bO,b6⟩:=bdS b5;refine RX z (at_ (α:=Int) G_ z_3 z z z (hj.g<|a4.e a6) bO) ?_;rintro _ ⟨_,_,_,rfl,bP,bQ,_⟩;obtain ⟨rfl,_⟩:=U_ bQ;refine R z (l0 g_3 z<|bP.at0 z)<|Rw z<|Wq ?_
   obtain ⟨bR,ak,al⟩:=bdS b6;refine Wt (λa w=>∃(a7:Bool),a7=bR/\Sat 65 [(1,vI x2),(2,pt w0.z),(5,pt J.z),(48,sl ae nf cg),(49,vI (L.kids.length:Int)),(50,vI ((a5:Nat):Int)),(60,vB a7)] a/\Below wl.z wl w) ?_ ?_
   .refine Wg<|Rm z<|Rl z z z<|Rm z ?_
    rcases bs (decide<|aS<0) with I | I
    .iterate 3 refine Nh z I ?_
     exact R z (pT z I z)<|Wl (λ_ q=>⟨true,som<|ifT ak I,q.k<|s7 z z z z z z z,br wl⟩)
    exact Rh z I (mv z)<|Rh z I (mv z)<|Rh z I (b_P z z)<|R z (pF z I z)<|Wl (λ_ q=>⟨decide<|x2<=aS,som<|ifF ak I,q.k<|s7 z z z z z z z,br wl⟩)
   rintro bS _ ⟨a7,rfl,_,aT⟩;revert bS;refine Wo<|Wc z (λa0=>?_) (λa0=>?_)
   .exact Ws<|Rw z<|Wr<|rtO<|qL (som<|ifT al a0).symm<|k_ hr z ⟨bup (bup (bup (bup (bM (bup (bup h2 s5) h4) h3<|m1 hd) s1) sb) a6) aT,z⟩
   exact Wk<|Wg<|R z (inc_ aj (lt_ (repS.len hj) O_) z z)<|Rm z<|Wl (λ_ q=>⟨(),(som<|ifF al a0).symm,⟨q.k<|s6 z z z z z z,bup a6 aT⟩⟩)
  .rintro _ _ _ ⟨b7,bT⟩;refine Wu ?_ b7;refine Ws<|Rl z z z<|Wn<|Wq<|Wc z (λhc=>(a_h hc).elim) (λ_=>?_)
   exact We<|λ_ q=>⟨rfl,⟨q.k<|s2 z z,bT⟩⟩
  .rintro _ bU _ rfl ⟨_,sc⟩;have b8:=elL ai;revert bU;refine Wo<|Ws<|R z (lN (vs:=[sl A0 N0 C0]) B_ z_ z z fid<|((az.e sb).e sc).row 0 1 z)<|R z (lN (vs:=vR L aq nr cs au nt cv aw nx cy ae nf cg) M_ p_ z z fid<|(aR.e sc).row 0 8 z) ?_
   have hn:=a4.e sc;obtain ⟨_,bV,b9⟩:=bdS b8;refine E z (fc call136 z<|W_w2e bV (zt' V<|lt_ (lt_ (lt_ (lt_ (lt_ hd h4.s) h3.s) s1.s) sb.s) sc.s) (O.g<|(aB.e sb).e sc) ap bk bm (bn.g hn) (bo.g hn) (bp.g hn)<|hj.g hn) ?_;rintro _ _ ⟨bW,rfl⟩;refine Rw z ?_
   obtain rfl:=som b9;exact Wr<|k_ hr z ⟨bup (bup (bup (bup (bM (bup (bup h2 s5) h4) h3<|m1 hd) s1) sb) sc) bW,z⟩
  rintro _ _ _ _ rfl ⟨rfl,ba⟩;have bb:=elR ai;obtain rfl:=som bb;exact ⟨ba,z⟩
 rintro _ _ _ _ rfl ⟨rfl,bc⟩;have be:=elR ad;obtain rfl:=som be;exact ⟨bc,z⟩
theorem W_w2g {x1:g_}{res:Bool}(hm:h_o n x1=some res)(V:B<=w0.z)(H:repS w0 B (sl A0 N0 C0) x1.rules):r_ prog 97 [(.agg #[sl A0 N0 C0])] w0 (Q0 w0 B res):=by
 unfold h_o at hm
 refine goG func97 z z z λfn hr=>Ws<|E z (fb z) ?_
 rintro _ wh ⟨rfl,W⟩;have G:=W.below;have Y:Blk wh w0.z [sl A0 N0 C0]:=W.blk;refine Rw z<|Wq<|Ws<|Rf z R_ z<|R z (l0 S_ z<|Y.at z) ?_
 have h9:=H.e G;refine R z (lnR K_ z h9) ?_;obtain ⟨_,ei,hma⟩:=bdS hm;refine E z (fc call127 z<|e_F ei (zt' V G.s) (b_5<|repS.len h9) (ii z)<|ii z) ?_;rintro _ I ⟨s1,rfl⟩;refine R z (not_ z)<|Wx z (λJ=>?_) (λJ=>?_)
 .refine Ws<|Rw z ?_
  obtain rfl:=som<|ifT hma J;exact Wr<|k_ hr z ⟨bup G s1,z⟩
 refine Wk<|Wq<|Ws<|Rf z R_ z ?_
 have hb:=Y.e s1;refine R z (l0 S_ z<|hb.at z) ?_;have hd:=(G.ag B).e s1;refine R z (lnR K_ z<|H.g hd)<|Rm z<|Wn ?_
 obtain ⟨_,huj,hmc⟩:=bdS<|ifF hma J;refine Wf (σ:=Unit) (ρ:=Bool) (λ(ke:Nat)(_:Unit) a w=>Sat 20 [(1,pt w0.z),(11,vI (x1.rules.length:Int)),(12,vI ((ke:Nat):Int))] a/\Below I.z I w) (λ(_:Unit) a w=>Sat 20 [] a/\Below I.z I w) (rQ prog fn<|Q0 w0 B) huj ?_ ?_ ?_ ?_ ?_
 .exact λ_ q=>⟨q.k<|s3 z z z,br I⟩
 .rintro ke _ _ _ _ L ⟨hSk,s4⟩ hml;refine Wu ?_ hSk;refine Ws<|Rl z z z<|Wn<|Wq<|Wc z (λ_=>?_) (λhc=>(a_g L hc).elim)
  refine Wk<|Wq<|Wb<|Wm z<|Rw z<|Ws<|R z (lN (vs:=[sl A0 N0 C0]) B_ z_ z z fid<|(hb.e s4).row 0 1 z)<|Rm z ?_
  obtain ⟨_,em,hmf⟩:=bdS hml;refine E z (fc call128 z<|W_w2f em (zt' V<|lt_ (lt_ G.s s1.s) s4.s) (H.g<|hd.e s4)<|ic (Nat.le_of_lt L)<|lt_ (repS.len H) O_) ?_;rintro _ _ ⟨sg,rfl⟩;refine R z (not_ z)<|Wx z (λO=>?_) (λO=>?_)
  .exact Ws<|Rw z<|Wr<|rtO<|qL (som<|ifT hmf O).symm<|k_ hr z ⟨bup (bup (bup G s1) s4) sg,z⟩
  exact Wk<|Wg<|R z (inc_ L (lt_ (repS.len H) O_) z z)<|Rm z<|Wl (λ_ q=>⟨(),(som<|ifF hmf O).symm,⟨q.k<|s3 z z z,bup s4 sg⟩⟩)
 .rintro _ _ _ ⟨hSn,so⟩;refine Wu ?_ hSn;refine Ws<|Rl z z z<|Wn<|Wq<|Wc z (λhc=>(a_h hc).elim) (λ_=>?_)
  exact We<|λ_ q=>⟨rfl,⟨q.k sn,so⟩⟩
 .rintro _ ap _ rfl ⟨_,sq⟩;have hmr:=elL hmc;revert ap;refine Wo<|Ws<|Rw z ?_
  obtain rfl:=som hmr;exact Wr<|k_ hr z ⟨bup (bup G s1) sq,z⟩
 rintro _ _ _ _ rfl ⟨rfl,hqs⟩;have hmt:=elR hmc;obtain rfl:=som hmt;exact ⟨hqs,z⟩
theorem k_P {x1:g_}{x2:Int}{res:Bool}(hm:f_7 n x1 x2=some res)(J:B<=w0.z)(I:repS w0 B (sl A0 N0 C0) x1.rules)(O:inI x2):r_ prog 86 [(.agg #[sl A0 N0 C0]),vI x2] w0 (Q0 w0 B res):=by
 unfold f_7 at hm
 refine goG func86 z z z λfn hr=>Ws<|E z (fb z) ?_
 rintro _ H ⟨rfl,h5⟩;have h1:=h5.below;have h6:Blk H w0.z [sl A0 N0 C0]:=h5.blk;refine Rw z<|Wq ?_
 obtain ⟨u8,V,hma⟩:=bdS hm;refine Wt (λa w=>∃(x4:Bool),x4=u8/\Sat 12 [(4,vB x4)] a/\Below H.z H w) ?_ ?_
 .refine Wg<|R z (lN (vs:=[sl A0 N0 C0]) B_ z_ z z fid<|h6.row 0 1 z) ?_
  obtain ⟨rb,ec,L⟩:=bdS V;refine E z (fc call97 z<|W_w2g ec (zt' J h1.s)<|I.e h1) ?_;rintro _ _ ⟨s2,rfl⟩;refine Rm z ?_
  rcases bs rb with G | G
  .refine Rh z G (lN (vs:=[sl A0 N0 C0]) B_ z_ z z fid<|(h6.e s2).row 0 1 z)<|Rh z G (mv z) ?_
   obtain ⟨rd,ee,hmf⟩:=bdS<|ifT L G;refine Eg z z G z (fc call98 z<|k_M ee (zt' J<|lt_ h1.s s2.s) (I.g<|(h1.ag B).e s2) O) ?_;rintro _ _ ⟨sg,rfl⟩;exact R z (pT z G z)<|Ra z<|Wl (λ_ q=>⟨rd,som hmf,q.k<|s1 z,bup s2 sg⟩)
  iterate 3 refine Nh z G ?_
  exact R z (pF z G z)<|Ra z<|Wl (λ_ q=>⟨false,som<|ifF L G,q.k<|s1 z,s2⟩)
 rintro ah _ ⟨x4,rfl,_,si⟩;revert ah;refine Wo ?_;obtain rfl:=som hma;exact Wr<|k_ hr z ⟨bup h1 si,z⟩
def Q17 (w0:World)(B:Zone)(r:(Option<|Int×Int))(v:Value)(w':World):Prop:=Bw w0 w'/\(λG=>∃(v1:Value)(S1:List Nat),v1=v/\b_0 128 w' S1 v1 G/\(∀k∈S1,w0.z<=k)) r
theorem e_G {x1:Int}{x2:Int}{res:(Option<|Int×Int)}(hm:c_4 x1 x2=some res)(L:B<=w0.z)(H:inI x1)(I:inI x2):r_ prog 108 [vI x1,vI x2] w0 (Q17 w0 B res):=by
 unfold c_4 at hm
 refine goG func108 z z z λfn hr=>Ws<|Rw z<|Wm z<|Rm z<|R z (bP (parts:=[(0,.tmp 5),(1,.tmp 6)]) (cs:=[vI x1,vI x2]) r_f z z)<|E z (fb z) ?_
 rintro _ J ⟨rfl,G⟩;refine R z (l_I d_128 (λ_ h=>by cases h) z)<|Rw z ?_
 obtain rfl:=som hm;exact Wr<|k_ hr z ⟨G.below,.iface 128<|pt w0.z,[w0.z],z,o_p (G.blk:Blk J w0.z [vI x1,vI x2]) H I z,b_ lr⟩
def Q18 (w0:World)(B:Zone)(r:Bt×(Option<|Int×Int))(v:Value)(w':World):Prop:=Bw w0 w'/\un2 (λJ L=>∃(G:Option Addr)(H I:Nat)(v2:Value)(S2:List Nat),v = .tuple #[sl G H I,v2]/\repS w' w'.z (sl G H I) J/\b_0 128 w' S2 v2 L/\(∀k∈S2,w0.z<=k)) r
theorem j_s {x1:a_I}{b1 o1:Nat}{x2:Int}{x3:Int}{res:Bt×(Option<|Int×Int)}(hm:e_y x1 x2 x3=some res)(I:B<=w0.z)(a0:repS w0 B (sl A0 N0 C0) x1.d.rules)(H:repS w0 B (sl A6 N6 C6) x1.b)(hC1:X_ w0 b1 o1 [sl A0 N0 C0,sl A6 N6 C6])(hC1b:B b1)(J:inI x2)(a1:inI x3):r_ prog 129 [(.pointer<|some ⟨b1,o1,none⟩),vI x2,vI x3] w0 (Q18 w0 B res):=by
 unfold e_y at hm
 refine goG func129 z z z λfn hr=>Ws<|Ra z<|Rw z<|Wq<|Wm z<|Rm z<|R z (Y_ z)<|Rf z g_c z<|R z (l0 a_0 z<|hC1.at (j:=1) z)<|R z (lnR w_ z H)<|Rm z<|R z (sb_ z z)<|R z (a_b z z)<|Wx z (λG=>?_) (λG=>?_)
 .refine Wm z ?_
  obtain ⟨_,V,L⟩:=bdS<|ifT hm G;refine E z (fc call108 z<|e_G (B:=B) V I J<|ii z) ?_;rintro _ _ ⟨s1,v4,W,rfl,h6,Y⟩;refine Ra z<|Rw z ?_
  obtain rfl:=som L;exact Wr<|a_i hr z z ⟨s1,none,0,0,v4,W,z,repS.mono (or_ onL an_)<|b_g s1.s,h6,Y⟩
 refine Wk<|Wm z<|R z (Y_ z)<|Rf z g_c z<|R z (l0 a_0 z<|hC1.at (j:=1) z)<|RM z z<|Rm z<|R z (add_ z z) ?_
 obtain ⟨_,e8,O⟩:=bdS<|ifF hm G;refine RX z (rX w_ z_5 z z H z z e8) ?_;rintro _ ⟨aa,nb,cc,rfl,hd⟩;refine Ra z<|Rw z ?_
 obtain rfl:=som O;exact Wr<|a_i hr z z ⟨br w0,aa,nb,cc,.nilIface,([]:List Nat),z,repS.mono hd I,e_h,an_⟩
theorem k_Q {x1:Bt}{x2:Bool}{res:Int}(hm:f_8 x1 x2=some res)(W:B<=w0.z)(G:repS w0 B (sl A0 N0 C0) x1):r_ prog 26 [sl A0 N0 C0,vB x2] w0 (Q9 w0 B res):=by
 unfold f_8 at hm
 refine goG func26 z z z λfn hr=>Ws<|Rw z<|Wq<|Wm z<|R z (lnR w_ z G)<|R z (a_b z z)<|Wx z (λI=>?_) (λI=>?_)
 .refine Ws<|Rw z ?_
  obtain rfl:=som<|ifT hm I;exact Wr<|k_ hr z ⟨br w0,z,ii z⟩
 refine Wk<|Ws<|Rw z<|Wq<|Wm z<|R z (lnR w_ z G)<|Rm z<|Wn ?_
 obtain ⟨_,huc,L⟩:=bdS<|ifF hm I;refine Wf (σ:=Int) (ρ:=Int) (λ(k5:Nat)(x0:Int) a w=>Sat 38 [(0,sl A0 N0 C0),(1,vB x2),(5,vI x0),(11,vI (x1.length:Int)),(12,vI ((k5:Nat):Int))] a/\Below w0.z w0 w/\inI x0) (λ(x0:Int) a w=>Sat 38 [(5,vI x0)] a/\Below w0.z w0 w/\inI x0) (rQ prog fn<|Q9 w0 B) huc ?_ ?_ ?_ ?_ ?_
 .exact λ_ q=>⟨q.k<|s5 z z z z z,br w0,ii z⟩
 .rintro k5 x0 _ H _ O ⟨hSd,s6,h2⟩ hme;refine Wu ?_ hSd;refine Ws<|Rl z z z<|Wn<|Wq<|Wc z (λ_=>?_) (λhc=>(a_g O hc).elim)
  refine Wk<|Wq<|Wb<|Wm z<|Rw z<|Wm z<|Wn ?_
  obtain ⟨uf,hua,hmg⟩:=bdS hme;refine Wt (λa w=>∃(x3:Int),x3=uf/\Sat 38 [(0,sl A0 N0 C0),(1,vB x2),(5,vI x3),(11,vI (x1.length:Int)),(12,vI ((k5:Nat):Int))] a/\Below H.z H w/\inI x3) ?_ ?_
  .refine Wc z (λJ=>?_)<|λJ=>?_
   .refine Wg<|Rm z<|R z (i_B z z (by decide))<|RM z z ?_
    have hb:=G.e s6;refine R z (lnR w_ z hb)<|R z (sb_ z z)<|Rm z<|R z (sb_ z z) ?_
    obtain ⟨xh,ei,hmj⟩:=bdS<|ifT hua J;refine RX z (at_ (α:=UInt8) w_ z_5 z z z hb ei) ?_;rintro _ ⟨_,_,_,rfl,hk,hl,_⟩;obtain rfl:=u8 hl;exact R z (l0 g_5 z<|hk.at0 z)<|R z (c_8 d_5 d_3 z)<|R z (rd_or z z)<|Ra z<|Wl (λ_ q=>⟨a_Q .i64 (· ||| ·) (b_O .i64 x0 8)<|byteI xh,som hmj,q.k<|s5 z z z z z,br H,g_y _ _ _⟩)
   refine Wg<|Rm z<|R z (i_B z z (by decide))<|RM z z ?_
   obtain ⟨xm,en,hmo⟩:=bdS<|ifF hua J;refine RX z (at_ (α:=UInt8) w_ z_5 z z z (G.e s6) en) ?_;rintro _ ⟨_,_,_,rfl,hp,hq,_⟩;obtain rfl:=u8 hq;exact R z (l0 g_5 z<|hp.at0 z)<|R z (c_8 d_5 d_3 z)<|R z (rd_or z z)<|Ra z<|Wl (λ_ q=>⟨a_Q .i64 (· ||| ·) (b_O .i64 x0 8)<|byteI xm,som hmo,q.k<|s5 z z z z z,br H,g_y _ _ _⟩)
  rintro ar _ ⟨x3,rfl,_,ss,ht⟩;revert ar;exact Wo<|Wg<|R z (inc_ O (lt_ (repS.len G) O_) z z)<|Rm z<|Wl (λ_ q=>⟨x3,(som hmg).symm,⟨q.k<|s5 z z z z z,bup s6 ss,ht⟩⟩)
 .rintro x0 _ _ ⟨hSu,sv,h2⟩;refine Wu ?_ hSu;refine Ws<|Rl z z z<|Wn<|Wq<|Wc z (λhc=>(a_h hc).elim) (λ_=>?_)
  exact We<|λ_ q=>⟨rfl,⟨q.k<|s1 z,sv,h2⟩⟩
 .rintro x0 aw _ rfl ⟨_,sx,h2⟩;have hmy:=elL L;revert aw;refine Wo<|Wm z<|Rw z ?_
  obtain rfl:=som hmy;exact Wr<|k_ hr z ⟨sx,z,h2⟩
 rintro _ _ _ _ rfl ⟨rfl,hqz⟩;have V:=elR L;obtain rfl:=som V;exact ⟨hqz,z⟩
def Q19 (w0:World)(B:Zone)(r:Int×Int×(Option<|Int×Int))(v:Value)(w':World):Prop:=Bw w0 w'/\un3 (λG H I=>∃(v1:Value)(S1:List Nat),v = .tuple #[vI G,vI H,v1]/\inI G/\inI H/\b_0 128 w' S1 v1 I/\(∀k∈S1,w0.z<=k)) r
theorem j_t {x1:a_I}{b1 o1:Nat}{x2:Int}{x3:Int}{res:Int×Int×(Option<|Int×Int)}(hm:e_z x1 x2 x3=some res)(L:B<=w0.z)(I:repS w0 B (sl A0 N0 C0) x1.d.rules)(a0:repS w0 B (sl A6 N6 C6) x1.b)(hC1:X_ w0 b1 o1 [sl A0 N0 C0,sl A6 N6 C6])(hC1b:B b1)(ab:inI x2)(J:inI x3):r_ prog 99 [(.pointer<|some ⟨b1,o1,none⟩),vI x2,vI x3] w0 (Q19 w0 B res):=by
 unfold e_z at hm
 refine goG func99 z z z λfn hr=>Ws<|RA z z<|Rw z<|Wm z<|R z (Y_ z)<|Rf z n_l z<|Rf z R_ z<|R z (l0 S_ z<|hC1.at (j:=0) z)<|Rm z ?_
 obtain ⟨x5,eq,hmr⟩:=bdS hm;refine RX z (at_ (α:=d_) K_ p_ z z z I eq) ?_;rintro _ ⟨_,_,_,rfl,ht,hu,_⟩;obtain ⟨O,V,W,Y,na,cb,ac,nd,ce,af,ng,ch,rfl,_,_,hv,_,_,_,_⟩:=a_H hu;refine R z (lN (vs:=vR x5 O V W Y na cb ac nd ce af ng ch) M_ p_ z z fid ht)<|E z (fa b_M) ?_
 rintro _ ws ⟨rfl,hi⟩;have G:=hi.below;refine E0 (fs0 (cur':=vR x5 O V W Y na cb ac nd ce af ng ch) p_ z z (hi.blk:Blk ws w0.z [(Str.v (⟨[]⟩:Str)),vI 0,vI 0,vB false,sN,sN,sN,sN]) z z z z) ?_;rintro _ _ ⟨hj,sx⟩;have h1:=sx.one;refine Wn<|Wm z<|Rm z<|Rf z a_W z<|R z (l0 g_3 z<|hj.at z) ?_
 have hk:∀k∈[w0.z],¬B k:=or0 (b_ lr)<|o_ L;have hl:=(G.ag B).c h1<|c_ hk
 have hn:=lt_ G.s h1.s;obtain ⟨_,_,ey,hmm⟩:=a_v hmr;refine E z (fc call129 z<|j_s ey (zt' L hn) (I.g hl) (a0.g hl) ((hC1.e G).c h1<|(c_ hk) _ hC1b) hC1b J hv) ?_;rintro _ wz ⟨s3,_,_,_,a2,a3,rfl,a4,ho,a5⟩;refine Rm z<|Re z z z<|Re z z z<|Ra z<|Rw z<|Wq<|Wm z<|R z (d_J e_5 z z ho)<|Wx z (λH=>?_) (λH=>?_)
 .refine Wm z<|Rm z<|RA z z<|Rw z ?_
  obtain rfl:=som<|ifT hmm H;exact Wr<|E_ hr z z z ⟨bup (bM G h1<|b_ lr) s3,a2,a3,z,ii z,J,ho,q_ a5 hn⟩
 refine Wk<|Wq (Wd (X:=noX) 0 (.rd 0<|.rd 1<|.rd 2<|.rd 4<|.rd 5<|.rd 6<|.rd 7<|.ef 3<|.rd 8<|.rd 9<|.rd 10 .done) mo (by kernel_rfl) λad s2 _=>dM z z z<|dR z z (fd c_F z) ?_)
 have hp:=(hj.e s3).e s2;refine dR z z (l0 g_4 z<|hp.at z)<|dM z z z<|dR z z (fd a_W z)<|dR z z (l0 g_3 z<|hp.at z)<|dR z z (add_ z z) ?_
 obtain ⟨_,a7,a1⟩:=bdS<|ifF hmm H;refine dE z z (fc call26 z<|k_Q (B:=wz.z) a7 (b_g s2.s)<|a4.e s2) (.inr λ_ _ h=>y_<|h.1) ?_;rintro _ _ ⟨a8,rfl,aa⟩
 iterate 3 refine dQ z z z ?_
 refine pD<|Wo ?_
 obtain rfl:=som a1;exact Wr<|E_ hr z z z ⟨bup (bup (bup (bM G h1<|b_ lr) s3) s2) a8,.nilIface,([]:List Nat),z,aa,iA _ _,e_h,an_⟩
def Q20 (w0:World)(B:Zone)(r:Int×(Option<|Int×Int))(v:Value)(w':World):Prop:=Bw w0 w'/\un2 (λG H=>∃(v1:Value)(S1:List Nat),v = .tuple #[vI G,v1]/\inI G/\b_0 128 w' S1 v1 H/\(∀k∈S1,w0.z<=k)) r
theorem W_w2h {x1:a_I}{b1 o1:Nat}{x2:d_}{x3:Int}{res:Int×(Option<|Int×Int)}(hm:h_w x1 x2 x3=some res)(V:B<=w0.z)(ad:repS w0 B (sl A0 N0 C0) x1.d.rules)(a0:repS w0 B (sl A6 N6 C6) x1.b)(hC1:X_ w0 b1 o1 [sl A0 N0 C0,sl A6 N6 C6])(hC1b:B b1)(ae:x2.name.b.length<=LEN)(af:inI x2.kind)(ah:inI x2.size)(I:repS w0 B (sl A2 N2 C2) x2.bytes)(ai:repS w0 B (sl A3 N3 C3) x2.names)(aj:repS w0 B (sl A1 N1 C1) x2.tags)(ak:repS w0 B (sl A4 N4 C4) x2.kids)(J:inI x3):r_ prog 100 [(.pointer<|some ⟨b1,o1,none⟩),.agg #[Str.v x2.name,vI x2.kind,vI x2.size,vB x2.little,sl A2 N2 C2,sl A3 N3 C3,sl A1 N1 C1,sl A4 N4 C4],vI x3] w0 (Q20 w0 B res):=by
 unfold h_w at hm
 refine goG func100 z z z λfn hr=>Ws<|E z (fb z) ?_
 rintro _ H ⟨rfl,h6⟩;have G:=h6.below;have Y:Blk H w0.z (vR x2 A2 N2 C2 A3 N3 C3 A1 N1 C1 A4 N4 C4):=h6.blk;refine Ra z<|Rw z<|Wq<|Ws<|Rf z a_X z<|R z (l0 a_0 z<|Y.at z)<|R z (lnR w_ z<|I.e G)<|Rm z<|Wn ?_
 obtain ⟨_,hui,W⟩:=bdS hm;refine Wf (σ:=Unit) (ρ:=Int×(Option<|Int×Int)) (λ(k9:Nat)(_:Unit) a w=>Sat 52 [(0,.pointer<|some ⟨b1,o1,none⟩),(2,vI x3),(4,pt w0.z),(11,sl A2 N2 C2),(12,vI (x2.bytes.length:Int)),(13,vI ((k9:Nat):Int))] a/\Below H.z H w) (λ(_:Unit) a w=>Sat 52 [(2,vI x3),(4,pt w0.z)] a/\Below H.z H w) (rQ prog fn<|Q20 w0 B) hui ?_ ?_ ?_ ?_ ?_
 .exact λ_ q=>⟨q.k<|s6 z z z z z z,br H⟩
 .rintro k9 _ _ _ _ hka ⟨hSj,s1⟩ hmk;refine Wu ?_ hSj;refine Ws<|Rl z z z<|Wn<|Wq<|Wc z (λ_=>?_) (λhc=>(a_g hka hc).elim)
  refine Wk<|Wq<|Wb<|Wm z ?_
  obtain ⟨_,el,hmb⟩:=bdS hmk;have hd:=(G.ag B).e s1;refine RX z (at_ (α:=UInt8) w_ z_5 z z z (I.g hd) el) ?_;rintro _ ⟨_,_,_,rfl,hn,ho,_⟩;obtain rfl:=u8 ho;refine R z (l0 g_5 z<|hn.at0 z)<|Ra z<|Rw z<|Wq<|Wm z<|Rm z<|R z (add_ z z)<|Rm z<|R z (Y_ z)<|Rf z g_c z ?_
  have he:=(hC1.e G).e s1;refine R z (l0 a_0 z<|he.at (j:=1) z) ?_;have hf:=a0.g hd;refine R z (lnR w_ z hf)<|R z (b_P z z)<|Wx z (λL=>?_) (λL=>?_)
  .refine Wm z<|Rm z ?_
   have hg:=lt_ G.s s1.s;obtain ⟨_,em,hmp⟩:=bdS<|ifT hmb L;refine E z (fc call108 z<|e_G em (zt' V hg) J<|ii z) ?_;rintro _ _ ⟨sq,vr,Ss,rfl,ht,hu⟩;exact Ra z<|Rw z<|Wr<|rtO<|qL (som hmp).symm<|a_i hr z z ⟨bup (bup G s1) sq,vr,Ss,z,J,ht,q_ hu hg⟩
  refine Wk<|Wm z<|R z (Y_ z)<|Rf z g_c z<|R z (l0 a_0 z<|he.at (j:=1) z)<|RM z z<|R z (add_ z z) ?_
  obtain ⟨_,ev,hmc⟩:=bdS<|ifF hmb L;refine RX z (at_ (α:=UInt8) w_ z_5 z z z hf ev) ?_;rintro _ ⟨_,_,_,rfl,hw,hx,_⟩;obtain rfl:=u8 hx;refine R z (l0 g_5 z<|hw.at0 z)<|Rm z<|R z (nq z z)<|Wx z (λO=>?_) (λO=>?_)
  .refine Wm z<|RM z z<|R z (add_ z z) ?_
   have hh:=lt_ G.s s1.s;obtain ⟨_,ey,hmz⟩:=bdS<|ifT hmc O;refine E z (fc call108 z<|e_G ey (zt' V hh) (iA _ _)<|ii z) ?_;rintro _ _ ⟨a5,a6,a7,rfl,a8,a9⟩;exact Ra z<|Rw z<|Wr<|rtO<|qL (som hmz).symm<|a_i hr z z ⟨bup (bup G s1) a5,a6,a7,z,J,a8,q_ a9 hh⟩
  exact Wk<|Wg<|R z (inc_ hka (lt_ (repS.len I) O_) z z)<|Rm z<|Wl (λ_ q=>⟨(),(som<|ifF hmc O).symm,⟨q.k<|s6 z z z z z z,s1⟩⟩)
 .rintro _ _ _ ⟨a1,aa⟩;refine Wu ?_ a1;refine Ws<|Rl z z z<|Wn<|Wq<|Wc z (λhc=>(a_h hc).elim) (λ_=>?_)
  exact We<|λ_ q=>⟨rfl,⟨q.k<|s2 z z,aa⟩⟩
 .rintro _ ab _ rfl ⟨_,s5⟩;have a2:=elL W;revert ab;refine Wo<|Wm z<|Rf z a_X z<|R z (l0 a_0 z<|(Y.e s5).at z)<|R z (lnR w_ z<|I.g<|(G.ag B).e s5)<|R z (add_ z z)<|Ra z<|Rw z ?_
  obtain rfl:=som a2;exact Wr<|a_i hr z z ⟨bup G s5,.nilIface,([]:List Nat),z,iA _ _,e_h,an_⟩
 rintro _ _ _ _ rfl ⟨rfl,a3⟩;have a4:=elR W;obtain rfl:=som a4;exact ⟨a3,z⟩
def Q21 (w0:World)(B:Zone)(r:Val×Int×(Option<|Int×Int))(v:Value)(w':World):Prop:=Bw w0 w'/\un3 (λG H W=>∃(I:Option Addr)(J L:Nat)(S1:List Nat)(a2:Option Addr)(O V:Nat)(S2:List Nat)(v3:Value)(S3:List Nat),v = .tuple #[(.agg #[vI G.number,sl I J L,sl a2 O V]),vI H,v3]/\inI G.number/\a_ w' S1 (sl I J L) G.bytes/\a_ w' S2 (sl a2 O V) G.items/\inI H/\b_0 128 w' S3 v3 W/\(∀k∈S3,w0.z<=k)/\(S1++S2).Nodup/\(∀k∈(S1++S2),w0.z<=k)) r
theorem W_w1g {x1:a_I}{b1 o1:Nat}{x2:Int}{x3:Int}{res:Val×Int×(Option<|Int×Int)}(hm:g_2 x1 x2 x3=some res)(a2:B<=w0.z)(Y:repS w0 B (sl A0 N0 C0) x1.d.rules)(a0:repS w0 B (sl A6 N6 C6) x1.b)(hC1:X_ w0 b1 o1 [sl A0 N0 C0,sl A6 N6 C6])(hC1b:B b1)(O:inI x2)(a1:inI x3):r_ prog 101 [(.pointer<|some ⟨b1,o1,none⟩),vI x2,vI x3] w0 (Q21 w0 B res):=by
 unfold g_2 at hm
 refine goG func101 z z z λfn hr=>Ws<|E z (fa a_k) ?_
 rintro _ wk ⟨rfl,W⟩;have G:=W.below;have h2:Blk wk w0.z [vI 0,sN,sN]:=W.blk;refine Ra z<|Rw z<|Wm z<|RM z z ?_
 obtain ⟨_,_,el,V⟩:=a_v hm;refine E z (fc call129 z<|j_s el (zt' a2 G.s) (Y.e G) (a0.e G) (hC1.e G) hC1b O a1) ?_;rintro _ _ ⟨s1,_,_,_,vm,Sn,rfl,ho,ha,hb⟩;refine Rm z<|Re z z z<|Re z z z<|Ra z<|Rw z<|Wq<|Wm z<|R z (d_J e_5 z z ha)<|Wx z (λH=>?_) (λH=>?_)
 .refine Ws<|R z (bP (parts:=[]) (cs:=[vI 0,sN,sN]) a_9 z z)<|RM z z<|E0 (fs0 (cur':=[vI 0,sN,sN]) l_ z z (h2.e s1) z z z z) ?_
  rintro _ _ ⟨hp,sq⟩;have hc:=sq.one;refine Ra z<|Rw z ?_
  obtain rfl:=som<|ifT V H;exact Wr<|E_ hr (x_ D_ l_ z hp z) z z ⟨bM (bup G s1) hc<|b_ lr,none,0,0,[],none,0,0,[],vm,Sn,z,ii z,onL,onL,O,ha.c hc<|n_ hb h2.lt lr,q_ hb G.s,nd0,al0⟩
 refine Wk<|Ws<|E z (f0 (α:=UInt8) a_3) ?_
 rintro _ _ ⟨_,_,_,rfl,s3,ht⟩;refine Rm z ?_;obtain ⟨_,er,hms⟩:=bdS<|ifF V H;refine E z (fN (α:=UInt8) a_3 er z z ht a_A<|ho.e s3) ?_;rintro _ _ ⟨Sd,I,J,L,rfl,se,hu,hv,hf⟩;refine R z (bP (parts:=[(1,.tmp 25)]) (cs:=[vI 0,sl I J L,sN]) a_9 z z)<|RM z z<|R z (add_ z z) ?_
 have hg:=mm1 h2.lt s1.s;refine E0 (fs0 (cur':=[vI 0,sl I J L,sN]) l_ z z (((h2.e s1).e s3).c se<|djs hg) z z z z) ?_;rintro _ _ ⟨hw,sx⟩;have hh:=sx.one;refine Ra z<|Rw z ?_
 obtain rfl:=som hms;have hi:=lt_ G.s s1.s;have hj:=m1 hi;exact Wr<|E_ hr (x_ D_ l_ z hw z) z z ⟨bM (bM (bup (bup G s1) s3) se hj) hh<|b_ lr,I,J,L,Sd,none,0,0,[],.nilIface,([]:List Nat),z,ii z,hu.c hh (or1 hf hg (m_ (b_ h2.lt)<|lt_ s1.s s3.s):∀k∈Sd,k∉[w0.z]),onL,iA _ _,e_h,an_,na_ hv v_<|nmN _,aa_ (a_u hf hj<|lt_ hi s3.s) an_⟩
theorem W_w1h {x1:Bt}{res:Int}(hm:f_Z x1=some res)(W:B<=w0.z)(G:repS w0 B (sl A0 N0 C0) x1):r_ prog 130 [sl A0 N0 C0] w0 (Q9 w0 B res):=by
 unfold f_Z at hm
 refine goG func130 z z z λfn hr=>Ws<|Rw z<|Ws<|Rw z<|Wq<|Wm z<|R z (lnR w_ z G)<|Rm z<|Wn ?_
 obtain ⟨_,J,H⟩:=bdS hm;refine Wf (σ:=Int) (ρ:=Int) (λ(k3:Nat)(x0:Int) a w=>Sat 19 [(3,vI x0),(6,sl A0 N0 C0),(7,vI (x1.length:Int)),(8,vI ((k3:Nat):Int))] a/\Below w0.z w0 w/\inI x0) (λ(x0:Int) a w=>Sat 19 [(3,vI x0)] a/\Below w0.z w0 w/\inI x0) (rQ prog fn<|Q9 w0 B) J ?_ ?_ ?_ ?_ ?_
 .exact λ_ q=>⟨q.k<|s4 z z z z,br w0,ii z⟩
 .rintro k3 x0 _ _ _ I ⟨L,s5,h1⟩ O;refine Wu ?_ L;refine Ws<|Rl z z z<|Wn<|Wq<|Wc z (λ_=>?_) (λhc=>(a_g I hc).elim)
  refine Wk<|Wq<|Wb<|Ws ?_
  obtain ⟨V,ea,hmb⟩:=bdS O;refine RX z (at_ (α:=UInt8) w_ z_5 z z z (G.e s5) ea) ?_;rintro _ ⟨_,_,_,rfl,hd,he,_⟩;obtain rfl:=u8 he;exact R z (l0 g_5 z<|hd.at0 z)<|Rw z<|Wg<|RM z z<|R z (c_8 d_5 d_3 z)<|R z (add_ z z)<|Rw z<|Wg<|R z (inc_ I (lt_ (repS.len G) O_) z z)<|Rm z<|Wl (λ_ q=>⟨h_ x0<|byteI V,(som hmb).symm,⟨q.k<|s4 z z z z,s5,iA _ _⟩⟩)
 .rintro x0 _ _ ⟨hSc,sf,h1⟩;refine Wu ?_ hSc;refine Ws<|Rl z z z<|Wn<|Wq<|Wc z (λhc=>(a_h hc).elim) (λ_=>?_)
  exact We<|λ_ q=>⟨rfl,⟨q.k<|s1 z,sf,h1⟩⟩
 .rintro x0 ag _ rfl ⟨_,sh,h1⟩;have hmi:=elL H;revert ag;refine Wo<|Wm z<|R z (g_I z z (by decide))<|Rw z ?_
  obtain rfl:=som hmi;exact Wr<|k_ hr z ⟨sh,z,g_s h1⟩
 rintro _ _ _ _ rfl ⟨rfl,hqj⟩;have hmk:=elR H;obtain rfl:=som hmk;exact ⟨hqj,z⟩
def Q22 (w0:World)(B:Zone)(r:Bt×Int×Bool)(v:Value)(w':World):Prop:=Bw w0 w'/\un3 (λL G O=>∃H I J S1,v = .tuple #[sl H I J,vI G,vB O]/\a_ w' S1 (sl H I J) L/\inI G/\S1.Nodup/\(∀k∈S1,w0.z<=k)) r
theorem W_w1i {x1:Bt}{x2:Int}{x3:UInt8}{res:Bt×Int×Bool}(hm:g_0 n x1 x2 x3=some res)(aq:B<=w0.z)(Y:repS w0 B (sl A0 N0 C0) x1)(a0:inI x2):r_ prog 107 [sl A0 N0 C0,vI x2,vU<|byteI x3] w0 (Q22 w0 B res):=by
 unfold g_0 at hm
 refine goG func107 z z z λfn hr=>Ws<|RA z z<|Rw z<|Ws<|E z (f0 (α:=UInt8) a_3) ?_
 rintro _ wg ⟨aj,nk,cl,rfl,s8,hv⟩;refine Rw z<|Wq<|Wq ?_
 obtain ⟨ar,huw,hmx⟩:=bdS hm;refine Wt (λa w=>∃(xm:Bool),xm=ar/\Sat 58 [(0,sl A0 N0 C0),(1,vI x2),(2,vU<|byteI x3),(9,sl aj nk cl),(19,vB xm)] a/\Below wg.z wg w) ?_ ?_
 .refine Wg<|Rm z<|Rl z z z<|Rm z ?_
  rcases bs (decide<|x2<0) with I | I
  .iterate 4 refine Nh z I ?_
   exact R z (pT z I z)<|Wl (λ_ q=>⟨true,som<|ifT huw I,q.k<|s5 z z z z z,br wg⟩)
  exact Rh z I (mv z)<|Rh z I (mv z)<|Rh z I (lnR w_ z<|Y.e s8)<|Rh z I (a_b z z)<|R z (pF z I z)<|Wl (λ_ q=>⟨decide<|(x1.length:Int)<x2,som<|ifF huw I,q.k<|s5 z z z z z,br wg⟩)
 rintro au G ⟨xm,rfl,_,s6⟩;revert au;refine Wo<|Wc z (λhcn=>?_) (λhcn=>?_)
 .refine Wm z<|Rm z<|RA z z<|Rw z ?_
  obtain rfl:=som<|ifT hmx hcn;exact Wr<|E_ hr z z z ⟨bup s8 s6,aj,nk,cl,[w0.z],z,hv.e s6,a0,a_A,b_ lr⟩
 refine Wk<|Wq<|Wm z<|Rw z ?_
 obtain ⟨_,ad,hmy⟩:=bdS<|ifF hmx hcn;refine b_Y (σ:=Bt×Int) (ρ:=Bt×Int×Bool) (λs a w=>un2 (λxb V=>∃J L O H,Sat 58 [(0,sl A0 N0 C0),(1,vI x2),(2,vU<|byteI x3),(9,sl J L O),(10,vI V)] a/\Cg [w0.z] G w/\a_ w H (sl J L O) xb/\H.Nodup/\(∀k∈H,k∈[w0.z]∨G.z<=k)/\inI V) s) (λs a w=>un2 (λxb V=>∃J L O H,Sat 58 [(1,vI x2)] a/\Cg [w0.z] G w/\a_ w H (sl J L O) xb/\H.Nodup/\(∀k∈H,k∈[w0.z]∨G.z<=k)/\inI V) s) (rQ prog fn<|Q22 w0 B) ad ?_ ?_ ?_ ?_
 .exact λ_ q=>⟨aj,nk,cl,[w0.z],q.k<|s5 z z z z z,cr [w0.z] G,hv.e s6,a_A,io sr,a0⟩
 .rintro ⟨xb,V⟩ _ W _ ⟨J,L,O,H,ae,sa,hc,hd,he,ho⟩ af;have hmz:=a_M af;refine Wu ?_ ae;refine Wq<|Wm z<|Rm z ?_
  have a6:=((s8.ag B).e s6).c sa<|c_ (or0 (b_ lr) (o_ aq):∀k∈[w0.z],¬B k)
  have hh:=Y.g a6;refine R z (lnR w_ z hh)<|Rl z z z<|Wx z (λhcp=>?_) (λhcp=>?_)
  .refine Wk<|Wq<|Wb<|Wq<|Wm z<|Rm z ?_
   obtain ⟨_,av,a1⟩:=bdS<|ifT hmz hcp;refine RX z (at_ (α:=UInt8) w_ z_5 z z z hh av) ?_;rintro _ ⟨_,_,_,rfl,aw,ax,_⟩;obtain rfl:=u8 ax;refine R z (l0 g_5 z<|aw.at0 z)<|Rm z<|Rq z z z<|Wx z (λhcq=>?_) (λhcq=>?_)
   .refine Wm z<|Rm z<|R z (add_ z z)<|RA z z<|Rw z ?_
    exact Wr<|rtO<|qL (som<|ifT a1 hcq).symm<|E_ hr z z z ⟨bM (bup s8 s6) sa<|b_ lr,J,L,O,H,z,hc,iA _ _,hd,(or1 he (b_ lr) (b_f<|lt_ s8.s s6.s):∀k∈H,w0.z<=k)⟩
   refine Wk<|Wq<|Wm z<|Rm z ?_
   obtain ⟨_,ay,ah⟩:=bdS<|ifF a1 hcq;refine RX z (at_ (α:=UInt8) w_ z_5 z z z hh ay) ?_;rintro _ ⟨_,_,_,rfl,az,aA,_⟩;obtain rfl:=u8 aA;refine R z (l0 g_5 z<|az.at0 z)<|Rq z z z<|Wn ?_
   obtain ⟨aB,a2,a4⟩:=bdS ah;refine Wt (λa w=>∃(xf:Int),Sum.inl xf=aB/\Sat 58 [(0,sl A0 N0 C0),(1,vI x2),(2,vU<|byteI x3),(9,sl J L O),(10,vI xf)] a/\Below W.z W w/\inI xf) ?_ ?_
   .refine Wc z (λhcr=>?_)<|λhcr=>?_
    .have a5:=ifT a2 hcr;refine Wm z<|R z (add_ z z)<|Rw z<|Wm z<|Rm z<|R z (lnR w_ z hh)<|Rq z z z<|Wx z (λhcs=>?_) (λhcs=>?_)
     .obtain rfl:=som<|ifT a5 hcs;have ai:=elR a4;exact We<|exO z (λ_ q=>b_x (som ai).symm ⟨J,L,O,H,q.k<|s1 z,(cM (cr [w0.z] G) sa (io sr):Cg [w0.z] G W),hc,hd,(or1 he (io sr) (j_ lr):∀k∈H,k∈[w0.z]∨G.z<=k),iA _ _⟩)
     exact Z_<|λ_ q=>⟨h_ V 1,som<|ifF a5 hcs,q.k<|s5 z z z z z,br W,iA _ _⟩
    exact Z_<|λ_ q=>⟨V,som<|ifF a2 hcr,q.k<|s5 z z z z z,br W,ho⟩
   rintro aC a7 ⟨xf,rfl,_,si,_⟩;have ak:=elL a4;revert aC;refine Wo<|Wg<|RM z z<|Rm z ?_
   obtain ⟨aD,aE,al⟩:=bdS ak;refine RX z (at_ (α:=UInt8) w_ z_5 z z z (Y.g<|a6.e si) aE) ?_;rintro _ ⟨_,_,_,rfl,aF,aG,_⟩;obtain rfl:=u8 aG;refine R z (l0 g_5 z<|aF.at0 z)<|E z (fS [(.tmp 53)] a_3 z z z (L_ z) (lb z)<|lb z) ?_
   rintro _ a8 ⟨rfl,ht⟩;have hu:=ht.below;have aY:=a_6 ht a_P;obtain ⟨aH,aI,am⟩:=bdS al;refine E z (a_e (α:=UInt8) a_3 aI z z ((hc.e si).e hu) hd (ht.blk:Blk a8 a7.z [vU (byteI aD)]) a_P an_ v_) ?_;rintro _ aJ ⟨a9,aK,aL,aM,rfl,aN,aO,aP,aQ⟩;refine Rw z<|Wg<|Rm z<|R z (add_ z z)<|Ra z<|Wl ?_
   have aa:∀k∈H,k∈[w0.z]∨G.z<=k:=or1 he (io sr)<|j_ lr;exact λ_ q=>⟨(aH,h_ xf 1),(som am).symm,⟨aK,aL,aM,a9,q.k<|s5 z z z z z,(cM (e_ (e_ (cM (cr [w0.z] G) sa (io sr):Cg [w0.z] G W) si:Cg [w0.z] G a7) hu:Cg [w0.z] G a8) aN aa:Cg [w0.z] G aJ),aO,aP,(or2 aQ aa an_ (j_<|lt_ (lt_ sa.s si.s) hu.s):∀k∈a9,k∈[w0.z]∨G.z<=k),iA _ _⟩⟩
  exact We<|λ_ q=>b_x (som<|ifF hmz hcp).symm ⟨J,L,O,H,q.k<|s1 z,(cM (cr [w0.z] G) sa (io sr):Cg [w0.z] G W),hc,hd,(or1 he (io sr) (j_ lr):∀k∈H,k∈[w0.z]∨G.z<=k),ho⟩
 .rintro ⟨xb,V⟩ aR aS rfl ⟨J,L,O,H,_,ab,hc,hd,he,ho⟩;have an:=elL hmy;revert aR;refine Wo<|Ws<|E z (f0 (α:=UInt8) a_3) ?_
  rintro _ _ ⟨aT,aU,aV,rfl,aW,aX⟩;refine Rm z<|RA z z<|Rw z ?_
  obtain rfl:=som<|a_M an;exact Wr<|E_ hr z z z ⟨bup (bM (bup s8 s6) ab<|b_ lr) aW,aT,aU,aV,[aS.z],z,aX,a0,a_A,m1<|lt_ (lt_ s8.s s6.s) ab.s⟩
 rintro _ _ _ _ rfl ⟨rfl,ao⟩;have ap:=elR hmy;obtain rfl:=som ap;exact ⟨ao,z⟩
def Q23 (w0:World)(B:Zone)(S2_1:List Nat)(S2_2:List Nat)(r:Val×Int×(Option<|Int×Int))(v:Value)(w':World):Prop:=Chg (· ∈ (S2_1++S2_2)) w0 w'/\un3 (λG H W=>∃(I:Option Addr)(J L:Nat)(S1:List Nat)(a2:Option Addr)(O V:Nat)(S2:List Nat)(v3:Value)(S3:List Nat),v = .tuple #[(.agg #[vI G.number,sl I J L,sl a2 O V]),vI H,v3]/\inI G.number/\a_ w' S1 (sl I J L) G.bytes/\a_ w' S2 (sl a2 O V) G.items/\inI H/\b_0 128 w' S3 v3 W/\(∀k∈S3,w0.z<=k)/\(S1++S2).Nodup/\(∀k∈(S1++S2),k∈(S2_1++S2_2)∨w0.z<=k)) r
structure k_R (f:a_I->Int->Int->Option (Val×Int×(Option<|Int×Int))):Prop where
  run:∀{A0 A6:Option Addr}{N0 C0 N6 C6 b1 o1:Nat}{B:Zone}{x1:a_I}{x2:Int}{x3:Int}{res:Val×Int×(Option<|Int×Int)}{w0:World}(hm:f x1 x2 x3=some res)(hBw:B<=w0.z)(p1_0:repS w0 B (sl A0 N0 C0) x1.d.rules)(p1_1:repS w0 B (sl A6 N6 C6) x1.b)(hC1:X_ w0 b1 o1 [sl A0 N0 C0,sl A6 N6 C6])(hC1b:B b1)(p2_0:inI x2)(p3_0:inI x3),r_ prog 87 [(.pointer<|some ⟨b1,o1,none⟩),vI x2,vI x3] w0<|Q21 w0 B res
structure k_S (f:a_I->d_->Int->Option (Val×Int×(Option<|Int×Int))):Prop where
  run:∀{A0 A6 A2 A3 A1 A4:Option Addr}{N0 C0 N6 C6 b1 o1 N2 C2 N3 C3 N1 C1 N4 C4:Nat}{B:Zone}{x1:a_I}{x2:d_}{x3:Int}{res:Val×Int×(Option<|Int×Int)}{w0:World}(hm:f x1 x2 x3=some res)(hBw:B<=w0.z)(p1_0:repS w0 B (sl A0 N0 C0) x1.d.rules)(p1_1:repS w0 B (sl A6 N6 C6) x1.b)(hC1:X_ w0 b1 o1 [sl A0 N0 C0,sl A6 N6 C6])(hC1b:B b1)(p2_0:x2.name.b.length<=LEN)(p2_1:inI x2.kind)(p2_2:inI x2.size)(p2_4:repS w0 B (sl A2 N2 C2) x2.bytes)(p2_5:repS w0 B (sl A3 N3 C3) x2.names)(p2_6:repS w0 B (sl A1 N1 C1) x2.tags)(p2_7:repS w0 B (sl A4 N4 C4) x2.kids)(p3_0:inI x3),r_ prog 102 [(.pointer<|some ⟨b1,o1,none⟩),.agg #[Str.v x2.name,vI x2.kind,vI x2.size,vB x2.little,sl A2 N2 C2,sl A3 N3 C3,sl A1 N1 C1,sl A4 N4 C4],vI x3] w0<|Q21 w0 B res
structure k_T (f:a_I->Val->(List Int)->Int->Option (Val×Int×(Option<|Int×Int))):Prop where
  run:∀{A0 A6 AE AH A7:Option Addr}{N0 C0 N6 C6 b1 o1 NE CE NH CH N7 C7:Nat}{S2_1 S2_2:List Nat}{B:Zone}{x1:a_I}{x2:Val}{x3:List Int}{x4:Int}{res:Val×Int×(Option<|Int×Int)}{w0:World}(hm:f x1 x2 x3 x4=some res)(hBw:B<=w0.z)(p1_0:repS w0 B (sl A0 N0 C0) x1.d.rules)(p1_1:repS w0 B (sl A6 N6 C6) x1.b)(hC1:X_ w0 b1 o1 [sl A0 N0 C0,sl A6 N6 C6])(hC1b:B b1)(p2_0:inI x2.number)(p2_1:a_ w0 S2_1 (sl AE NE CE) x2.bytes)(p2_1n:S2_1.Nodup)(p2_1g:∀k∈S2_1,¬B k)(p2_2:a_ w0 S2_2 (sl AH NH CH) x2.items)(p2_2n:S2_2.Nodup)(p2_2g:∀k∈S2_2,¬B k)(p2_2d1:∀k∈S2_2,k∉S2_1)(p3_0:repS w0 B (sl A7 N7 C7) x3)(p4_0:inI x4),r_ prog 103 [(.pointer<|some ⟨b1,o1,none⟩),.agg #[vI x2.number,sl AE NE CE,sl AH NH CH],sl A7 N7 C7,vI x4] w0<|Q23 w0 B S2_1 S2_2 res
structure k_U (f:a_I->d_->Int->Option (Val×Int×(Option<|Int×Int))):Prop where
  run:∀{A0 A6 A2 A3 A1 A4:Option Addr}{N0 C0 N6 C6 b1 o1 N2 C2 N3 C3 N1 C1 N4 C4:Nat}{B:Zone}{x1:a_I}{x2:d_}{x3:Int}{res:Val×Int×(Option<|Int×Int)}{w0:World}(hm:f x1 x2 x3=some res)(hBw:B<=w0.z)(p1_0:repS w0 B (sl A0 N0 C0) x1.d.rules)(p1_1:repS w0 B (sl A6 N6 C6) x1.b)(hC1:X_ w0 b1 o1 [sl A0 N0 C0,sl A6 N6 C6])(hC1b:B b1)(p2_0:x2.name.b.length<=LEN)(p2_1:inI x2.kind)(p2_2:inI x2.size)(p2_4:repS w0 B (sl A2 N2 C2) x2.bytes)(p2_5:repS w0 B (sl A3 N3 C3) x2.names)(p2_6:repS w0 B (sl A1 N1 C1) x2.tags)(p2_7:repS w0 B (sl A4 N4 C4) x2.kids)(p3_0:inI x3),r_ prog 104 [(.pointer<|some ⟨b1,o1,none⟩),.agg #[Str.v x2.name,vI x2.kind,vI x2.size,vB x2.little,sl A2 N2 C2,sl A3 N3 C3,sl A1 N1 C1,sl A4 N4 C4],vI x3] w0<|Q21 w0 B res
structure k_V (f:a_I->d_->Int->Option (Val×Int×(Option<|Int×Int))):Prop where
  run:∀{A0 A6 A2 A3 A1 A4:Option Addr}{N0 C0 N6 C6 b1 o1 N2 C2 N3 C3 N1 C1 N4 C4:Nat}{B:Zone}{x1:a_I}{x2:d_}{x3:Int}{res:Val×Int×(Option<|Int×Int)}{w0:World}(hm:f x1 x2 x3=some res)(hBw:B<=w0.z)(p1_0:repS w0 B (sl A0 N0 C0) x1.d.rules)(p1_1:repS w0 B (sl A6 N6 C6) x1.b)(hC1:X_ w0 b1 o1 [sl A0 N0 C0,sl A6 N6 C6])(hC1b:B b1)(p2_0:x2.name.b.length<=LEN)(p2_1:inI x2.kind)(p2_2:inI x2.size)(p2_4:repS w0 B (sl A2 N2 C2) x2.bytes)(p2_5:repS w0 B (sl A3 N3 C3) x2.names)(p2_6:repS w0 B (sl A1 N1 C1) x2.tags)(p2_7:repS w0 B (sl A4 N4 C4) x2.kids)(p3_0:inI x3),r_ prog 105 [(.pointer<|some ⟨b1,o1,none⟩),.agg #[Str.v x2.name,vI x2.kind,vI x2.size,vB x2.little,sl A2 N2 C2,sl A3 N3 C3,sl A1 N1 C1,sl A4 N4 C4],vI x3] w0<|Q21 w0 B res
structure k_W (f:a_I->d_->Int->Option (Val×Int×(Option<|Int×Int))):Prop where
  run:∀{A0 A6 A2 A3 A1 A4:Option Addr}{N0 C0 N6 C6 b1 o1 N2 C2 N3 C3 N1 C1 N4 C4:Nat}{B:Zone}{x1:a_I}{x2:d_}{x3:Int}{res:Val×Int×(Option<|Int×Int)}{w0:World}(hm:f x1 x2 x3=some res)(hBw:B<=w0.z)(p1_0:repS w0 B (sl A0 N0 C0) x1.d.rules)(p1_1:repS w0 B (sl A6 N6 C6) x1.b)(hC1:X_ w0 b1 o1 [sl A0 N0 C0,sl A6 N6 C6])(hC1b:B b1)(p2_0:x2.name.b.length<=LEN)(p2_1:inI x2.kind)(p2_2:inI x2.size)(p2_4:repS w0 B (sl A2 N2 C2) x2.bytes)(p2_5:repS w0 B (sl A3 N3 C3) x2.names)(p2_6:repS w0 B (sl A1 N1 C1) x2.tags)(p2_7:repS w0 B (sl A4 N4 C4) x2.kids)(p3_0:inI x3),r_ prog 106 [(.pointer<|some ⟨b1,o1,none⟩),.agg #[Str.v x2.name,vI x2.kind,vI x2.size,vB x2.little,sl A2 N2 C2,sl A3 N3 C3,sl A1 N1 C1,sl A4 N4 C4],vI x3] w0<|Q21 w0 B res
abbrev f_j (n:Nat):Prop:=k_R (a_m n).impl_fileReader_value/\k_S (a_m n).impl_fileReader_array/\k_T (a_m n).impl_fileReader_items/\k_U (a_m n).impl_fileReader_choice/\k_V (a_m n).impl_fileReader_option/\k_W (a_m n).impl_fileReader_checked
end Go.Vw
