
import Derived.Test.YtlagjoejlchiiaaGreatDoorVwUW2
set_option linter.unusedVariables false
namespace Go.Vw
open Go.RowKit Dat Go.Proofs
open Go.Proofs.Tryz
open Go.Vw renaming a_M->Wq,b_j->Wg,WC.of_KC->Wo,a_N->Wl,c_T->Wc,d_Q->Wr,h_c->Wu,i_v->pT,i_w->pF,h_f->fd,c_n->l1,i_R->lN,b_P->mv,d_o->asg,h_6->lnR,f_l->lss,h_k->eql,h_g->ext_,i_y->bP,h_h->add_,h_1->inc_,e_v->not_,h_7->at_,f_c->fc,b_z->fs,f_b->fb,e_l->fa,i_p->sr,i_t->cr,i_u->cM,d_k->bM,i_h->iS,i_g->iA,h_0->br,b_L->oA,i_l->bs,ltge->lg,inor->io,h_l->nq,i_S->lnT,i_T->sb_,i_n->ar_,i_m->al_,i_o->ds,j_z->m1,i_r->nr_,i_q->nl_,h_4->aa_,all_nil->an_,d_R->Wb,h_2->u8,i_c->pD,g_X->We,i_j->Wt,g_Z->fS,f_7->or_,i_O->Wf,i_E->qL,i_b->Wd,i_z->fN,h_5->na_,i_s->nj,f_g->f0,i_x->rX,i_A->tl_,i_B->ic
variable {A0:Option Addr}{N0 C0:Nat}{B:Zone}{w0:World}{AB:Option Addr}{AA:Option Addr}{AC:Option Addr}{AD:Option Addr}{NB CB:Nat}{NA CA:Nat}{NC CC:Nat}{ND CD:Nat}{n:Nat}{A2:Option Addr}{A3:Option Addr}{A1:Option Addr}{A4:Option Addr}{N2 C2:Nat}{N3 C3:Nat}{N1 C1:Nat}{N4 C4:Nat}{A7:Option Addr}{N7 C7:Nat}{A6:Option Addr}{N6 C6:Nat}{A8:Option Addr}{A9:Option Addr}{N8 C8:Nat}{N9 C9:Nat}{A5:Option Addr}{N5 C5:Nat}
theorem T_w1g (ih:e_j n):k_0 (g_t n<|a_0 n):=by
 obtain ⟨_,_,aJ,_,_,_⟩:=ih
 constructor
 intro A0 A5 A2 A3 A1 A4 N0 C0 N5 C5 b1 o1 N2 C2 N3 C3 N1 C1 N4 C4 B x1 x2 x3 res w0 hm O W Y hC1 hC1b bx bz bA bB bC bD a0 V;unfold g_t at hm
 refine goG func95 z z z fun fn hr=>Ws<|E z (fb z) ?_
 rintro _ J ⟨rfl,hw⟩;have h4:=hw.below;have hx:Blk J w0.z (vR x2 A2 N2 C2 A3 N3 C3 A1 N1 C1 A4 N4 C4):=hw.blk;refine E z (fa a_l) ?_;rintro _ aK ⟨rfl,hy⟩;have h6:=hy.below;have h5:Blk aK J.z [vI 0,sl none 0 0,sl none 0 0]:=hy.blk;refine Ra z<|Rw z<|Wm z<|Rf z G_ z ?_
 have hz:=hx.e h6;refine R z (l0 u_ z<|hz.at z) ?_;obtain ⟨_,aL,aw⟩:=bdS hm;have hd:=(h4.ag B).e h6;refine RX z (at_ (α:=Int) o_ z_3 z z z (a0.g hd) aL) ?_;rintro _ ⟨_,_,_,rfl,aM,aN,_⟩;obtain ⟨rfl,aO⟩:=J_ aN;refine R z (l0 g_3 z<|aM.at0 z)<|Rm z ?_
 have a4:=(hC1.e h4).e h6;have he:=lt_ h4.s h6.s;obtain ⟨_,rr,_,aP,hms⟩:=P_ aw;refine E z (fc call92 z<|i_2 aP (zt' O he) (W.g hd) (Y.g hd) a4 hC1b aO V) ?_;rintro _ H ⟨G,aQ,aR,rfl,_,aS,a5,a6⟩;refine Rm z ?_
 iterate 3 refine Re z z z ?_
 refine RA z z<|Rw z<|Wq<|Wm z<|R z (c_W d_d z z a5)<|Wx z (fun hcm=>?_) (fun hcm=>?_)
 ·refine Ws<|R z (bP (parts:=[]) (cs:=[vI 0,sl none 0 0,sl none 0 0]) Y_ z z)<|RM z z<|E0 (fs0 (cur':=[vI 0,sl none 0 0,sl none 0 0]) h_ z z (h5.e G) z z z z) ?_
  rintro _ _ ⟨aT,aU⟩;have a7:=aU.one;refine Ra z<|Rw z ?_
  obtain rfl:=som<|ifT hms hcm;exact Wr<|x_ hr (n_ t_ h_ z aT z) z z ⟨bM (bup (bup h4 h6) G) a7<|m1 h4.s,none,0,0,[],none,0,0,[],aQ,aR,z,ii z,onL,onL,V,a5.c a7<|s_ a6 h5.lt lr,w_ a6 he,nd0,al0⟩
 have a1:=ifF hms hcm;refine Wk<|Wq<|Wm z<|R z (a_3 z z)<|Wx z (fun hco=>?_) (fun hco=>?_)
 ·refine Ws<|R z (bP (parts:=[]) (cs:=[vI 0,sl none 0 0,sl none 0 0]) Y_ z z)<|RM z z ?_
  have a8:=lt_ he G.s;obtain ⟨_,aV,ax⟩:=bdS<|ifT a1 hco;refine E z (fc call101 z<|d_O aV (zt' O a8) V<|ii z) ?_;rintro _ _ ⟨a9,aW,aX,rfl,aY,aa⟩;refine E0 (fs0 (cur':=[vI 0,sl none 0 0,sl none 0 0]) h_ z z ((h5.e G).e a9) z z z z) ?_;rintro _ _ ⟨aZ,b0⟩;have ab:=b0.one;refine Ra z<|Rw z ?_
  obtain rfl:=som ax;exact Wr<|x_ hr (n_ t_ h_ z aZ z) z z ⟨bM (bup (bup (bup h4 h6) G) a9) ab<|m1 h4.s,none,0,0,[],none,0,0,[],aW,aX,z,ii z,onL,onL,V,aY.c ab<|s_ aa h5.lt G.s,w_ aa a8,nd0,al0⟩
 refine Wk<|Wm z ?_
 obtain ⟨b2,b3,ay⟩:=bdS<|ifF a1 hco;refine E z (f_f (α:=Int) j_A (fun _=>d_S<|ii z) b3 z z) ?_;rintro _ I ⟨ac,nf,cg,rfl,s8,hp⟩;refine Rw z<|Wq<|Wm z<|R z (lnR o_ z<|c_.rep hp)<|Rm z<|Wn ?_
 obtain ⟨_,az,a2⟩:=bdS ay;refine Wf (σ:=List Int) (ρ:=Val×Int×(Option<|Int×Int)) (fun (ad:Nat)(L:List Int) a w=>∃(S3:List Nat),Sat 59 [(0,.pointer<|some ⟨b1,o1,none⟩),(4,pt w0.z),(6,pt J.z),(10,vI rr),(12,sl ac nf cg),(39,vI (b2.length:Int)),(40,vI ((ad:Nat):Int))] a/\Chg (· ∈ [H.z]) I w/\c_ w S3 (sl ac nf cg) L/\S3.Nodup/\(∀k∈S3,k∈[H.z]∨I.z<=k)) (fun (L:List Int) a w=>∃(S3:List Nat),Sat 59 [(0,.pointer<|some ⟨b1,o1,none⟩),(6,pt J.z),(10,vI rr),(12,sl ac nf cg)] a/\Chg (· ∈ [H.z]) I w/\c_ w S3 (sl ac nf cg) L/\S3.Nodup/\(∀k∈S3,k∈[H.z]∨I.z<=k)) (rQ prog fn<|Q30 w0 B) az ?_ ?_ ?_ ?_ ?_
 ·exact fun _ q=>⟨[H.z],q.k<|s7 z z z z z z z,cr [H.z] I,hp,b_l,io sr⟩
 ·rintro ad L _ b4 _ a3 ⟨S3,aA,sh,ha,hi,hj⟩ aB;refine Wu ?_ aA;refine Ws<|Rl z z z<|Wn<|Wq<|Wc z (fun _=>?_) (fun hc=>(T_ a3 hc).elim)
  refine Wk<|Wq<|Wb<|Wm z<|Rw z<|Wg<|RM z z<|Rf z G_ z<|R z (l0 u_ z<|(((hz.e G).e s8).c sh<|djs<|mm1 hx.lt<|lt_ h6.s G.s).at z) ?_
  obtain ⟨_,b5,aC⟩:=bdS aB;refine RX z (at_ (α:=Int) o_ z_3 z z z (a0.g<|((hd.e G).e s8).c sh<|e_ (or0 (f_ lr) (q_<|zt' O<|lt_ he G.s):∀k∈[H.z],¬B k)) b5) ?_;rintro _ ⟨_,_,_,rfl,b6,b7,_⟩;obtain ⟨rfl,b8⟩:=J_ b7;refine R z (l0 g_3 z<|b6.at0 z) ?_;obtain ⟨b9,ae,aD⟩:=bdS aC;refine RX z (f_d (α:=Int) o_ z_3 z z ha ae) ?_;rintro _ ⟨_,ba,rfl⟩;refine E0 (f_e (α:=Int) z_3 z ba z z z ae ha hi (d_S b8) an_ a_q) ?_;rintro _ bb ⟨af,bc,be,bf,bg⟩;refine Wn<|Wg<|R z (inc_ a3 (lt_ (c_.len hp) C_) z z)<|Rm z<|Wl ?_
  have ah:∀k∈S3,k∈[H.z]∨I.z<=k:=or1 hj (io sr)<|S_ lr;exact fun _ q=>⟨b9,(som aD).symm,⟨af,q.k<|s7 z z z z z z z,(cM (cM (cr [H.z] I) sh (io sr):Chg (· ∈ [H.z]) I b4) bc ah:Chg (· ∈ [H.z]) I bb),be,bf,(or2 bg ah an_ (S_ sh.s):∀k∈af,k∈[H.z]∨I.z<=k)⟩⟩
 ·rintro L _ bh ⟨S3,aE,bi,ha,hi,hj⟩;refine Wu ?_ aE;refine Ws<|Rl z z z<|Wn<|Wq<|Wc z (fun hc=>(U_ hc).elim) (fun _=>?_)
  exact We<|fun _ q=>⟨rfl,⟨S3,q.k<|s4 z z z z,(cM (cr [H.z] I) bi (io sr):Chg (· ∈ [H.z]) I bh),ha,hi,(or1 hj (io sr) (S_ lr):∀k∈S3,k∈[H.z]∨I.z<=k)⟩⟩
 ·rintro L bj bk rfl ⟨S3,_,sb,ha,hi,hj⟩;have aF:=elL a2;revert bj;refine Wo<|Wm z<|R z (bP (parts:=[]) (cs:=[vI 0,sl none 0 0,sl none 0 0]) Y_ z z)<|RM z z ?_
  have hq:=lt_ he G.s;have ai:∀k∈[H.z],¬B k:=or0 (f_ lr)<|q_<|zt' O hq;have aj:=((hd.e G).e s8).c sb<|e_ ai
  have hk:=lt_ (lt_ hq s8.s) sb.s;have ht:=zt' O hk;obtain ⟨bm,_,_,bn,aG⟩:=P_ aF;refine E z (fc call96 z<|aJ.run (B:=bk.z) (x2:=(⟨0,([]:List UInt8),([]:List Val)⟩:Val)) bn zr (repS.mono (W.g aj) ht) (repS.mono (Y.g aj) ht) (((a4.e G).e s8).c sb<|(e_ ai) _ hC1b) (zap' ht hC1b) (ii z) onL a_q (nbl an_) onL a_q (nbl an_) an_ (c_.rep ha) aS) ?_;rintro _ _ ⟨ak,al,am,an,ao,ap,aq,ar,au,bo,bp,rfl,bq,br,bs,bt,bu,av,hu,hl⟩
  iterate 3 refine Re z z z ?_
  refine E0 (fs0 (cur':=[vI bm.number,sl al am an,sl ap aq ar]) h_ z z ((((h5.e G).e s8).c sb<|djs<|mm1 h5.lt G.s).c ak<|atp<|nmA (nmN _)<|nmN _) z z z z) ?_;rintro _ _ ⟨bv,bw⟩;have hn:=bw.one;refine Ra z<|Rw z ?_
  obtain rfl:=som aG;have hv:=lt_ (lt_ G.s s8.s) sb.s;exact Wr<|x_ hr (n_ t_ h_ z bv z) z z ⟨bM (bM (bM (bup (bup (bup h4 h6) G) s8) sb<|m1 hq) ak al0) hn<|m1 h4.s,al,am,an,ao,ap,aq,ar,au,bo,bp,z,bq,br.c hn (or1 (al_ hl) al0 (a_V (f_ h5.lt) hv):∀k∈ao,k∉[J.z]),bs.c hn (or1 (ar_ hl) al0 (a_V (f_ h5.lt) hv):∀k∈au,k∉[J.z]),bt,bu.c hn<|s_ av h5.lt hv,w_ av hk,na_ (nl_ hu) (nr_ hu)<|nj hu,aa_ (c_i (al_ hl) al0 hk)<|c_i (ar_ hl) al0 hk⟩
 rintro _ _ _ _ rfl ⟨rfl,aH⟩;have aI:=elR a2;obtain rfl:=som aI;exact ⟨aH,z⟩
theorem T_w1h (ih:e_j n):k_1 (g_u n<|a_0 n):=by
 obtain ⟨aY,_,_,_,_,_⟩:=ih
 constructor
 intro A0 A5 AE AG A7 N0 C0 N5 C5 b1 o1 NE CE NG CG N7 C7 S2_1 S2_2 B x1 x2 x3 x4 res w0 hm ae aL aM hC1 hC1b aN Y p2_1n p2_1g a0 p2_2n p2_2g p2_2d1 a1 aO;unfold g_u at hm
 refine goG func96 z z z fun fn hr=>Ws<|E z (fb z) ?_
 rintro _ wb ⟨rfl,af⟩;have h2:=af.below;have he:Blk wb w0.z [vI x2.number,sl AE NE CE,sl AG NG CG]:=af.blk;refine E z (fa a_l) ?_;rintro _ G ⟨rfl,ah⟩;have W:=ah.below;have hk:Blk G wb.z [vI 0,sl none 0 0,sl none 0 0]:=ah.blk;refine Ra z<|Rw z<|Wq<|Wm z ?_
 have ai:=(h2.ag B).e W;refine R z (lnR o_ z<|a1.g ai)<|Rm z<|Wn ?_
 obtain ⟨_,aP,aa⟩:=bdS hm;refine Wf (σ:=Int×(List Val)) (ρ:=Val×Int×(Option<|Int×Int)) (fun (aj:Nat) s a w=>un2 (fun xc xh=>∃I J L H,Sat 45 [(0,.pointer<|some ⟨b1,o1,none⟩),(3,vI xc),(5,pt w0.z),(8,pt wb.z),(16,sl A7 N7 C7),(17,vI (x3.length:Int)),(18,vI ((aj:Nat):Int))] a/\Chg (· ∈ (S2_2++[w0.z])) G w/\inI xc/\c_ w H (sl I J L) xh/\H.Nodup/\(∀k∈H,k∈S2_2∨G.z<=k)/\Blk w w0.z [vI x2.number,sl AE NE CE,sl I J L]) s) (fun s a w=>un2 (fun xc xh=>∃I J L H,Sat 45 [(3,vI xc),(5,pt w0.z),(8,pt wb.z)] a/\Chg (· ∈ (S2_2++[w0.z])) G w/\inI xc/\c_ w H (sl I J L) xh/\H.Nodup/\(∀k∈H,k∈S2_2∨G.z<=k)/\Blk w w0.z [vI x2.number,sl AE NE CE,sl I J L]) s) (rQ prog fn<|Q31 w0 B S2_1 S2_2) aP ?_ ?_ ?_ ?_ ?_
 ·exact fun _ q=>⟨AG,NG,CG,S2_2,q.k<|s7 z z z z z z z,cr (S2_2++[w0.z]) G,aO,(a0.e h2).e W,p2_2n,io sr,he.e W⟩
 ·rintro aj ⟨xc,xh⟩ _ ak _ ab ⟨I,J,L,H,aQ,s6,hi,hf,hl,hd,hn⟩ aR;refine Wu ?_ aQ;refine Ws<|Rl z z z<|Wn<|Wq<|Wc z (fun _=>?_) (fun hc=>(T_ ab hc).elim)
  refine Wk<|Wq<|Wb<|Ws ?_
  obtain ⟨_,aZ,aS⟩:=bdS<|a_I aR;have al:∀k∈[w0.z],¬B k:=or0 (f_ lr)<|q_ ae;have ht:=ai.c s6<|nmA (e_ p2_2g)<|e_ al
  refine RX z (at_ (α:=Int) o_ z_3 z z z (a1.g ht) aZ) ?_;rintro _ ⟨_,_,_,rfl,b0,b2,_⟩;obtain ⟨rfl,b3⟩:=J_ b2;refine R z (l0 g_3 z<|b0.at0 z)<|Rw z<|Wm z<|RM z z ?_
  have hu:=lt_ (lt_ h2.s W.s) s6.s;obtain ⟨ro,b4,_,b5,ad⟩:=P_ aS;refine E z (fc call65 z<|aY.run b5 (zt' ae hu) (aL.g ht) (aM.g ht) (((hC1.e h2).e W).c s6<|(nmA (e_ p2_2g)<|e_ al) _ hC1b) hC1b b3 hi) ?_;rintro _ wm ⟨sa,ar,ns,cv,am,aw,nx,cy,an,b6,b7,rfl,b8,hp,hq,b9,ao,ap,hz,hj⟩;refine Rm z ?_
  iterate 3 refine Re z z z ?_
  refine E z (fa a_l) ?_;rintro _ a4 ⟨rfl,aq⟩;have O:=aq.below;refine E0 (fs0 (cur':=[vI ro.number,sl ar ns cv,sl aw nx cy]) h_ z z (aq.blk:Blk a4 wm.z [vI 0,sl none 0 0,sl none 0 0]) z z z z) ?_;rintro _ a5 ⟨ba,bb⟩;have V:=bb.one;refine Ra z<|Rw z<|Wq<|Wm z ?_
  have au:=(ao.e O).c V<|ds<|mnr<|a_n.lt ao
  refine R z (c_W d_d z z au)<|Wx z (fun a2=>?_) (fun a2=>?_)
  ·refine Ws<|R z (bP (parts:=[]) (cs:=[vI 0,sl none 0 0,sl none 0 0]) Y_ z z)<|RM z z ?_
   refine E0 (fs0 (cur':=[vI 0,sl none 0 0,sl none 0 0]) h_ z z ((((hk.c s6<|atp<|nmA (mno (c_.lt a0) h2.s)<|mmr he.lt).e sa).e O).c V<|djs<|mm1 hk.lt<|lt_ s6.s sa.s) z z z z) ?_;rintro _ bc ⟨be,bf⟩;have av:=bf.one;refine Ra z<|Rw z ?_
   exact Wr<|rtO<|qL (som<|ifT ad a2).symm<|x_ hr (n_ t_ h_ z be z) z z ⟨(cM (cM (g_ (g_ (cM (g_ (g_ (cr (S2_1++S2_2) w0) h2:Chg (· ∈ (S2_1++S2_2)) w0 wb) W:Chg (· ∈ (S2_1++S2_2)) w0 G) s6 (aa_ (io<|b_N sr) (mor lr:∀k∈[w0.z],k∈(S2_1++S2_2)∨w0.z<=k)):Chg (· ∈ (S2_1++S2_2)) w0 ak) sa:Chg (· ∈ (S2_1++S2_2)) w0 wm) O:Chg (· ∈ (S2_1++S2_2)) w0 a4) V (mor (lt_ hu sa.s):∀k∈[wm.z],k∈(S2_1++S2_2)∨w0.z<=k):Chg (· ∈ (S2_1++S2_2)) w0 a5) av (mor h2.s:∀k∈[wb.z],k∈(S2_1++S2_2)∨w0.z<=k):Chg (· ∈ (S2_1++S2_2)) w0 bc),none,0,0,[],none,0,0,[],b6,b7,z,ii z,onL,onL,hi,au.c av<|s_ ap hk.lt s6.s,w_ ap hu,nd0,al0⟩
  refine Wk<|Ws<|Rf z a_s z ?_
  have a6:=lt_ W.s s6.s;have ax:=lt_ a6 sa.s;have ay:=((hn.e sa).e O).c V<|djs<|mm1 he.lt ax
  refine R z (l0 a_y z<|ay.at z)<|R z (lN (vs:=[vI ro.number,sl ar ns cv,sl aw nx cy]) t_ h_ z z fid<|ba.row 0 3 z)<|E z (fS [(.tmp 37)] h_R z z z (b_X z) (lb z)<|lb z) ?_
  rintro _ az ⟨rfl,aA⟩;have hg:=aA.below;have bw:=(hp.e O).c V<|ds<|mnr<|c_.lt hp
  have bx:=(hq.e O).c V<|ds<|mnr<|c_.lt hq
  obtain ⟨bg,bh,aT⟩:=bdS<|ifF ad a2;refine E z (c_E (α:=Val) h_R bh z z ((((hf.e sa).e O).c V<|ds<|mno (c_.lt hf) sa.s).e hg) hl (aA.blk:Blk az a5.z [vI ro.number,sl ar ns cv,sl aw nx cy]) (m_q (x:=ro) (S1:=am) (S2:=an) b8 (((hp.e O).c V<|ds<|mnr<|c_.lt hp).e hg)<|((hq.e O).c V<|ds<|mnr<|c_.lt hq).e hg) (aa_ (b_T (al_ hj) (c_.lt hf) lr)<|b_T (ar_ hj) (c_.lt hf) lr)<|na_ (nl_ hz) (nr_ hz)<|nj hz) ?_;rintro _ bi ⟨a7,aB,aC,aD,rfl,aE,bj,bk,aF⟩;refine Rf z a_s z ?_;have aG:∀k∈H,k∉[w0.z]:=or1 hd (ds<|mnr<|c_.lt a0)<|a_V (f_ he.lt) W.s;refine E0 (fs0 (cur':=[vI x2.number,sl AE NE CE,sl aB aC aD]) z_41 z z ((ay.e hg).c aE<|djs aG) z z z z) ?_;rintro _ bm ⟨bn,bo⟩;have aH:=bo.one;refine Wn<|Wg<|Rm z<|Rw z<|Wg<|R z (inc_ ab (lt_ (repS.len a1) C_) z z)<|Rm z<|Wl ?_
  have aI:=lt_ s6.s sa.s;exact fun _ q=>⟨(b4,bg),(som aT).symm,⟨aB,aC,aD,a7,q.k<|s7 z z z z z z z,(cM (cM (g_ (cM (g_ (g_ (cM (cr (S2_2++[w0.z]) G) s6 (aa_ (io<|c_8 sr)<|io<|b_N sr):Chg (· ∈ (S2_2++[w0.z])) G ak) sa:Chg (· ∈ (S2_2++[w0.z])) G wm) O:Chg (· ∈ (S2_2++[w0.z])) G a4) V (mor aI:∀k∈[wm.z],k∈(S2_2++[w0.z])∨G.z<=k):Chg (· ∈ (S2_2++[w0.z])) G a5) hg:Chg (· ∈ (S2_2++[w0.z])) G az) aE (or1 hd (io<|c_8 sr) (S_ lr):∀k∈H,k∈(S2_2++[w0.z])∨G.z<=k):Chg (· ∈ (S2_2++[w0.z])) G bi) aH (io<|b_N sr):Chg (· ∈ (S2_2++[w0.z])) G bm),b9,bj.c aH (or2 aF aG (aa_ (s_ (al_ hj) he.lt a6)<|s_ (ar_ hj) he.lt a6) (a_V (f_ he.lt)<|lt_ (lt_ (lt_ ax O.s) V.s) hg.s):∀k∈a7,k∉[w0.z]),bk,(or2 aF (or1 hd (io sr) (S_ lr):∀k∈H,k∈S2_2∨G.z<=k) (aa_ (or0 (al_ hj) (S_ s6.s):∀k∈am,k∈S2_2∨G.z<=k) (or0 (ar_ hj) (S_ s6.s):∀k∈an,k∈S2_2∨G.z<=k)) (S_<|lt_ (lt_ (lt_ aI O.s) V.s) hg.s):∀k∈a7,k∈S2_2∨G.z<=k),bn⟩⟩
 ·rintro ⟨xc,xh⟩ _ bp ⟨I,J,L,H,aU,bq,hi,hf,hl,hd,hn⟩;refine Wu ?_ aU;refine Ws<|Rl z z z<|Wn<|Wq<|Wc z (fun hc=>(U_ hc).elim) (fun _=>?_)
  exact We<|fun _ q=>⟨rfl,⟨I,J,L,H,q.k<|s3 z z z,(cM (cr (S2_2++[w0.z]) G) bq (aa_ (io<|c_8 sr)<|io<|b_N sr):Chg (· ∈ (S2_2++[w0.z])) G bp),hi,hf,hl,(or1 hd (io sr) (S_ lr):∀k∈H,k∈S2_2∨G.z<=k),hn⟩⟩
 ·rintro ⟨xc,xh⟩ br bs rfl ⟨I,J,L,H,_,a8,hi,hf,hl,hd,hn⟩;have aV:=elL aa;revert br;refine Wo<|Ws<|R z (lN (vs:=[vI x2.number,sl AE NE CE,sl I J L]) t_ h_ z z fid<|hn.row 0 3 z)<|Rm z ?_
  have aJ:=mno (c_.lt a0) h2.s;refine E0 (fs0 (cur':=[vI x2.number,sl AE NE CE,sl I J L]) h_ z z (hk.c a8<|atp<|nmA aJ<|mmr he.lt) z z z z) ?_;rintro _ bt ⟨bu,bv⟩;have a9:=bv.one;refine Ra z<|Rw z ?_
  obtain rfl:=som<|a_I aV;have aK:=lt_ h2.s W.s;exact Wr<|x_ hr (n_ t_ h_ z bu z) z z ⟨(cM (cM (g_ (g_ (cr (S2_1++S2_2) w0) h2:Chg (· ∈ (S2_1++S2_2)) w0 wb) W:Chg (· ∈ (S2_1++S2_2)) w0 G) a8 (aa_ (io<|b_N sr) (mor lr:∀k∈[w0.z],k∈(S2_1++S2_2)∨w0.z<=k)):Chg (· ∈ (S2_1++S2_2)) w0 bs) a9 (mor h2.s:∀k∈[wb.z],k∈(S2_1++S2_2)∨w0.z<=k):Chg (· ∈ (S2_1++S2_2)) w0 bt),AE,NE,CE,S2_1,I,J,L,H,.nilIface,([]:List Nat),z,aN,(((Y.e h2).e W).c a8<|nmA (ds p2_2d1)<|ds<|mnr<|c_.lt Y).c a9<|ds<|mno (c_.lt Y) h2.s,hf.c a9 (or1 hd (ds aJ) (a_V (f_ hk.lt) lr):∀k∈H,k∉[wb.z]),hi,d_m,an_,na_ p2_1n hl<|ds<|o1no hd p2_2d1 (c_.lt Y) aK,aa_ (io<|c_8 sr) (or1 hd (io<|b_N sr) (S_ aK):∀k∈H,k∈(S2_1++S2_2)∨w0.z<=k)⟩
 rintro _ _ _ _ rfl ⟨rfl,aW⟩;have aX:=elR aa;obtain rfl:=som aX;exact ⟨aW,z⟩
theorem T_w1i (ih:e_j n):k_2 (g_v n<|a_0 n):=by
 obtain ⟨_,_,ar,_,_,_⟩:=ih
 constructor
 intro A0 A5 A2 A3 A1 A4 N0 C0 N5 C5 b1 o1 N2 C2 N3 C3 N1 C1 N4 C4 B x1 x2 x3 res w0 hm Y a0 a1 hC1 hC1b b7 b8 b9 ba bb J a2 L;unfold g_v at hm
 refine goG func97 z z z fun fn hr=>Ws<|E z (fb z) ?_
 rintro _ H ⟨rfl,hk⟩;have h1:=hk.below;refine E z (fa a_l) ?_;rintro _ au ⟨rfl,hl⟩;have h4:=hl.below;have h2:Blk au H.z [vI 0,sl none 0 0,sl none 0 0]:=hl.blk;refine Ra z<|Rw z<|Wm z<|Rf z G_ z ?_
 have hn:=(hk.blk:Blk H w0.z (vR x2 A2 N2 C2 A3 N3 C3 A1 N1 C1 A4 N4 C4)).e h4;refine R z (l0 u_ z<|hn.at z) ?_;obtain ⟨_,av,af⟩:=bdS hm;have O:=(h1.ag B).e h4;refine RX z (at_ (α:=Int) o_ z_3 z z z (a2.g O) av) ?_;rintro _ ⟨_,_,_,rfl,aw,ax,_⟩;obtain ⟨rfl,az⟩:=J_ ax;refine R z (l0 g_3 z<|aw.at0 z)<|Rm z ?_
 have ho:=(hC1.e h1).e h4;have V:=lt_ h1.s h4.s;obtain ⟨re,aA,_,aB,hmm⟩:=P_ af;refine E z (fc call92 z<|i_2 aB (zt' Y V) (a0.g O) (a1.g O) ho hC1b az L) ?_;rintro _ I ⟨G,aC,aD,rfl,aE,aF,hp,hq⟩;refine Rm z ?_
 iterate 3 refine Re z z z ?_
 refine RA z z<|Rw z<|Wq<|Wm z<|R z (c_W d_d z z hp)<|Wx z (fun hcf=>?_) (fun hcf=>?_)
 ·refine Ws<|R z (bP (parts:=[]) (cs:=[vI 0,sl none 0 0,sl none 0 0]) Y_ z z)<|RM z z<|E0 (fs0 (cur':=[vI 0,sl none 0 0,sl none 0 0]) h_ z z (h2.e G) z z z z) ?_
  rintro _ _ ⟨aG,aH⟩;have ht:=aH.one;refine Ra z<|Rw z ?_
  obtain rfl:=som<|ifT hmm hcf;exact Wr<|x_ hr (n_ t_ h_ z aG z) z z ⟨bM (bup (bup h1 h4) G) ht<|m1 h1.s,none,0,0,[],none,0,0,[],aC,aD,z,ii z,onL,onL,L,hp.c ht<|s_ hq h2.lt lr,w_ hq V,nd0,al0⟩
 refine Wk<|Wq<|Ws<|Rf z a_L z ?_
 have hu:=hn.e G;refine R z (l0 u_ z<|hu.at z) ?_;have hv:=O.e G;refine R z (lnR o_ z<|J.g hv)<|Rm z<|Wn ?_
 obtain ⟨_,ah,hmr⟩:=bdS<|ifF hmm hcf;refine Wf (σ:=Unit) (ρ:=Val×Int×(Option<|Int×Int)) (fun (ks:Nat)(_:Unit) a w=>Sat 61 [(0,.pointer<|some ⟨b1,o1,none⟩),(2,vI x3),(4,pt w0.z),(6,pt H.z),(9,vI re),(10,vI aA),(31,sl A1 N1 C1),(32,vI (x2.tags.length:Int)),(33,vI ((ks:Nat):Int))] a/\Below I.z I w) (fun (_:Unit) a w=>Sat 61 [(2,vI x3),(6,pt H.z)] a/\Below I.z I w) (rQ prog fn<|Q30 w0 B) ah ?_ ?_ ?_ ?_ ?_
 ·exact fun _ q=>⟨q.k<|s9 z z z z z z z z z,br I⟩
 ·rintro ks _ _ _ _ hkg ⟨ai,s3⟩ aj;refine Wu ?_ ai;refine Ws<|Rl z z z<|Wn<|Wq<|Wc z (fun _=>?_) (fun hc=>(T_ hkg hc).elim)
  refine Wk<|Wq<|Wb<|Wm z ?_
  obtain ⟨_,aI,hmw⟩:=bdS aj;have W:=hv.e s3;refine RX z (at_ (α:=Int) o_ z_3 z z z (J.g W) aI) ?_;rintro _ ⟨_,_,_,rfl,aJ,aK,_⟩;obtain ⟨rfl,_⟩:=J_ aK;refine R z (l0 g_3 z<|aJ.at0 z)<|Ra z<|Rw z<|Wm z<|Rm z<|Rq z z z<|Wx z (fun hch=>?_) (fun hch=>?_)
  ·refine Wm z<|Rm z<|R z (bP (parts:=[(0,.tmp 42)]) (cs:=[vI re,sl none 0 0,sl none 0 0]) Y_ z z)<|Rf z G_ z<|R z (l0 u_ z<|(hu.e s3).at z)<|Rm z<|R z (inc_ hkg (lt_ (repS.len J) C_) z z)<|Rm z<|R z (add_ z z) ?_
   obtain ⟨_,aL,ak⟩:=bdS<|ifT hmw hch;refine RX z (rX o_ z_3 z z (a2.g W) z z aL) ?_;rintro _ ⟨_,_,_,rfl,aM⟩;refine Rm z ?_;have ha:=lt_ (lt_ V G.s) s3.s;obtain ⟨aN,_,_,aO,al⟩:=P_ ak;refine E z (fc call96 z<|ar.run (B:=B) (x2:=(⟨re,([]:List UInt8),([]:List Val)⟩:Val)) aO (zt' Y ha) (a0.g W) (a1.g W) ((ho.e G).e s3) hC1b aE onL a_q an_ onL a_q an_ an_ aM aF) ?_;rintro _ _ ⟨sx,ay,nz,a3,a4,a5,a6,a7,a8,aP,aQ,rfl,aR,aS,aT,aU,aV,a9,hi,hb⟩
   iterate 3 refine Re z z z ?_
   refine E0 (fs0 (cur':=[vI aN.number,sl ay nz a3,sl a5 a6 a7]) h_ z z (((h2.e G).e s3).c sx<|atp<|nmA (nmN _)<|nmN _) z z z z) ?_;rintro _ _ ⟨aW,aX⟩;have hd:=aX.one;refine Ra z<|Rw z ?_
   have hj:=lt_ G.s s3.s;exact Wr<|rtO<|qL (som al).symm<|x_ hr (n_ t_ h_ z aW z) z z ⟨bM (bM (bup (bup (bup h1 h4) G) s3) sx al0) hd<|m1 h1.s,ay,nz,a3,a4,a5,a6,a7,a8,aP,aQ,z,aR,aS.c hd (or1 (al_ hb) al0 (a_V (f_ h2.lt) hj):∀k∈a4,k∉[H.z]),aT.c hd (or1 (ar_ hb) al0 (a_V (f_ h2.lt) hj):∀k∈a8,k∉[H.z]),aU,aV.c hd<|s_ a9 h2.lt hj,w_ a9 ha,na_ (nl_ hi) (nr_ hi)<|nj hi,aa_ (c_i (al_ hb) al0 ha)<|c_i (ar_ hb) al0 ha⟩
  exact Wk<|Wg<|R z (inc_ hkg (lt_ (repS.len J) C_) z z)<|Rm z<|Wl (fun _ q=>⟨(),(som<|ifF hmw hch).symm,⟨q.k<|s9 z z z z z z z z z,s3⟩⟩)
 ·rintro _ _ _ ⟨am,aY⟩;refine Wu ?_ am;refine Ws<|Rl z z z<|Wn<|Wq<|Wc z (fun hc=>(U_ hc).elim) (fun _=>?_)
  exact We<|fun _ q=>⟨rfl,⟨q.k<|s2 z z,aY⟩⟩
 ·rintro _ aZ _ rfl ⟨_,sc⟩;have an:=elL hmr;revert aZ;refine Wo<|Ws<|R z (bP (parts:=[]) (cs:=[vI 0,sl none 0 0,sl none 0 0]) Y_ z z)<|RM z z ?_
  have aa:=lt_ (lt_ V G.s) sc.s;obtain ⟨_,b0,ao⟩:=bdS an;refine E z (fc call101 z<|d_O b0 (zt' Y aa) L<|ii z) ?_;rintro _ _ ⟨ab,b2,b3,rfl,b4,ad⟩;refine E0 (fs0 (cur':=[vI 0,sl none 0 0,sl none 0 0]) h_ z z (((h2.e G).e sc).e ab) z z z z) ?_;rintro _ _ ⟨b5,b6⟩;have ae:=b6.one;refine Ra z<|Rw z ?_
  obtain rfl:=som ao;exact Wr<|x_ hr (n_ t_ h_ z b5 z) z z ⟨bM (bup (bup (bup (bup h1 h4) G) sc) ab) ae<|m1 h1.s,none,0,0,[],none,0,0,[],b2,b3,z,ii z,onL,onL,L,b4.c ae<|s_ ad h2.lt<|lt_ G.s sc.s,w_ ad aa,nd0,al0⟩
 rintro _ _ _ _ rfl ⟨rfl,ap⟩;have aq:=elR hmr;obtain rfl:=som aq;exact ⟨ap,z⟩
theorem T_w1j (ih:e_j n):k_3 (g_w n<|a_0 n):=by
 obtain ⟨_,_,a6,_,_,_⟩:=ih
 constructor
 intro A0 A5 A2 A3 A1 A4 N0 C0 N5 C5 b1 o1 N2 C2 N3 C3 N1 C1 N4 C4 B x1 x2 x3 res w0 hm O W Y hC1 hC1b aI aJ aK aL aM aN a3 H;unfold g_w at hm
 refine goG func98 z z z fun fn hr=>Ws<|E z (fb z) ?_
 rintro _ I ⟨rfl,hf⟩;have h1:=hf.below;refine E z (fa a_l) ?_;rintro _ a7 ⟨rfl,hg⟩;have h3:=hg.below;have h2:Blk a7 I.z [vI 0,sl none 0 0,sl none 0 0]:=hg.blk;refine Ra z<|Rw z<|Wm z<|Rm z ?_
 have hh:=(hC1.e h1).e h3;have V:=(h1.ag B).e h3;have h5:=lt_ h1.s h3.s;obtain ⟨_,_,a8,hmi⟩:=a_m hm;refine E z (fc call124 z<|i_1 a8 (zt' O h5) (W.g V) (Y.g V) hh hC1b H<|ii z) ?_;rintro _ _ ⟨G,_,_,_,a9,aa,rfl,hj,hk,hl⟩;refine Rm z<|Re z z z<|Re z z z<|Ra z<|Rw z<|Wq<|Wb<|Wm z<|R z (c_W d_d z z hk)<|Rw z<|Wc z (fun hca=>?_) (fun hca=>?_)
 ·refine Ws<|R z (bP (parts:=[]) (cs:=[vI 0,sl none 0 0,sl none 0 0]) Y_ z z)<|RM z z<|E0 (fs0 (cur':=[vI 0,sl none 0 0,sl none 0 0]) h_ z z (h2.e G) z z z z) ?_
  rintro _ _ ⟨ab,ad⟩;have hn:=ad.one;refine Ra z<|Rw z ?_
  obtain rfl:=som<|ifT hmi hca;exact Wr<|rtO<|x_ hr (n_ t_ h_ z ab z) z z ⟨bM (bup (bup h1 h3) G) hn<|m1 h1.s,none,0,0,[],none,0,0,[],a9,aa,z,ii z,onL,onL,H,hk.c hn<|s_ hl h2.lt lr,w_ hl h5,nd0,al0⟩
 refine Wm z ?_
 obtain ⟨_,ae,hmm⟩:=bdS<|ifF hmi hca;refine RX z (at_ (α:=UInt8) k_ z_5 z z z hj ae) ?_;rintro _ ⟨_,_,_,rfl,af,ah,_⟩;obtain rfl:=u8 ah;refine R z (l0 g_5 z<|af.at0 z)<|R z (a_3 z z)<|Rw z<|Wc z (fun hcb=>?_) (fun hcb=>?_)
 ·refine Ws<|R z (bP (parts:=[]) (cs:=[vI 0,sl none 0 0,sl none 0 0]) Y_ z z)<|RM z z ?_
  have ho:=lt_ h5 G.s;obtain ⟨_,ai,a4⟩:=bdS<|ifT hmm hcb;refine E z (fc call101 z<|d_O ai (zt' O ho) H<|ii z) ?_;rintro _ _ ⟨sp,aj,ak,rfl,al,hq⟩;refine E0 (fs0 (cur':=[vI 0,sl none 0 0,sl none 0 0]) h_ z z ((h2.e G).e sp) z z z z) ?_;rintro _ _ ⟨am,an⟩;have ht:=an.one;refine Ra z<|Rw z ?_
  obtain rfl:=som a4;exact Wr<|rtO<|x_ hr (n_ t_ h_ z am z) z z ⟨bM (bup (bup (bup h1 h3) G) sp) ht<|m1 h1.s,none,0,0,[],none,0,0,[],aj,ak,z,ii z,onL,onL,H,al.c ht<|s_ hq h2.lt G.s,w_ hq ho,nd0,al0⟩
 refine Wm z ?_
 obtain ⟨_,ao,hmr⟩:=bdS<|ifF hmm hcb;refine RX z (at_ (α:=UInt8) k_ z_5 z z z hj ao) ?_;rintro _ ⟨_,_,_,rfl,ap,aq,_⟩;obtain rfl:=u8 aq;refine R z (l0 g_5 z<|ap.at0 z)<|Rq z z z<|Rw z<|Wc z (fun hcc=>?_) (fun hcc=>?_)
 ·refine Ws<|R z (bP (parts:=[]) (cs:=[vI 0,sl none 0 0,sl none 0 0]) Y_ z z)<|Rm z<|R z (add_ z z)<|E0 (fs0 (cur':=[vI 0,sl none 0 0,sl none 0 0]) h_ z z (h2.e G) z z z z) ?_
  rintro _ _ ⟨ar,av⟩;refine Ra z<|Rw z ?_
  obtain rfl:=som<|ifT hmr hcc;exact Wr<|rtO<|x_ hr (n_ t_ h_ z ar z) z z ⟨bM (bup (bup h1 h3) G) av.one<|m1 h1.s,none,0,0,[],none,0,0,[],.nilIface,([]:List Nat),z,ii z,onL,onL,iA _ _,d_m,an_,nd0,al0⟩
 refine Wk<|Wm z<|R z (bP (parts:=[]) (cs:=[vI 0,sl none 0 0,sl none 0 0]) Y_ z z)<|Rf z G_ z<|R z (l0 u_ z<|(((hf.blk:Blk I w0.z (vR x2 A2 N2 C2 A3 N3 C3 A1 N1 C1 A4 N4 C4)).e h3).e G).at z)<|Rm z<|R z (add_ z z) ?_
 have hd:=V.e G;have h6:=lt_ h5 G.s;obtain ⟨aw,_,_,ax,a5⟩:=P_<|ifF hmr hcc;refine E z (fc call96 z<|a6.run (B:=B) (x2:=(⟨0,([]:List UInt8),([]:List Val)⟩:Val)) ax (zt' O h6) (W.g hd) (Y.g hd) (hh.e G) hC1b (ii z) onL a_q an_ onL a_q an_ an_ (a3.g hd)<|iA _ _) ?_;rintro _ _ ⟨ss,au,nv,cw,Sx,ay,nz,a0,a1,az,aA,rfl,aB,aC,aD,aE,aF,a2,he,J⟩
 iterate 3 refine Re z z z ?_
 refine E0 (fs0 (cur':=[vI aw.number,sl au nv cw,sl ay nz a0]) h_ z z ((h2.e G).c ss<|atp<|nmA (nmN _)<|nmN _) z z z z) ?_;rintro _ _ ⟨aG,aH⟩;have L:=aH.one;refine Ra z<|Rw z ?_
 obtain rfl:=som a5;exact Wr<|x_ hr (n_ t_ h_ z aG z) z z ⟨bM (bM (bup (bup h1 h3) G) ss al0) L<|m1 h1.s,au,nv,cw,Sx,ay,nz,a0,a1,az,aA,z,aB,aC.c L (or1 (al_ J) al0 (a_V (f_ h2.lt) G.s):∀k∈Sx,k∉[I.z]),aD.c L (or1 (ar_ J) al0 (a_V (f_ h2.lt) G.s):∀k∈a1,k∉[I.z]),aE,aF.c L<|s_ a2 h2.lt G.s,w_ a2 h6,na_ (nl_ he) (nr_ he)<|nj he,aa_ (c_i (al_ J) al0 h6)<|c_i (ar_ J) al0 h6⟩
theorem T_w1k (ih:e_j n):k_4 (g_x n<|a_0 n):=by
 obtain ⟨_,_,ap,_,_,_⟩:=ih
 constructor
 intro A0 A5 A2 A3 A1 A4 N0 C0 N5 C5 b1 o1 N2 C2 N3 C3 N1 C1 N4 C4 B x1 x2 x3 res w0 hm J V O hC1 hC1b aW aX aY aZ b0 b2 al L;unfold g_x at hm
 refine goG func99 z z z fun fn hr=>Ws<|E z (fb z) ?_
 rintro _ wb ⟨rfl,hu⟩;have h6:=hu.below;refine E z (fa a_l) ?_;rintro _ aq ⟨rfl,hv⟩;have H:=hv.below;have h3:Blk aq wb.z [vI 0,sl none 0 0,sl none 0 0]:=hv.blk;refine Ra z<|Rw z<|Wm z<|R z (bP (parts:=[]) (cs:=[vI 0,sl none 0 0,sl none 0 0]) Y_ z z)<|Rf z G_ z<|R z (l0 u_ z<|((hu.blk:Blk wb w0.z (vR x2 A2 N2 C2 A3 N3 C3 A1 N1 C1 A4 N4 C4)).e H).at z)<|Rm z ?_
 have hw:=(hC1.e h6).e H;have hc:=(h6.ag B).e H;have I:=lt_ h6.s H.s;obtain ⟨rk,_,_,ar,hmr⟩:=P_ hm;refine E z (fc call96 z<|ap.run (B:=B) (x2:=(⟨0,([]:List UInt8),([]:List Val)⟩:Val)) ar (zt' J I) (V.g hc) (O.g hc) hw hC1b (ii z) onL a_q an_ onL a_q an_ an_ (al.g hc) L) ?_;rintro _ ws ⟨G,ad,ne,cf,Sx,ah,ng,ci,Sy,au,av,rfl,aw,hz,a0,a1,a2,a3,hl,hj⟩;refine Rm z ?_
 iterate 3 refine Re z z z ?_
 refine E z (fa a_l) ?_;rintro _ ax ⟨rfl,a4⟩;have h1:=a4.below;refine E0 (fs0 (cur':=[vI rk.number,sl ad ne cf,sl ah ng ci]) h_ z z (a4.blk:Blk ax ws.z [vI 0,sl none 0 0,sl none 0 0]) z z z z) ?_;rintro _ _ ⟨ay,az⟩;have h2:=az.one;refine Ra z<|Rw z<|Wq<|Wm z ?_
 have a5:=(a2.e h1).c h2<|ds<|mnr<|a_n.lt a2
 refine R z (c_W d_d z z a5)<|Wx z (fun hcm=>?_) (fun hcm=>?_)
 ·refine Ws<|R z (bP (parts:=[]) (cs:=[vI 0,sl none 0 0,sl none 0 0]) Y_ z z)<|RM z z<|E0 (fs0 (cur':=[vI 0,sl none 0 0,sl none 0 0]) h_ z z (((h3.c G<|atp<|nmA (nmN _)<|nmN _).e h1).c h2<|djs<|mm1 h3.lt G.s) z z z z) ?_
  rintro _ _ ⟨aA,aB⟩;have a6:=aB.one;refine Ra z<|Rw z ?_
  obtain rfl:=som<|ifT hmr hcm;exact Wr<|x_ hr (n_ t_ h_ z aA z) z z ⟨bM (bM (bup (bM (bup h6 H) G al0) h1) h2<|m1<|lt_ I G.s) a6<|m1 h6.s,none,0,0,[],none,0,0,[],au,av,z,ii z,onL,onL,L,a5.c a6<|s_ a3 h3.lt lr,w_ a3 I,nd0,al0⟩
 refine Wk<|Wm z<|Rm z ?_
 have ha:=lt_ I G.s;have a7:∀k∈[ws.z],¬B k:=or0 (f_ lr)<|q_<|zt' J ha;have a8:=((hw.c G<|(nmA (e_ an_)<|e_ an_) _ hC1b).e h1).c h2<|(e_ a7) _ hC1b
 have hn:=((hc.c G<|nmA (e_ an_)<|e_ an_).e h1).c h2<|e_ a7
 have ho:=lt_ (lt_ ha h1.s) h2.s;obtain ⟨_,_,aC,W⟩:=a_m<|ifF hmr hcm;refine E z (fc call124 z<|i_1 aC (zt' J ho) (V.g hn) (O.g hn) a8 hC1b a1<|ii z) ?_;rintro _ _ ⟨s4,_,_,_,aD,aE,rfl,aF,a9,aa⟩;refine Rm z<|Re z z z<|Re z z z<|Ra z<|Rw z<|Wq<|Wm z<|R z (c_W d_d z z a9)<|Wx z (fun hcp=>?_) (fun hcp=>?_)
 ·refine Ws<|R z (bP (parts:=[]) (cs:=[vI 0,sl none 0 0,sl none 0 0]) Y_ z z)<|RM z z<|E0 (fs0 (cur':=[vI 0,sl none 0 0,sl none 0 0]) h_ z z ((((h3.c G<|atp<|nmA (nmN _)<|nmN _).e h1).c h2<|djs<|mm1 h3.lt G.s).e s4) z z z z) ?_
  rintro _ _ ⟨aG,aH⟩;have ab:=aH.one;refine Ra z<|Rw z ?_
  obtain rfl:=som<|ifT W hcp;exact Wr<|x_ hr (n_ t_ h_ z aG z) z z ⟨bM (bup (bM (bup (bM (bup h6 H) G al0) h1) h2<|m1 ha) s4) ab<|m1 h6.s,none,0,0,[],none,0,0,[],aD,aE,z,ii z,onL,onL,L,a9.c ab<|s_ aa h3.lt<|lt_ (lt_ G.s h1.s) h2.s,w_ aa ho,nd0,al0⟩
 refine Wk<|Wq<|Wq (Wd (X:=noX) 0 (pl_ 13 [11]) mo (by kernel_rfl) fun b3 s5 _=>dM z z z ?_)
 obtain ⟨_,aI,am⟩:=bdS<|ifF W hcp;refine dRX z z (at_ (α:=UInt8) k_ z_5 z z z (aF.e s5) aI) ?_;rintro _ ⟨_,_,_,rfl,aJ,aK,_⟩;obtain rfl:=u8 aK;refine dR z z (l0 g_5 z<|aJ.at0 z)<|dR z z (b_J d_5 d_3 z)<|dM z z z<|dR z z (A_ z)<|dR z z (fd f_3 z)<|dR z z (l0 O_ z<|((a8.e s4).e s5).at (j:=1) z)<|dM z z z<|dM z z z ?_
 obtain ⟨_,aL,an⟩:=bdS am;refine dRX z z (rX k_ z_5 z z (O.g<|(hn.e s4).e s5) z z aL) ?_;rintro _ ⟨_,_,_,rfl,aM⟩;have ae:=lt_ (lt_ ho s4.s) s5.s;obtain ⟨_,aN,Y⟩:=bdS an;refine dE z z (fc call126 z<|W_w18 aN (zt' J ae) aM) (.inr fun _ _ h=>H_<|h.1) ?_;rintro _ _ ⟨s7,rfl,_⟩;refine dR z z (nq z z)<|pD<|Wo<|Wc z (fun hcq=>?_) (fun hcq=>?_)
 ·refine Ws<|R z (bP (parts:=[]) (cs:=[vI 0,sl none 0 0,sl none 0 0]) Y_ z z)<|RM z z ?_
  have af:=lt_ ae s7.s;obtain ⟨_,aO,ao⟩:=bdS<|ifT Y hcq;refine E z (fc call101 z<|d_O aO (zt' J af) a1<|ii z) ?_;rintro _ _ ⟨ai,aP,aQ,rfl,aR,aj⟩;refine E0 (fs0 (cur':=[vI 0,sl none 0 0,sl none 0 0]) h_ z z (((((((h3.c G<|atp<|nmA (nmN _)<|nmN _).e h1).c h2<|djs<|mm1 h3.lt G.s).e s4).e s5).e s7).e ai) z z z z) ?_;rintro _ _ ⟨aS,aT⟩;have ak:=aT.one;refine Ra z<|Rw z ?_
  obtain rfl:=som ao;exact Wr<|x_ hr (n_ t_ h_ z aS z) z z ⟨bM (bup (bup (bup (bup (bM (bup (bM (bup h6 H) G al0) h1) h2<|m1 ha) s4) s5) s7) ai) ak<|m1 h6.s,none,0,0,[],none,0,0,[],aP,aQ,z,ii z,onL,onL,L,aR.c ak<|s_ aj h3.lt<|lt_ (lt_ (lt_ (lt_ (lt_ G.s h1.s) h2.s) s4.s) s5.s) s7.s,w_ aj af,nd0,al0⟩
 refine Wk<|Ws<|R z (lN (vs:=[vI rk.number,sl ad ne cf,sl ah ng ci]) t_ h_ z z fid<|(((ay.e s4).e s5).e s7).row 0 3 z)<|Rm z<|R z (add_ z z)<|E0 (fs0 (cur':=[vI rk.number,sl ad ne cf,sl ah ng ci]) h_ z z ((((((h3.c G<|atp<|nmA (nmN _)<|nmN _).e h1).c h2<|djs<|mm1 h3.lt G.s).e s4).e s5).e s7) z z z z) ?_
 rintro _ _ ⟨aU,aV⟩;have ht:=aV.one;refine Ra z<|Rw z ?_
 obtain rfl:=som<|ifF Y hcq;exact Wr<|x_ hr (n_ t_ h_ z aU z) z z ⟨bM (bup (bup (bup (bM (bup (bM (bup h6 H) G al0) h1) h2<|m1 ha) s4) s5) s7) ht<|m1 h6.s,ad,ne,cf,Sx,ah,ng,ci,Sy,.nilIface,([]:List Nat),z,aw,(((((hz.e h1).c h2<|ds<|mnr<|c_.lt hz).e s4).e s5).e s7).c ht (or1 (al_ hj) al0 (a_V (f_ h3.lt) lr):∀k∈Sx,k∉[wb.z]),(((((a0.e h1).c h2<|ds<|mnr<|c_.lt a0).e s4).e s5).e s7).c ht (or1 (ar_ hj) al0 (a_V (f_ h3.lt) lr):∀k∈Sy,k∉[wb.z]),iA _ _,d_m,an_,na_ (nl_ hl) (nr_ hl)<|nj hl,aa_ (c_i (al_ hj) al0 I)<|c_i (ar_ hj) al0 I⟩
theorem c_k:∀n,e_j n
  | 0=>⟨⟨fun hm=>by intros;exact nomatch (show none=some _ from hm)⟩,⟨fun hm=>by intros;exact nomatch (show none=some _ from hm)⟩,⟨fun hm=>by intros;exact nomatch (show none=some _ from hm)⟩,⟨fun hm=>by intros;exact nomatch (show none=some _ from hm)⟩,⟨fun hm=>by intros;exact nomatch (show none=some _ from hm)⟩,⟨fun hm=>by intros;exact nomatch (show none=some _ from hm)⟩⟩
  | n+1=>⟨T_w02<|c_k n,T_w1g<|c_k n,T_w1h<|c_k n,T_w1i<|c_k n,T_w1j<|c_k n,T_w1k<|c_k n⟩
theorem W_w02:j_Z (a_0 n).impl_fileReader_value:=(c_k n).1
theorem W_w1g:k_0 (a_0 n).impl_fileReader_array:=(c_k n).2.1
theorem W_w1h:k_1 (a_0 n).impl_fileReader_items:=(c_k n).2.2.1
theorem W_w1i:k_2 (a_0 n).impl_fileReader_choice:=(c_k n).2.2.2.1
theorem W_w1j:k_3 (a_0 n).impl_fileReader_option:=(c_k n).2.2.2.2.1
theorem W_w1k:k_4 (a_0 n).impl_fileReader_checked:=(c_k n).2.2.2.2.2
theorem W_w38 {x1:d_}{x2:Int}{x3:List UInt8}{x4:Int}{res:Val×Int×Int}(hm:g_y n x1 x2 x3 x4=some res)(O:B<=w0.z)(hG:Gl w0 B)(V:repS w0 B (sl A0 N0 C0) x1.rules)(W:inI x2)(Y:repS w0 B (sl A7 N7 C7) x3)(aB:inI x4):i_ prog 29 [(.agg #[sl A0 N0 C0]),vI x2,sl A7 N7 C7,vI x4] w0 (Q13 w0 B res):=by
 unfold g_y at hm
 refine goG func29 z z z fun fn hr=>Ws<|E z (fb z) ?_
 rintro _ wc ⟨rfl,a5⟩;have h1:=a5.below;have a6:Blk wc w0.z [sl A0 N0 C0]:=a5.blk;refine E z (fa a_l) ?_;rintro _ wp ⟨rfl,a7⟩;have h4:=a7.below;have h5:Blk wp wc.z [vI 0,sl none 0 0,sl none 0 0]:=a7.blk;refine Ra z<|Rw z<|Wq<|Wq ?_
 obtain ⟨aE,aC,a0⟩:=bdS hm;refine Wt (fun a w=>∃(xq:Bool),xq=aE/\Sat 62 [(1,vI x2),(2,sl A7 N7 C7),(3,vI x4),(4,pt w0.z),(8,pt wc.z),(34,vB xq)] a/\Below wp.z wp w) ?_ ?_
 ·refine Wg<|R z (lN (vs:=[sl A0 N0 C0]) B_ z_ z z fid<|(a6.e h4).row 0 1 z)<|Rm z ?_
  have a8:=(h1.ag B).e h4;obtain ⟨aF,aG,a1⟩:=bdS aC;refine E z (fc call64 z<|j_S aG (zt' O<|lt_ h1.s h4.s) (V.g a8) W) ?_;rintro _ _ ⟨sd,rfl⟩;refine R z (not_ z)<|Rm z ?_
  rcases bs (!aF) with J | J
  ·exact Nh z J<|Nh z J<|R z (pT z J z)<|Rm z<|Nh z z<|Nh z z<|Nh z z<|Nh z z<|R z (pT z z z)<|Rm z<|Nh z z<|Nh z z<|Nh z z<|R z (pT z z z)<|Wl (fun _ q=>⟨true,som<|ifT a1 J,q.k<|s6 z z z z z z,sd⟩)
  have a2:=ifF a1 J;refine Rh z J (mv z)<|Rh z J (lss z z)<|R z (pF z J z)<|Rm z ?_
  rcases bs (decide<|x4<0) with H | H
  ·iterate 4 refine Nh z H ?_
   exact R z (pT z H z)<|Rm z<|Nh z z<|Nh z z<|Nh z z<|R z (pT z z z)<|Wl (fun _ q=>⟨true,som<|ifT a2 H,q.k<|s6 z z z z z z,sd⟩)
  have a3:=ifF a2 H;refine Rh z H (mv z)<|Rh z H (mv z) ?_
  have a9:=Y.g<|a8.e sd
  refine Rh z H (lnR k_ z a9)<|Rh z H (a_3 z z)<|R z (pF z H z)<|Rm z ?_
  rcases bs (decide<|(x3.length:Int)<x4) with L | L
  ·iterate 3 refine Nh z L ?_
   exact R z (pT z L z)<|Wl (fun _ q=>⟨true,som<|ifT a3 L,q.k<|s6 z z z z z z,sd⟩)
  exact Rh z L (mv z)<|Rh z L (lnR k_ z a9)<|Rh z L (a_3 z z)<|R z (pF z L z)<|Wl (fun _ q=>⟨decide<|400<(x3.length:Int),som<|ifF a3 L,q.k<|s6 z z z z z z,sd⟩)
 rintro aH aI ⟨xq,rfl,_,G⟩;revert aH;refine Wo<|Wc z (fun hcr=>?_) (fun hcr=>?_)
 ·refine Ws<|R z (bP (parts:=[]) (cs:=[vI 0,sl none 0 0,sl none 0 0]) Y_ z z)<|E0 (fs0 (cur':=[vI 0,sl none 0 0,sl none 0 0]) h_ z z (h5.e G) z z z z) ?_
  rintro _ _ ⟨aJ,aK⟩;refine Ra z<|Rw z ?_
  obtain rfl:=som<|ifT a0 hcr;exact Wr<|x_ hr (n_ t_ h_ z aJ z) z z ⟨bM (bup (bup h1 h4) G) aK.one<|m1 h1.s,none,0,0,[],none,0,0,[],z,ii z,onL,onL,ii z,ii z,nd0,al0⟩
 refine Wk<|Ws<|R z (lN (vs:=[sl A0 N0 C0]) B_ z_ z z fid<|((a6.e h4).e G).row 0 1 z)<|Rm z<|R z (bP (parts:=[(0,.tmp 36),(1,.tmp 37)]) (cs:=[sl A0 N0 C0,sl A7 N7 C7]) q_q z z)<|E z (fb z) ?_
 rintro _ aa ⟨rfl,ab⟩;have ha:=ab.below;have ad:Blk aa aI.z [sl A0 N0 C0,sl A7 N7 C7]:=ab.blk;refine Rw z<|Wm z<|RM z z ?_
 have ae:=(((h1.ag B).e h4).e G).e ha;have he:=lt_ (lt_ (lt_ h1.s h4.s) G.s) ha.s;have af:=zt' O he;obtain ⟨rs,_,aL,aM,a4⟩:=P_<|ifF a0 hcr;refine E z (fc call65 z<|W_w02.run (B:=aa.z) aM zr (repS.mono (V.g ae) af) (repS.mono (Y.g ae) af) (ad.row 0 2 z) ad.lt W aB) ?_;rintro _ ai ⟨sb,ah,ng,ci,aN,aj,nk,cl,aO,_,_,rfl,aP,ak,al,aQ,ht,aR,hu,hn⟩;refine Rm z ?_
 iterate 3 refine Re z z z ?_
 refine E z (fa a_l) ?_;rintro _ aS ⟨rfl,am⟩;have h2:=am.below;refine E0 (fs0 (cur':=[vI rs.number,sl ah ng ci,sl aj nk cl]) h_ z z (am.blk:Blk aS ai.z [vI 0,sl none 0 0,sl none 0 0]) z z z z) ?_;rintro _ an ⟨aT,aU⟩;have h3:=aU.one;refine Ra z<|Rw z<|Ws<|E z (fa q_F) ?_
 rintro _ aV ⟨rfl,ao⟩;have I:=ao.below;have ap:Blk aV an.z [(.pointer none)]:=ao.blk;refine Wn<|Wq<|Wm z<|R z (c_H d_107 (fun _ h=>by cases h) z) ?_
 have aq:=((ht.e h2).c h3<|ds<|mnr<|a_n.lt ht).e I
 rcases bs (aL.isSome) with hcm | hcm
 ·obtain ⟨_,_,aW,aD⟩:=a_m<|ifT a4 hcm;have hv:=lt_ he sb.s;refine E z (fc call66 z<|q_i ((((((((hG.e h1).e h4).e G).e ha).e sb).e h2).c h3<|e_ (or0 (f_ lr) (q_<|zt' O hv):∀k∈[ai.z],¬B k)).e I) aq aW ap) ?_;rintro _ _ ⟨ar,rfl,aX,aY,aZ,au,b0,b1⟩;have hw:=aX.one;refine Wx z (fun _=>?_) (fun hc=>(b_c z hc).elim)
  refine Wq<|Wd (X:=(· ∈ [wc.z])) 0 (pl_ 12 [9]) mo (by kernel_rfl) fun b6 so _=>dR z z (bP (parts:=[]) (cs:=[vI 0,sl none 0 0,sl none 0 0]) Y_ z z) ?_;have av:=aY.e so;have aw:=lt_ G.s ha.s;have ax:=lt_ aw sb.s;have ay:=lt_ (lt_ ax h2.s) h3.s;have hx:=mm1 h5.lt ay;refine dR z z (l1 g_105 z (atp hx)<|av.at z)<|dR z z (A_ z)<|dR z z (fd q_C z) ?_
  have az:=(aZ.c hw<|atp (or1 (f_<|.inl au) (ds<|mno (a_n.lt ht)<|lt_ h2.s h3.s) (a_V (f_ ap.lt) lr):∀k∈[ar],k∉[an.z])).e so;have aA:∀k∈[ar],k∉[wc.z]:=or1 (f_<|.inl au) (s_ aR h5.lt aw)<|a_V (f_ h5.lt)<|lt_ ay I.s;refine dR z z (l1 g_3 z (atp aA)<|az.at z)<|dR z z (l1 g_105 z (atp hx)<|av.at z)<|dR z z (A_ z)<|dR z z (fd q_D z)<|dR z z (l1 g_3 z (atp aA)<|az.at z)<|dE0 z (fs0 (cur':=[vI 0,sl none 0 0,sl none 0 0]) h_ z z ((((((((h5.e G).e ha).e sb).e h2).c h3<|djs<|mm1 h5.lt ax).e I).c hw<|djs hx).e so) z z z z) (.inr fun _ _ h=>i_F (List.mem_singleton.2 z) h.2) ?_
  rintro _ _ ⟨b2,b3⟩;refine dQ z z z<|dQ z z z<|pD<|Wo ?_
  obtain rfl:=som aD;exact Wr<|x_ hr (n_ t_ h_ z b2 z) z z ⟨bM (bup (bM (bup (bM (bup (bup (bup (bup (bup h1 h4) G) ha) sb) h2) h3<|m1 hv) I) hw<|m1<|lt_ (lt_ hv h2.s) h3.s) so) b3.one<|m1 h1.s,none,0,0,[],none,0,0,[],z,ii z,onL,onL,b0,b1,nd0,al0⟩
 refine E z (fc call66 z<|q_h aq hcm) ?_;rintro _ _ ⟨rfl,sf⟩;refine Wx z (fun hc=>(b_c hc z).elim) (fun _=>?_)
 refine Wk<|Ws<|R z (lN (vs:=[vI rs.number,sl ah ng ci,sl aj nk cl]) t_ h_ z z fid<|((aT.e I).e sf).row 0 3 z)<|Rm z ?_
 have hy:=lt_ G.s ha.s;refine E0 (fs0 (cur':=[vI rs.number,sl ah ng ci,sl aj nk cl]) h_ z z (((((((h5.e G).e ha).e sb).e h2).c h3<|djs<|mm1 h5.lt<|lt_ hy sb.s).e I).e sf) z z z z) ?_;rintro _ _ ⟨b4,b5⟩;have hz:=b5.one;refine Ra z<|Rw z ?_
 obtain rfl:=som<|ifF a4 hcm;exact Wr<|x_ hr (n_ t_ h_ z b4 z) z z ⟨bM (bup (bup (bM (bup (bup (bup (bup (bup h1 h4) G) ha) sb) h2) h3<|m1<|lt_ he sb.s) I) sf) hz<|m1 h1.s,ah,ng,ci,aN,aj,nk,cl,aO,z,aP,((((ak.e h2).c h3<|ds<|mnr<|c_.lt ak).e I).e sf).c hz<|s_ (al_ hn) h5.lt hy,((((al.e h2).c h3<|ds<|mnr<|c_.lt al).e I).e sf).c hz<|s_ (ar_ hn) h5.lt hy,aQ,ii z,na_ (nl_ hu) (nr_ hu)<|nj hu,aa_ (w_ (al_ hn) he)<|w_ (ar_ hn) he⟩
def Q32 (w0:World)(B:Zone)(r:Val×Int×Bool)(v:Value)(w':World):Prop:=Bw w0 w'/\un3 (fun G H W=>∃I J L S1 a2 O V S2,v = .tuple #[(.agg #[vI G.number,sl I J L,sl a2 O V]),vI H,vB W]/\inI G.number/\c_ w' S1 (sl I J L) G.bytes/\c_ w' S2 (sl a2 O V) G.items/\inI H/\(S1++S2).Nodup/\(∀k∈(S1++S2),w0.z<=k)) r
theorem W_w39 {x1:d_}{x2:List UInt8}{x3:Str}{res:Val×Int×Bool}(hm:g_D n x1 x2 x3=some res)(J:B<=w0.z)(hG:Gl w0 B)(L:repS w0 B (sl A0 N0 C0) x1.rules)(O:repS w0 B (sl A6 N6 C6) x2)(a6:x3.b.length<=LEN):i_ prog 16 [(.agg #[sl A0 N0 C0]),sl A6 N6 C6,Str.v x3] w0 (Q32 w0 B res):=by
 unfold g_D at hm
 refine goG func16 z z z fun fn hr=>Ws<|E z (fb z) ?_
 rintro _ wj ⟨rfl,hv⟩;have h3:=hv.below;have hw:Blk wj w0.z [sl A0 N0 C0]:=hv.blk;refine E z (fa a_l) ?_;rintro _ a8 ⟨rfl,hx⟩;have h4:=hx.below;have h5:Blk a8 wj.z [vI 0,sl none 0 0,sl none 0 0]:=hx.blk;refine Ra z<|Rw z<|Ws ?_
 have hy:=hw.e h4;refine R z (lN (vs:=[sl A0 N0 C0]) B_ z_ z z fid<|hy.row 0 1 z)<|RM z z ?_
 have hk:=(h3.ag B).e h4;have hl:=lt_ h3.s h4.s;obtain ⟨ra,_,a9,hmr⟩:=a_m hm;refine E z (fc call28 z<|W_w36 a9 (zt' J hl) (L.g hk) (O.g hk) a6) ?_;rintro _ ws ⟨G,rfl,_,hz,aa,_⟩;refine Rm z<|Re z z z<|Re z z z<|E z (fa g_G) ?_
 rintro _ ab ⟨rfl,V⟩;have h2:=V.below;have W:Blk ab ws.z [(Str.v (⟨[]⟩:Str)),vI 0,vI 0,vI 0]:=V.blk;refine E0 (fs0 (cur':=[Str.v ra.path,vI ra.rule,vI ra.start,vI ra.end_]) b_a z z W z z z z) ?_;rintro _ _ ⟨hn,ad⟩;have h1:=ad.one;refine Rw z<|Wq<|Wm z<|R z (not_ z)<|Wx z (fun hcm=>?_) (fun hcm=>?_)
 ·refine Ws<|R z (bP (parts:=[]) (cs:=[vI 0,sl none 0 0,sl none 0 0]) Y_ z z)<|E0 (fs0 (cur':=[vI 0,sl none 0 0,sl none 0 0]) h_ z z (((h5.e G).e h2).c h1<|djs<|mm1 h5.lt G.s) z z z z) ?_
  rintro _ _ ⟨ae,ah⟩;refine Ra z<|Rw z ?_
  obtain rfl:=som<|ifT hmr hcm;exact Wr<|x_ hr (n_ t_ h_ z ae z) z z ⟨bM (bM (bup (bup (bup h3 h4) G) h2) h1<|m1<|lt_ hl G.s) ah.one<|m1 h3.s,none,0,0,[],none,0,0,[],z,ii z,onL,onL,ii z,nd0,al0⟩
 refine Wk<|Ws<|R z (lN (vs:=[sl A0 N0 C0]) B_ z_ z z fid<|(((hy.e G).e h2).c h1<|djs<|mm1 hw.lt<|lt_ h4.s G.s).row 0 1 z)<|Rf z h_T z<|R z (l0 g_3 z<|hn.at z)<|Rm z<|Rf z m_e z<|R z (l0 g_3 z<|hn.at z) ?_
 have ho:=lt_ hl G.s;have Y:∀k∈[ws.z],¬B k:=or0 (f_ lr)<|q_<|zt' J ho;have a0:=((hk.e G).e h2).c h1<|e_ Y
 have hb:=lt_ (lt_ ho h2.s) h1.s;obtain ⟨rp,_,_,ai,a7⟩:=P_<|ifF hmr hcm;refine E z (fc call29 z<|W_w38 ai (zt' J hb) (((((hG.e h3).e h4).e G).e h2).c h1<|e_ Y) (L.g a0) hz (O.g a0) aa) ?_;rintro _ aj ⟨s6,ac,nd,ce,ak,af,ng,ch,al,rfl,am,a1,a2,_,_,hq,hi⟩;refine Rm z ?_
 iterate 3 refine Re z z z ?_
 refine E z (fa a_l) ?_;rintro _ an ⟨rfl,a3⟩;have H:=a3.below;refine E0 (fs0 (cur':=[vI rp.number,sl ac nd ce,sl af ng ch]) h_ z z (a3.blk:Blk an aj.z [vI 0,sl none 0 0,sl none 0 0]) z z z z) ?_;rintro _ _ ⟨ao,ap⟩;have I:=ap.one;refine Ra z<|Rw z<|Wq (Wd (X:=(· ∈ [wj.z])) 0 (pl_ 6 [3]) mo (by kernel_rfl) fun au s7 _=>?_)
 have ht:=lt_ (lt_ G.s h2.s) h1.s;have a4:=mm1 h5.lt<|lt_ ht s6.s
 refine dR z z (lN (vs:=[vI rp.number,sl ac nd ce,sl af ng ch]) t_ h_ z z (atp a4)<|(ao.e s7).row 0 3 z)<|dR z z (fd h_T z) ?_
 have a5:=mm1 h5.lt G.s;refine dR z z (l1 g_3 z (atp a5)<|((((hn.e s6).e H).c I<|djs<|mm1 W.lt<|lt_ h1.s s6.s).e s7).at z)<|dE0 z (fs0 (cur':=[vI rp.number,sl ac nd ce,sl af ng ch]) h_ z z (((((((h5.e G).e h2).c h1<|djs a5).e s6).e H).c I<|djs a4).e s7) z z z z) (.inr fun _ _ h=>i_F (List.mem_singleton.2 z) h.2) ?_
 rintro _ _ ⟨aq,ar⟩;have hu:=ar.one;refine dQ z z z<|dQ z z z<|pD<|Wo ?_
 obtain rfl:=som a7;exact Wr<|x_ hr (n_ t_ h_ z aq z) z z ⟨bM (bup (bM (bup (bup (bM (bup (bup (bup h3 h4) G) h2) h1<|m1 ho) s6) H) I<|m1<|lt_ hb s6.s) s7) hu<|m1 h3.s,ac,nd,ce,ak,af,ng,ch,al,z,am,(((a1.e H).c I<|ds<|mnr<|c_.lt a1).e s7).c hu<|s_ (al_ hi) h5.lt ht,(((a2.e H).c I<|ds<|mnr<|c_.lt a2).e s7).c hu<|s_ (ar_ hi) h5.lt ht,hz,na_ (nl_ hq) (nr_ hq)<|nj hq,aa_ (w_ (al_ hi) hb)<|w_ (ar_ hi) hb⟩
theorem W_w3a {x1:Int}{x2:Int}{res:Bool}(hm:g_F x1 x2=some res)(I:B<=w0.z)(G:inI x1)(H:inI x2):i_ prog 150 [vI x1,vI x2] w0 (Q7 w0 B res):=by
 unfold g_F at hm
 refine goG func150 z z z fun fn hr=>Ws<|Rw z<|Wm z<|Rm z<|Rl z z z<|Rw z ?_
 obtain rfl:=som hm;exact Wr<|a_ hr z ⟨br w0,z⟩
theorem W_w3b {x2:Int}{x3:List Int}{res:Int}(hm:h_Q x2 x3=some res)(W:B<=w0.z)(V:inI x2)(H:repS w0 B (sl A7 N7 C7) x3):i_ prog 149 [(.func (.func 150) #[] #[]),vI x2,sl A7 N7 C7] w0 (Q0 w0 B res):=by
 unfold h_Q at hm
 refine goG func149 z z z fun fn hr=>Ws<|Rw z<|Wq<|Wm z<|R z (lnR o_ z H)<|Rm z<|Wn ?_
 obtain ⟨_,hub,J⟩:=bdS hm;refine Wf (σ:=Int) (ρ:=Int) (fun (k3:Nat)(x0:Int) a w=>Sat 22 [(0,.func (.func 150) #[] #[]),(1,vI x0),(9,sl A7 N7 C7),(10,vI (x3.length:Int)),(11,vI ((k3:Nat):Int))] a/\Below w0.z w0 w/\inI x0) (fun (x0:Int) a w=>Sat 22 [(1,vI x0)] a/\Below w0.z w0 w/\inI x0) (rQ prog fn<|Q0 w0 B) hub ?_ ?_ ?_ ?_ ?_
 ·exact fun _ q=>⟨q.k<|s5 z z z z z,br w0,V⟩
 ·rintro k3 x0 _ _ _ L ⟨hSc,s6,h1⟩ hmd;refine Wu ?_ hSc;refine Ws<|Rl z z z<|Wn<|Wq<|Wc z (fun _=>?_) (fun hc=>(T_ L hc).elim)
  refine Wk<|Wq<|Wb<|Ws ?_
  obtain ⟨xe,ef,hmg⟩:=bdS hmd;refine RX z (at_ (α:=Int) o_ z_3 z z z (H.e s6) ef) ?_;rintro _ ⟨_,_,_,rfl,hh,hi,_⟩;obtain ⟨rfl,O⟩:=J_ hi;refine R z (l0 g_3 z<|hh.at0 z)<|Rw z<|Wm z<|RM z z ?_
  obtain ⟨_,ej,hmk⟩:=bdS hmg;refine E z (d_h call150 z z<|W_w3a ej (zt' W s6.s) O h1) ?_;rintro _ G ⟨sm,rfl⟩;refine Wn ?_;obtain ⟨ul,hua,hmn⟩:=bdS hmk;refine Wt (fun a w=>∃(x4:Int),x4=ul/\Sat 22 [(0,.func (.func 150) #[] #[]),(1,vI x4),(9,sl A7 N7 C7),(10,vI (x3.length:Int)),(11,vI ((k3:Nat):Int))] a/\Below G.z G w/\inI x4) ?_ ?_
  ·refine Wc z (fun I=>?_)<|fun I=>?_
   ·exact Wg<|Rm z<|Ra z<|Wl (fun _ q=>⟨xe,som<|ifT hua I,q.k<|s5 z z z z z,br G,O⟩)
   exact a_f<|fun _ q=>⟨x0,som<|ifF hua I,q.k<|s5 z z z z z,br G,h1⟩
  rintro ao _ ⟨x4,rfl,_,sp,hq⟩;revert ao;exact Wo<|Wg<|R z (inc_ L (lt_ (repS.len H) C_) z z)<|Rm z<|Wl (fun _ q=>⟨x4,(som hmn).symm,⟨q.k<|s5 z z z z z,bup (bup s6 sm) sp,hq⟩⟩)
 ·rintro x0 _ _ ⟨hSr,ss,h1⟩;refine Wu ?_ hSr;refine Ws<|Rl z z z<|Wn<|Wq<|Wc z (fun hc=>(U_ hc).elim) (fun _=>?_)
  exact We<|fun _ q=>⟨rfl,⟨q.k<|s1 z,ss,h1⟩⟩
 ·rintro x0 au _ rfl ⟨_,st,h1⟩;have hmv:=elL J;revert au;refine Wo<|Wm z<|Rw z ?_
  obtain rfl:=som hmv;exact Wr<|a_ hr z ⟨st,z,h1⟩
 rintro _ _ _ _ rfl ⟨rfl,hqw⟩;have hmx:=elR J;obtain rfl:=som hmx;exact ⟨hqw,z⟩
theorem W_w1l {x1:Int}{x2:Int}{res:Int}(hm:f_2 x1 x2=some res)(V:B<=w0.z)(I:inI x1)(J:inI x2):i_ prog 131 [vI x1,vI x2] w0 (Q0 w0 B res):=by
 unfold f_2 at hm
 refine goG func131 z z z fun fn hr=>Ws<|Rw z<|Wm z<|Rm z<|E z (fS [(.tmp 6)] j_A z z z (b_X z) (lb z)<|lb z) ?_
 rintro _ H ⟨rfl,G⟩;have h6:Blk H w0.z [vI x2]:=G.blk;obtain ⟨_,O,L⟩:=bdS hm;refine E z (fc call149 z<|W_w3b (B:=H.z) O zr I<|c_.rep<|c_V G<|d_S J) ?_;rintro _ _ ⟨s4,rfl,h5⟩;refine Rw z ?_
 obtain rfl:=som L;exact Wr<|a_ hr z ⟨bup G.below s4,z,h5⟩
theorem W_w3c {x1:d_}{x2:Int}{x3:Val}{b3 o3:Nat}{res:Bool}(hm:g_O x1 x2 x3=some res)(a0:B<=w0.z)(a5:repS w0 B (sl A0 N0 C0) x1.rules)(aW:inI x2)(aX:inI x3.number)(ap:repS w0 B (sl A8 N8 C8) x3.bytes)(a7:repS w0 B (sl A9 N9 C9) x3.items)(hC3:I_ w0 b3 o3 [vI x3.number,sl A8 N8 C8,sl A9 N9 C9])(hC3b:B b3):i_ prog 106 [(.agg #[sl A0 N0 C0]),vI x2,(.pointer<|some ⟨b3,o3,none⟩)] w0 (Q7 w0 B res):=by
 unfold g_O at hm
 refine goG func106 z z z fun fn hr=>Ws<|E z (fb z) ?_
 rintro _ G ⟨rfl,aK⟩;have H:=aK.below;have hh:Blk G w0.z [sl A0 N0 C0]:=aK.blk;refine Rw z<|Ws<|Rf z a_5 z<|R z (l0 a_9 z<|hh.at z)<|Rm z ?_
 obtain ⟨xc,bp,aY⟩:=bdS hm;have aL:=a5.e H;refine RX z (at_ (α:=b_) Z_ l_ z z z aL bp) ?_;rintro _ ⟨W,Y,_,rfl,hb,bq,_⟩;obtain ⟨_,_,_,_,_,_,_,_,_,_,_,_,rfl,_,_,bt,_,_,_,hi⟩:=a_u bq;refine Rw z<|Ws<|RA z z<|Rw z<|Wq<|Wm z<|R z (A_ z)<|Rf z a_a z<|R z (l0 g_3 z<|hb.at (j:=1) z)<|Wn<|Wb<|Ws<|Rq z z z<|Rw z ?_
 obtain ⟨bu,aq,ar⟩:=bdS aY;refine Wt (fun a w=>∃(xj:Int)(xd:Int)(xa:Int),Sum.inl (xj,xd,xa)=bu/\Sat 136 [(2,.pointer<|some ⟨b3,o3,none⟩),(7,.pointer<|some ⟨W,Y,none⟩),(8,vI xj),(9,vI xd),(10,vI xa)] a/\Below G.z G w/\inI xj/\inI xd/\inI xa) ?_ ?_
 ·refine Wc z (fun a8=>?_)<|fun a8=>?_
  ·refine Wg<|R z (lN (vs:=[sl A0 N0 C0]) B_ z_ z z fid<|hh.row 0 1 z)<|Rm z ?_
   obtain ⟨bv,bw,aZ⟩:=bdS<|ifT aq a8;refine E z (fc call130 z<|e_i bw (zt' a0 H.s) aL aW) ?_;rintro _ _ ⟨bx,rfl,bz⟩;exact Ra z<|Wl (fun _ q=>⟨bv,0,0,som aZ,q.k<|s5 z z z z z,bx,bz,ii z,ii z⟩)
  refine Ws<|Rq z z z<|Rw z ?_
  obtain ⟨bA,au,av⟩:=bdS<|ifF aq a8;refine Wt (fun a w=>∃(xk:Int)(xl:Int)(xm:Int),Sum.inl (xk,xl,xm)=bA/\Sat 136 [(2,.pointer<|some ⟨b3,o3,none⟩),(7,.pointer<|some ⟨W,Y,none⟩),(8,vI xk),(9,vI xl),(10,vI xm)] a/\Below G.z G w/\inI xk/\inI xl/\inI xm) ?_ ?_
  ·refine Wc z (fun a9=>?_)<|fun a9=>?_
   ·have aw:=ifT au a9;refine Wq<|Wq (Wd (X:=noX) 0 (pl_ 10 []) mo (by kernel_rfl) fun cQ sn _=>dM z z z<|dR z z (A_ z)<|dR z z (fd b_V z)<|dR z z (l0 O_ z<|((hC3.e H).e sn).at (j:=1) z)<|dR z z (lnR k_ z<|ap.g<|(H.ag B).e sn)<|dM z z z<|dR z z (A_ z)<|dR z z (fd a_w z) ?_)
    have aM:=hb.e sn;refine dR z z (l0 g_3 z<|aM.at (j:=2) z)<|dR z z (nq z z)<|pD<|Wo<|Wc z (fun aa=>?_) (fun aa=>?_)
    ·refine Ws<|Rw z ?_
     obtain rfl:=som<|ifT aw aa;have b0:=elR av;obtain rfl:=som b0;have b1:=elR ar;obtain rfl:=som b1;exact Wr<|rtO<|a_ hr z ⟨bup H sn,z⟩
    exact Wk<|Wg<|Rm z<|R z (A_ z)<|Rf z a_w z<|R z (l0 g_3 z<|aM.at (j:=2) z)<|Ra z<|Wl (fun _ q=>⟨0,xc.size,0,som<|ifF aw aa,q.k<|s5 z z z z z,sn,ii z,bt,ii z⟩)
   refine Ws<|Rq z z z<|Rw z ?_
   obtain ⟨bB,ax,b2⟩:=bdS<|ifF au a9;refine Wt (fun a w=>∃(xo:Int)(xp:Int)(xq:Int),(xo,xp,xq)=bB/\Sat 136 [(2,.pointer<|some ⟨b3,o3,none⟩),(7,.pointer<|some ⟨W,Y,none⟩),(8,vI xo),(9,vI xp),(10,vI xq)] a/\Below G.z G w/\inI xo/\inI xp/\inI xq) ?_ ?_
   ·refine Wc z (fun ab=>?_)<|fun ab=>?_
    ·refine Wd (X:=noX) 0 (pl_ 10 [7,8]) mo (by kernel_rfl) fun cR se _=>dR z z (lN (vs:=[sl A0 N0 C0]) B_ z_ z z fid<|(hh.e se).row 0 1 z)<|dM z z z<|dR z z (A_ z)<|dR z z (fd G_ z)<|dR z z (l0 u_ z<|(hb.e se).at (j:=7) z) ?_
     obtain ⟨_,bC,b4⟩:=bdS<|ifT ax ab;refine dRX z z (at_ (α:=Int) o_ z_3 z z z (hi.e se) bC) ?_;rintro _ ⟨_,_,_,rfl,bD,bE,_⟩;obtain ⟨rfl,bF⟩:=J_ bE;refine dR z z (l0 g_3 z<|bD.at0 z) ?_;have aN:=lt_ H.s se.s;obtain ⟨_,bG,b5⟩:=bdS b4;refine dE z z (fc call130 z<|e_i bG (zt' a0 aN) (a5.g<|(H.ag B).e se) bF) (.inr fun _ _ h=>H_<|h.1) ?_;rintro _ _ ⟨aO,rfl,bH⟩;obtain ⟨bI,bJ,b6⟩:=bdS b5;refine dE z z (fc call131 z<|W_w1l bJ (zt' a0<|lt_ aN aO.s) (ii z) bH) (.inr fun _ _ h=>H_<|h.1) ?_;rintro _ _ ⟨bK,rfl,bL⟩;exact dQ z z z<|pD (fun _ q=>⟨0,bI,0,som b6,q.k<|s5 z z z z z,bup (bup se aO) bK,ii z,bL,ii z⟩)
    refine Ws<|Rq z z z<|Rw z ?_
    obtain ⟨bM,ay,b7⟩:=bdS<|ifF ax ab;refine Wt (fun a w=>∃(xr:Int)(xs:Int)(xt:Int),(xr,xs,xt)=bM/\Sat 136 [(2,.pointer<|some ⟨b3,o3,none⟩),(7,.pointer<|some ⟨W,Y,none⟩),(8,vI xr),(9,vI xs),(10,vI xt)] a/\Below G.z G w/\inI xr/\inI xs/\inI xt) ?_ ?_
    ·refine Wc z (fun ad=>?_)<|fun ad=>?_
     ·exact Wg<|Ra z<|Wl (fun _ q=>⟨0,400,0,som<|ifT ay ad,q.k<|s5 z z z z z,br G,ii z,ii z,ii z⟩)
     refine Ws<|Rq z z z<|Rw z ?_
     obtain ⟨bN,az,b9⟩:=bdS<|ifF ay ad;refine Wt (fun a w=>∃(xu:Int)(xv:Int),(xu,xv)=bN/\Sat 136 [(2,.pointer<|some ⟨b3,o3,none⟩),(7,.pointer<|some ⟨W,Y,none⟩),(8,vI xu),(9,vI 0),(10,vI xv)] a/\Below G.z G w/\inI xu/\inI xv) ?_ ?_
     ·refine Wc z (fun ae=>?_)<|fun ae=>?_
      ·refine Wd (X:=noX) 0 (pl_ 10 [7,8]) mo (by kernel_rfl) fun cS sf _=>dR z z (lN (vs:=[sl A0 N0 C0]) B_ z_ z z fid<|(hh.e sf).row 0 1 z)<|dM z z z<|dR z z (A_ z)<|dR z z (fd G_ z)<|dR z z (l0 u_ z<|(hb.e sf).at (j:=7) z) ?_
       obtain ⟨_,bO,ba⟩:=bdS<|ifT az ae;refine dRX z z (at_ (α:=Int) o_ z_3 z z z (hi.e sf) bO) ?_;rintro _ ⟨_,_,_,rfl,bP,bQ,_⟩;obtain ⟨rfl,bR⟩:=J_ bQ;refine dR z z (l0 g_3 z<|bP.at0 z) ?_;have aP:=lt_ H.s sf.s;obtain ⟨_,bS,bb⟩:=bdS ba;refine dE z z (fc call130 z<|e_i bS (zt' a0 aP) (a5.g<|(H.ag B).e sf) bR) (.inr fun _ _ h=>H_<|h.1) ?_;rintro _ _ ⟨aQ,rfl,bT⟩;obtain ⟨bU,bV,bc⟩:=bdS bb;refine dE z z (fc call131 z<|W_w1l bV (zt' a0<|lt_ aP aQ.s) (ii z) bT) (.inr fun _ _ h=>H_<|h.1) ?_;rintro _ _ ⟨bW,rfl,bX⟩;exact dQ z z z<|pD (fun _ q=>⟨0,bU,som bc,q.k<|s5 z z z z z,bup (bup sf aQ) bW,ii z,bX⟩)
      refine Ws<|Rq z z z<|Rw z ?_
      obtain ⟨bY,aA,be⟩:=bdS<|ifF az ae;refine Wt (fun a w=>∃(xw:Int)(xx:Int),(xw,xx)=bY/\Sat 136 [(2,.pointer<|some ⟨b3,o3,none⟩),(7,.pointer<|some ⟨W,Y,none⟩),(8,vI xw),(9,vI 0),(10,vI xx)] a/\Below G.z G w/\inI xw/\inI xx) ?_ ?_
      ·refine Wc z (fun af=>?_)<|fun af=>?_
       ·exact Wg<|Rm z<|R z (A_ z)<|Rf z G_ z<|R z (l0 u_ z<|hb.at (j:=7) z)<|R z (lnR o_ z hi)<|Ra z<|Wl (fun _ q=>⟨0,(xc.kids.length:Int),som<|ifT aA af,q.k<|s5 z z z z z,br G,ii z,b_A<|repS.len hi⟩)
       refine Ws<|Rq z z z<|Rw z ?_
       obtain ⟨bZ,aB,bf⟩:=bdS<|ifF aA af;refine Wt (fun a w=>∃(xy:Int)(xz:Int),(xy,xz)=bZ/\Sat 136 [(2,.pointer<|some ⟨b3,o3,none⟩),(7,.pointer<|some ⟨W,Y,none⟩),(8,vI xy),(9,vI 0),(10,vI xz)] a/\Below G.z G w/\inI xy/\inI xz) ?_ ?_
       ·refine Wc z (fun ah=>?_)<|fun ah=>?_
        ·refine Wd (X:=noX) 0 (pl_ 10 [7]) mo (by kernel_rfl) fun cT sg _=>dR z z (lN (vs:=[sl A0 N0 C0]) B_ z_ z z fid<|(hh.e sg).row 0 1 z)<|dM z z z<|dR z z (A_ z)<|dR z z (fd G_ z)<|dR z z (l0 u_ z<|(hb.e sg).at (j:=7) z) ?_
         obtain ⟨_,c0,bg⟩:=bdS<|ifT aB ah;refine dRX z z (at_ (α:=Int) o_ z_3 z z z (hi.e sg) c0) ?_;rintro _ ⟨_,_,_,rfl,c1,c2,_⟩;obtain ⟨rfl,c3⟩:=J_ c2;refine dR z z (l0 g_3 z<|c1.at0 z) ?_;obtain ⟨c4,c5,bh⟩:=bdS bg;refine dE z z (fc call130 z<|e_i c5 (zt' a0<|lt_ H.s sg.s) (a5.g<|(H.ag B).e sg) c3) (.inr fun _ _ h=>H_<|h.1) ?_;rintro _ _ ⟨c6,rfl,c7⟩;exact dQ z z z<|dQ z z z<|pD (fun _ q=>⟨c4,1,som bh,q.k<|s5 z z z z z,bup sg c6,c7,ii z⟩)
        refine Wq<|Ws<|Rq z z z<|Rw z ?_
        obtain ⟨c8,aC,bi⟩:=bdS<|ifF aB ah;refine Wt (fun a w=>∃(al:Bool),al=c8/\Sat 136 [(2,.pointer<|some ⟨b3,o3,none⟩),(7,.pointer<|some ⟨W,Y,none⟩),(8,vI 0),(9,vI 0),(10,vI 0),(81,vB al)] a/\Below G.z G w) ?_ ?_
        ·refine Wc z (fun ai=>?_)<|fun ai=>?_
         ·exact a_f<|fun _ q=>⟨xc.kind==8,som<|ifT aC ai,q.k<|s6 z z z z z z,br G⟩
         exact Wg<|Rq z z z<|Ra z<|Wl (fun _ q=>⟨xc.kind==9,som<|ifF aC ai,q.k<|s6 z z z z z z,br G⟩)
        rintro c9 a6 ⟨al,rfl,_,ca⟩;revert c9;refine Wo ?_;obtain ⟨cb,aD,bj⟩:=bdS bi;refine Wt (fun a w=>∃(a1:Int),a1=cb/\Sat 136 [(2,.pointer<|some ⟨b3,o3,none⟩),(7,.pointer<|some ⟨W,Y,none⟩),(8,vI 0),(9,vI 0),(10,vI a1)] a/\Below a6.z a6 w/\inI a1) ?_ ?_
        ·refine Wc z (fun aj=>?_)<|fun aj=>?_
         ·exact Wg<|Ra z<|Wl (fun _ q=>⟨1,som<|ifT aD aj,q.k<|s5 z z z z z,br a6,ii z⟩)
         exact a_f<|fun _ q=>⟨0,som<|ifF aD aj,q.k<|s5 z z z z z,br a6,ii z⟩
        rintro cc _ ⟨a1,rfl,_,cd,ce⟩;revert cc;exact fun _ q=>⟨0,a1,som bj,q.k<|s5 z z z z z,bup ca cd,ii z,ce⟩
       rintro cf _ ⟨xy,xz,rfl,_,cg,ch,ci⟩;revert cf;exact fun _ q=>⟨xy,xz,som<|a_I bf,q.k<|s5 z z z z z,cg,ch,ci⟩
      rintro cj _ ⟨xw,xx,rfl,_,ck,cl,cm⟩;revert cj;exact fun _ q=>⟨xw,xx,som<|a_I be,q.k<|s5 z z z z z,ck,cl,cm⟩
     rintro cn _ ⟨xu,xv,rfl,_,co,cp,cq⟩;revert cn;exact fun _ q=>⟨xu,0,xv,som<|a_I b9,q.k<|s5 z z z z z,co,cp,ii z,cq⟩
    rintro cr _ ⟨xr,xs,xt,rfl,_,ct,cu,cv,cw⟩;revert cr;exact fun _ q=>⟨xr,xs,xt,som<|d_j b7,q.k<|s5 z z z z z,ct,cu,cv,cw⟩
   rintro cx _ ⟨xo,xp,xq,rfl,_,cy,cz,cA,cB⟩;revert cx;exact fun _ q=>⟨xo,xp,xq,som<|d_j b2,q.k<|s5 z z z z z,cy,cz,cA,cB⟩
  rintro cC _ ⟨xk,xl,xm,rfl,_,cD,cE,cF,cG⟩;have bk:=elL av;revert cC;exact fun _ q=>⟨xk,xl,xm,som<|d_j bk,q.k<|s5 z z z z z,cD,cE,cF,cG⟩
 rintro cH a2 ⟨xj,xd,xa,rfl,_,s7,cI,_,_⟩;have bm:=elL ar;revert cH;refine Wo<|Wq<|Wq ?_
 obtain ⟨cJ,aE,aF⟩:=bdS<|d_j bm;refine Wt (fun a w=>∃(am:Bool),am=cJ/\Sat 136 [(2,.pointer<|some ⟨b3,o3,none⟩),(8,vI xj),(9,vI xd),(10,vI xa),(111,vB am)] a/\Below a2.z a2 w) ?_ ?_
 ·refine Wg<|Rm z<|R z (A_ z)<|Rf z a_a z ?_
  have an:=hb.e s7;refine R z (l0 g_3 z<|an.at (j:=1) z)<|Rq z z z<|Rm z ?_
  rcases bs (xc.kind==6) with O | O
  ·iterate 5 refine Nh z O ?_
   exact R z (pT z O z)<|Rm z<|Nh z z<|Nh z z<|Nh z z<|Nh z z<|Nh z z<|R z (pT z z z)<|Rm z<|Rh z z (mv z)<|Rh z z (A_ z)<|Rh z z (fd a_s z)<|Rh z z (l0 a_y z<|((hC3.e H).e s7).at (j:=2) z)<|Rh z z (lnR a_D z<|a7.g<|(H.ag B).e s7)<|Rh z z (mv z)<|Rh z z (nq z z)<|R z (pT z z z)<|Wl (fun _ q=>⟨(x3.items.length:Int) != xa,som<|ifT aE O,q.k<|s5 z z z z z,br a2⟩)
  refine Rh z O (mv z)<|Rh z O (A_ z)<|Rh z O (fd a_a z)<|Rh z O (l0 g_3 z<|an.at (j:=1) z)<|Rh z O (eql z z)<|R z (pF z O z)<|Rm z ?_
  obtain ⟨aR,aG,aH⟩:=bdS<|ifF aE O;refine c_D 102 aR 6 ?_ ?_
  ·rcases bs (xc.kind==7) with V | V
   ·iterate 5 refine Nh z V ?_
    exact R z (pT z V z)<|WLq 6 (ifT aG V) z z z
   exact Rh z V (mv z)<|Rh z V (A_ z)<|Rh z V (fd a_a z)<|Rh z V (l0 g_3 z<|an.at (j:=1) z)<|Rh z V (eql z z)<|R z (pF z V z)<|WLq 6 (ifF aG V) z z z
  refine Rm z ?_
  rcases bs aR with I | I
  ·exact Rh z I (mv z)<|Rh z I (A_ z)<|Rh z I (fd a_s z)<|Rh z I (l0 a_y z<|((hC3.e H).e s7).at (j:=2) z)<|Rh z I (lnR a_D z<|a7.g<|(H.ag B).e s7)<|Rh z I (mv z)<|Rh z I (nq z z)<|R z (pT z I z)<|Wl (fun _ q=>⟨(x3.items.length:Int) != xa,som<|ifT aH I,q.k<|s5 z z z z z,br a2⟩)
  iterate 7 refine Nh z I ?_
  exact R z (pF z I z)<|Wl (fun _ q=>⟨false,som<|ifF aH I,q.k<|s5 z z z z z,br a2⟩)
 rintro cK aS ⟨am,rfl,_,a3⟩;revert cK;refine Wo<|Wc z (fun ak=>?_) (fun ak=>?_)
 ·refine Ws<|Rw z ?_
  obtain rfl:=som<|ifT aF ak;exact Wr<|a_ hr z ⟨bup (bup H s7) a3,z⟩
 refine Wk<|Wq ?_
 obtain ⟨cL,bn,bo⟩:=bdS<|ifF aF ak;refine Wt (fun a w=>∃(ao:Bool),ao=cL/\Sat 136 [(6,vB ao)] a/\Below aS.z aS w) ?_ ?_
 ·refine Wg<|Rm z<|R z (A_ z)<|Rf z b_9 z ?_
  have aT:=((hC3.e H).e s7).e a3;refine R z (l0 g_3 z<|aT.at (j:=0) z)<|Rm z ?_
  obtain ⟨cM,cN,aI⟩:=bdS bn;refine E z (fc call85 z<|d_f cN (zt' a0<|lt_ (lt_ H.s s7.s) a3.s) aX (ii z) cI) ?_;rintro _ _ ⟨a4,rfl⟩;refine Rm z ?_
  rcases bs cM with J | J
  ·have aJ:=ifT aI J;refine Rh z J (mv z)<|Rh z J (A_ z)<|Rh z J (fd b_V z) ?_
   have aU:=aT.e a4;refine Rh z J (l0 O_ z<|aU.at (j:=1) z) ?_;have aV:=(((H.ag B).e s7).e a3).e a4;refine Rh z J (lnR k_ z<|ap.g aV)<|Rh z J (mv z)<|Rh z J (b_E z z)<|R z (pT z J z)<|Rm z ?_
   rcases bs (decide<|(x3.bytes.length:Int)<=xd) with L | L
   ·exact Rh z L (mv z)<|Rh z L (A_ z)<|Rh z L (fd a_s z)<|Rh z L (l0 a_y z<|aU.at (j:=2) z)<|Rh z L (lnR a_D z<|a7.g aV)<|Rh z L (mv z)<|Rh z L (b_E z z)<|R z (pT z L z)<|Ra z<|Wl (fun _ q=>⟨decide<|(x3.items.length:Int)<=xa,som<|ifT aJ L,q.k<|s1 z,a4⟩)
   iterate 7 refine Nh z L ?_
   exact R z (pF z L z)<|Ra z<|Wl (fun _ q=>⟨false,som<|ifF aJ L,q.k<|s1 z,a4⟩)
  iterate 7 refine Nh z J ?_
  exact R z (pF z J z)<|Rm z<|Nh z z<|Nh z z<|Nh z z<|Nh z z<|Nh z z<|Nh z z<|Nh z z<|R z (pF z z z)<|Ra z<|Wl (fun _ q=>⟨false,som<|ifF aI J,q.k<|s1 z,a4⟩)
 rintro cO _ ⟨ao,rfl,_,cP⟩;revert cO;refine Wo ?_;obtain rfl:=som bo;exact Wr<|a_ hr z ⟨bup (bup (bup H s7) a3) cP,z⟩
theorem W_w1m {x1:d_}{x2:Int}{x3:Val}{b3 o3:Nat}{x4:Int}{res:Int}(hm:f_0 x1 x2 x3 x4=some res)(aU:B<=w0.z)(O:repS w0 B (sl A0 N0 C0) x1.rules)(aP:inI x2)(aQ:inI x3.number)(aR:repS w0 B (sl A8 N8 C8) x3.bytes)(aS:repS w0 B (sl A9 N9 C9) x3.items)(hC3:I_ w0 b3 o3 [vI x3.number,sl A8 N8 C8,sl A9 N9 C9])(hC3b:B b3)(aT:inI x4):i_ prog 69 [(.agg #[sl A0 N0 C0]),vI x2,.pointer<|some ⟨b3,o3,none⟩,vI x4] w0 (Q0 w0 B res):=by
 unfold f_0 at hm
 refine goG func69 z z z fun fn hr=>Ws<|E z (fb z) ?_
 rintro _ G ⟨rfl,hj⟩;have H:=hj.below;refine Rw z<|Ws<|Rf z a_5 z<|R z (l0 a_9 z<|(hj.blk:Blk G w0.z [sl A0 N0 C0]).at z)<|Rm z ?_
 obtain ⟨L,ew,hmk⟩:=bdS hm;refine RX z (at_ (α:=b_) Z_ l_ z z z (O.e H) ew) ?_;rintro _ ⟨bl,om,_,rfl,h2,hx,_⟩;obtain ⟨_,_,_,_,_,_,ay,nz,ah,_,_,_,rfl,_,_,_,_,_,h5,h4⟩:=a_u hx;refine Rw z<|Wq<|Wm z<|R z (A_ z)<|Rf z a_a z<|R z (l0 g_3 z<|h2.at (j:=1) z)<|Wn<|Wb<|Ws<|Rq z z z<|Rw z<|Wc z (fun J=>?_) (fun J=>?_)
 ·refine Wm z<|R z (A_ z)<|Rf z G_ z<|R z (l0 u_ z<|h2.at (j:=7) z) ?_
  obtain ⟨_,ai,V⟩:=bdS<|ifT hmk J;refine RX z (at_ (α:=Int) o_ z_3 z z z h4 ai) ?_;rintro _ ⟨_,_,_,rfl,aj,ak,_⟩;obtain ⟨rfl,al⟩:=J_ ak;refine R z (l0 g_3 z<|aj.at0 z)<|Rw z ?_
  obtain rfl:=som V;exact Wr<|rtO<|a_ hr z ⟨H,z,al⟩
 refine Ws<|Rq z z z<|Rw z ?_
 obtain ⟨am,hun,I⟩:=bdS<|ifF hmk J;refine Wt (fun a w=>Sum.inl ()=am/\Sat 80 [] a/\Below G.z G w) ?_ ?_
 ·refine Wc z (fun hca=>?_)<|fun hca=>?_
  ·have hmo:=ifT hun hca;refine Wm z<|Rm z<|R z (A_ z)<|Rf z G_ z<|R z (l0 u_ z<|h2.at (j:=7) z)<|R z (lnR o_ z h4)<|Rl z z z<|Wx z (fun hcb=>?_) (fun hcb=>?_)
   ·refine Wm z<|R z (A_ z)<|Rf z G_ z<|R z (l0 u_ z<|h2.at (j:=7) z)<|Rm z ?_
    obtain ⟨_,an,W⟩:=bdS<|ifT hmo hcb;refine RX z (at_ (α:=Int) o_ z_3 z z z h4 an) ?_;rintro _ ⟨_,_,_,rfl,ao,ap,_⟩;obtain ⟨rfl,aq⟩:=J_ ap;refine R z (l0 g_3 z<|ao.at0 z)<|Rw z ?_
    obtain rfl:=som W;have Y:=elR I;obtain rfl:=som Y;exact Wr<|rtO<|a_ hr z ⟨H,z,aq⟩
   exact a_f<|fun _ q=>⟨som<|ifF hmo hcb,q.k sn,br G⟩
  refine Ws<|Rq z z z<|Rw z ?_
  obtain ⟨ar,hup,hmc⟩:=bdS<|ifF hun hca;refine Wt (fun a w=>Sum.inl ()=ar/\Sat 80 [] a/\Below G.z G w) ?_ ?_
  ·refine Wc z (fun hcd=>?_)<|fun hcd=>?_
   ·refine Wm z<|R z (A_ z)<|Rf z a_L z<|R z (l0 u_ z<|h2.at (j:=6) z)<|R z (lnR o_ z h5)<|Rm z<|Wn ?_
    obtain ⟨_,a0,hmq⟩:=bdS<|ifT hup hcd;refine Wf (σ:=Unit) (ρ:=Int) (fun (kr:Nat)(_:Unit) a w=>Sat 80 [(2,.pointer<|some ⟨b3,o3,none⟩),(9,.pointer<|some ⟨bl,om,none⟩),(49,sl ay nz ah),(50,vI (L.tags.length:Int)),(51,vI ((kr:Nat):Int))] a/\Below G.z G w) (fun (_:Unit) a w=>Sat 80 [] a/\Below G.z G w) (rQ prog fn<|Q0 w0 B) a0 ?_ ?_ ?_ ?_ ?_
    ·exact fun _ q=>⟨q.k<|s5 z z z z z,br G⟩
    ·rintro kr _ _ _ _ hke ⟨a1,s3⟩ a2;refine Wu ?_ a1;refine Ws<|Rl z z z<|Wn<|Wq<|Wc z (fun _=>?_) (fun hc=>(T_ hke hc).elim)
     refine Wk<|Wq<|Wb<|Wm z ?_
     obtain ⟨_,au,hms⟩:=bdS a2;refine RX z (at_ (α:=Int) o_ z_3 z z z (h5.e s3) au) ?_;rintro _ ⟨_,_,_,rfl,av,aw,_⟩;obtain ⟨rfl,_⟩:=J_ aw;refine R z (l0 g_3 z<|av.at0 z)<|Ra z<|Rw z<|Wm z<|Rm z<|R z (A_ z)<|Rf z b_9 z<|R z (l0 g_3 z<|((hC3.e H).e s3).at (j:=0) z)<|Rq z z z<|Wx z (fun hcf=>?_) (fun hcf=>?_)
     ·refine Wm z<|R z (A_ z)<|Rf z G_ z<|R z (l0 u_ z<|(h2.e s3).at (j:=7) z)<|Rm z<|R z (inc_ hke (lt_ (repS.len h5) C_) z z) ?_
      obtain ⟨_,ax,a3⟩:=bdS<|ifT hms hcf;refine RX z (at_ (α:=Int) o_ z_3 z z z (h4.e s3) ax) ?_;rintro _ ⟨_,_,_,rfl,az,aA,_⟩;obtain ⟨rfl,aB⟩:=J_ aA;exact R z (l0 g_3 z<|az.at0 z)<|Rw z<|Wr<|rtO<|qL (som a3).symm<|a_ hr z ⟨bup H s3,z,aB⟩
     exact Wk<|Wg<|R z (inc_ hke (lt_ (repS.len h5) C_) z z)<|Rm z<|Wl (fun _ q=>⟨(),(som<|ifF hms hcf).symm,⟨q.k<|s5 z z z z z,s3⟩⟩)
    ·rintro _ _ _ ⟨a4,aC⟩;refine Wu ?_ a4;refine Ws<|Rl z z z<|Wn<|Wq<|Wc z (fun hc=>(U_ hc).elim) (fun _=>?_)
     exact We<|fun _ q=>⟨rfl,⟨q.k sn,aC⟩⟩
    ·rintro _ aD _ rfl ⟨_,aE⟩;have a5:=elL hmq;revert aD;exact fun _ q=>⟨som a5,q.k sn,aE⟩
    rintro _ _ _ _ rfl ⟨rfl,a6⟩;have a7:=elR hmq;obtain rfl:=som a7;have a8:=elR hmc;obtain rfl:=som a8;have a9:=elR I;obtain rfl:=som a9;exact ⟨a6,z⟩
   refine Wq<|Ws<|Rq z z z<|Rw z ?_
   obtain ⟨aF,hut,hmu⟩:=bdS<|ifF hup hcd;refine Wt (fun a w=>∃(xg:Bool),xg=aF/\Sat 80 [(9,.pointer<|some ⟨bl,om,none⟩),(71,vB xg)] a/\Below G.z G w) ?_ ?_
   ·refine Wc z (fun hch=>?_)<|fun hch=>?_
    ·exact a_f<|fun _ q=>⟨L.kind==8,som<|ifT hut hch,q.k<|s2 z z,br G⟩
    exact Wg<|Rq z z z<|Ra z<|Wl (fun _ q=>⟨L.kind==9,som<|ifF hut hch,q.k<|s2 z z,br G⟩)
   rintro aG _ ⟨xg,rfl,_,s7⟩;revert aG;refine Wo<|Wc z (fun hci=>?_) (fun hci=>?_)
   ·refine Wm z<|R z (A_ z)<|Rf z G_ z<|R z (l0 u_ z<|(h2.e s7).at (j:=7) z) ?_
    obtain ⟨_,aH,aa⟩:=bdS<|ifT hmu hci;refine RX z (at_ (α:=Int) o_ z_3 z z z (h4.e s7) aH) ?_;rintro _ ⟨_,_,_,rfl,aI,aJ,_⟩;obtain ⟨rfl,aK⟩:=J_ aJ;refine R z (l0 g_3 z<|aI.at0 z)<|Rw z ?_
    obtain rfl:=som aa;have ab:=elR hmc;obtain rfl:=som ab;have ad:=elR I;obtain rfl:=som ad;exact Wr<|rtO<|a_ hr z ⟨bup H s7,z,aK⟩
   exact a_f<|fun _ q=>⟨som<|ifF hmu hci,q.k sn,s7⟩
  rintro aL _ ⟨rfl,_,aM⟩;have ae:=elL hmc;revert aL;exact fun _ q=>⟨som ae,q.k sn,aM⟩
 rintro aN _ ⟨rfl,_,aO⟩;have af:=elL I;revert aN;refine Wo<|Ws<|Rw z ?_
 obtain rfl:=som af;exact Wr<|a_ hr z ⟨bup H aO,z,ii z⟩
structure k_5 (f:d_->Int->Val->Option Bool):Prop where
  run:∀{A0 A8 A9:Option Addr}{N0 C0 N8 C8 N9 C9 b3 o3:Nat}{B:Zone}{x1:d_}{x2:Int}{x3:Val}{res:Bool}{w0:World}(hm:f x1 x2 x3=some res)(hBw:B<=w0.z)(p1_0:repS w0 B (sl A0 N0 C0) x1.rules)(p2_0:inI x2)(p3_0:inI x3.number)(p3_1:repS w0 B (sl A8 N8 C8) x3.bytes)(p3_2:repS w0 B (sl A9 N9 C9) x3.items)(hC3:I_ w0 b3 o3 [vI x3.number,sl A8 N8 C8,sl A9 N9 C9])(hC3b:B b3),i_ prog 67 [(.agg #[sl A0 N0 C0]),vI x2,(.pointer<|some ⟨b3,o3,none⟩)] w0<|Q7 w0 B res
abbrev m_o (n:Nat):Prop:=k_5 (e_k n).impl_validValue
theorem T_w0d (a6:m_o n):k_5 (g_P n<|e_k n):=by
 constructor
 intro A0 A8 A9 N0 C0 N8 C8 N9 C9 b3 o3 B x1 x2 x3 res w0 hm L J V W Y H hC3 hC3b;unfold g_P at hm
 refine goG func67 z z z fun fn hr=>Ws<|E z (fb z) ?_
 rintro _ ws ⟨rfl,hd⟩;have h1:=hd.below;have he:Blk ws w0.z [sl A0 N0 C0]:=hd.blk;refine Rw z<|Wq<|Ws<|R z (lN (vs:=[sl A0 N0 C0]) B_ z_ z z fid<|he.row 0 1 z)<|RM z z ?_
 have hf:=hC3.e h1;obtain ⟨_,et,hmg⟩:=bdS hm;refine E z (fc call106 z<|W_w3c et (zt' L h1.s) (J.e h1) V W (Y.e h1) (H.e h1) hf hC3b) ?_;rintro _ I ⟨s2,rfl⟩;refine R z (not_ z)<|Wx z (fun O=>?_) (fun O=>?_)
 ·refine Ws<|Rw z ?_
  obtain rfl:=som<|ifT hmg O;exact Wr<|a_ hr z ⟨bup h1 s2,z⟩
 refine Wk<|Wq<|Wm z<|R z (A_ z)<|Rf z a_s z ?_
 have hh:=hf.e s2;refine R z (l0 a_y z<|hh.at (j:=2) z) ?_;have hi:=(h1.ag B).e s2;refine R z (lnR a_D z<|H.g hi)<|Rm z<|Wn ?_
 obtain ⟨_,huu,hmj⟩:=bdS<|ifF hmg O;refine Wf (σ:=Unit) (ρ:=Bool) (fun (k9:Nat)(_:Unit) a w=>Sat 42 [(1,vI x2),(2,.pointer<|some ⟨b3,o3,none⟩),(3,pt w0.z),(18,vI (x3.items.length:Int)),(19,vI ((k9:Nat):Int))] a/\Below I.z I w) (fun (_:Unit) a w=>Sat 42 [] a/\Below I.z I w) (rQ prog fn<|Q7 w0 B) huu ?_ ?_ ?_ ?_ ?_
 ·exact fun _ q=>⟨q.k<|s5 z z z z z,br I⟩
 ·rintro k9 _ _ _ _ hka ⟨hSv,s3⟩ hmw;refine Wu ?_ hSv;refine Ws<|Rl z z z<|Wn<|Wq<|Wc z (fun _=>?_) (fun hc=>(T_ hka hc).elim)
  refine Wk<|Wq<|Wb<|Wm z<|Rw z<|Ws ?_
  have hk:=(he.e s2).e s3;refine R z (lN (vs:=[sl A0 N0 C0]) B_ z_ z z fid<|hk.row 0 1 z)<|RM z z<|Rm z ?_
  have h6:=hi.e s3;have hl:=hh.e s3;have hn:=lt_ (lt_ h1.s s2.s) s3.s;obtain ⟨rx,ey,hmz⟩:=bdS hmw;refine E z (fc call69 z<|W_w1m ey (zt' L hn) (J.g h6) V W (Y.g h6) (H.g h6) hl hC3b<|ic (Nat.le_of_lt hka)<|lt_ (repS.len H) C_) ?_;rintro _ wm ⟨s4,rfl,a7⟩;refine Rw z<|Wq ?_
  obtain ⟨a8,huo,hmp⟩:=bdS hmz;refine Wt (fun a w=>∃(xb:Bool),xb=a8/\Sat 42 [(1,vI x2),(2,.pointer<|some ⟨b3,o3,none⟩),(3,pt w0.z),(18,vI (x3.items.length:Int)),(19,vI ((k9:Nat):Int)),(40,vB xb)] a/\Below wm.z wm w) ?_ ?_
  ·refine Wd (X:=noX) 0 (pl_ 14 [11]) mo (by kernel_rfl) fun ap s7 _=>dM z z z<|dR z z (lss z z)<|dM z z z ?_
   rcases bs (decide<|rx<0) with G | G
   ·iterate 8 refine dRn z z z G z ?_
    exact dEn z z z G z<|dRn z z z G z<|dR z z (pT z G z)<|pD (fun _ q=>⟨true,som<|ifT huo G,q.k<|s6 z z z z z z,s7⟩)
   refine dRg z z z G z (lN (vs:=[sl A0 N0 C0]) B_ z_ z z fid<|((hk.e s4).e s7).row 0 1 z)<|dRg z z z G z (mv z)<|dRg z z z G z (mv z)<|dRg z z z G z (A_ z)<|dRg z z z G z (fd a_s z)<|dRg z z z G z (l0 a_y z<|((hl.e s4).e s7).at (j:=2) z)<|dRg z z z G z (mv z) ?_
   obtain ⟨_,a9,a0⟩:=bdS<|ifF huo G;have hq:=(h6.e s4).e s7;refine b_M z z z G z (at_ (α:=Val) a_D h_ z z z (H.g hq) a9) ?_;rintro _ ⟨_,_,_,rfl,aa,ab,ad⟩;obtain ⟨_,_,_,_,_,_,rfl,ae,af,ah⟩:=i_4 ab;obtain ⟨ai,aj,a1⟩:=bdS a0;refine dEg z z z G z (fc call67 z<|a6.run aj (zt' L<|lt_ (lt_ hn s4.s) s7.s) (J.g hq) a7 ae af ah aa ad) (.inr fun _ _ h=>H_<|h.1) ?_;rintro _ _ ⟨ak,rfl⟩;exact dRg z z z G z (not_ z)<|dR z z (pF z G z)<|pD (fun _ q=>⟨!ai,som a1,q.k<|s6 z z z z z z,bup s7 ak⟩)
  rintro al _ ⟨xb,rfl,_,sr⟩;revert al;refine Wo<|Wc z (fun hcc=>?_) (fun hcc=>?_)
  ·exact Ws<|Rw z<|Wr<|rtO<|qL (som<|ifT hmp hcc).symm<|a_ hr z ⟨bup (bup (bup (bup h1 s2) s3) s4) sr,z⟩
  exact Wk<|Wg<|R z (inc_ hka (lt_ (repS.len H) C_) z z)<|Rm z<|Wl (fun _ q=>⟨(),(som<|ifF hmp hcc).symm,⟨q.k<|s5 z z z z z,bup (bup s3 s4) sr⟩⟩)
 ·rintro _ _ _ ⟨a2,am⟩;refine Wu ?_ a2;refine Ws<|Rl z z z<|Wn<|Wq<|Wc z (fun hc=>(U_ hc).elim) (fun _=>?_)
  exact We<|fun _ q=>⟨rfl,⟨q.k sn,am⟩⟩
 ·rintro _ an _ rfl ⟨_,ao⟩;have a3:=elL hmj;revert an;refine Wo<|Ws<|Rw z ?_
  obtain rfl:=som a3;exact Wr<|a_ hr z ⟨bup (bup h1 s2) ao,z⟩
 rintro _ _ _ _ rfl ⟨rfl,a4⟩;have a5:=elR hmj;obtain rfl:=som a5;exact ⟨a4,z⟩
theorem A_w0d:∀n,m_o n
  | 0=>⟨fun hm=>by intros;exact nomatch (show none=some _ from hm)⟩
  | n+1=>T_w0d<|A_w0d n
theorem W_w0d:k_5 (e_k n).impl_validValue:=A_w0d n
theorem W_w3d {x1:d_}{x2:Int}{x3:Val}{res:Bool}(hm:g_Q n x1 x2 x3=some res)(a1:B<=w0.z)(J:repS w0 B (sl A0 N0 C0) x1.rules)(L:inI x2)(W:inI x3.number)(Y:repS w0 B (sl A8 N8 C8) x3.bytes)(a0:repS w0 B (sl A9 N9 C9) x3.items):i_ prog 30 [(.agg #[sl A0 N0 C0]),vI x2,(.agg #[vI x3.number,sl A8 N8 C8,sl A9 N9 C9])] w0 (Q7 w0 B res):=by
 unfold g_Q at hm
 refine goG func30 z z z fun fn hr=>Ws<|E z (fb z) ?_
 rintro _ O ⟨rfl,V⟩;have h5:=V.below;refine E z (fb z) ?_;rintro _ H ⟨rfl,ha⟩;have h3:=ha.below;have hb:Blk H O.z [vI x3.number,sl A8 N8 C8,sl A9 N9 C9]:=ha.blk;refine Rw z<|Wq ?_
 obtain ⟨ug,huh,hmi⟩:=bdS hm;refine Wt (fun a w=>∃(x6:Bool),x6=ug/\Sat 15 [(6,vB x6)] a/\Below H.z H w) ?_ ?_
 ·refine Wg ?_;have hc:=(V.blk:Blk O w0.z [sl A0 N0 C0]).e h3;refine R z (lN (vs:=[sl A0 N0 C0]) B_ z_ z z fid<|hc.row 0 1 z)<|Rm z ?_
  have hd:=(h5.ag B).e h3;have h4:=zt' a1<|lt_ h5.s h3.s
  obtain ⟨rj,ek,hme⟩:=bdS huh;refine E z (fc call64 z<|j_S (B:=B) ek h4 (J.g hd) L) ?_;rintro _ _ ⟨s2,rfl⟩;refine Rm z ?_
  rcases bs rj with G | G
  ·refine Rh z G (lN (vs:=[sl A0 N0 C0]) B_ z_ z z fid<|(hc.e s2).row 0 1 z)<|Rh z G (mv z) ?_
   have I:=hd.e s2;obtain ⟨rl,em,hmn⟩:=bdS<|ifT hme G;refine Eg z z G z (fc call67 z<|W_w0d.run (B:=H.z) em (a_1 s2.s) (repS.mono (J.g I) h4) L W (repS.mono (Y.g I) h4) (repS.mono (a0.g I) h4) ((hb.e s2).row 0 3 z) hb.lt) ?_;rintro _ _ ⟨so,rfl⟩;exact R z (pT z G z)<|Ra z<|Wl (fun _ q=>⟨rl,som hmn,q.k<|s1 z,bup s2 so⟩)
  iterate 3 refine Nh z G ?_
  exact R z (pF z G z)<|Ra z<|Wl (fun _ q=>⟨false,som<|ifF hme G,q.k<|s1 z,s2⟩)
 rintro ap _ ⟨x6,rfl,_,sq⟩;revert ap;refine Wo ?_;obtain rfl:=som hmi;exact Wr<|a_ hr z ⟨bup (bup h5 h3) sq,z⟩
def Q33 (w0:World)(B:Zone)(r:c_l)(v:Value)(w':World):Prop:=Bw w0 w'/\(fun G=>∃H I J,(shV (sl H I J) G.1)=v/\repS w' w'.z (sl H I J) G.2) r
theorem W_w3e {x1:b_}{res:c_l}(hm:b_W x1=some res)(a1:B<=w0.z)(a2:x1.name.b.length<=LEN)(a3:inI x1.kind)(a4:inI x1.size)(a5:repS w0 B (sl AB NB CB) x1.bytes)(a0:repS w0 B (sl AA NA CA) x1.names)(a6:repS w0 B (sl AC NC CC) x1.tags)(a7:repS w0 B (sl AD ND CD) x1.kids):i_ prog 70 [(.agg #[Str.v x1.name,vI x1.kind,vI x1.size,vB x1.little,sl AB NB CB,sl AA NA CA,sl AC NC CC,sl AD ND CD])] w0 (Q33 w0 B res):=by
 unfold b_W at hm
 refine goG func70 z z z fun fn hr=>Ws<|E z (fb z) ?_
 rintro _ wg ⟨rfl,Y⟩;have G:=Y.below;have h9:Blk wg w0.z (vR x1 AB NB CB AA NA CA AC NC CC AD ND CD):=Y.blk;refine Rw z<|Wq<|Ws<|Rf z a_a z<|R z (l0 g_3 z<|h9.at z)<|Wn<|Wb<|Ws<|Rq z z z<|Rw z<|Wc z (fun H=>?_) (fun H=>?_)
 ·refine Ws<|R z (bP (parts:=[]) (cs:=[]) q_s z z)<|R z (c_H d_114 (fun _ h=>by cases h) z)<|Rw z ?_
  obtain rfl:=som<|ifT hm H;exact Wr<|rtO<|a_ hr z ⟨G,none,0,0,z,repS.mono (or_ onL an_)<|a_1 G.s⟩
 have hma:=ifF hm H;refine Ws<|Rq z z z<|Rw z<|Wc z (fun I=>?_) (fun I=>?_)
 ·refine Ws<|R z (bP (parts:=[]) (cs:=[]) q_t z z)<|R z (c_H d_115 (fun _ h=>by cases h) z)<|Rw z ?_
  obtain rfl:=som<|ifT hma I;exact Wr<|rtO<|a_ hr z ⟨G,none,0,0,z,repS.mono (or_ onL an_)<|a_1 G.s⟩
 have hmb:=ifF hma I;refine Ws<|Rq z z z<|Rw z<|Wc z (fun J=>?_) (fun J=>?_)
 ·refine Ws<|R z (bP (parts:=[]) (cs:=[]) q_u z z)<|R z (c_H d_116 (fun _ h=>by cases h) z)<|Rw z ?_
  obtain rfl:=som<|ifT hmb J;exact Wr<|rtO<|a_ hr z ⟨G,none,0,0,z,repS.mono (or_ onL an_)<|a_1 G.s⟩
 have hmc:=ifF hmb J;refine Ws<|Rq z z z<|Rw z<|Wc z (fun L=>?_) (fun L=>?_)
 ·refine Ws<|Rf z b_y z<|R z (l0 a_A z<|h9.at z)<|R z (bP (parts:=[(0,.tmp 20)]) (cs:=[sl AA NA CA]) q_v z z)<|R z (c_H d_119 (fun _ h=>by cases h) z)<|Rw z ?_
  obtain rfl:=som<|ifT hmc L;exact Wr<|rtO<|a_ hr z ⟨G,AA,NA,CA,z,repS.mono (a0.e G)<|zt' a1 G.s⟩
 have hmd:=ifF hmc L;refine Ws<|Rq z z z<|Rw z<|Wc z (fun O=>?_) (fun O=>?_)
 ·refine Ws<|R z (bP (parts:=[]) (cs:=[]) q_w z z)<|R z (c_H d_120 (fun _ h=>by cases h) z)<|Rw z ?_
  obtain rfl:=som<|ifT hmd O;exact Wr<|rtO<|a_ hr z ⟨G,none,0,0,z,repS.mono (or_ onL an_)<|a_1 G.s⟩
 have hme:=ifF hmd O;refine Ws<|Rq z z z<|Rw z<|Wc z (fun V=>?_) (fun V=>?_)
 ·refine Ws<|R z (bP (parts:=[]) (cs:=[]) q_x z z)<|R z (c_H d_121 (fun _ h=>by cases h) z)<|Rw z ?_
  obtain rfl:=som<|ifT hme V;exact Wr<|rtO<|a_ hr z ⟨G,none,0,0,z,repS.mono (or_ onL an_)<|a_1 G.s⟩
 have hmf:=ifF hme V;refine Ws<|Rq z z z<|Rw z<|Wc z (fun W=>?_) (fun W=>?_)
 ·refine Ws<|R z (bP (parts:=[]) (cs:=[]) q_y z z)<|R z (c_H d_122 (fun _ h=>by cases h) z)<|Rw z ?_
  obtain rfl:=som<|ifT hmf W;exact Wr<|rtO<|a_ hr z ⟨G,none,0,0,z,repS.mono (or_ onL an_)<|a_1 G.s⟩
 refine Wk<|Ws<|R z (bP (parts:=[]) (cs:=[]) q_z z z)<|R z (c_H d_157 (fun _ h=>by cases h) z)<|Rw z ?_
 obtain rfl:=som<|ifF hmf W;exact Wr<|a_ hr z ⟨G,none,0,0,z,repS.mono (or_ onL an_)<|a_1 G.s⟩
theorem W_w1n {x1:Int}{res:Str}(hm:g_E x1=some res)(H:B<=w0.z)(hG:Gl w0 B)(G:inI x1):i_ prog 71 [vI x1] w0 (Q8 w0 B res):=by
 unfold g_E at hm
 refine goG func71 z z z fun fn hr=>Ws<|Rw z<|Wm z ?_
 obtain ⟨_,J,I⟩:=bdS hm;refine E z (fc call107 z<|p_T (B:=B) J H hG G) ?_;rintro _ _ ⟨s2,rfl,h3⟩;refine Rw z ?_
 obtain rfl:=som I;exact Wr<|a_ hr z ⟨s2,z,h3⟩
theorem W_w1o {x1:List Str}{x2:Str}{res:Str}(hm:f_8 x1 x2=some res)(I:B<=w0.z)(G:repS w0 B (sl A0 N0 C0) x1)(H:x2.b.length<=LEN):i_ prog 72 [sl A0 N0 C0,Str.v x2] w0 (Q8 w0 B res):=by
 unfold f_8 at hm
 refine goG func72 z z z fun fn hr=>Ws<|Rw z<|Wm z<|Rm z ?_
 obtain ⟨_,L,J⟩:=bdS hm;refine E z (fc call108 z<|p_V (B:=B) L I G H) ?_;rintro _ _ ⟨s2,rfl,h3⟩;refine Rw z ?_
 obtain rfl:=som J;exact Wr<|a_ hr z ⟨s2,z,h3⟩
theorem W_w3f {x1:Int}{x2:Str}{x3:Str}{x4:Str}{res:Str}(hm:i_7 x1 x2 x3 x4=some res)(I:B<=w0.z)(hG:Gl w0 B)(H:inI x1)(a0:x2.b.length<=LEN)(a1:x3.b.length<=LEN)(a2:x4.b.length<=LEN):i_ prog 73 [vI x1,Str.v x2,Str.v x3,Str.v x4] w0 (Q8 w0 B res):=by
 unfold i_7 at hm
 refine goG func73 z z z fun fn hr=>Ws<|Rw z<|Wm z ?_
 obtain ⟨_,W,J⟩:=bdS hm;refine E z (fc call71 z<|W_w1n (B:=B) W I hG H) ?_;rintro _ _ ⟨s3,rfl,_⟩;refine Rm z ?_;obtain ⟨_,Y,L⟩:=bdS J;refine R z (a_j z z Y)<|Rm z ?_
 obtain ⟨_,e6,O⟩:=bdS L;refine R z (a_j z z e6)<|Rm z ?_
 obtain ⟨_,G,V⟩:=bdS O;refine R z (a_j z z G)<|Rw z ?_
 obtain rfl:=som V;exact Wr<|a_ hr z ⟨s3,z,b_0 G⟩
theorem W_w3g {x1:List UInt8}{res:Str}(hm:g_R x1=some res)(a8:B<=w0.z)(L:repS w0 B (sl A0 N0 C0) x1):i_ prog 74 [sl A0 N0 C0] w0 (Q8 w0 B res):=by
 unfold g_R at hm
 refine goG func74 z z z fun fn hr=>Ws<|Rw z<|Wm z<|R z (lnR k_ z L)<|R z (e_u z z) ?_
 obtain ⟨_,ep,hmq⟩:=bdS hm;refine E z (n_g (α:=UInt8) b_q ep z z) ?_;rintro _ G ⟨ar,ns,ct,rfl,sa,hu⟩;refine Rw z<|Wq<|Wm z<|R z (lnR k_ z<|L.e sa)<|Rm z<|Wn ?_
 obtain ⟨_,huv,hmh⟩:=bdS hmq;refine Wf (σ:=List UInt8) (ρ:=Str) (fun (ki:Nat)(x5:List UInt8) a w=>∃a2 I J H,Sat 28 [(3,sl a2 I J),(10,sl A0 N0 C0),(11,vI (x1.length:Int)),(12,vI ((ki:Nat):Int))] a/\Chg (· ∈ [w0.z]) G w/\c_ w H (sl a2 I J) x5/\H.Nodup/\(∀k∈H,k∈[w0.z]∨G.z<=k)) (fun (x5:List UInt8) a w=>∃a2 I J H,Sat 28 [(3,sl a2 I J)] a/\Chg (· ∈ [w0.z]) G w/\c_ w H (sl a2 I J) x5/\H.Nodup/\(∀k∈H,k∈[w0.z]∨G.z<=k)) (rQ prog fn<|Q8 w0 B) huv ?_ ?_ ?_ ?_ ?_
 ·exact fun _ q=>⟨ar,ns,ct,[w0.z],q.k<|s4 z z z z,cr [w0.z] G,hu,b_l,io sr⟩
 ·rintro ki x5 _ ww _ hkj ⟨a2,I,J,H,hSx,sb,h6,O,V⟩ hmy;refine Wu ?_ hSx;refine Ws<|Rl z z z<|Wn<|Wq<|Wc z (fun _=>?_) (fun hc=>(T_ hkj hc).elim)
  refine Wk<|Wq<|Wb<|Ws ?_
  obtain ⟨_,ez,Y⟩:=bdS hmy;refine RX z (at_ (α:=UInt8) k_ z_5 z z z (L.g<|(sa.ag B).c sb<|e_ (or0 (f_ lr) (q_ a8):∀k∈[w0.z],¬B k)) ez) ?_;rintro _ ⟨_,_,_,rfl,a9,aa,_⟩;obtain rfl:=u8 aa;refine R z (l0 g_5 z<|a9.at0 z)<|Ra z<|Wn (Wd (X:=noX) 256 (pl_ 10 [7,8]) mo (by kernel_rfl) fun W sc _=>dM z z z<|dM z z z<|dR z z (n_v z z ⟨by decide,by decide⟩) ?_)
  obtain ⟨xd,ek,a0⟩:=bdS Y;refine dR z z (b_D d_9 z z (a_h ek).1 (a_h ek).2.1)<|dM z z z<|dR z z (n_w (b:=(15:UInt8)) z z) ?_
  obtain ⟨xe,el,a1⟩:=bdS a0;refine dR z z (b_D d_9 z z (a_h el).1 (a_h el).2.1)<|dE z z (fS [(.tmp 19),(.tmp 22)] b_q z z z (b_X z) (lb z)<|lb z) (.inr fun _ _ h=>H_<|h.2.below) ?_
  rintro _ wf ⟨rfl,hn⟩;have hg:=hn.below;obtain ⟨ab,ad,a3⟩:=bdS a1;refine dE z z (fN (α:=UInt8) b_q ad z z ((h6.e sc).e hg) O<|c_.rep (m_u (l:=[xd,xe]) (hn.blk:Blk wf W.z [vU (byteI xd),vU<|byteI xe]) z:c_ wf [W.z] (sl (some ⟨W.z,0,none⟩) 2 2) [xd,xe])) (.inl z) ?_;rintro _ ae ⟨Sm,af,ah,ai,rfl,aj,ak,al,am⟩;refine dQ z z z<|pD<|Wo<|Wg<|R z (inc_ hkj (lt_ (repS.len L) C_) z z)<|Rm z<|Wl ?_
  have ho:∀k∈H,k∈[w0.z]∨G.z<=k:=or1 V (io sr)<|S_ lr;exact fun _ q=>⟨ab,(som a3).symm,⟨af,ah,ai,Sm,q.k<|s4 z z z z,(cM (g_ (g_ (cM (cr [w0.z] G) sb (io sr):Chg (· ∈ [w0.z]) G ww) sc:Chg (· ∈ [w0.z]) G W) hg:Chg (· ∈ [w0.z]) G wf) aj ho:Chg (· ∈ [w0.z]) G ae),ak,al,(or1 am ho (S_<|lt_ (lt_ sb.s sc.s) hg.s):∀k∈Sm,k∈[w0.z]∨G.z<=k)⟩⟩
 ·rintro x5 _ an ⟨a2,I,J,H,a4,ao,h6,O,V⟩;refine Wu ?_ a4;refine Ws<|Rl z z z<|Wn<|Wq<|Wc z (fun hc=>(U_ hc).elim) (fun _=>?_)
  exact We<|fun _ q=>⟨rfl,⟨a2,I,J,H,q.k<|s1 z,(cM (cr [w0.z] G) ao (io sr):Chg (· ∈ [w0.z]) G an),h6,O,(or1 V (io sr) (S_ lr):∀k∈H,k∈[w0.z]∨G.z<=k)⟩⟩
 ·rintro x5 ap _ rfl ⟨a2,I,J,H,_,aq,h6,O,V⟩;have a5:=elL hmh;revert ap;refine Wo<|Wm z<|R z (k_A k_ d_9 d_5 z_5 z<|c_.rep h6)<|Rw z ?_
  obtain rfl:=som a5;exact Wr<|a_ hr z ⟨bM sa aq<|f_ lr,z,repS.len<|c_.rep h6⟩
 rintro _ _ _ _ rfl ⟨rfl,a6⟩;have a7:=elR hmh;obtain rfl:=som a7;exact ⟨a6,z⟩
structure k_6 (f:d_->Int->Val->Option Str):Prop where
  run:∀{A0 A8 A9:Option Addr}{N0 C0 N8 C8 N9 C9 b3 o3:Nat}{B:Zone}{x1:d_}{x2:Int}{x3:Val}{res:Str}{w0:World}(hm:f x1 x2 x3=some res)(hBw:B<=w0.z)(hG:Gl w0 B)(p1_0:repS w0 B (sl A0 N0 C0) x1.rules)(p2_0:inI x2)(p3_0:inI x3.number)(p3_1:repS w0 B (sl A8 N8 C8) x3.bytes)(p3_2:repS w0 B (sl A9 N9 C9) x3.items)(hC3:I_ w0 b3 o3 [vI x3.number,sl A8 N8 C8,sl A9 N9 C9])(hC3b:B b3),i_ prog 31 [(.agg #[sl A0 N0 C0]),vI x2,(.pointer<|some ⟨b3,o3,none⟩)] w0<|Q8 w0 B res
structure k_7 (f:Int->d_->Int->Val->Option Str):Prop where
  run:∀{A6 AH AI:Option Addr}{N6 C6 b2 o2 b3 o3 NH CH NI CI b4_0 o4_0 b4 o4:Nat}{B:Zone}{x1:Int}{x2:d_}{x3:Int}{x4:Val}{res:Str}{w0:World}(hm:f x1 x2 x3 x4=some res)(hBw:B<=w0.z)(hG:Gl w0 B)(p1_0:inI x1)(p2_0:repS w0 B (sl A6 N6 C6) x2.rules)(hC2:I_ w0 b2 o2 [sl A6 N6 C6])(hC2b:B b2)(p3_0:inI x3)(hC3:I_ w0 b3 o3 [vI x3])(hC3b:B b3)(p4_0_0:inI x4.number)(p4_0_1:repS w0 B (sl AH NH CH) x4.bytes)(p4_0_2:repS w0 B (sl AI NI CI) x4.items)(p4_0:I_ w0 b4_0 o4_0 [vI x4.number,sl AH NH CH,sl AI NI CI])(p4_0b:B b4_0)(hC4:I_ w0 b4 o4 [(.pointer<|some ⟨b4_0,o4_0,none⟩)])(hC4b:B b4),i_ prog 68 [vI x1,.pointer<|some ⟨b2,o2,none⟩,.pointer<|some ⟨b3,o3,none⟩,(.pointer<|some ⟨b4,o4,none⟩)] w0<|Q8 w0 B res
abbrev k_8 (n:Nat):Prop:=k_6 (a_B n).impl_valueText/\k_7 (a_B n).impl_valueText_1
theorem T_w0a (ih:k_8 n):k_6 (a_F n<|a_B n):=by
 obtain ⟨_,aj⟩:=ih
 constructor
 intro A0 A8 A9 N0 C0 N8 C8 N9 C9 b3 o3 B x1 x2 x3 res w0 hm O hG a2 a9 a0 a3 V hC3 hC3b;unfold a_F at hm
 refine goG func31 z z z fun fn hr=>Ws<|E z (fb z) ?_
 rintro _ ap ⟨rfl,bb⟩;have h4:=bb.below;have he:Blk ap w0.z [sl A0 N0 C0]:=bb.blk;refine E z (fb z) ?_;rintro _ ar ⟨rfl,bc⟩;have h2:=bc.below;have hf:Blk ar ap.z [vI x2]:=bc.blk;refine E z (fb z) ?_;rintro _ a4 ⟨rfl,be⟩;have h1:=be.below;have h5:Blk a4 ar.z [(.pointer<|some ⟨b3,o3,none⟩)]:=be.blk;refine Rw z<|Ws<|R z (i_f z)<|Rw z<|Wq<|Ws<|Rf z a_5 z ?_
 have a5:=(he.e h2).e h1;refine R z (l0 a_9 z<|a5.at z) ?_;have a6:=hf.e h1;refine R z (l0 g_3 z<|a6.at z) ?_;obtain ⟨cO,cP,c8⟩:=bdS hm;have a1:=((h4.ag B).e h2).e h1;refine RX z (at_ (α:=b_) Z_ l_ z z z (a2.g a1) cP) ?_;rintro _ ⟨_,_,_,rfl,cQ,cR,_⟩;obtain ⟨cS,cT,cU,cV,cW,cX,cY,cZ,d0,d1,d2,d3,rfl,d4,d5,d6,d7,d8,d9,da⟩:=a_u cR;refine R z (lN (vs:=vR cO cS cT cU cV cW cX cY cZ d0 d1 d2 d3) D_ l_ z z fid cQ) ?_;have hj:=lt_ (lt_ h4.s h2.s) h1.s;have h3:=zt' O hj;obtain ⟨ry,db,b0⟩:=bdS c8;refine E z (fc call70 z<|W_w3e (B:=B) db h3 d4 d5 d6 d7 d8 d9 da) ?_;rintro _ wa ⟨G,bf,bg,bh,rfl,au⟩;refine Wn<|Wb<|Ws ?_
 rcases bs (ry.1==1) with aa | aa
 ·refine R z (ta_114 z aa)<|Re z z z<|Re z z z<|Wx z (fun _=>?_) (fun hc=>(b_c z hc).elim)
  refine Ws<|E z (fa q_G) ?_
  rintro _ dc ⟨rfl,bi⟩;have ak:=bi.below;refine E0 (fs0 (cur':=[]) z_114 z z (bi.blk:Blk dc wa.z []) z z z z) ?_;rintro _ _ ⟨_,dd⟩;have am:=dd.one;refine Wn<|Ws<|R z (l0 e_f z<|(((h5.e G).e ak).c am<|djs<|mm1 h5.lt G.s).at z)<|R z (A_ z)<|Rf z b_9 z ?_
  have aD:=lt_ hj G.s;have bj:∀k∈[wa.z],¬B k:=or0 (f_ lr)<|q_<|zt' O aD;refine R z (l0 g_3 z<|((((((hC3.e h4).e h2).e h1).e G).e ak).c am<|(e_ bj) _ hC3b).at (j:=0) z) ?_;obtain ⟨_,de,c9⟩:=bdS<|ifT b0 aa;refine E z (fc call71 z<|W_w1n de (zt' O<|lt_ (lt_ aD ak.s) am.s) ((((((hG.e h4).e h2).e h1).e G).e ak).c am<|e_ bj) a0) ?_;rintro _ _ ⟨df,rfl,dg⟩;refine Rw z ?_
  obtain rfl:=som c9;exact Wr<|rtO<|a_ hr z ⟨bup (bM (bup (bup (bup (bup h4 h2) h1) G) ak) am<|m1 aD) df,z,dg⟩
 have b1:=ifF b0 aa;refine R z (q_j z aa)<|Re z z z<|Re z z z<|Wx z (fun hc=>(b_c hc z).elim) (fun _=>?_)
 refine Ws ?_
 rcases bs (ry.1==2) with ab | ab
 ·refine R z (ta_115 z ab)<|Re z z z<|Re z z z<|Wx z (fun _=>?_) (fun hc=>(b_c z hc).elim)
  refine Ws<|E z (fa q_H) ?_
  rintro _ dh ⟨rfl,bk⟩;refine E0 (fs0 (cur':=[]) z_115 z z (bk.blk:Blk dh wa.z []) z z z z) ?_;rintro _ _ ⟨_,di⟩;refine Wn<|Ws<|Rw z ?_
  obtain rfl:=som<|ifT b1 ab;exact Wr<|rtO<|a_ hr z ⟨bM (bup (bup (bup (bup h4 h2) h1) G) bk.below) di.one<|m1<|lt_ hj G.s,z,lb z⟩
 have b2:=ifF b1 ab;refine R z (q_k z ab)<|Re z z z<|Re z z z<|Wx z (fun hc=>(b_c hc z).elim) (fun _=>?_)
 refine Ws ?_
 rcases bs (ry.1==5) with ad | ad
 ·refine R z (ta_116 z ad)<|Re z z z<|Re z z z<|Wx z (fun _=>?_) (fun hc=>(b_c z hc).elim)
  refine Ws<|E z (fa q_I) ?_
  rintro _ dj ⟨rfl,bm⟩;have hh:=bm.below;refine E0 (fs0 (cur':=[]) z_116 z z (bm.blk:Blk dj wa.z []) z z z z) ?_;rintro _ H ⟨_,dk⟩;have hi:=dk.one;refine Wn<|Ws<|E z (f0 (α:=Str) a_S) ?_
  rintro _ J ⟨dl,dm,dn,rfl,sz,dp⟩;refine Rw z<|Wq<|Ws ?_
  have bn:=(((h5.e G).e hh).c hi<|djs<|mm1 h5.lt G.s).e sz;refine R z (l0 e_f z<|bn.at z)<|R z (A_ z)<|Rf z a_s z ?_
  have av:=lt_ hj G.s;have aE:∀k∈[wa.z],¬B k:=or0 (f_ lr)<|q_<|zt' O av;have bo:=((((((hC3.e h4).e h2).e h1).e G).e hh).c hi<|(e_ aE) _ hC3b).e sz;refine R z (l0 a_y z<|bo.at (j:=2) z) ?_;have bp:=(((a1.e G).e hh).c hi<|e_ aE).e sz;refine R z (lnR a_D z<|V.g bp)<|Rm z<|Wn ?_
  obtain ⟨_,ca,b4⟩:=bdS<|ifT b2 ad;refine Wf (σ:=List Str) (ρ:=Str) (fun (bq:Nat)(a7:List Str) a w=>∃al nn co Sc,Sat 122 [(7,.func (.func 68) #[] #[pt w0.z,pt ap.z,pt ar.z]),(11,sl al nn co),(46,vI (x3.items.length:Int)),(47,vI ((bq:Nat):Int))] a/\Chg (· ∈ [H.z]) J w/\c_ w Sc (sl al nn co) a7/\Sc.Nodup/\(∀k∈Sc,k∈[H.z]∨J.z<=k)) (fun (a7:List Str) a w=>∃al nn co Sc,Sat 122 [(11,sl al nn co)] a/\Chg (· ∈ [H.z]) J w/\c_ w Sc (sl al nn co) a7/\Sc.Nodup/\(∀k∈Sc,k∈[H.z]∨J.z<=k)) (rQ prog fn<|Q8 w0 B) ca ?_ ?_ ?_ ?_ ?_
  ·exact fun _ q=>⟨dl,dm,dn,[H.z],q.k<|s4 z z z z,cr [H.z] J,dp,b_l,io sr⟩
  ·rintro bq a7 _ dq _ aA ⟨al,nn,co,Sc,cb,sp,an,aw,ax⟩ cc;refine Wu ?_ cb;refine Ws<|Rl z z z<|Wn<|Wq<|Wc z (fun _=>?_) (fun hc=>(T_ aA hc).elim)
   refine Wk<|Wq<|Wb<|Wm z<|Rw z<|Wg<|RM z z<|Rm z ?_
   have br:=lt_ h2.s h1.s;have bt:=lt_ br G.s;have aF:∀k∈[H.z],¬B k:=or0 (f_ lr)<|q_<|zt' O<|lt_ (lt_ av hh.s) hi.s;have aG:=bp.c sp<|e_ aF
   have bu:=lt_ h1.s G.s;have bv:=lt_ (lt_ G.s hh.s) hi.s;obtain ⟨dr,ds,cd⟩:=bdS cc;refine E z (d_h call68 z z<|aj.run (B:=a4.z) ds (a_1<|lt_ (lt_ bv sz.s) sp.s) (((((((((hG.e h4).e h2).e h1).e G).e hh).c hi<|e_ aE).e sz).c sp<|e_ aF).mono h3) (ic (Nat.le_of_lt aA)<|lt_ (repS.len V) C_) (repS.mono (a2.g aG) h3) ((((((a5.e G).e hh).c hi<|djs<|mm1 he.lt bt).e sz).c sp<|djs<|mm1 he.lt<|lt_ (lt_ bt hh.s) hi.s).row 0 1 z) (zap' (a_1 br) he.lt) a9 ((((((a6.e G).e hh).c hi<|djs<|mm1 hf.lt bu).e sz).c sp<|djs<|mm1 hf.lt<|lt_ (lt_ bu hh.s) hi.s).row 0 1 z) (zap' (a_1 h1.s) hf.lt) a0 (repS.mono (a3.g aG) h3) (repS.mono (V.g aG) h3) (bo.c sp<|(e_ aF) _ hC3b) (zap' h3 hC3b) ((bn.c sp<|djs<|mm1 h5.lt bv).row 0 1 z) h5.lt) ?_;rintro _ bw ⟨aH,rfl,bx⟩;refine E z (fS [(.tmp 53)] a_S z z z (b_X z) (lb z)<|lb z) ?_;rintro _ bz ⟨rfl,aI⟩;have aJ:=aI.below;have eJ:=c_V aI<|b_K bx
   obtain ⟨dt,du,ce⟩:=bdS cd;refine E z (c_E (α:=Str) a_S du z z ((an.e aH).e aJ) aw (aI.blk:Blk bz bw.z [Str.v dr]) (b_K bx) an_ a_q) ?_;rintro _ dv ⟨bA,dw,dx,dy,rfl,dz,dA,dB,dC⟩;refine Rw z<|Wg<|R z (inc_ aA (lt_ (repS.len V) C_) z z)<|Rm z<|Wl ?_
   have bB:∀k∈Sc,k∈[H.z]∨J.z<=k:=or1 ax (io sr)<|S_ lr;exact fun _ q=>⟨dt,(som ce).symm,⟨dw,dx,dy,bA,q.k<|s4 z z z z,(cM (g_ (g_ (cM (cr [H.z] J) sp (io sr):Chg (· ∈ [H.z]) J dq) aH:Chg (· ∈ [H.z]) J bw) aJ:Chg (· ∈ [H.z]) J bz) dz bB:Chg (· ∈ [H.z]) J dv),dA,dB,(or2 dC bB an_ (S_<|lt_ (lt_ sp.s aH.s) aJ.s):∀k∈bA,k∈[H.z]∨J.z<=k)⟩⟩
  ·rintro a7 _ dD ⟨al,nn,co,Sc,cf,dF,an,aw,ax⟩;refine Wu ?_ cf;refine Ws<|Rl z z z<|Wn<|Wq<|Wc z (fun hc=>(U_ hc).elim) (fun _=>?_)
   exact We<|fun _ q=>⟨rfl,⟨al,nn,co,Sc,q.k<|s1 z,(cM (cr [H.z] J) dF (io sr):Chg (· ∈ [H.z]) J dD),an,aw,(or1 ax (io sr) (S_ lr):∀k∈Sc,k∈[H.z]∨J.z<=k)⟩⟩
  ·rintro a7 dG dH rfl ⟨al,nn,co,Sc,_,dI,an,aw,ax⟩;have cg:=elL b4;revert dG;refine Wo<|Wm z ?_
   obtain ⟨_,dJ,ch⟩:=bdS cg;refine E z (fc call72 z<|W_w1o (B:=dH.z) dJ zr (c_.rep an)<|lb z) ?_;rintro _ _ ⟨dK,rfl,_⟩;obtain ⟨_,dL,ci⟩:=bdS ch;refine R z (a_j z z dL) ?_;obtain ⟨_,bC,cj⟩:=bdS ci;refine R z (a_j z z bC)<|Rw z ?_
   obtain rfl:=som cj;exact Wr<|rtO<|a_ hr z ⟨bup (bM (bup (bM (bup (bup (bup (bup h4 h2) h1) G) hh) hi<|m1 av) sz) dI<|m1<|lt_ (lt_ av hh.s) hi.s) dK,z,b_0 bC⟩
  rintro _ _ _ _ rfl ⟨rfl,ck⟩;have cl:=elR b4;obtain rfl:=som cl;exact ⟨ck,z⟩
 have b5:=ifF b2 ad;refine R z (q_l z ad)<|Re z z z<|Re z z z<|Wx z (fun hc=>(b_c hc z).elim) (fun _=>?_)
 refine Ws ?_
 rcases bs (ry.1==6) with ae | ae
 ·refine R z (ta_119 z ae)<|Re z z z<|Re z z z<|Wx z (fun _=>?_) (fun hc=>(b_c z hc).elim)
  refine Ws<|E z (fa q_J) ?_
  rintro _ dN ⟨rfl,bD⟩;have hb:=bD.below;refine E0 (fs0 (cur':=[sl bf bg bh]) z_119 z z (bD.blk:Blk dN wa.z [sl none 0 0]) z z z z) ?_;rintro _ I ⟨dO,dP⟩;have hd:=dP.one;refine Wn<|Ws<|E z (f0 (α:=Str) a_S) ?_
  rintro _ L ⟨dS,dT,dU,rfl,sk,dV⟩;refine Rw z<|Wq<|Ws<|Rf z q_E z<|R z (l0 a_A z<|(dO.e sk).at z) ?_
  have bE:=((hb.ag<|bl wa.z).c hd<|lg<|f_ lr).e sk;refine R z (lnR R_ z<|au.g bE)<|Rm z<|Wn ?_
  obtain ⟨_,cm,b6⟩:=bdS<|ifT b5 ae;refine Wf (σ:=List Str) (ρ:=Str) (fun (bF:Nat)(a8:List Str) a w=>∃aq nr cs Sg,Sat 122 [(7,.func (.func 68) #[] #[pt w0.z,pt ap.z,pt ar.z]),(14,sl aq nr cs),(66,sl bf bg bh),(67,vI (ry.2.length:Int)),(68,vI ((bF:Nat):Int))] a/\Chg (· ∈ [I.z]) L w/\c_ w Sg (sl aq nr cs) a8/\Sg.Nodup/\(∀k∈Sg,k∈[I.z]∨L.z<=k)) (fun (a8:List Str) a w=>∃aq nr cs Sg,Sat 122 [(14,sl aq nr cs)] a/\Chg (· ∈ [I.z]) L w/\c_ w Sg (sl aq nr cs) a8/\Sg.Nodup/\(∀k∈Sg,k∈[I.z]∨L.z<=k)) (rQ prog fn<|Q8 w0 B) cm ?_ ?_ ?_ ?_ ?_
  ·exact fun _ q=>⟨dS,dT,dU,[I.z],q.k<|s5 z z z z z,cr [I.z] L,dV,b_l,io sr⟩
  ·rintro bF a8 _ dW _ aB ⟨aq,nr,cs,Sg,cn,sm,ao,ay,az⟩ cp;refine Wu ?_ cn;refine Ws<|Rl z z z<|Wn<|Wq<|Wc z (fun _=>?_) (fun hc=>(T_ aB hc).elim)
   refine Wk<|Wq<|Wb<|Wm z ?_
   obtain ⟨_,dX,cq⟩:=bdS cp;refine RX z (at_ (α:=Str) R_ z_9 z z z (au.g<|bE.c sm<|lg<|m1<|lt_ hb.s hd.s) dX) ?_;rintro _ ⟨_,_,_,rfl,dY,dZ,_⟩;obtain ⟨rfl,_⟩:=a_U dZ;refine R z (l0 g_9 z<|dY.at0 z)<|Ra z<|Rw z<|Wg<|RM z z ?_
   obtain ⟨_,e0,ct⟩:=bdS cq;refine R z (a_j z z e0)<|RM z z ?_
   have bG:=lt_ h2.s h1.s;have bH:=lt_ bG G.s;have bI:=lt_ hj G.s;have aK:∀k∈[wa.z],¬B k:=or0 (f_ lr)<|q_<|zt' O bI;have aL:∀k∈[I.z],¬B k:=or0 (f_ lr)<|q_<|zt' O<|lt_ (lt_ bI hb.s) hd.s;have aM:=((((a1.e G).e hb).c hd<|e_ aK).e sk).c sm<|e_ aL
   have bJ:=lt_ h1.s G.s;have bK:=lt_ (lt_ G.s hb.s) hd.s;obtain ⟨_,e1,cu⟩:=bdS ct;refine E z (d_h call68 z z<|aj.run (B:=a4.z) e1 (a_1<|lt_ (lt_ bK sk.s) sm.s) (((((((((hG.e h4).e h2).e h1).e G).e hb).c hd<|e_ aK).e sk).c sm<|e_ aL).mono h3) (ic (Nat.le_of_lt aB)<|lt_ (repS.len au) C_) (repS.mono (a2.g aM) h3) ((((((a5.e G).e hb).c hd<|djs<|mm1 he.lt bH).e sk).c sm<|djs<|mm1 he.lt<|lt_ (lt_ bH hb.s) hd.s).row 0 1 z) (zap' (a_1 bG) he.lt) a9 ((((((a6.e G).e hb).c hd<|djs<|mm1 hf.lt bJ).e sk).c sm<|djs<|mm1 hf.lt<|lt_ (lt_ bJ hb.s) hd.s).row 0 1 z) (zap' (a_1 h1.s) hf.lt) a0 (repS.mono (a3.g aM) h3) (repS.mono (V.g aM) h3) ((((((((hC3.e h4).e h2).e h1).e G).e hb).c hd<|(e_ aK) _ hC3b).e sk).c sm<|(e_ aL) _ hC3b) (zap' h3 hC3b) ((((((h5.e G).e hb).c hd<|djs<|mm1 h5.lt G.s).e sk).c sm<|djs<|mm1 h5.lt bK).row 0 1 z) h5.lt) ?_;rintro _ bL ⟨aN,rfl,_⟩;obtain ⟨e2,aO,cv⟩:=bdS cu;refine R z (a_j z z aO)<|E z (fS [(.tmp 79)] a_S z z z (b_X z) (lb z)<|lb z) ?_
   rintro _ bN ⟨rfl,aP⟩;have aQ:=aP.below;have eH:=c_V aP<|b_K<|b_0 aO
   obtain ⟨e3,e4,cw⟩:=bdS cv;refine E z (c_E (α:=Str) a_S e4 z z ((ao.e aN).e aQ) ay (aP.blk:Blk bN bL.z [Str.v e2]) (b_K<|b_0 aO) an_ a_q) ?_;rintro _ e5 ⟨bO,e6,e7,e8,rfl,e9,ea,eb,ec⟩;refine Rw z<|Wg<|R z (inc_ aB (lt_ (repS.len au) C_) z z)<|Rm z<|Wl ?_
   have bP:∀k∈Sg,k∈[I.z]∨L.z<=k:=or1 az (io sr)<|S_ lr;exact fun _ q=>⟨e3,(som cw).symm,⟨e6,e7,e8,bO,q.k<|s5 z z z z z,(cM (g_ (g_ (cM (cr [I.z] L) sm (io sr):Chg (· ∈ [I.z]) L dW) aN:Chg (· ∈ [I.z]) L bL) aQ:Chg (· ∈ [I.z]) L bN) e9 bP:Chg (· ∈ [I.z]) L e5),ea,eb,(or2 ec bP an_ (S_<|lt_ (lt_ sm.s aN.s) aQ.s):∀k∈bO,k∈[I.z]∨L.z<=k)⟩⟩
  ·rintro a8 _ ed ⟨aq,nr,cs,Sg,cx,ee,ao,ay,az⟩;refine Wu ?_ cx;refine Ws<|Rl z z z<|Wn<|Wq<|Wc z (fun hc=>(U_ hc).elim) (fun _=>?_)
   exact We<|fun _ q=>⟨rfl,⟨aq,nr,cs,Sg,q.k<|s1 z,(cM (cr [I.z] L) ee (io sr):Chg (· ∈ [I.z]) L ed),ao,ay,(or1 az (io sr) (S_ lr):∀k∈Sg,k∈[I.z]∨L.z<=k)⟩⟩
  ·rintro a8 ef eg rfl ⟨aq,nr,cs,Sg,_,eh,ao,ay,az⟩;have cy:=elL b6;revert ef;refine Wo<|Wm z ?_
   obtain ⟨_,ei,cz⟩:=bdS cy;refine E z (fc call72 z<|W_w1o (B:=eg.z) ei zr (c_.rep ao)<|lb z) ?_;rintro _ _ ⟨ej,rfl,_⟩;obtain ⟨_,ek,cA⟩:=bdS cz;refine R z (a_j z z ek) ?_;obtain ⟨_,bQ,cB⟩:=bdS cA;refine R z (a_j z z bQ)<|Rw z ?_
   obtain rfl:=som cB;have bR:=lt_ hj G.s;exact Wr<|rtO<|a_ hr z ⟨bup (bM (bup (bM (bup (bup (bup (bup h4 h2) h1) G) hb) hd<|m1 bR) sk) eh<|m1<|lt_ (lt_ bR hb.s) hd.s) ej,z,b_0 bQ⟩
  rintro _ _ _ _ rfl ⟨rfl,cC⟩;have cD:=elR b6;obtain rfl:=som cD;exact ⟨cC,z⟩
 have b7:=ifF b5 ae;refine R z (q_m z ae)<|Re z z z<|Re z z z<|Wx z (fun hc=>(b_c hc z).elim) (fun _=>?_)
 refine Ws ?_
 rcases bs (ry.1==7) with af | af
 ·refine R z (ta_120 z af)<|Re z z z<|Re z z z<|Wx z (fun _=>?_) (fun hc=>(b_c z hc).elim)
  refine Ws<|E z (fa q_K) ?_
  rintro _ em ⟨rfl,bS⟩;have ht:=bS.below;refine E0 (fs0 (cur':=[]) z_120 z z (bS.blk:Blk em wa.z []) z z z z) ?_;rintro _ _ ⟨_,en⟩;have hu:=en.one;refine Wn<|Wq (Wd (X:=noX) 0 (pl_ 8 [5,6]) mo (by kernel_rfl) fun eI sv _=>?_)
  have bT:=(((h5.e G).e ht).c hu<|djs<|mm1 h5.lt G.s).e sv;refine dR z z (l0 e_f z<|bT.at z)<|dR z z (A_ z)<|dR z z (fd b_9 z) ?_
  have aR:=lt_ hj G.s;have aS:∀k∈[wa.z],¬B k:=or0 (f_ lr)<|q_<|zt' O aR;have bU:=((((((hC3.e h4).e h2).e h1).e G).e ht).c hu<|(e_ aS) _ hC3b).e sv;refine dR z z (l0 g_3 z<|bU.at (j:=0) z)<|dM z z z ?_
  have bV:=lt_ h2.s h1.s;have aT:=(((a1.e G).e ht).c hu<|e_ aS).e sv;have bW:=((((((hG.e h4).e h2).e h1).e G).e ht).c hu<|e_ aS).e sv;obtain ⟨_,eo,cE⟩:=bdS<|ifT b7 af;refine dE z z (d_h call68 z z<|aj.run (B:=a4.z) eo (a_1<|lt_ (lt_ (lt_ G.s ht.s) hu.s) sv.s) (bW.mono h3) (ii z) (repS.mono (a2.g aT) h3) (((((a5.e G).e ht).c hu<|djs<|mm1 he.lt<|lt_ bV G.s).e sv).row 0 1 z) (zap' (a_1 bV) he.lt) a9 (((((a6.e G).e ht).c hu<|djs<|mm1 hf.lt<|lt_ h1.s G.s).e sv).row 0 1 z) (zap' (a_1 h1.s) hf.lt) a0 (repS.mono (a3.g aT) h3) (repS.mono (V.g aT) h3) bU (zap' h3 hC3b) (bT.row 0 1 z) h5.lt) (.inr fun _ _ h=>H_<|h.1) ?_;rintro _ _ ⟨aU,rfl,ep⟩;obtain ⟨_,er,cF⟩:=bdS cE;refine dE z z (fc call73 z<|W_w3f er (zt' O<|lt_ (lt_ (lt_ (lt_ aR ht.s) hu.s) sv.s) aU.s) (bW.e aU) a0 (lb z) ep<|lb z) (.inr fun _ _ h=>H_<|h.1) ?_;rintro _ _ ⟨es,rfl,eu⟩;refine dQ z z z<|pD<|Wo ?_
  obtain rfl:=som cF;exact Wr<|rtO<|a_ hr z ⟨bup (bup (bup (bM (bup (bup (bup (bup h4 h2) h1) G) ht) hu<|m1 aR) sv) aU) es,z,eu⟩
 have b8:=ifF b7 af;refine R z (q_n z af)<|Re z z z<|Re z z z<|Wx z (fun hc=>(b_c hc z).elim) (fun _=>?_)
 refine Ws ?_
 rcases bs (ry.1==8) with ah | ah
 ·have b9:=ifT b8 ah;refine R z (ta_121 z ah)<|Re z z z<|Re z z z<|Wx z (fun _=>?_) (fun hc=>(b_c z hc).elim)
  refine Ws<|E z (fa q_L) ?_
  rintro _ ew ⟨rfl,bX⟩;have hw:=bX.below;refine E0 (fs0 (cur':=[]) z_121 z z (bX.blk:Blk ew wa.z []) z z z z) ?_;rintro _ _ ⟨_,ex⟩;have hx:=ex.one;refine Wn<|Wq<|Ws ?_
  have bY:=((h5.e G).e hw).c hx<|djs<|mm1 h5.lt G.s
  refine R z (l0 e_f z<|bY.at z)<|R z (A_ z)<|Rf z a_s z ?_
  have aV:=lt_ hj G.s;have aW:∀k∈[wa.z],¬B k:=or0 (f_ lr)<|q_<|zt' O aV;have bZ:=(((((hC3.e h4).e h2).e h1).e G).e hw).c hx<|(e_ aW) _ hC3b
  refine R z (l0 a_y z<|bZ.at (j:=2) z) ?_;have aX:=((a1.e G).e hw).c hx<|e_ aW
  have c0:=V.g aX;refine R z (lnR a_D z c0)<|Rq z z z<|Wx z (fun aC=>?_) (fun aC=>?_)
  ·refine Ws<|Rw z ?_
   obtain rfl:=som<|ifT b9 aC;exact Wr<|rtO<|a_ hr z ⟨bM (bup (bup (bup (bup h4 h2) h1) G) hw) hx<|m1 aV,z,lb z⟩
  refine Wk<|Wm z ?_
  have c1:=lt_ h2.s h1.s;obtain ⟨_,ey,cG⟩:=bdS<|ifF b9 aC;refine E z (d_h call68 z z<|aj.run (B:=a4.z) ey (a_1<|lt_ (lt_ G.s hw.s) hx.s) (((((((hG.e h4).e h2).e h1).e G).e hw).c hx<|e_ aW).mono h3) (ii z) (repS.mono (a2.g aX) h3) ((((a5.e G).e hw).c hx<|djs<|mm1 he.lt<|lt_ c1 G.s).row 0 1 z) (zap' (a_1 c1) he.lt) a9 ((((a6.e G).e hw).c hx<|djs<|mm1 hf.lt<|lt_ h1.s G.s).row 0 1 z) (zap' (a_1 h1.s) hf.lt) a0 (repS.mono (a3.g aX) h3) (repS.mono c0 h3) bZ (zap' h3 hC3b) (bY.row 0 1 z) h5.lt) ?_;rintro _ _ ⟨ez,rfl,_⟩;obtain ⟨_,c2,cH⟩:=bdS cG;refine R z (a_j z z c2)<|Rw z ?_
  obtain rfl:=som cH;exact Wr<|rtO<|a_ hr z ⟨bup (bM (bup (bup (bup (bup h4 h2) h1) G) hw) hx<|m1 aV) ez,z,b_0 c2⟩
 have ba:=ifF b8 ah;refine R z (q_o z ah)<|Re z z z<|Re z z z<|Wx z (fun hc=>(b_c hc z).elim) (fun _=>?_)
 refine Ws ?_
 rcases bs (ry.1==9) with ai | ai
 ·refine R z (ta_122 z ai)<|Re z z z<|Re z z z<|Wx z (fun _=>?_) (fun hc=>(b_c z hc).elim)
  refine Ws<|E z (fa q_M) ?_
  rintro _ eA ⟨rfl,c3⟩;have W:=c3.below;refine E0 (fs0 (cur':=[]) z_122 z z (c3.blk:Blk eA wa.z []) z z z z) ?_;rintro _ _ ⟨_,eB⟩;have Y:=eB.one;refine Wn<|Wm z ?_
  have c4:=lt_ h2.s h1.s;have c5:=lt_ hj G.s;have aY:∀k∈[wa.z],¬B k:=or0 (f_ lr)<|q_<|zt' O c5;have aZ:=((a1.e G).e W).c Y<|e_ aY
  obtain ⟨_,eC,cI⟩:=bdS<|ifT ba ai;refine E z (d_h call68 z z<|aj.run (B:=a4.z) eC (a_1<|lt_ (lt_ G.s W.s) Y.s) (((((((hG.e h4).e h2).e h1).e G).e W).c Y<|e_ aY).mono h3) (ii z) (repS.mono (a2.g aZ) h3) ((((a5.e G).e W).c Y<|djs<|mm1 he.lt<|lt_ c4 G.s).row 0 1 z) (zap' (a_1 c4) he.lt) a9 ((((a6.e G).e W).c Y<|djs<|mm1 hf.lt<|lt_ h1.s G.s).row 0 1 z) (zap' (a_1 h1.s) hf.lt) a0 (repS.mono (a3.g aZ) h3) (repS.mono (V.g aZ) h3) ((((((hC3.e h4).e h2).e h1).e G).e W).c Y<|(e_ aY) _ hC3b) (zap' h3 hC3b) ((((h5.e G).e W).c Y<|djs<|mm1 h5.lt G.s).row 0 1 z) h5.lt) ?_;rintro _ _ ⟨eD,rfl,_⟩;obtain ⟨_,eE,cJ⟩:=bdS cI;refine R z (a_j z z eE) ?_;obtain ⟨_,c6,cK⟩:=bdS cJ;refine R z (a_j z z c6)<|Rw z ?_
  obtain rfl:=som cK;exact Wr<|rtO<|a_ hr z ⟨bup (bM (bup (bup (bup (bup h4 h2) h1) G) W) Y<|m1 c5) eD,z,b_0 c6⟩
 refine R z (q_p z ai)<|Re z z z<|Re z z z<|Wx z (fun hc=>(b_c hc z).elim) (fun _=>?_)
 refine Wk<|Ws<|R z (l0 e_f z<|(h5.e G).at z)<|R z (A_ z)<|Rf z b_V z<|R z (l0 O_ z<|((((hC3.e h4).e h2).e h1).e G).at (j:=1) z) ?_
 obtain ⟨_,eF,cL⟩:=bdS<|ifF ba ai;refine E z (fc call74 z<|W_w3g eF (zt' O<|lt_ hj G.s)<|a3.g<|a1.e G) ?_;rintro _ _ ⟨eG,rfl,_⟩;obtain ⟨_,c7,cN⟩:=bdS cL;refine R z (a_j z z c7)<|Rw z ?_
 obtain rfl:=som cN;exact Wr<|a_ hr z ⟨bup (bup (bup (bup h4 h2) h1) G) eG,z,b_0 c7⟩
theorem T_w1p (ih:k_8 n):k_7 (g_S n<|a_B n):=by
 obtain ⟨V,_⟩:=ih
 constructor
 intro A6 AH AI N6 C6 b2 o2 b3 o3 NH CH NI CI b4_0 o4_0 b4 o4 B x1 x2 x3 x4 res w0 hm I hG J H hC2 hC2b L hC3 hC3b p4_0_0 p4_0_1 p4_0_2 O p4_0b hC4 hC4b;unfold g_S at hm
 refine goG func68 z z z fun fn hr=>Ws<|Rw z<|Wq (Wd (X:=noX) 0 (.rd 0<|.rd 1<|.rd 2<|.rd 3<|.rd 4<|.rd 6<|.rd 7<|.rd 8<|.rd 9<|.rd 10<|.rd 11<|.ef 5<|.ef 12<|.rd 13 .done) mo (by kernel_rfl) fun wl G _=>?_)
 have h2:=hC2.e G;refine dR z z (lN (vs:=[sl A6 N6 C6]) B_ z_ z z fid h2)<|dR z z (lN (vs:=[sl A6 N6 C6]) B_ z_ z z fid h2)<|dR z z (l0 g_3 z<|(hC3.e G).at0 z) ?_
 have h3:=hC4.e G;refine dR z z (l0 e_f z<|h3.at0 z)<|dM z z z<|dR z z (l0 e_f z<|h3.at0 z)<|dR z z (A_ z)<|dR z z (fd a_s z) ?_
 have h4:=O.e G;refine dR z z (l0 a_y z<|h4.at (j:=2) z)<|dM z z z ?_
 obtain ⟨_,Y,W⟩:=bdS hm;have h5:=p4_0_2.e G;refine dRX z z (at_ (α:=Val) a_D h_ z z z h5 Y) ?_;rintro _ ⟨_,_,_,rfl,h8,h9,ha⟩;obtain ⟨_,_,_,_,_,_,rfl,hb,hc,hd⟩:=i_4 h9;obtain ⟨_,ee,hmf⟩:=bdS W;refine dE z z (fc call69 z<|W_w1m ee (zt' I G.s) (H.e G) L p4_0_0 (p4_0_1.e G) h5 h4 p4_0b J) (.inr fun _ _ h=>H_<|h.1) ?_;rintro _ _ ⟨s1,rfl,hg⟩;obtain ⟨_,eh,hmi⟩:=bdS hmf;refine dE z z (fc call31 z<|V.run eh (zt' I<|lt_ G.s s1.s) ((hG.e G).e s1) (H.g<|(G.ag B).e s1) hg hb (hc.e s1) (hd.e s1) (h8.e s1) ha) (.inr fun _ _ h=>H_<|h.1) ?_;rintro _ _ ⟨sj,rfl,hk⟩;refine dQ z z z<|pD<|Wo ?_
 obtain rfl:=som hmi;exact Wr<|a_ hr z ⟨bup (bup G s1) sj,z,hk⟩
theorem i_3:∀n,k_8 n
  | 0=>⟨⟨fun hm=>by intros;exact nomatch (show none=some _ from hm)⟩,⟨fun hm=>by intros;exact nomatch (show none=some _ from hm)⟩⟩
  | n+1=>⟨T_w0a<|i_3 n,T_w1p<|i_3 n⟩
theorem W_w0a:k_6 (a_B n).impl_valueText:=(i_3 n).1
theorem W_w1p:k_7 (a_B n).impl_valueText_1:=(i_3 n).2
theorem W_w3h {x1:d_}{x2:Int}{x3:Val}{res:Str}(hm:g_T n x1 x2 x3=some res)(a0:B<=w0.z)(hG:Gl w0 B)(J:repS w0 B (sl A0 N0 C0) x1.rules)(L:inI x2)(O:inI x3.number)(V:repS w0 B (sl A8 N8 C8) x3.bytes)(W:repS w0 B (sl A9 N9 C9) x3.items):i_ prog 17 [(.agg #[sl A0 N0 C0]),vI x2,(.agg #[vI x3.number,sl A8 N8 C8,sl A9 N9 C9])] w0 (Q8 w0 B res):=by
 unfold g_T at hm
 refine goG func17 z z z fun fn hr=>Ws<|E z (fb z) ?_
 rintro _ Y ⟨rfl,h9⟩;have h2:=h9.below;refine E z (fb z) ?_;rintro _ wa ⟨rfl,hb⟩;have h1:=hb.below;have h5:Blk wa Y.z [vI x3.number,sl A8 N8 C8,sl A9 N9 C9]:=hb.blk;refine Rw z<|Wq<|Ws ?_
 have hc:=(h9.blk:Blk Y w0.z [sl A0 N0 C0]).e h1;refine R z (lN (vs:=[sl A0 N0 C0]) B_ z_ z z fid<|hc.row 0 1 z)<|Rm z<|R z (lN (vs:=[vI x3.number,sl A8 N8 C8,sl A9 N9 C9]) t_ h_ z z fid<|h5.row 0 3 z) ?_
 have h4:=(h2.ag B).e h1;have h3:=zt' a0<|lt_ h2.s h1.s
 obtain ⟨_,ef,hmd⟩:=bdS hm;refine E z (fc call30 z<|W_w3d (B:=B) ef h3 (J.g h4) L O (V.g h4)<|W.g h4) ?_;rintro _ _ ⟨G,rfl⟩;refine R z (not_ z)<|Wx z (fun H=>?_) (fun H=>?_)
 ·refine Ws<|Rw z ?_
  obtain rfl:=som<|ifT hmd H;exact Wr<|a_ hr z ⟨bup (bup h2 h1) G,z,lb z⟩
 refine Wk<|Ws<|R z (lN (vs:=[sl A0 N0 C0]) B_ z_ z z fid<|(hc.e G).row 0 1 z)<|Rm z ?_
 have I:=h4.e G;obtain ⟨_,eg,hmh⟩:=bdS<|ifF hmd H;refine E z (fc call31 z<|W_w0a.run (B:=wa.z) eg (a_1 G.s) ((((hG.e h2).e h1).e G).mono h3) (repS.mono (J.g I) h3) L O (repS.mono (V.g I) h3) (repS.mono (W.g I) h3) ((h5.e G).row 0 3 z) h5.lt) ?_;rintro _ _ ⟨si,rfl,hj⟩;refine Rw z ?_
 obtain rfl:=som hmh;exact Wr<|a_ hr z ⟨bup (bup (bup h2 h1) G) si,z,hj⟩
theorem W_w3i {x1:d_}{x2:List UInt8}{x3:Str}{res:Str}(hm:g_U n x1 x2 x3=some res)(V:B<=w0.z)(hG:Gl w0 B)(O:repS w0 B (sl A0 N0 C0) x1.rules)(W:repS w0 B (sl A6 N6 C6) x2)(Y:x3.b.length<=LEN):i_ prog 8 [(.agg #[sl A0 N0 C0]),sl A6 N6 C6,Str.v x3] w0 (Q8 w0 B res):=by
 unfold g_U at hm
 refine goG func8 z z z fun fn hr=>Ws<|E z (fb z) ?_
 rintro _ wm ⟨rfl,ha⟩;have G:=ha.below;have h4:Blk wm w0.z [sl A0 N0 C0]:=ha.blk;refine Rw z<|Ws<|R z (lN (vs:=[sl A0 N0 C0]) B_ z_ z z fid<|h4.row 0 1 z)<|RM z z ?_
 have hb:=hG.e G;obtain ⟨rc,_,_,eo,hmd⟩:=P_ hm;refine E z (fc call16 z<|W_w39 eo (zt' V G.s) hb (O.e G) (W.e G) Y) ?_;rintro _ I ⟨s1,ae,nf,cg,_,ah,ni,cj,_,rfl,hp,h6,J,hq,_,_⟩;refine Rm z ?_
 iterate 3 refine Re z z z ?_
 refine E z (fa a_l) ?_;rintro _ wr ⟨rfl,hk⟩;have h2:=hk.below;refine E0 (fs0 (cur':=[vI rc.number,sl ae nf cg,sl ah ni cj]) h_ z z (hk.blk:Blk wr I.z [vI 0,sl none 0 0,sl none 0 0]) z z z z) ?_;rintro _ _ ⟨hu,ss⟩;have h3:=ss.one;refine Ra z<|Rw z<|Wq<|Wm z<|R z (not_ z)<|Wx z (fun H=>?_) (fun H=>?_)
 ·refine Ws<|Rw z ?_
  obtain rfl:=som<|ifT hmd H;exact Wr<|a_ hr z ⟨bM (bup (bup G s1) h2) h3<|m1<|lt_ G.s s1.s,z,lb z⟩
 refine Wk<|Ws<|R z (lN (vs:=[sl A0 N0 C0]) B_ z_ z z fid<|(((h4.e s1).e h2).c h3<|djs<|mm1 h4.lt s1.s).row 0 1 z)<|Rm z<|R z (lN (vs:=[vI rc.number,sl ae nf cg,sl ah ni cj]) t_ h_ z z fid<|hu.row 0 3 z) ?_
 have hl:=lt_ G.s s1.s;have L:=zt' V hl;have hn:∀k∈[I.z],¬B k:=or0 (f_ lr)<|q_ L;obtain ⟨_,ev,hmw⟩:=bdS<|ifF hmd H;refine E z (fc call17 z<|W_w3h (B:=I.z) ev (a_1<|lt_ h2.s h3.s) ((((hb.e s1).e h2).c h3<|e_ hn).mono L) (repS.mono (O.g<|(((G.ag B).e s1).e h2).c h3<|e_ hn) L) hq hp (or_ ((h6.e h2).c h3<|ds<|mnr<|c_.lt h6)<|c_.lt h6)<|or_ ((J.e h2).c h3<|ds<|mnr<|c_.lt J)<|c_.lt J) ?_;rintro _ _ ⟨sx,rfl,hy⟩;refine Rw z ?_
 obtain rfl:=som hmw;exact Wr<|a_ hr z ⟨bup (bM (bup (bup G s1) h2) h3<|m1 hl) sx,z,hy⟩
theorem W_w1q {x1:List UInt8}{x2:List UInt8}{res:Bool}(hm:e_Y x1 x2=some res)(a0:B<=w0.z)(G:repS w0 B (sl A0 N0 C0) x1)(L:repS w0 B (sl A6 N6 C6) x2):i_ prog 10 [sl A0 N0 C0,sl A6 N6 C6] w0 (Q7 w0 B res):=by
 unfold e_Y at hm
 refine goG func10 z z z fun fn hr=>Ws<|Rw z<|Wq<|Wm z<|R z (lnR k_ z G)<|Rm z<|R z (lnR k_ z L)<|R z (nq z z)<|Wx z (fun I=>?_) (fun I=>?_)
 ·refine Ws<|Rw z ?_
  obtain rfl:=som<|ifT hm I;exact Wr<|a_ hr z ⟨br w0,z⟩
 refine Wk<|Wq<|Ws<|Rw z ?_
 obtain ⟨_,hua,O⟩:=bdS<|ifF hm I;refine Wf (σ:=Unit) (ρ:=Bool) (fun (k5:Nat)(_:Unit) a w=>Sat 26 [(0,sl A0 N0 C0),(1,sl A6 N6 C6),(5,vI ((k5:Nat):Int))] a/\Below w0.z w0 w) (fun (_:Unit) a w=>Sat 26 [] a/\Below w0.z w0 w) (rQ prog fn<|Q7 w0 B) hua ?_ ?_ ?_ ?_ ?_
 ·exact fun _ q=>⟨q.k<|s3 z z z,br w0⟩
 ·rintro k5 _ _ _ _ V ⟨hSb,H⟩ hmc;refine Wu ?_ hSb;refine Wq<|Wm z<|Rm z<|R z (lnR k_ z<|G.e H)<|Rl z z z<|Wx z (fun _=>?_) (fun hc=>(T_ V hc).elim)
  refine Wk<|Wq<|Wb<|Wq (Wd (X:=noX) 0 (pl_ 9 []) mo (by kernel_rfl) fun wu s2 _=>dM z z z<|dM z z z ?_)
  obtain ⟨_,ed,hme⟩:=bdS hmc;have Y:=(H.ag B).e s2;refine dRX z z (at_ (α:=UInt8) k_ z_5 z z z (G.g Y) ed) ?_;rintro _ ⟨_,_,_,rfl,hf,hg,_⟩;obtain rfl:=u8 hg;refine dR z z (l0 g_5 z<|hf.at0 z)<|dM z z z<|dM z z z ?_
  obtain ⟨_,eh,W⟩:=bdS hme;refine dRX z z (at_ (α:=UInt8) k_ z_5 z z z (L.g Y) eh) ?_;rintro _ ⟨_,_,_,rfl,hi,hj,_⟩;obtain rfl:=u8 hj;refine dR z z (l0 g_5 z<|hi.at0 z)<|dR z z (nq z z)<|pD<|Wo<|Wc z (fun J=>?_) (fun J=>?_)
  ·exact Ws<|Rw z<|Wr<|rtO<|qL (som<|ifT W J).symm<|a_ hr z ⟨bup H s2,z⟩
  exact Wk<|Wg<|Rm z<|R z (inc_ V (lt_ (repS.len G) C_) z z)<|Ra z<|Wl (fun _ q=>⟨(),(som<|ifF W J).symm,⟨q.k<|s3 z z z,bup H s2⟩⟩)
 ·rintro _ _ _ ⟨hSk,s9⟩;refine Wu ?_ hSk;refine Wq<|Wm z<|Rm z<|R z (lnR k_ z<|G.e s9)<|Rl z z z<|Wx z (fun hc=>(U_ hc).elim) (fun _=>?_)
  exact We<|fun _ q=>⟨rfl,⟨q.k sn,s9⟩⟩
 ·rintro _ al _ rfl ⟨_,sm⟩;have hmn:=elL O;revert al;refine Wo<|Ws<|Rw z ?_
  obtain rfl:=som hmn;exact Wr<|a_ hr z ⟨sm,z⟩
 rintro _ _ _ _ rfl ⟨rfl,hqo⟩;have hmp:=elR O;obtain rfl:=som hmp;exact ⟨hqo,z⟩
theorem W_w3j {x1:List Str}{x2:List Str}{res:Bool}(hm:g_z x1 x2=some res)(a0:B<=w0.z)(G:repS w0 B (sl A0 N0 C0) x1)(L:repS w0 B (sl A6 N6 C6) x2):i_ prog 75 [sl A0 N0 C0,sl A6 N6 C6] w0 (Q7 w0 B res):=by
 unfold g_z at hm
 refine goG func75 z z z fun fn hr=>Ws<|Rw z<|Wq<|Wm z<|R z (lnR R_ z G)<|Rm z<|R z (lnR R_ z L)<|R z (nq z z)<|Wx z (fun I=>?_) (fun I=>?_)
 ·refine Ws<|Rw z ?_
  obtain rfl:=som<|ifT hm I;exact Wr<|a_ hr z ⟨br w0,z⟩
 refine Wk<|Wq<|Ws<|Rw z ?_
 obtain ⟨_,hua,O⟩:=bdS<|ifF hm I;refine Wf (σ:=Unit) (ρ:=Bool) (fun (k5:Nat)(_:Unit) a w=>Sat 26 [(0,sl A0 N0 C0),(1,sl A6 N6 C6),(5,vI ((k5:Nat):Int))] a/\Below w0.z w0 w) (fun (_:Unit) a w=>Sat 26 [] a/\Below w0.z w0 w) (rQ prog fn<|Q7 w0 B) hua ?_ ?_ ?_ ?_ ?_
 ·exact fun _ q=>⟨q.k<|s3 z z z,br w0⟩
 ·rintro k5 _ _ _ _ V ⟨hSb,H⟩ hmc;refine Wu ?_ hSb;refine Wq<|Wm z<|Rm z<|R z (lnR R_ z<|G.e H)<|Rl z z z<|Wx z (fun _=>?_) (fun hc=>(T_ V hc).elim)
  refine Wk<|Wq<|Wb<|Wq (Wd (X:=noX) 0 (pl_ 9 []) mo (by kernel_rfl) fun wu s2 _=>dM z z z<|dM z z z ?_)
  obtain ⟨_,ed,hme⟩:=bdS hmc;have Y:=(H.ag B).e s2;refine dRX z z (at_ (α:=Str) R_ z_9 z z z (G.g Y) ed) ?_;rintro _ ⟨_,_,_,rfl,hf,hg,_⟩;obtain ⟨rfl,_⟩:=a_U hg;refine dR z z (l0 g_9 z<|hf.at0 z)<|dM z z z<|dM z z z ?_
  obtain ⟨_,eh,W⟩:=bdS hme;refine dRX z z (at_ (α:=Str) R_ z_9 z z z (L.g Y) eh) ?_;rintro _ ⟨_,_,_,rfl,hi,hj,_⟩;obtain ⟨rfl,_⟩:=a_U hj;refine dR z z (l0 g_9 z<|hi.at0 z)<|dR z z (f_m z z)<|pD<|Wo<|Wc z (fun J=>?_) (fun J=>?_)
  ·exact Ws<|Rw z<|Wr<|rtO<|qL (som<|ifT W J).symm<|a_ hr z ⟨bup H s2,z⟩
  exact Wk<|Wg<|Rm z<|R z (inc_ V (lt_ (repS.len G) C_) z z)<|Ra z<|Wl (fun _ q=>⟨(),(som<|ifF W J).symm,⟨q.k<|s3 z z z,bup H s2⟩⟩)
 ·rintro _ _ _ ⟨hSk,s9⟩;refine Wu ?_ hSk;refine Wq<|Wm z<|Rm z<|R z (lnR R_ z<|G.e s9)<|Rl z z z<|Wx z (fun hc=>(U_ hc).elim) (fun _=>?_)
  exact We<|fun _ q=>⟨rfl,⟨q.k sn,s9⟩⟩
 ·rintro _ al _ rfl ⟨_,sm⟩;have hmn:=elL O;revert al;refine Wo<|Ws<|Rw z ?_
  obtain rfl:=som hmn;exact Wr<|a_ hr z ⟨sm,z⟩
 rintro _ _ _ _ rfl ⟨rfl,hqo⟩;have hmp:=elR O;obtain rfl:=som hmp;exact ⟨hqo,z⟩
theorem W_w1r {x1:List Int}{x2:List Int}{res:Bool}(hm:e_Z x1 x2=some res)(a0:B<=w0.z)(G:repS w0 B (sl A0 N0 C0) x1)(L:repS w0 B (sl A6 N6 C6) x2):i_ prog 76 [sl A0 N0 C0,sl A6 N6 C6] w0 (Q7 w0 B res):=by
 unfold e_Z at hm
 refine goG func76 z z z fun fn hr=>Ws<|Rw z<|Wq<|Wm z<|R z (lnR o_ z G)<|Rm z<|R z (lnR o_ z L)<|R z (nq z z)<|Wx z (fun I=>?_) (fun I=>?_)
 ·refine Ws<|Rw z ?_
  obtain rfl:=som<|ifT hm I;exact Wr<|a_ hr z ⟨br w0,z⟩
 refine Wk<|Wq<|Ws<|Rw z ?_
 obtain ⟨_,hua,O⟩:=bdS<|ifF hm I;refine Wf (σ:=Unit) (ρ:=Bool) (fun (k5:Nat)(_:Unit) a w=>Sat 26 [(0,sl A0 N0 C0),(1,sl A6 N6 C6),(5,vI ((k5:Nat):Int))] a/\Below w0.z w0 w) (fun (_:Unit) a w=>Sat 26 [] a/\Below w0.z w0 w) (rQ prog fn<|Q7 w0 B) hua ?_ ?_ ?_ ?_ ?_
 ·exact fun _ q=>⟨q.k<|s3 z z z,br w0⟩
 ·rintro k5 _ _ _ _ V ⟨hSb,H⟩ hmc;refine Wu ?_ hSb;refine Wq<|Wm z<|Rm z<|R z (lnR o_ z<|G.e H)<|Rl z z z<|Wx z (fun _=>?_) (fun hc=>(T_ V hc).elim)
  refine Wk<|Wq<|Wb<|Wq (Wd (X:=noX) 0 (pl_ 9 []) mo (by kernel_rfl) fun wu s2 _=>dM z z z<|dM z z z ?_)
  obtain ⟨_,ed,hme⟩:=bdS hmc;have Y:=(H.ag B).e s2;refine dRX z z (at_ (α:=Int) o_ z_3 z z z (G.g Y) ed) ?_;rintro _ ⟨_,_,_,rfl,hf,hg,_⟩;obtain ⟨rfl,_⟩:=J_ hg;refine dR z z (l0 g_3 z<|hf.at0 z)<|dM z z z<|dM z z z ?_
  obtain ⟨_,eh,W⟩:=bdS hme;refine dRX z z (at_ (α:=Int) o_ z_3 z z z (L.g Y) eh) ?_;rintro _ ⟨_,_,_,rfl,hi,hj,_⟩;obtain ⟨rfl,_⟩:=J_ hj;refine dR z z (l0 g_3 z<|hi.at0 z)<|dR z z (nq z z)<|pD<|Wo<|Wc z (fun J=>?_) (fun J=>?_)
  ·exact Ws<|Rw z<|Wr<|rtO<|qL (som<|ifT W J).symm<|a_ hr z ⟨bup H s2,z⟩
  exact Wk<|Wg<|Rm z<|R z (inc_ V (lt_ (repS.len G) C_) z z)<|Ra z<|Wl (fun _ q=>⟨(),(som<|ifF W J).symm,⟨q.k<|s3 z z z,bup H s2⟩⟩)
 ·rintro _ _ _ ⟨hSk,s9⟩;refine Wu ?_ hSk;refine Wq<|Wm z<|Rm z<|R z (lnR o_ z<|G.e s9)<|Rl z z z<|Wx z (fun hc=>(U_ hc).elim) (fun _=>?_)
  exact We<|fun _ q=>⟨rfl,⟨q.k sn,s9⟩⟩
 ·rintro _ al _ rfl ⟨_,sm⟩;have hmn:=elL O;revert al;refine Wo<|Ws<|Rw z ?_
  obtain rfl:=som hmn;exact Wr<|a_ hr z ⟨sm,z⟩
 rintro _ _ _ _ rfl ⟨rfl,hqo⟩;have hmp:=elR O;obtain rfl:=som hmp;exact ⟨hqo,z⟩
theorem W_w3k {x1:b_}{x2:b_}{res:Bool}(hm:g_A x1 x2=some res)(H:B<=w0.z)(aa:x1.name.b.length<=LEN)(ab:inI x1.kind)(ad:inI x1.size)(V:repS w0 B (sl AB NB CB) x1.bytes)(W:repS w0 B (sl AA NA CA) x1.names)(Y:repS w0 B (sl AC NC CC) x1.tags)(a0:repS w0 B (sl AD ND CD) x1.kids)(ae:x2.name.b.length<=LEN)(af:inI x2.kind)(ah:inI x2.size)(a1:repS w0 B (sl A2 N2 C2) x2.bytes)(a2:repS w0 B (sl A3 N3 C3) x2.names)(a3:repS w0 B (sl A1 N1 C1) x2.tags)(a4:repS w0 B (sl A4 N4 C4) x2.kids):i_ prog 32 [(.agg #[Str.v x1.name,vI x1.kind,vI x1.size,vB x1.little,sl AB NB CB,sl AA NA CA,sl AC NC CC,sl AD ND CD]),(.agg #[Str.v x2.name,vI x2.kind,vI x2.size,vB x2.little,sl A2 N2 C2,sl A3 N3 C3,sl A1 N1 C1,sl A4 N4 C4])] w0 (Q7 w0 B res):=by
 unfold g_A at hm
 refine goG func32 z z z fun fn hr=>Ws<|E z (fb z) ?_
 rintro _ wi ⟨rfl,hj⟩;have h1:=hj.below;refine E z (fb z) ?_;rintro _ a5 ⟨rfl,hk⟩;have G:=hk.below;have h5:Blk a5 wi.z (vR x2 A2 N2 C2 A3 N3 C3 A1 N1 C1 A4 N4 C4):=hk.blk;refine Rw z<|Wq<|Ws<|Rf z d_c z ?_
 have h6:=(hj.blk:Blk wi w0.z (vR x1 AB NB CB AA NA CA AC NC CC AD ND CD)).e G;refine R z (l0 g_9 z<|h6.at z)<|Rf z d_c z<|R z (l0 g_9 z<|h5.at z)<|R z (f_m z z)<|Wx z (fun I=>?_) (fun I=>?_)
 ·refine Ws<|Rw z ?_
  obtain rfl:=som<|ifT hm I;exact Wr<|a_ hr z ⟨bup h1 G,z⟩
 have hml:=ifF hm I;refine Wk<|Wq<|Ws<|Rf z a_a z<|R z (l0 g_3 z<|h6.at z)<|Rf z a_a z<|R z (l0 g_3 z<|h5.at z)<|R z (nq z z)<|Wx z (fun J=>?_) (fun J=>?_)
 ·refine Ws<|Rw z ?_
  obtain rfl:=som<|ifT hml J;exact Wr<|a_ hr z ⟨bup h1 G,z⟩
 have hmm:=ifF hml J;refine Wk<|Wq<|Ws<|Rf z a_w z<|R z (l0 g_3 z<|h6.at z)<|Rf z a_w z<|R z (l0 g_3 z<|h5.at z)<|R z (nq z z)<|Wx z (fun L=>?_) (fun L=>?_)
 ·refine Ws<|Rw z ?_
  obtain rfl:=som<|ifT hmm L;exact Wr<|a_ hr z ⟨bup h1 G,z⟩
 have hmn:=ifF hmm L;refine Wk<|Wq<|Ws<|Rf z c_B z<|R z (l0 g_4 z<|h6.at z)<|Rf z c_B z<|R z (l0 g_4 z<|h5.at z)<|R z (n_S d_4 z z)<|Wx z (fun hca=>?_) (fun hca=>?_)
 ·refine Ws<|Rw z ?_
  obtain rfl:=som<|ifT hmn hca;exact Wr<|a_ hr z ⟨bup h1 G,z⟩
 refine Wk<|Wq<|Ws<|Rf z a_T z<|R z (l0 O_ z<|h6.at z)<|Rf z a_T z<|R z (l0 O_ z<|h5.at z) ?_
 have hb:=(h1.ag B).e G;have ho:=lt_ h1.s G.s;obtain ⟨_,a6,hmp⟩:=bdS<|ifF hmn hca;refine E z (fc call10 z<|W_w1q a6 (zt' H ho) (V.g hb)<|a1.g hb) ?_;rintro _ _ ⟨s2,rfl⟩;refine R z (not_ z)<|Wx z (fun hcc=>?_) (fun hcc=>?_)
 ·refine Ws<|Rw z ?_
  obtain rfl:=som<|ifT hmp hcc;exact Wr<|a_ hr z ⟨bup (bup h1 G) s2,z⟩
 refine Wk<|Wq<|Ws<|Rf z b_y z ?_
 have hq:=h6.e s2;refine R z (l0 a_A z<|hq.at z)<|Rf z b_y z ?_
 have ht:=h5.e s2;refine R z (l0 a_A z<|ht.at z) ?_;have hd:=hb.e s2;have hu:=lt_ ho s2.s;obtain ⟨_,a7,hmr⟩:=bdS<|ifF hmp hcc;refine E z (fc call75 z<|W_w3j a7 (zt' H hu) (W.g hd)<|a2.g hd) ?_;rintro _ _ ⟨s3,rfl⟩;refine R z (not_ z)<|Wx z (fun hce=>?_) (fun hce=>?_)
 ·refine Ws<|Rw z ?_
  obtain rfl:=som<|ifT hmr hce;exact Wr<|a_ hr z ⟨bup (bup (bup h1 G) s2) s3,z⟩
 refine Wk<|Wq<|Ws<|Rf z a_L z ?_
 have hv:=hq.e s3;refine R z (l0 u_ z<|hv.at z)<|Rf z a_L z ?_
 have hw:=ht.e s3;refine R z (l0 u_ z<|hw.at z) ?_;have hf:=hd.e s3;have hx:=lt_ hu s3.s;obtain ⟨_,a8,hms⟩:=bdS<|ifF hmr hce;refine E z (fc call76 z<|W_w1r a8 (zt' H hx) (Y.g hf)<|a3.g hf) ?_;rintro _ _ ⟨s4,rfl⟩;refine R z (not_ z)<|Wx z (fun hcg=>?_) (fun hcg=>?_)
 ·refine Ws<|Rw z ?_
  obtain rfl:=som<|ifT hms hcg;exact Wr<|a_ hr z ⟨bup (bup (bup (bup h1 G) s2) s3) s4,z⟩
 refine Wk<|Wq<|Ws<|Rf z G_ z<|R z (l0 u_ z<|(hv.e s4).at z)<|Rf z G_ z<|R z (l0 u_ z<|(hw.e s4).at z) ?_
 have hy:=hf.e s4;obtain ⟨_,a9,hmz⟩:=bdS<|ifF hms hcg;refine E z (fc call76 z<|W_w1r a9 (zt' H<|lt_ hx s4.s) (a0.g hy)<|a4.g hy) ?_;rintro _ _ ⟨O,rfl⟩;refine R z (not_ z)<|Wx z (fun hch=>?_) (fun hch=>?_)
 ·refine Ws<|Rw z ?_
  obtain rfl:=som<|ifT hmz hch;exact Wr<|a_ hr z ⟨bup (bup (bup (bup (bup h1 G) s2) s3) s4) O,z⟩
 refine Wk<|Ws<|Rw z ?_
 obtain rfl:=som<|ifF hmz hch;exact Wr<|a_ hr z ⟨bup (bup (bup (bup (bup h1 G) s2) s3) s4) O,z⟩
theorem W_w3l {x1:List b_}{x2:List b_}{res:Bool}(hm:h_P x1 x2=some res)(a5:B<=w0.z)(G:repS w0 B (sl A0 N0 C0) x1)(L:repS w0 B (sl A6 N6 C6) x2):i_ prog 18 [sl A0 N0 C0,sl A6 N6 C6] w0 (Q7 w0 B res):=by
 unfold h_P at hm
 refine goG func18 z z z fun fn hr=>Ws<|Rw z<|Wq<|Wm z<|R z (lnR Z_ z G)<|Rm z<|R z (lnR Z_ z L)<|R z (nq z z)<|Wx z (fun I=>?_) (fun I=>?_)
 ·refine Ws<|Rw z ?_
  obtain rfl:=som<|ifT hm I;exact Wr<|a_ hr z ⟨br w0,z⟩
 refine Wk<|Wq<|Ws<|Rw z ?_
 obtain ⟨_,hub,O⟩:=bdS<|ifF hm I;refine Wf (σ:=Unit) (ρ:=Bool) (fun (k5:Nat)(_:Unit) a w=>Sat 27 [(0,sl A0 N0 C0),(1,sl A6 N6 C6),(5,vI ((k5:Nat):Int))] a/\Below w0.z w0 w) (fun (_:Unit) a w=>Sat 27 [] a/\Below w0.z w0 w) (rQ prog fn<|Q7 w0 B) hub ?_ ?_ ?_ ?_ ?_
 ·exact fun _ q=>⟨q.k<|s3 z z z,br w0⟩
 ·rintro k5 _ _ _ _ V ⟨hSc,H⟩ hmd;refine Wu ?_ hSc;refine Wq<|Wm z<|Rm z<|R z (lnR Z_ z<|G.e H)<|Rl z z z<|Wx z (fun _=>?_) (fun hc=>(T_ V hc).elim)
  refine Wk<|Wq<|Wb<|Wq (Wd (X:=noX) 0 (pl_ 10 [8]) mo (by kernel_rfl) fun aG s1 _=>dM z z z<|dM z z z ?_)
  obtain ⟨xe,eg,hmf⟩:=bdS hmd;have Y:=(H.ag B).e s1;refine dRX z z (at_ (α:=b_) Z_ l_ z z z (G.g Y) eg) ?_;rintro _ ⟨_,_,_,rfl,hh,hi,_⟩;obtain ⟨aj,nk,cl,am,nn,co,ap,nr,cq,au,ns,ct,rfl,hv,hw,hx,hy,hz,a6,a7⟩:=a_u hi;refine dR z z (lN (vs:=vR xe aj nk cl am nn co ap nr cq au ns ct) D_ l_ z z fid hh)<|dM z z z<|dM z z z ?_
  obtain ⟨a8,a9,a0⟩:=bdS hmf;refine dRX z z (at_ (α:=b_) Z_ l_ z z z (L.g Y) a9) ?_;rintro _ ⟨_,_,_,rfl,aa,ab,_⟩;obtain ⟨ad,ae,af,ah,ai,ak,al,an,ao,aq,ar,av,rfl,aw,ax,ay,az,aA,aB,aC⟩:=a_u ab;refine dR z z (lN (vs:=vR a8 ad ae af ah ai ak al an ao aq ar av) D_ l_ z z fid aa) ?_;obtain ⟨_,aD,W⟩:=bdS a0;refine dE z z (fc call32 z<|W_w3k aD (zt' a5<|lt_ H.s s1.s) hv hw hx hy hz a6 a7 aw ax ay az aA aB aC) (.inr fun _ _ h=>H_<|h.1) ?_;rintro _ _ ⟨s9,rfl⟩;refine dR z z (not_ z)<|pD<|Wo<|Wc z (fun J=>?_) (fun J=>?_)
  ·exact Ws<|Rw z<|Wr<|rtO<|qL (som<|ifT W J).symm<|a_ hr z ⟨bup (bup H s1) s9,z⟩
  exact Wk<|Wg<|Rm z<|R z (inc_ V (lt_ (repS.len G) C_) z z)<|Ra z<|Wl (fun _ q=>⟨(),(som<|ifF W J).symm,⟨q.k<|s3 z z z,bup (bup H s1) s9⟩⟩)
 ·rintro _ _ _ ⟨a1,sa⟩;refine Wu ?_ a1;refine Wq<|Wm z<|Rm z<|R z (lnR Z_ z<|G.e sa)<|Rl z z z<|Wx z (fun hc=>(U_ hc).elim) (fun _=>?_)
  exact We<|fun _ q=>⟨rfl,⟨q.k sn,sa⟩⟩
 ·rintro _ aE _ rfl ⟨_,aF⟩;have a2:=elL O;revert aE;refine Wo<|Ws<|Rw z ?_
  obtain rfl:=som a2;exact Wr<|a_ hr z ⟨aF,z⟩
 rintro _ _ _ _ rfl ⟨rfl,a3⟩;have a4:=elR O;obtain rfl:=som a4;exact ⟨a3,z⟩
theorem W_w3m {x1:d_}{x2:d_}{res:Bool}(hm:g_B x1 x2=some res)(V:B<=w0.z)(L:repS w0 B (sl A0 N0 C0) x1.rules)(O:repS w0 B (sl A6 N6 C6) x2.rules):i_ prog 9 [(.agg #[sl A0 N0 C0]),(.agg #[sl A6 N6 C6])] w0 (Q7 w0 B res):=by
 unfold g_B at hm
 refine goG func9 z z z fun fn hr=>Ws<|E z (fb z) ?_
 rintro _ J ⟨rfl,h4⟩;have h1:=h4.below;refine E z (fb z) ?_;rintro _ wa ⟨rfl,h5⟩;have G:=h5.below;refine Rw z<|Wq<|Ws<|Rf z a_5 z<|R z (l0 a_9 z<|((h4.blk:Blk J w0.z [sl A0 N0 C0]).e G).at z)<|Rf z a_5 z<|R z (l0 a_9 z<|(h5.blk:Blk wa J.z [sl A6 N6 C6]).at z) ?_
 have h6:=(h1.ag B).e G;obtain ⟨_,ec,I⟩:=bdS hm;refine E z (fc call18 z<|W_w3l ec (zt' V<|lt_ h1.s G.s) (L.g h6)<|O.g h6) ?_;rintro _ _ ⟨s8,rfl⟩;refine R z (not_ z)<|Wx z (fun H=>?_) (fun H=>?_)
 ·refine Ws<|Rw z ?_
  obtain rfl:=som<|ifT I H;exact Wr<|a_ hr z ⟨bup (bup h1 G) s8,z⟩
 refine Wk<|Ws<|Rw z ?_
 obtain rfl:=som<|ifF I H;exact Wr<|a_ hr z ⟨bup (bup h1 G) s8,z⟩
def q_W (w0:World)(B:Zone)(r:Bool)(v:Value)(w':World):Prop:=Bw w0 w'/\(fun G=>(vB G)=v) r
theorem q_X {x1:d_}{x2:List UInt8}{x3:Str}{res:Bool}(hm:g_V n x1 x2 x3=some res)(I:B<=w0.z)(hG:Gl w0 B)(J:repS w0 B (sl A0 N0 C0) x1.rules)(L:repS w0 B (sl A6 N6 C6) x2)(O:x3.b.length<=LEN):i_ prog 3 [(.agg #[sl A0 N0 C0]),sl A6 N6 C6,Str.v x3] w0 (q_W w0 B res):=by
 unfold g_V at hm
 refine goG func3 z z z fun fn hr=>Ws<|E z (fb z) ?_
 rintro _ ap ⟨rfl,ht⟩;have G:=ht.below;have hg:Blk ap w0.z [sl A0 N0 C0]:=ht.blk;refine Rw z<|Wq<|Wm z<|R z (lnR k_ z<|L.e G)<|R z (a_3 z z)<|Wx z (fun hch=>?_) (fun hch=>?_)
 ·refine Ws<|Rw z ?_
  obtain rfl:=som<|ifT hm hch;exact Wr<|a_ hr z ⟨G,z⟩
 have hmr:=ifF hm hch;refine Wk<|Wq<|Wm z<|R z (lnT d_9 z)<|R z (a_3 z z)<|Wx z (fun hci=>?_) (fun hci=>?_)
 ·refine Ws<|Rw z ?_
  obtain rfl:=som<|ifT hmr hci;exact Wr<|a_ hr z ⟨G,z⟩
 refine Wk<|Ws<|Rw z<|Ws<|R z (lN (vs:=[sl A0 N0 C0]) g_24 z_24 z z fid<|hg.row 0 1 z)<|Rm z ?_
 obtain ⟨_,aq,hms⟩:=bdS<|ifF hmr hci;refine E z (fc call4 z<|W_w1w aq (zt' I G.s) (J.e G)<|ii z) ?_;rintro _ _ ⟨s5,rfl,_⟩;refine Rw z<|Wq<|Wm z<|Rl z z z<|Wx z (fun hcj=>?_) (fun hcj=>?_)
 ·refine Ws<|Rw z ?_
  obtain rfl:=som<|ifT hms hcj;exact Wr<|a_ hr z ⟨bup G s5,z⟩
 refine Wk<|Ws ?_
 have hu:=hg.e s5;refine R z (lN (vs:=[sl A0 N0 C0]) g_24 z_24 z z fid<|hu.row 0 1 z) ?_;have hv:=(G.ag B).e s5;have hw:=lt_ G.s s5.s;obtain ⟨_,ar,ah⟩:=bdS<|ifF hms hcj;refine E z (fc call6 z<|j_E ar (zt' I hw)<|J.g hv) ?_;rintro _ _ ⟨s8,_,_,_,_,rfl,hx,_,_⟩;refine Rm z ?_;have hy:=hv.e s8;have hz:=lt_ hw s8.s;obtain ⟨_,au,ai⟩:=bdS ah;refine E z (fc call7 z<|h_W au (zt' I hz)<|L.g hy) ?_;rintro _ av ⟨s2,_,_,_,_,rfl,aw,_,_⟩;refine Rm z ?_;obtain ⟨_,ax,aj⟩:=bdS ai;refine E z (fc call5 z<|W_w2o (B:=av.z) ax zr (repS.mono (or_ (hx.e s2)<|c_.lt hx)<|a_1 s2.s) (c_.rep aw) O) ?_;rintro _ _ ⟨s9,rfl,_⟩;refine Rw z<|Ws ?_
 have a0:=((hu.e s8).e s2).e s9;refine R z (lN (vs:=[sl A0 N0 C0]) g_24 z_24 z z fid<|a0.row 0 1 z) ?_;have a1:=(hy.e s2).e s9;have a2:=lt_ (lt_ hz s2.s) s9.s;obtain ⟨_,ay,al⟩:=bdS aj;refine E z (fc call6 z<|j_E ay (zt' I a2)<|J.g a1) ?_;rintro _ a3 ⟨sa,ak,nl,cm,_,rfl,he,_,_⟩;refine E z (fa j_C) ?_;rintro _ az ⟨rfl,a4⟩;have h6:=a4.below;refine E0 (fs0 (cur':=[sl ak nl cm]) z_ z z (a4.blk:Blk az a3.z [sl none 0 0]) z z z z) ?_;rintro _ _ ⟨aA,aB⟩;have H:=aB.one;refine Wn<|Wm z ?_
 have hd:=lt_ a2 sa.s;have a5:∀k∈[a3.z],¬B k:=or0 (f_ lr)<|q_<|zt' I hd;have a6:=((a1.e sa).e h6).c H<|e_ a5
 have a7:=lt_ (lt_ hd h6.s) H.s;obtain ⟨_,aC,am⟩:=bdS al;refine E z (fc call7 z<|h_W aC (zt' I a7)<|L.g a6) ?_;rintro _ aD ⟨s3,_,_,_,_,rfl,hn,_,_⟩;refine Rw z<|Ws ?_
 have a8:=aA.e s3;refine R z (lN (vs:=[sl ak nl cm]) B_ z_ z z fid<|a8.row 0 1 z)<|RM z z ?_
 have a9:=((he.e h6).c H<|ds<|mnr<|c_.lt he).e s3;have aa:=lt_ (lt_ h6.s H.s) s3.s;have ab:=lt_ a7 s3.s;obtain ⟨_,aE,V⟩:=bdS am;refine E z (fc call8 z<|W_w3i (B:=aD.z) aE zr ((((((((((hG.e G).e s5).e s8).e s2).e s9).e sa).e h6).c H<|e_ a5).e s3).mono<|zt' I ab) (repS.mono (or_ a9<|c_.lt he)<|a_1 aa) (c_.rep hn) O) ?_;rintro _ _ ⟨s1,rfl,_⟩;refine Rw z<|Wq<|Wm z<|Rm z<|R z (f_m z z)<|Wx z (fun hco=>?_) (fun hco=>?_)
 ·refine Ws<|Rw z ?_
  obtain rfl:=som<|ifT V hco;exact Wr<|a_ hr z ⟨bup (bup (bM (bup (bup (bup (bup (bup (bup G s5) s8) s2) s9) sa) h6) H<|m1 hd) s3) s1,z⟩
 refine Wk<|Wq<|Wq (Wd (X:=noX) 0 (pl_ 5 [2,3]) mo (by kernel_rfl) fun aN s4 _=>dR z z (lN (vs:=[sl ak nl cm]) B_ z_ z z fid<|((a8.e s1).e s4).row 0 1 z)<|dR z z (lN (vs:=[sl A0 N0 C0]) g_24 z_24 z z fid<|((((((a0.e sa).e h6).c H<|djs<|mm1 hg.lt<|lt_ (lt_ (lt_ (lt_ s5.s s8.s) s2.s) s9.s) sa.s).e s3).e s1).e s4).row 0 1 z) ?_)
 have ad:=((a6.e s3).e s1).e s4;have ae:=lt_ (lt_ ab s1.s) s4.s;obtain ⟨_,aF,an⟩:=bdS<|ifF V hco;refine dE z z (fc call6 z<|j_E aF (zt' I ae)<|J.g ad) (.inr fun _ _ h=>H_<|h.1) ?_;rintro _ aG ⟨sb,_,_,_,_,rfl,aH,_,_⟩;obtain ⟨_,aI,W⟩:=bdS an;refine dE z z (fc call9 z<|W_w3m (B:=aG.z) aI zr (repS.mono (or_ (((a9.e s1).e s4).e sb)<|c_.lt he)<|a_1<|lt_ (lt_ (lt_ aa s1.s) s4.s) sb.s)<|c_.rep aH) (.inr fun _ _ h=>H_<|h.1) ?_;rintro _ _ ⟨sc,rfl⟩;refine dR z z (not_ z)<|pD<|Wo<|Wc z (fun hcp=>?_) (fun hcp=>?_)
 ·refine Ws<|Rw z ?_
  obtain rfl:=som<|ifT W hcp;exact Wr<|a_ hr z ⟨bup (bup (bup (bup (bup (bM (bup (bup (bup (bup (bup (bup G s5) s8) s2) s9) sa) h6) H<|m1 hd) s3) s1) s4) sb) sc,z⟩
 refine Wk<|Wq<|Wm z<|Rm z ?_
 obtain ⟨_,aJ,ao⟩:=bdS<|ifF W hcp;refine E z (fc call7 z<|h_W aJ (zt' I<|lt_ (lt_ ae sb.s) sc.s)<|L.g<|(ad.e sb).e sc) ?_;rintro _ aK ⟨sf,_,_,_,_,rfl,aL,_,_⟩;obtain ⟨_,aM,Y⟩:=bdS ao;refine E z (fc call10 z<|W_w1q (B:=aK.z) aM zr (repS.mono (or_ (((((hn.e s1).e s4).e sb).e sc).e sf)<|c_.lt hn)<|a_1<|lt_ (lt_ (lt_ (lt_ s1.s s4.s) sb.s) sc.s) sf.s)<|c_.rep aL) ?_;rintro _ _ ⟨af,rfl⟩;refine R z (not_ z)<|Wx z (fun hcq=>?_) (fun hcq=>?_)
 ·refine Ws<|Rw z ?_
  obtain rfl:=som<|ifT Y hcq;exact Wr<|a_ hr z ⟨bup (bup (bup (bup (bup (bup (bup (bM (bup (bup (bup (bup (bup (bup G s5) s8) s2) s9) sa) h6) H<|m1 hd) s3) s1) s4) sb) sc) sf) af,z⟩
 refine Wk<|Ws<|Rw z ?_
 obtain rfl:=som<|ifF Y hcq;exact Wr<|a_ hr z ⟨bup (bup (bup (bup (bup (bup (bup (bM (bup (bup (bup (bup (bup (bup G s5) s8) s2) s9) sa) h6) H<|m1 hd) s3) s1) s4) sb) sc) sf) af,z⟩
end Go.Vw
