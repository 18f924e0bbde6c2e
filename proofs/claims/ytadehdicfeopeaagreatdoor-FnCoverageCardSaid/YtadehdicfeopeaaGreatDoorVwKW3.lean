
import Derived.Test.YtadehdicfeopeaaGreatDoorVwKW2
set_option linter.unusedVariables false
namespace Go.Vw
open Go.RowKit Dat Go.Proofs
open Go.Proofs.Tryz
open Go.Vw renaming f_g->Wq,f_i->Wg,WC.of_KC->Wo,e_z->Wl,f_h->Wc,h_7->Wr,i_5->Wu,h_A->pT,h_B->pF,f_S->fd,f_T->l1,i_a->lN,e_Q->mv,e_R->asg,h_C->lnR,f_Y->lss,f_X->eql,f_U->ext_,h_G->bP,f_V->add_,h_n->inc_,i_f->not_,h_D->at_,h_h->fc,e_2->fs,h_g->fb,f_z->fa,h_t->sr,h_y->cr,h_z->cM,h_x->bM,h_k->iS,h_j->iA,h_m->br,f_D->oA,h_p->bs,ltge->lg,inor->io,i_e->nq,i_b->lnT,i_c->sb_,h_r->ar_,h_q->al_,h_s->ds,i_O->m1,h_v->nr_,h_u->nl_,f_E->aa_,d_w->an_,e_y->Wb,f_C->u8,h_c->pD,h_8->We,h_l->Wt,h_i->fS,e_x->or_,i_6->Wf,h_P->qL,h_b->Wd,h_H->fN,f_F->na_,h_w->nj,h_J->f0,h_F->rX,h_K->tl_,h_L->ic
variable {A0:Option Addr}{N0 C0:Nat}{B:Zone}{w0:World}{n:Nat}{A5:Option Addr}{N5 C5:Nat}{AB:Option Addr}{A8:Option Addr}{AC:Option Addr}{AD:Option Addr}{NB CB:Nat}{N8 C8:Nat}{NC CC:Nat}{ND CD:Nat}{A2:Option Addr}{A3:Option Addr}{A1:Option Addr}{A4:Option Addr}{N2 C2:Nat}{N3 C3:Nat}{N1 C1:Nat}{N4 C4:Nat}{A9:Option Addr}{AA:Option Addr}{N9 C9:Nat}{NA CA:Nat}{AE:Option Addr}{AF:Option Addr}{NE CE:Nat}{NF CF:Nat}{A7:Option Addr}{N7 C7:Nat}{A6:Option Addr}{N6 C6:Nat}
theorem T_w1o (ih:e_8 n):j_q (g_W n<|a_g n):=by
 obtain ⟨_,_,aJ,_,_,_⟩:=ih
 constructor
 intro A0 A6 A2 A3 A1 A4 N0 C0 N6 C6 b1 o1 N2 C2 N3 C3 N1 C1 N4 C4 B x1 x2 x3 res w0 hm O W Y hC1 hC1b bx bz bA bB bC bD a0 V;unfold g_W at hm
 refine goG func77 z z z fun fn hr=>Ws<|E z (fb z) ?_
 rintro _ J ⟨rfl,hw⟩;have h4:=hw.below;have hx:Blk J w0.z (vR x2 A2 N2 C2 A3 N3 C3 A1 N1 C1 A4 N4 C4):=hw.blk;refine E z (fa a_6) ?_;rintro _ aK ⟨rfl,hy⟩;have h6:=hy.below;have h5:Blk aK J.z [vI 0,sl none 0 0,sl none 0 0]:=hy.blk;refine Ra z<|Rw z<|Wm z<|Rf z J_ z ?_
 have hz:=hx.e h6;refine R z (l0 D_ z<|hz.at z) ?_;obtain ⟨_,aL,aw⟩:=bdS hm;have hd:=(h4.ag B).e h6;refine RX z (at_ (α:=Int) o_ z_3 z z z (a0.g hd) aL) ?_;rintro _ ⟨_,_,_,rfl,aM,aN,_⟩;obtain ⟨rfl,aO⟩:=M_ aN;refine R z (l0 g_3 z<|aM.at0 z)<|Rm z ?_
 have a4:=(hC1.e h4).e h6;have he:=lt_ h4.s h6.s;obtain ⟨_,rr,_,aP,hms⟩:=v_ aw;refine E z (fc call74 z<|i_0 aP (zt' O he) (W.g hd) (Y.g hd) a4 hC1b aO V) ?_;rintro _ H ⟨G,aQ,aR,rfl,_,aS,a5,a6⟩;refine Rm z ?_
 iterate 3 refine Re z z z ?_
 refine RA z z<|Rw z<|Wq<|Wm z<|R z (d_6 d_8 z z a5)<|Wx z (fun hcm=>?_) (fun hcm=>?_)
 ·refine Ws<|R z (bP (parts:=[]) (cs:=[vI 0,sl none 0 0,sl none 0 0]) Y_ z z)<|RM z z<|E0 (fs0 (cur':=[vI 0,sl none 0 0,sl none 0 0]) i_ z z (h5.e G) z z z z) ?_
  rintro _ _ ⟨aT,aU⟩;have a7:=aU.one;refine Ra z<|Rw z ?_
  obtain rfl:=som<|ifT hms hcm;exact Wr<|F_ hr (r_ y_ i_ z aT z) z z ⟨bM (bup (bup h4 h6) G) a7<|m1 h4.s,none,0,0,[],none,0,0,[],aQ,aR,z,ii z,onL,onL,V,a5.c a7<|j_ a6 h5.lt lr,l_ a6 he,nd0,al0⟩
 have a1:=ifF hms hcm;refine Wk<|Wq<|Wm z<|R z (a_e z z)<|Wx z (fun hco=>?_) (fun hco=>?_)
 ·refine Ws<|R z (bP (parts:=[]) (cs:=[vI 0,sl none 0 0,sl none 0 0]) Y_ z z)<|RM z z ?_
  have a8:=lt_ he G.s;obtain ⟨_,aV,ax⟩:=bdS<|ifT a1 hco;refine E z (fc call83 z<|d_B aV (zt' O a8) V<|ii z) ?_;rintro _ _ ⟨a9,aW,aX,rfl,aY,aa⟩;refine E0 (fs0 (cur':=[vI 0,sl none 0 0,sl none 0 0]) i_ z z ((h5.e G).e a9) z z z z) ?_;rintro _ _ ⟨aZ,b0⟩;have ab:=b0.one;refine Ra z<|Rw z ?_
  obtain rfl:=som ax;exact Wr<|F_ hr (r_ y_ i_ z aZ z) z z ⟨bM (bup (bup (bup h4 h6) G) a9) ab<|m1 h4.s,none,0,0,[],none,0,0,[],aW,aX,z,ii z,onL,onL,V,aY.c ab<|j_ aa h5.lt G.s,l_ aa a8,nd0,al0⟩
 refine Wk<|Wm z ?_
 obtain ⟨b2,b3,ay⟩:=bdS<|ifF a1 hco;refine E z (h_I (α:=Int) a_Y (fun _=>a_Q<|ii z) b3 z z) ?_;rintro _ I ⟨ac,nf,cg,rfl,s8,hp⟩;refine Rw z<|Wq<|Wm z<|R z (lnR o_ z<|a_.rep hp)<|Rm z<|Wn ?_
 obtain ⟨_,az,a2⟩:=bdS ay;refine Wf (σ:=List Int) (ρ:=Val×Int×(Option<|Int×Int)) (fun (ad:Nat)(L:List Int) a w=>∃(S3:List Nat),Sat 59 [(0,.pointer<|some ⟨b1,o1,none⟩),(4,pt w0.z),(6,pt J.z),(10,vI rr),(12,sl ac nf cg),(39,vI (b2.length:Int)),(40,vI ((ad:Nat):Int))] a/\Chg (· ∈ [H.z]) I w/\a_ w S3 (sl ac nf cg) L/\S3.Nodup/\(∀k∈S3,k∈[H.z]∨I.z<=k)) (fun (L:List Int) a w=>∃(S3:List Nat),Sat 59 [(0,.pointer<|some ⟨b1,o1,none⟩),(6,pt J.z),(10,vI rr),(12,sl ac nf cg)] a/\Chg (· ∈ [H.z]) I w/\a_ w S3 (sl ac nf cg) L/\S3.Nodup/\(∀k∈S3,k∈[H.z]∨I.z<=k)) (rQ prog fn<|Q24 w0 B) az ?_ ?_ ?_ ?_ ?_
 ·exact fun _ q=>⟨[H.z],q.k<|s7 z z z z z z z,cr [H.z] I,hp,a_k,io sr⟩
 ·rintro ad L _ b4 _ a3 ⟨S3,aA,sh,ha,hi,hj⟩ aB;refine Wu ?_ aA;refine Ws<|Rl z z z<|Wn<|Wq<|Wc z (fun _=>?_) (fun hc=>(a_2 a3 hc).elim)
  refine Wk<|Wq<|Wb<|Wm z<|Rw z<|Wg<|RM z z<|Rf z J_ z<|R z (l0 D_ z<|(((hz.e G).e s8).c sh<|djs<|mm1 hx.lt<|lt_ h6.s G.s).at z) ?_
  obtain ⟨_,b5,aC⟩:=bdS aB;refine RX z (at_ (α:=Int) o_ z_3 z z z (a0.g<|((hd.e G).e s8).c sh<|b_ (or0 (c_ lr) (k_<|zt' O<|lt_ he G.s):∀k∈[H.z],¬B k)) b5) ?_;rintro _ ⟨_,_,_,rfl,b6,b7,_⟩;obtain ⟨rfl,b8⟩:=M_ b7;refine R z (l0 g_3 z<|b6.at0 z) ?_;obtain ⟨b9,ae,aD⟩:=bdS aC;refine RX z (h_E (α:=Int) o_ z_3 z z ha ae) ?_;rintro _ ⟨_,ba,rfl⟩;refine E0 (e_E (α:=Int) z_3 z ba z z z ae ha hi (a_Q b8) an_ G_) ?_;rintro _ bb ⟨af,bc,be,bf,bg⟩;refine Wn<|Wg<|R z (inc_ a3 (lt_ (a_.len hp) K_) z z)<|Rm z<|Wl ?_
  have ah:∀k∈S3,k∈[H.z]∨I.z<=k:=or1 hj (io sr)<|s_ lr;exact fun _ q=>⟨b9,(som aD).symm,⟨af,q.k<|s7 z z z z z z z,(cM (cM (cr [H.z] I) sh (io sr):Chg (· ∈ [H.z]) I b4) bc ah:Chg (· ∈ [H.z]) I bb),be,bf,(or2 bg ah an_ (s_ sh.s):∀k∈af,k∈[H.z]∨I.z<=k)⟩⟩
 ·rintro L _ bh ⟨S3,aE,bi,ha,hi,hj⟩;refine Wu ?_ aE;refine Ws<|Rl z z z<|Wn<|Wq<|Wc z (fun hc=>(a_3 hc).elim) (fun _=>?_)
  exact We<|fun _ q=>⟨rfl,⟨S3,q.k<|s4 z z z z,(cM (cr [H.z] I) bi (io sr):Chg (· ∈ [H.z]) I bh),ha,hi,(or1 hj (io sr) (s_ lr):∀k∈S3,k∈[H.z]∨I.z<=k)⟩⟩
 ·rintro L bj bk rfl ⟨S3,_,sb,ha,hi,hj⟩;have aF:=elL a2;revert bj;refine Wo<|Wm z<|R z (bP (parts:=[]) (cs:=[vI 0,sl none 0 0,sl none 0 0]) Y_ z z)<|RM z z ?_
  have hq:=lt_ he G.s;have ai:∀k∈[H.z],¬B k:=or0 (c_ lr)<|k_<|zt' O hq;have aj:=((hd.e G).e s8).c sb<|b_ ai
  have hk:=lt_ (lt_ hq s8.s) sb.s;have ht:=zt' O hk;obtain ⟨bm,_,_,bn,aG⟩:=v_ aF;refine E z (fc call78 z<|aJ.run (B:=bk.z) (x2:=(⟨0,([]:List UInt8),([]:List Val)⟩:Val)) bn zr (repS.mono (W.g aj) ht) (repS.mono (Y.g aj) ht) (((a4.e G).e s8).c sb<|(b_ ai) _ hC1b) (zap' ht hC1b) (ii z) onL G_ (nbl an_) onL G_ (nbl an_) an_ (a_.rep ha) aS) ?_;rintro _ _ ⟨ak,al,am,an,ao,ap,aq,ar,au,bo,bp,rfl,bq,br,bs,bt,bu,av,hu,hl⟩
  iterate 3 refine Re z z z ?_
  refine E0 (fs0 (cur':=[vI bm.number,sl al am an,sl ap aq ar]) i_ z z ((((h5.e G).e s8).c sb<|djs<|mm1 h5.lt G.s).c ak<|atp<|nmA (nmN _)<|nmN _) z z z z) ?_;rintro _ _ ⟨bv,bw⟩;have hn:=bw.one;refine Ra z<|Rw z ?_
  obtain rfl:=som aG;have hv:=lt_ (lt_ G.s s8.s) sb.s;exact Wr<|F_ hr (r_ y_ i_ z bv z) z z ⟨bM (bM (bM (bup (bup (bup h4 h6) G) s8) sb<|m1 hq) ak al0) hn<|m1 h4.s,al,am,an,ao,ap,aq,ar,au,bo,bp,z,bq,br.c hn (or1 (al_ hl) al0 (O_ (c_ h5.lt) hv):∀k∈ao,k∉[J.z]),bs.c hn (or1 (ar_ hl) al0 (O_ (c_ h5.lt) hv):∀k∈au,k∉[J.z]),bt,bu.c hn<|j_ av h5.lt hv,l_ av hk,na_ (nl_ hu) (nr_ hu)<|nj hu,aa_ (a_i (al_ hl) al0 hk)<|a_i (ar_ hl) al0 hk⟩
 rintro _ _ _ _ rfl ⟨rfl,aH⟩;have aI:=elR a2;obtain rfl:=som aI;exact ⟨aH,z⟩
theorem T_w1p (ih:e_8 n):j_r (g_X n<|a_g n):=by
 obtain ⟨aY,_,_,_,_,_⟩:=ih
 constructor
 intro A0 A6 AE AF A7 N0 C0 N6 C6 b1 o1 NE CE NF CF N7 C7 S2_1 S2_2 B x1 x2 x3 x4 res w0 hm ae aL aM hC1 hC1b aN Y p2_1n p2_1g a0 p2_2n p2_2g p2_2d1 a1 aO;unfold g_X at hm
 refine goG func78 z z z fun fn hr=>Ws<|E z (fb z) ?_
 rintro _ wb ⟨rfl,af⟩;have h2:=af.below;have he:Blk wb w0.z [vI x2.number,sl AE NE CE,sl AF NF CF]:=af.blk;refine E z (fa a_6) ?_;rintro _ G ⟨rfl,ah⟩;have W:=ah.below;have hk:Blk G wb.z [vI 0,sl none 0 0,sl none 0 0]:=ah.blk;refine Ra z<|Rw z<|Wq<|Wm z ?_
 have ai:=(h2.ag B).e W;refine R z (lnR o_ z<|a1.g ai)<|Rm z<|Wn ?_
 obtain ⟨_,aP,aa⟩:=bdS hm;refine Wf (σ:=Int×(List Val)) (ρ:=Val×Int×(Option<|Int×Int)) (fun (aj:Nat) s a w=>un2 (fun xc xh=>∃I J L H,Sat 45 [(0,.pointer<|some ⟨b1,o1,none⟩),(3,vI xc),(5,pt w0.z),(8,pt wb.z),(16,sl A7 N7 C7),(17,vI (x3.length:Int)),(18,vI ((aj:Nat):Int))] a/\Chg (· ∈ (S2_2++[w0.z])) G w/\inI xc/\a_ w H (sl I J L) xh/\H.Nodup/\(∀k∈H,k∈S2_2∨G.z<=k)/\Blk w w0.z [vI x2.number,sl AE NE CE,sl I J L]) s) (fun s a w=>un2 (fun xc xh=>∃I J L H,Sat 45 [(3,vI xc),(5,pt w0.z),(8,pt wb.z)] a/\Chg (· ∈ (S2_2++[w0.z])) G w/\inI xc/\a_ w H (sl I J L) xh/\H.Nodup/\(∀k∈H,k∈S2_2∨G.z<=k)/\Blk w w0.z [vI x2.number,sl AE NE CE,sl I J L]) s) (rQ prog fn<|Q25 w0 B S2_1 S2_2) aP ?_ ?_ ?_ ?_ ?_
 ·exact fun _ q=>⟨AF,NF,CF,S2_2,q.k<|s7 z z z z z z z,cr (S2_2++[w0.z]) G,aO,(a0.e h2).e W,p2_2n,io sr,he.e W⟩
 ·rintro aj ⟨xc,xh⟩ _ ak _ ab ⟨I,J,L,H,aQ,s6,hi,hf,hl,hd,hn⟩ aR;refine Wu ?_ aQ;refine Ws<|Rl z z z<|Wn<|Wq<|Wc z (fun _=>?_) (fun hc=>(a_2 ab hc).elim)
  refine Wk<|Wq<|Wb<|Ws ?_
  obtain ⟨_,aZ,aS⟩:=bdS<|a_G aR;have al:∀k∈[w0.z],¬B k:=or0 (c_ lr)<|k_ ae;have ht:=ai.c s6<|nmA (b_ p2_2g)<|b_ al
  refine RX z (at_ (α:=Int) o_ z_3 z z z (a1.g ht) aZ) ?_;rintro _ ⟨_,_,_,rfl,b0,b2,_⟩;obtain ⟨rfl,b3⟩:=M_ b2;refine R z (l0 g_3 z<|b0.at0 z)<|Rw z<|Wm z<|RM z z ?_
  have hu:=lt_ (lt_ h2.s W.s) s6.s;obtain ⟨ro,b4,_,b5,ad⟩:=v_ aS;refine E z (fc call52 z<|aY.run b5 (zt' ae hu) (aL.g ht) (aM.g ht) (((hC1.e h2).e W).c s6<|(nmA (b_ p2_2g)<|b_ al) _ hC1b) hC1b b3 hi) ?_;rintro _ wm ⟨sa,ar,ns,cv,am,aw,nx,cy,an,b6,b7,rfl,b8,hp,hq,b9,ao,ap,hz,hj⟩;refine Rm z ?_
  iterate 3 refine Re z z z ?_
  refine E z (fa a_6) ?_;rintro _ a4 ⟨rfl,aq⟩;have O:=aq.below;refine E0 (fs0 (cur':=[vI ro.number,sl ar ns cv,sl aw nx cy]) i_ z z (aq.blk:Blk a4 wm.z [vI 0,sl none 0 0,sl none 0 0]) z z z z) ?_;rintro _ a5 ⟨ba,bb⟩;have V:=bb.one;refine Ra z<|Rw z<|Wq<|Wm z ?_
  have au:=(ao.e O).c V<|ds<|mnr<|a_D.lt ao
  refine R z (d_6 d_8 z z au)<|Wx z (fun a2=>?_) (fun a2=>?_)
  ·refine Ws<|R z (bP (parts:=[]) (cs:=[vI 0,sl none 0 0,sl none 0 0]) Y_ z z)<|RM z z ?_
   refine E0 (fs0 (cur':=[vI 0,sl none 0 0,sl none 0 0]) i_ z z ((((hk.c s6<|atp<|nmA (mno (a_.lt a0) h2.s)<|mmr he.lt).e sa).e O).c V<|djs<|mm1 hk.lt<|lt_ s6.s sa.s) z z z z) ?_;rintro _ bc ⟨be,bf⟩;have av:=bf.one;refine Ra z<|Rw z ?_
   exact Wr<|rtO<|qL (som<|ifT ad a2).symm<|F_ hr (r_ y_ i_ z be z) z z ⟨(cM (cM (f_ (f_ (cM (f_ (f_ (cr (S2_1++S2_2) w0) h2:Chg (· ∈ (S2_1++S2_2)) w0 wb) W:Chg (· ∈ (S2_1++S2_2)) w0 G) s6 (aa_ (io<|C_ sr) (mor lr:∀k∈[w0.z],k∈(S2_1++S2_2)∨w0.z<=k)):Chg (· ∈ (S2_1++S2_2)) w0 ak) sa:Chg (· ∈ (S2_1++S2_2)) w0 wm) O:Chg (· ∈ (S2_1++S2_2)) w0 a4) V (mor (lt_ hu sa.s):∀k∈[wm.z],k∈(S2_1++S2_2)∨w0.z<=k):Chg (· ∈ (S2_1++S2_2)) w0 a5) av (mor h2.s:∀k∈[wb.z],k∈(S2_1++S2_2)∨w0.z<=k):Chg (· ∈ (S2_1++S2_2)) w0 bc),none,0,0,[],none,0,0,[],b6,b7,z,ii z,onL,onL,hi,au.c av<|j_ ap hk.lt s6.s,l_ ap hu,nd0,al0⟩
  refine Wk<|Ws<|Rf z a_q z ?_
  have a6:=lt_ W.s s6.s;have ax:=lt_ a6 sa.s;have ay:=((hn.e sa).e O).c V<|djs<|mm1 he.lt ax
  refine R z (l0 a_P z<|ay.at z)<|R z (lN (vs:=[vI ro.number,sl ar ns cv,sl aw nx cy]) y_ i_ z z fid<|ba.row 0 3 z)<|E z (fS [(.tmp 37)] b_V z z z (a_c z) (lb z)<|lb z) ?_
  rintro _ az ⟨rfl,aA⟩;have hg:=aA.below;have bw:=(hp.e O).c V<|ds<|mnr<|a_.lt hp
  have bx:=(hq.e O).c V<|ds<|mnr<|a_.lt hq
  obtain ⟨bg,bh,aT⟩:=bdS<|ifF ad a2;refine E z (a_O (α:=Val) b_V bh z z ((((hf.e sa).e O).c V<|ds<|mno (a_.lt hf) sa.s).e hg) hl (aA.blk:Blk az a5.z [vI ro.number,sl ar ns cv,sl aw nx cy]) (d_s (x:=ro) (S1:=am) (S2:=an) b8 (((hp.e O).c V<|ds<|mnr<|a_.lt hp).e hg)<|((hq.e O).c V<|ds<|mnr<|a_.lt hq).e hg) (aa_ (b_e (al_ hj) (a_.lt hf) lr)<|b_e (ar_ hj) (a_.lt hf) lr)<|na_ (nl_ hz) (nr_ hz)<|nj hz) ?_;rintro _ bi ⟨a7,aB,aC,aD,rfl,aE,bj,bk,aF⟩;refine Rf z a_q z ?_;have aG:∀k∈H,k∉[w0.z]:=or1 hd (ds<|mnr<|a_.lt a0)<|O_ (c_ he.lt) W.s;refine E0 (fs0 (cur':=[vI x2.number,sl AE NE CE,sl aB aC aD]) d_z z z ((ay.e hg).c aE<|djs aG) z z z z) ?_;rintro _ bm ⟨bn,bo⟩;have aH:=bo.one;refine Wn<|Wg<|Rm z<|Rw z<|Wg<|R z (inc_ ab (lt_ (repS.len a1) K_) z z)<|Rm z<|Wl ?_
  have aI:=lt_ s6.s sa.s;exact fun _ q=>⟨(b4,bg),(som aT).symm,⟨aB,aC,aD,a7,q.k<|s7 z z z z z z z,(cM (cM (f_ (cM (f_ (f_ (cM (cr (S2_2++[w0.z]) G) s6 (aa_ (io<|A_ sr)<|io<|C_ sr):Chg (· ∈ (S2_2++[w0.z])) G ak) sa:Chg (· ∈ (S2_2++[w0.z])) G wm) O:Chg (· ∈ (S2_2++[w0.z])) G a4) V (mor aI:∀k∈[wm.z],k∈(S2_2++[w0.z])∨G.z<=k):Chg (· ∈ (S2_2++[w0.z])) G a5) hg:Chg (· ∈ (S2_2++[w0.z])) G az) aE (or1 hd (io<|A_ sr) (s_ lr):∀k∈H,k∈(S2_2++[w0.z])∨G.z<=k):Chg (· ∈ (S2_2++[w0.z])) G bi) aH (io<|C_ sr):Chg (· ∈ (S2_2++[w0.z])) G bm),b9,bj.c aH (or2 aF aG (aa_ (j_ (al_ hj) he.lt a6)<|j_ (ar_ hj) he.lt a6) (O_ (c_ he.lt)<|lt_ (lt_ (lt_ ax O.s) V.s) hg.s):∀k∈a7,k∉[w0.z]),bk,(or2 aF (or1 hd (io sr) (s_ lr):∀k∈H,k∈S2_2∨G.z<=k) (aa_ (or0 (al_ hj) (s_ s6.s):∀k∈am,k∈S2_2∨G.z<=k) (or0 (ar_ hj) (s_ s6.s):∀k∈an,k∈S2_2∨G.z<=k)) (s_<|lt_ (lt_ (lt_ aI O.s) V.s) hg.s):∀k∈a7,k∈S2_2∨G.z<=k),bn⟩⟩
 ·rintro ⟨xc,xh⟩ _ bp ⟨I,J,L,H,aU,bq,hi,hf,hl,hd,hn⟩;refine Wu ?_ aU;refine Ws<|Rl z z z<|Wn<|Wq<|Wc z (fun hc=>(a_3 hc).elim) (fun _=>?_)
  exact We<|fun _ q=>⟨rfl,⟨I,J,L,H,q.k<|s3 z z z,(cM (cr (S2_2++[w0.z]) G) bq (aa_ (io<|A_ sr)<|io<|C_ sr):Chg (· ∈ (S2_2++[w0.z])) G bp),hi,hf,hl,(or1 hd (io sr) (s_ lr):∀k∈H,k∈S2_2∨G.z<=k),hn⟩⟩
 ·rintro ⟨xc,xh⟩ br bs rfl ⟨I,J,L,H,_,a8,hi,hf,hl,hd,hn⟩;have aV:=elL aa;revert br;refine Wo<|Ws<|R z (lN (vs:=[vI x2.number,sl AE NE CE,sl I J L]) y_ i_ z z fid<|hn.row 0 3 z)<|Rm z ?_
  have aJ:=mno (a_.lt a0) h2.s;refine E0 (fs0 (cur':=[vI x2.number,sl AE NE CE,sl I J L]) i_ z z (hk.c a8<|atp<|nmA aJ<|mmr he.lt) z z z z) ?_;rintro _ bt ⟨bu,bv⟩;have a9:=bv.one;refine Ra z<|Rw z ?_
  obtain rfl:=som<|a_G aV;have aK:=lt_ h2.s W.s;exact Wr<|F_ hr (r_ y_ i_ z bu z) z z ⟨(cM (cM (f_ (f_ (cr (S2_1++S2_2) w0) h2:Chg (· ∈ (S2_1++S2_2)) w0 wb) W:Chg (· ∈ (S2_1++S2_2)) w0 G) a8 (aa_ (io<|C_ sr) (mor lr:∀k∈[w0.z],k∈(S2_1++S2_2)∨w0.z<=k)):Chg (· ∈ (S2_1++S2_2)) w0 bs) a9 (mor h2.s:∀k∈[wb.z],k∈(S2_1++S2_2)∨w0.z<=k):Chg (· ∈ (S2_1++S2_2)) w0 bt),AE,NE,CE,S2_1,I,J,L,H,.nilIface,([]:List Nat),z,aN,(((Y.e h2).e W).c a8<|nmA (ds p2_2d1)<|ds<|mnr<|a_.lt Y).c a9<|ds<|mno (a_.lt Y) h2.s,hf.c a9 (or1 hd (ds aJ) (O_ (c_ hk.lt) lr):∀k∈H,k∉[wb.z]),hi,d_x,an_,na_ p2_1n hl<|ds<|o1no hd p2_2d1 (a_.lt Y) aK,aa_ (io<|A_ sr) (or1 hd (io<|C_ sr) (s_ aK):∀k∈H,k∈(S2_1++S2_2)∨w0.z<=k)⟩
 rintro _ _ _ _ rfl ⟨rfl,aW⟩;have aX:=elR aa;obtain rfl:=som aX;exact ⟨aW,z⟩
theorem T_w1q (ih:e_8 n):j_s (g_Y n<|a_g n):=by
 obtain ⟨_,_,ar,_,_,_⟩:=ih
 constructor
 intro A0 A6 A2 A3 A1 A4 N0 C0 N6 C6 b1 o1 N2 C2 N3 C3 N1 C1 N4 C4 B x1 x2 x3 res w0 hm Y a0 a1 hC1 hC1b b7 b8 b9 ba bb J a2 L;unfold g_Y at hm
 refine goG func79 z z z fun fn hr=>Ws<|E z (fb z) ?_
 rintro _ H ⟨rfl,hk⟩;have h1:=hk.below;refine E z (fa a_6) ?_;rintro _ au ⟨rfl,hl⟩;have h4:=hl.below;have h2:Blk au H.z [vI 0,sl none 0 0,sl none 0 0]:=hl.blk;refine Ra z<|Rw z<|Wm z<|Rf z J_ z ?_
 have hn:=(hk.blk:Blk H w0.z (vR x2 A2 N2 C2 A3 N3 C3 A1 N1 C1 A4 N4 C4)).e h4;refine R z (l0 D_ z<|hn.at z) ?_;obtain ⟨_,av,af⟩:=bdS hm;have O:=(h1.ag B).e h4;refine RX z (at_ (α:=Int) o_ z_3 z z z (a2.g O) av) ?_;rintro _ ⟨_,_,_,rfl,aw,ax,_⟩;obtain ⟨rfl,az⟩:=M_ ax;refine R z (l0 g_3 z<|aw.at0 z)<|Rm z ?_
 have ho:=(hC1.e h1).e h4;have V:=lt_ h1.s h4.s;obtain ⟨re,aA,_,aB,hmm⟩:=v_ af;refine E z (fc call74 z<|i_0 aB (zt' Y V) (a0.g O) (a1.g O) ho hC1b az L) ?_;rintro _ I ⟨G,aC,aD,rfl,aE,aF,hp,hq⟩;refine Rm z ?_
 iterate 3 refine Re z z z ?_
 refine RA z z<|Rw z<|Wq<|Wm z<|R z (d_6 d_8 z z hp)<|Wx z (fun hcf=>?_) (fun hcf=>?_)
 ·refine Ws<|R z (bP (parts:=[]) (cs:=[vI 0,sl none 0 0,sl none 0 0]) Y_ z z)<|RM z z<|E0 (fs0 (cur':=[vI 0,sl none 0 0,sl none 0 0]) i_ z z (h2.e G) z z z z) ?_
  rintro _ _ ⟨aG,aH⟩;have ht:=aH.one;refine Ra z<|Rw z ?_
  obtain rfl:=som<|ifT hmm hcf;exact Wr<|F_ hr (r_ y_ i_ z aG z) z z ⟨bM (bup (bup h1 h4) G) ht<|m1 h1.s,none,0,0,[],none,0,0,[],aC,aD,z,ii z,onL,onL,L,hp.c ht<|j_ hq h2.lt lr,l_ hq V,nd0,al0⟩
 refine Wk<|Wq<|Ws<|Rf z a_S z ?_
 have hu:=hn.e G;refine R z (l0 D_ z<|hu.at z) ?_;have hv:=O.e G;refine R z (lnR o_ z<|J.g hv)<|Rm z<|Wn ?_
 obtain ⟨_,ah,hmr⟩:=bdS<|ifF hmm hcf;refine Wf (σ:=Unit) (ρ:=Val×Int×(Option<|Int×Int)) (fun (ks:Nat)(_:Unit) a w=>Sat 61 [(0,.pointer<|some ⟨b1,o1,none⟩),(2,vI x3),(4,pt w0.z),(6,pt H.z),(9,vI re),(10,vI aA),(31,sl A1 N1 C1),(32,vI (x2.tags.length:Int)),(33,vI ((ks:Nat):Int))] a/\Below I.z I w) (fun (_:Unit) a w=>Sat 61 [(2,vI x3),(6,pt H.z)] a/\Below I.z I w) (rQ prog fn<|Q24 w0 B) ah ?_ ?_ ?_ ?_ ?_
 ·exact fun _ q=>⟨q.k<|s9 z z z z z z z z z,br I⟩
 ·rintro ks _ _ _ _ hkg ⟨ai,s3⟩ aj;refine Wu ?_ ai;refine Ws<|Rl z z z<|Wn<|Wq<|Wc z (fun _=>?_) (fun hc=>(a_2 hkg hc).elim)
  refine Wk<|Wq<|Wb<|Wm z ?_
  obtain ⟨_,aI,hmw⟩:=bdS aj;have W:=hv.e s3;refine RX z (at_ (α:=Int) o_ z_3 z z z (J.g W) aI) ?_;rintro _ ⟨_,_,_,rfl,aJ,aK,_⟩;obtain ⟨rfl,_⟩:=M_ aK;refine R z (l0 g_3 z<|aJ.at0 z)<|Ra z<|Rw z<|Wm z<|Rm z<|Rq z z z<|Wx z (fun hch=>?_) (fun hch=>?_)
  ·refine Wm z<|Rm z<|R z (bP (parts:=[(0,.tmp 42)]) (cs:=[vI re,sl none 0 0,sl none 0 0]) Y_ z z)<|Rf z J_ z<|R z (l0 D_ z<|(hu.e s3).at z)<|Rm z<|R z (inc_ hkg (lt_ (repS.len J) K_) z z)<|Rm z<|R z (add_ z z) ?_
   obtain ⟨_,aL,ak⟩:=bdS<|ifT hmw hch;refine RX z (rX o_ z_3 z z (a2.g W) z z aL) ?_;rintro _ ⟨_,_,_,rfl,aM⟩;refine Rm z ?_;have ha:=lt_ (lt_ V G.s) s3.s;obtain ⟨aN,_,_,aO,al⟩:=v_ ak;refine E z (fc call78 z<|ar.run (B:=B) (x2:=(⟨re,([]:List UInt8),([]:List Val)⟩:Val)) aO (zt' Y ha) (a0.g W) (a1.g W) ((ho.e G).e s3) hC1b aE onL G_ an_ onL G_ an_ an_ aM aF) ?_;rintro _ _ ⟨sx,ay,nz,a3,a4,a5,a6,a7,a8,aP,aQ,rfl,aR,aS,aT,aU,aV,a9,hi,hb⟩
   iterate 3 refine Re z z z ?_
   refine E0 (fs0 (cur':=[vI aN.number,sl ay nz a3,sl a5 a6 a7]) i_ z z (((h2.e G).e s3).c sx<|atp<|nmA (nmN _)<|nmN _) z z z z) ?_;rintro _ _ ⟨aW,aX⟩;have hd:=aX.one;refine Ra z<|Rw z ?_
   have hj:=lt_ G.s s3.s;exact Wr<|rtO<|qL (som al).symm<|F_ hr (r_ y_ i_ z aW z) z z ⟨bM (bM (bup (bup (bup h1 h4) G) s3) sx al0) hd<|m1 h1.s,ay,nz,a3,a4,a5,a6,a7,a8,aP,aQ,z,aR,aS.c hd (or1 (al_ hb) al0 (O_ (c_ h2.lt) hj):∀k∈a4,k∉[H.z]),aT.c hd (or1 (ar_ hb) al0 (O_ (c_ h2.lt) hj):∀k∈a8,k∉[H.z]),aU,aV.c hd<|j_ a9 h2.lt hj,l_ a9 ha,na_ (nl_ hi) (nr_ hi)<|nj hi,aa_ (a_i (al_ hb) al0 ha)<|a_i (ar_ hb) al0 ha⟩
  exact Wk<|Wg<|R z (inc_ hkg (lt_ (repS.len J) K_) z z)<|Rm z<|Wl (fun _ q=>⟨(),(som<|ifF hmw hch).symm,⟨q.k<|s9 z z z z z z z z z,s3⟩⟩)
 ·rintro _ _ _ ⟨am,aY⟩;refine Wu ?_ am;refine Ws<|Rl z z z<|Wn<|Wq<|Wc z (fun hc=>(a_3 hc).elim) (fun _=>?_)
  exact We<|fun _ q=>⟨rfl,⟨q.k<|s2 z z,aY⟩⟩
 ·rintro _ aZ _ rfl ⟨_,sc⟩;have an:=elL hmr;revert aZ;refine Wo<|Ws<|R z (bP (parts:=[]) (cs:=[vI 0,sl none 0 0,sl none 0 0]) Y_ z z)<|RM z z ?_
  have aa:=lt_ (lt_ V G.s) sc.s;obtain ⟨_,b0,ao⟩:=bdS an;refine E z (fc call83 z<|d_B b0 (zt' Y aa) L<|ii z) ?_;rintro _ _ ⟨ab,b2,b3,rfl,b4,ad⟩;refine E0 (fs0 (cur':=[vI 0,sl none 0 0,sl none 0 0]) i_ z z (((h2.e G).e sc).e ab) z z z z) ?_;rintro _ _ ⟨b5,b6⟩;have ae:=b6.one;refine Ra z<|Rw z ?_
  obtain rfl:=som ao;exact Wr<|F_ hr (r_ y_ i_ z b5 z) z z ⟨bM (bup (bup (bup (bup h1 h4) G) sc) ab) ae<|m1 h1.s,none,0,0,[],none,0,0,[],b2,b3,z,ii z,onL,onL,L,b4.c ae<|j_ ad h2.lt<|lt_ G.s sc.s,l_ ad aa,nd0,al0⟩
 rintro _ _ _ _ rfl ⟨rfl,ap⟩;have aq:=elR hmr;obtain rfl:=som aq;exact ⟨ap,z⟩
theorem T_w1r (ih:e_8 n):j_t (g_Z n<|a_g n):=by
 obtain ⟨_,_,a6,_,_,_⟩:=ih
 constructor
 intro A0 A6 A2 A3 A1 A4 N0 C0 N6 C6 b1 o1 N2 C2 N3 C3 N1 C1 N4 C4 B x1 x2 x3 res w0 hm O W Y hC1 hC1b aI aJ aK aL aM aN a3 H;unfold g_Z at hm
 refine goG func80 z z z fun fn hr=>Ws<|E z (fb z) ?_
 rintro _ I ⟨rfl,hf⟩;have h1:=hf.below;refine E z (fa a_6) ?_;rintro _ a7 ⟨rfl,hg⟩;have h3:=hg.below;have h2:Blk a7 I.z [vI 0,sl none 0 0,sl none 0 0]:=hg.blk;refine Ra z<|Rw z<|Wm z<|Rm z ?_
 have hh:=(hC1.e h1).e h3;have V:=(h1.ag B).e h3;have h5:=lt_ h1.s h3.s;obtain ⟨_,_,a8,hmi⟩:=a_t hm;refine E z (fc call108 z<|h_Z a8 (zt' O h5) (W.g V) (Y.g V) hh hC1b H<|ii z) ?_;rintro _ _ ⟨G,_,_,_,a9,aa,rfl,hj,hk,hl⟩;refine Rm z<|Re z z z<|Re z z z<|Ra z<|Rw z<|Wq<|Wb<|Wm z<|R z (d_6 d_8 z z hk)<|Rw z<|Wc z (fun hca=>?_) (fun hca=>?_)
 ·refine Ws<|R z (bP (parts:=[]) (cs:=[vI 0,sl none 0 0,sl none 0 0]) Y_ z z)<|RM z z<|E0 (fs0 (cur':=[vI 0,sl none 0 0,sl none 0 0]) i_ z z (h2.e G) z z z z) ?_
  rintro _ _ ⟨ab,ad⟩;have hn:=ad.one;refine Ra z<|Rw z ?_
  obtain rfl:=som<|ifT hmi hca;exact Wr<|rtO<|F_ hr (r_ y_ i_ z ab z) z z ⟨bM (bup (bup h1 h3) G) hn<|m1 h1.s,none,0,0,[],none,0,0,[],a9,aa,z,ii z,onL,onL,H,hk.c hn<|j_ hl h2.lt lr,l_ hl h5,nd0,al0⟩
 refine Wm z ?_
 obtain ⟨_,ae,hmm⟩:=bdS<|ifF hmi hca;refine RX z (at_ (α:=UInt8) p_ z_5 z z z hj ae) ?_;rintro _ ⟨_,_,_,rfl,af,ah,_⟩;obtain rfl:=u8 ah;refine R z (l0 g_5 z<|af.at0 z)<|R z (a_e z z)<|Rw z<|Wc z (fun hcb=>?_) (fun hcb=>?_)
 ·refine Ws<|R z (bP (parts:=[]) (cs:=[vI 0,sl none 0 0,sl none 0 0]) Y_ z z)<|RM z z ?_
  have ho:=lt_ h5 G.s;obtain ⟨_,ai,a4⟩:=bdS<|ifT hmm hcb;refine E z (fc call83 z<|d_B ai (zt' O ho) H<|ii z) ?_;rintro _ _ ⟨sp,aj,ak,rfl,al,hq⟩;refine E0 (fs0 (cur':=[vI 0,sl none 0 0,sl none 0 0]) i_ z z ((h2.e G).e sp) z z z z) ?_;rintro _ _ ⟨am,an⟩;have ht:=an.one;refine Ra z<|Rw z ?_
  obtain rfl:=som a4;exact Wr<|rtO<|F_ hr (r_ y_ i_ z am z) z z ⟨bM (bup (bup (bup h1 h3) G) sp) ht<|m1 h1.s,none,0,0,[],none,0,0,[],aj,ak,z,ii z,onL,onL,H,al.c ht<|j_ hq h2.lt G.s,l_ hq ho,nd0,al0⟩
 refine Wm z ?_
 obtain ⟨_,ao,hmr⟩:=bdS<|ifF hmm hcb;refine RX z (at_ (α:=UInt8) p_ z_5 z z z hj ao) ?_;rintro _ ⟨_,_,_,rfl,ap,aq,_⟩;obtain rfl:=u8 aq;refine R z (l0 g_5 z<|ap.at0 z)<|Rq z z z<|Rw z<|Wc z (fun hcc=>?_) (fun hcc=>?_)
 ·refine Ws<|R z (bP (parts:=[]) (cs:=[vI 0,sl none 0 0,sl none 0 0]) Y_ z z)<|Rm z<|R z (add_ z z)<|E0 (fs0 (cur':=[vI 0,sl none 0 0,sl none 0 0]) i_ z z (h2.e G) z z z z) ?_
  rintro _ _ ⟨ar,av⟩;refine Ra z<|Rw z ?_
  obtain rfl:=som<|ifT hmr hcc;exact Wr<|rtO<|F_ hr (r_ y_ i_ z ar z) z z ⟨bM (bup (bup h1 h3) G) av.one<|m1 h1.s,none,0,0,[],none,0,0,[],.nilIface,([]:List Nat),z,ii z,onL,onL,iA _ _,d_x,an_,nd0,al0⟩
 refine Wk<|Wm z<|R z (bP (parts:=[]) (cs:=[vI 0,sl none 0 0,sl none 0 0]) Y_ z z)<|Rf z J_ z<|R z (l0 D_ z<|(((hf.blk:Blk I w0.z (vR x2 A2 N2 C2 A3 N3 C3 A1 N1 C1 A4 N4 C4)).e h3).e G).at z)<|Rm z<|R z (add_ z z) ?_
 have hd:=V.e G;have h6:=lt_ h5 G.s;obtain ⟨aw,_,_,ax,a5⟩:=v_<|ifF hmr hcc;refine E z (fc call78 z<|a6.run (B:=B) (x2:=(⟨0,([]:List UInt8),([]:List Val)⟩:Val)) ax (zt' O h6) (W.g hd) (Y.g hd) (hh.e G) hC1b (ii z) onL G_ an_ onL G_ an_ an_ (a3.g hd)<|iA _ _) ?_;rintro _ _ ⟨ss,au,nv,cw,Sx,ay,nz,a0,a1,az,aA,rfl,aB,aC,aD,aE,aF,a2,he,J⟩
 iterate 3 refine Re z z z ?_
 refine E0 (fs0 (cur':=[vI aw.number,sl au nv cw,sl ay nz a0]) i_ z z ((h2.e G).c ss<|atp<|nmA (nmN _)<|nmN _) z z z z) ?_;rintro _ _ ⟨aG,aH⟩;have L:=aH.one;refine Ra z<|Rw z ?_
 obtain rfl:=som a5;exact Wr<|F_ hr (r_ y_ i_ z aG z) z z ⟨bM (bM (bup (bup h1 h3) G) ss al0) L<|m1 h1.s,au,nv,cw,Sx,ay,nz,a0,a1,az,aA,z,aB,aC.c L (or1 (al_ J) al0 (O_ (c_ h2.lt) G.s):∀k∈Sx,k∉[I.z]),aD.c L (or1 (ar_ J) al0 (O_ (c_ h2.lt) G.s):∀k∈a1,k∉[I.z]),aE,aF.c L<|j_ a2 h2.lt G.s,l_ a2 h6,na_ (nl_ he) (nr_ he)<|nj he,aa_ (a_i (al_ J) al0 h6)<|a_i (ar_ J) al0 h6⟩
theorem T_w1s (ih:e_8 n):j_u (h_0 n<|a_g n):=by
 obtain ⟨_,_,ap,_,_,_⟩:=ih
 constructor
 intro A0 A6 A2 A3 A1 A4 N0 C0 N6 C6 b1 o1 N2 C2 N3 C3 N1 C1 N4 C4 B x1 x2 x3 res w0 hm J V O hC1 hC1b aW aX aY aZ b0 b2 al L;unfold h_0 at hm
 refine goG func81 z z z fun fn hr=>Ws<|E z (fb z) ?_
 rintro _ wb ⟨rfl,hu⟩;have h6:=hu.below;refine E z (fa a_6) ?_;rintro _ aq ⟨rfl,hv⟩;have H:=hv.below;have h3:Blk aq wb.z [vI 0,sl none 0 0,sl none 0 0]:=hv.blk;refine Ra z<|Rw z<|Wm z<|R z (bP (parts:=[]) (cs:=[vI 0,sl none 0 0,sl none 0 0]) Y_ z z)<|Rf z J_ z<|R z (l0 D_ z<|((hu.blk:Blk wb w0.z (vR x2 A2 N2 C2 A3 N3 C3 A1 N1 C1 A4 N4 C4)).e H).at z)<|Rm z ?_
 have hw:=(hC1.e h6).e H;have hc:=(h6.ag B).e H;have I:=lt_ h6.s H.s;obtain ⟨rk,_,_,ar,hmr⟩:=v_ hm;refine E z (fc call78 z<|ap.run (B:=B) (x2:=(⟨0,([]:List UInt8),([]:List Val)⟩:Val)) ar (zt' J I) (V.g hc) (O.g hc) hw hC1b (ii z) onL G_ an_ onL G_ an_ an_ (al.g hc) L) ?_;rintro _ ws ⟨G,ad,ne,cf,Sx,ah,ng,ci,Sy,au,av,rfl,aw,hz,a0,a1,a2,a3,hl,hj⟩;refine Rm z ?_
 iterate 3 refine Re z z z ?_
 refine E z (fa a_6) ?_;rintro _ ax ⟨rfl,a4⟩;have h1:=a4.below;refine E0 (fs0 (cur':=[vI rk.number,sl ad ne cf,sl ah ng ci]) i_ z z (a4.blk:Blk ax ws.z [vI 0,sl none 0 0,sl none 0 0]) z z z z) ?_;rintro _ _ ⟨ay,az⟩;have h2:=az.one;refine Ra z<|Rw z<|Wq<|Wm z ?_
 have a5:=(a2.e h1).c h2<|ds<|mnr<|a_D.lt a2
 refine R z (d_6 d_8 z z a5)<|Wx z (fun hcm=>?_) (fun hcm=>?_)
 ·refine Ws<|R z (bP (parts:=[]) (cs:=[vI 0,sl none 0 0,sl none 0 0]) Y_ z z)<|RM z z<|E0 (fs0 (cur':=[vI 0,sl none 0 0,sl none 0 0]) i_ z z (((h3.c G<|atp<|nmA (nmN _)<|nmN _).e h1).c h2<|djs<|mm1 h3.lt G.s) z z z z) ?_
  rintro _ _ ⟨aA,aB⟩;have a6:=aB.one;refine Ra z<|Rw z ?_
  obtain rfl:=som<|ifT hmr hcm;exact Wr<|F_ hr (r_ y_ i_ z aA z) z z ⟨bM (bM (bup (bM (bup h6 H) G al0) h1) h2<|m1<|lt_ I G.s) a6<|m1 h6.s,none,0,0,[],none,0,0,[],au,av,z,ii z,onL,onL,L,a5.c a6<|j_ a3 h3.lt lr,l_ a3 I,nd0,al0⟩
 refine Wk<|Wm z<|Rm z ?_
 have ha:=lt_ I G.s;have a7:∀k∈[ws.z],¬B k:=or0 (c_ lr)<|k_<|zt' J ha;have a8:=((hw.c G<|(nmA (b_ an_)<|b_ an_) _ hC1b).e h1).c h2<|(b_ a7) _ hC1b
 have hn:=((hc.c G<|nmA (b_ an_)<|b_ an_).e h1).c h2<|b_ a7
 have ho:=lt_ (lt_ ha h1.s) h2.s;obtain ⟨_,_,aC,W⟩:=a_t<|ifF hmr hcm;refine E z (fc call108 z<|h_Z aC (zt' J ho) (V.g hn) (O.g hn) a8 hC1b a1<|ii z) ?_;rintro _ _ ⟨s4,_,_,_,aD,aE,rfl,aF,a9,aa⟩;refine Rm z<|Re z z z<|Re z z z<|Ra z<|Rw z<|Wq<|Wm z<|R z (d_6 d_8 z z a9)<|Wx z (fun hcp=>?_) (fun hcp=>?_)
 ·refine Ws<|R z (bP (parts:=[]) (cs:=[vI 0,sl none 0 0,sl none 0 0]) Y_ z z)<|RM z z<|E0 (fs0 (cur':=[vI 0,sl none 0 0,sl none 0 0]) i_ z z ((((h3.c G<|atp<|nmA (nmN _)<|nmN _).e h1).c h2<|djs<|mm1 h3.lt G.s).e s4) z z z z) ?_
  rintro _ _ ⟨aG,aH⟩;have ab:=aH.one;refine Ra z<|Rw z ?_
  obtain rfl:=som<|ifT W hcp;exact Wr<|F_ hr (r_ y_ i_ z aG z) z z ⟨bM (bup (bM (bup (bM (bup h6 H) G al0) h1) h2<|m1 ha) s4) ab<|m1 h6.s,none,0,0,[],none,0,0,[],aD,aE,z,ii z,onL,onL,L,a9.c ab<|j_ aa h3.lt<|lt_ (lt_ G.s h1.s) h2.s,l_ aa ho,nd0,al0⟩
 refine Wk<|Wq<|Wq (Wd (X:=noX) 0 (pl_ 13 [11]) mo (by kernel_rfl) fun b3 s5 _=>dM z z z ?_)
 obtain ⟨_,aI,am⟩:=bdS<|ifF W hcp;refine dRX z z (at_ (α:=UInt8) p_ z_5 z z z (aF.e s5) aI) ?_;rintro _ ⟨_,_,_,rfl,aJ,aK,_⟩;obtain rfl:=u8 aK;refine dR z z (l0 g_5 z<|aJ.at0 z)<|dR z z (b_U d_5 d_3 z)<|dM z z z<|dR z z (V_ z)<|dR z z (fd e_I z)<|dR z z (l0 P_ z<|((a8.e s4).e s5).at (j:=1) z)<|dM z z z<|dM z z z ?_
 obtain ⟨_,aL,an⟩:=bdS am;refine dRX z z (rX p_ z_5 z z (O.g<|(hn.e s4).e s5) z z aL) ?_;rintro _ ⟨_,_,_,rfl,aM⟩;have ae:=lt_ (lt_ ho s4.s) s5.s;obtain ⟨_,aN,Y⟩:=bdS an;refine dE z z (fc call110 z<|W_w1m aN (zt' J ae) aM) (.inr fun _ _ h=>w_<|h.1) ?_;rintro _ _ ⟨s7,rfl,_⟩;refine dR z z (nq z z)<|pD<|Wo<|Wc z (fun hcq=>?_) (fun hcq=>?_)
 ·refine Ws<|R z (bP (parts:=[]) (cs:=[vI 0,sl none 0 0,sl none 0 0]) Y_ z z)<|RM z z ?_
  have af:=lt_ ae s7.s;obtain ⟨_,aO,ao⟩:=bdS<|ifT Y hcq;refine E z (fc call83 z<|d_B aO (zt' J af) a1<|ii z) ?_;rintro _ _ ⟨ai,aP,aQ,rfl,aR,aj⟩;refine E0 (fs0 (cur':=[vI 0,sl none 0 0,sl none 0 0]) i_ z z (((((((h3.c G<|atp<|nmA (nmN _)<|nmN _).e h1).c h2<|djs<|mm1 h3.lt G.s).e s4).e s5).e s7).e ai) z z z z) ?_;rintro _ _ ⟨aS,aT⟩;have ak:=aT.one;refine Ra z<|Rw z ?_
  obtain rfl:=som ao;exact Wr<|F_ hr (r_ y_ i_ z aS z) z z ⟨bM (bup (bup (bup (bup (bM (bup (bM (bup h6 H) G al0) h1) h2<|m1 ha) s4) s5) s7) ai) ak<|m1 h6.s,none,0,0,[],none,0,0,[],aP,aQ,z,ii z,onL,onL,L,aR.c ak<|j_ aj h3.lt<|lt_ (lt_ (lt_ (lt_ (lt_ G.s h1.s) h2.s) s4.s) s5.s) s7.s,l_ aj af,nd0,al0⟩
 refine Wk<|Ws<|R z (lN (vs:=[vI rk.number,sl ad ne cf,sl ah ng ci]) y_ i_ z z fid<|(((ay.e s4).e s5).e s7).row 0 3 z)<|Rm z<|R z (add_ z z)<|E0 (fs0 (cur':=[vI rk.number,sl ad ne cf,sl ah ng ci]) i_ z z ((((((h3.c G<|atp<|nmA (nmN _)<|nmN _).e h1).c h2<|djs<|mm1 h3.lt G.s).e s4).e s5).e s7) z z z z) ?_
 rintro _ _ ⟨aU,aV⟩;have ht:=aV.one;refine Ra z<|Rw z ?_
 obtain rfl:=som<|ifF Y hcq;exact Wr<|F_ hr (r_ y_ i_ z aU z) z z ⟨bM (bup (bup (bup (bM (bup (bM (bup h6 H) G al0) h1) h2<|m1 ha) s4) s5) s7) ht<|m1 h6.s,ad,ne,cf,Sx,ah,ng,ci,Sy,.nilIface,([]:List Nat),z,aw,(((((hz.e h1).c h2<|ds<|mnr<|a_.lt hz).e s4).e s5).e s7).c ht (or1 (al_ hj) al0 (O_ (c_ h3.lt) lr):∀k∈Sx,k∉[wb.z]),(((((a0.e h1).c h2<|ds<|mnr<|a_.lt a0).e s4).e s5).e s7).c ht (or1 (ar_ hj) al0 (O_ (c_ h3.lt) lr):∀k∈Sy,k∉[wb.z]),iA _ _,d_x,an_,na_ (nl_ hl) (nr_ hl)<|nj hl,aa_ (a_i (al_ hj) al0 I)<|a_i (ar_ hj) al0 I⟩
theorem c_k:∀n,e_8 n
  | 0=>⟨⟨fun hm=>by intros;exact nomatch (show none=some _ from hm)⟩,⟨fun hm=>by intros;exact nomatch (show none=some _ from hm)⟩,⟨fun hm=>by intros;exact nomatch (show none=some _ from hm)⟩,⟨fun hm=>by intros;exact nomatch (show none=some _ from hm)⟩,⟨fun hm=>by intros;exact nomatch (show none=some _ from hm)⟩,⟨fun hm=>by intros;exact nomatch (show none=some _ from hm)⟩⟩
  | n+1=>⟨T_w03<|c_k n,T_w1o<|c_k n,T_w1p<|c_k n,T_w1q<|c_k n,T_w1r<|c_k n,T_w1s<|c_k n⟩
theorem W_w03:j_p (a_g n).impl_fileReader_value:=(c_k n).1
theorem W_w1o:j_q (a_g n).impl_fileReader_array:=(c_k n).2.1
theorem W_w1p:j_r (a_g n).impl_fileReader_items:=(c_k n).2.2.1
theorem W_w1q:j_s (a_g n).impl_fileReader_choice:=(c_k n).2.2.2.1
theorem W_w1r:j_t (a_g n).impl_fileReader_option:=(c_k n).2.2.2.2.1
theorem W_w1s:j_u (a_g n).impl_fileReader_checked:=(c_k n).2.2.2.2.2
theorem i_1 {x1:d_}{x2:Int}{x3:List UInt8}{x4:Int}{res:Val×Int×Int}(hm:d_U n x1 x2 x3 x4=some res)(O:B<=w0.z)(hG:Gl w0 B)(V:repS w0 B (sl A0 N0 C0) x1.rules)(W:inI x2)(Y:repS w0 B (sl A7 N7 C7) x3)(aB:inI x4):n_ prog 25 [(.agg #[sl A0 N0 C0]),vI x2,sl A7 N7 C7,vI x4] w0 (Q15 w0 B res):=by
 unfold d_U at hm
 refine goG func25 z z z fun fn hr=>Ws<|E z (fb z) ?_
 rintro _ wc ⟨rfl,a5⟩;have h1:=a5.below;have a6:Blk wc w0.z [sl A0 N0 C0]:=a5.blk;refine E z (fa a_6) ?_;rintro _ wp ⟨rfl,a7⟩;have h4:=a7.below;have h5:Blk wp wc.z [vI 0,sl none 0 0,sl none 0 0]:=a7.blk;refine Ra z<|Rw z<|Wq<|Wq ?_
 obtain ⟨aE,aC,a0⟩:=bdS hm;refine Wt (fun a w=>∃(xq:Bool),xq=aE/\Sat 62 [(1,vI x2),(2,sl A7 N7 C7),(3,vI x4),(4,pt w0.z),(8,pt wc.z),(34,vB xq)] a/\Below wp.z wp w) ?_ ?_
 ·refine Wg<|R z (lN (vs:=[sl A0 N0 C0]) t_ q_ z z fid<|(a6.e h4).row 0 1 z)<|Rm z ?_
  have a8:=(h1.ag B).e h4;obtain ⟨aF,aG,a1⟩:=bdS aC;refine E z (fc call51 z<|j_o aG (zt' O<|lt_ h1.s h4.s) (V.g a8) W) ?_;rintro _ _ ⟨sd,rfl⟩;refine R z (not_ z)<|Rm z ?_
  rcases bs (!aF) with J | J
  ·exact Nh z J<|Nh z J<|R z (pT z J z)<|Rm z<|Nh z z<|Nh z z<|Nh z z<|Nh z z<|R z (pT z z z)<|Rm z<|Nh z z<|Nh z z<|Nh z z<|R z (pT z z z)<|Wl (fun _ q=>⟨true,som<|ifT a1 J,q.k<|s6 z z z z z z,sd⟩)
  have a2:=ifF a1 J;refine Rh z J (mv z)<|Rh z J (lss z z)<|R z (pF z J z)<|Rm z ?_
  rcases bs (decide<|x4<0) with H | H
  ·iterate 4 refine Nh z H ?_
   exact R z (pT z H z)<|Rm z<|Nh z z<|Nh z z<|Nh z z<|R z (pT z z z)<|Wl (fun _ q=>⟨true,som<|ifT a2 H,q.k<|s6 z z z z z z,sd⟩)
  have a3:=ifF a2 H;refine Rh z H (mv z)<|Rh z H (mv z) ?_
  have a9:=Y.g<|a8.e sd
  refine Rh z H (lnR p_ z a9)<|Rh z H (a_e z z)<|R z (pF z H z)<|Rm z ?_
  rcases bs (decide<|(x3.length:Int)<x4) with L | L
  ·iterate 3 refine Nh z L ?_
   exact R z (pT z L z)<|Wl (fun _ q=>⟨true,som<|ifT a3 L,q.k<|s6 z z z z z z,sd⟩)
  exact Rh z L (mv z)<|Rh z L (lnR p_ z a9)<|Rh z L (a_e z z)<|R z (pF z L z)<|Wl (fun _ q=>⟨decide<|400<(x3.length:Int),som<|ifF a3 L,q.k<|s6 z z z z z z,sd⟩)
 rintro aH aI ⟨xq,rfl,_,G⟩;revert aH;refine Wo<|Wc z (fun hcr=>?_) (fun hcr=>?_)
 ·refine Ws<|R z (bP (parts:=[]) (cs:=[vI 0,sl none 0 0,sl none 0 0]) Y_ z z)<|E0 (fs0 (cur':=[vI 0,sl none 0 0,sl none 0 0]) i_ z z (h5.e G) z z z z) ?_
  rintro _ _ ⟨aJ,aK⟩;refine Ra z<|Rw z ?_
  obtain rfl:=som<|ifT a0 hcr;exact Wr<|F_ hr (r_ y_ i_ z aJ z) z z ⟨bM (bup (bup h1 h4) G) aK.one<|m1 h1.s,none,0,0,[],none,0,0,[],z,ii z,onL,onL,ii z,ii z,nd0,al0⟩
 refine Wk<|Ws<|R z (lN (vs:=[sl A0 N0 C0]) t_ q_ z z fid<|((a6.e h4).e G).row 0 1 z)<|Rm z<|R z (bP (parts:=[(0,.tmp 36),(1,.tmp 37)]) (cs:=[sl A0 N0 C0,sl A7 N7 C7]) o_2 z z)<|E z (fb z) ?_
 rintro _ aa ⟨rfl,ab⟩;have ha:=ab.below;have ad:Blk aa aI.z [sl A0 N0 C0,sl A7 N7 C7]:=ab.blk;refine Rw z<|Wm z<|RM z z ?_
 have ae:=(((h1.ag B).e h4).e G).e ha;have he:=lt_ (lt_ (lt_ h1.s h4.s) G.s) ha.s;have af:=zt' O he;obtain ⟨rs,_,aL,aM,a4⟩:=v_<|ifF a0 hcr;refine E z (fc call52 z<|W_w03.run (B:=aa.z) aM zr (repS.mono (V.g ae) af) (repS.mono (Y.g ae) af) (ad.row 0 2 z) ad.lt W aB) ?_;rintro _ ai ⟨sb,ah,ng,ci,aN,aj,nk,cl,aO,_,_,rfl,aP,ak,al,aQ,ht,aR,hu,hn⟩;refine Rm z ?_
 iterate 3 refine Re z z z ?_
 refine E z (fa a_6) ?_;rintro _ aS ⟨rfl,am⟩;have h2:=am.below;refine E0 (fs0 (cur':=[vI rs.number,sl ah ng ci,sl aj nk cl]) i_ z z (am.blk:Blk aS ai.z [vI 0,sl none 0 0,sl none 0 0]) z z z z) ?_;rintro _ an ⟨aT,aU⟩;have h3:=aU.one;refine Ra z<|Rw z<|Ws<|E z (fa o_5) ?_
 rintro _ aV ⟨rfl,ao⟩;have I:=ao.below;have ap:Blk aV an.z [(.pointer none)]:=ao.blk;refine Wn<|Wq<|Wm z<|R z (l_8 d_104 (fun _ h=>by cases h) z) ?_
 have aq:=((ht.e h2).c h3<|ds<|mnr<|a_D.lt ht).e I
 rcases bs (aL.isSome) with hcm | hcm
 ·obtain ⟨_,_,aW,aD⟩:=a_t<|ifT a4 hcm;have hv:=lt_ he sb.s;refine E z (fc call53 z<|n_U ((((((((hG.e h1).e h4).e G).e ha).e sb).e h2).c h3<|b_ (or0 (c_ lr) (k_<|zt' O hv):∀k∈[ai.z],¬B k)).e I) aq aW ap) ?_;rintro _ _ ⟨ar,rfl,aX,aY,aZ,au,b0,b1⟩;have hw:=aX.one;refine Wx z (fun _=>?_) (fun hc=>(bcon z hc).elim)
  refine Wq<|Wd (X:=(· ∈ [wc.z])) 0 (pl_ 12 [9]) mo (by kernel_rfl) fun b6 so _=>dR z z (bP (parts:=[]) (cs:=[vI 0,sl none 0 0,sl none 0 0]) Y_ z z) ?_;have av:=aY.e so;have aw:=lt_ G.s ha.s;have ax:=lt_ aw sb.s;have ay:=lt_ (lt_ ax h2.s) h3.s;have hx:=mm1 h5.lt ay;refine dR z z (l1 g_102 z (atp hx)<|av.at z)<|dR z z (V_ z)<|dR z z (fd o_3 z) ?_
  have az:=(aZ.c hw<|atp (or1 (c_<|.inl au) (ds<|mno (a_D.lt ht)<|lt_ h2.s h3.s) (O_ (c_ ap.lt) lr):∀k∈[ar],k∉[an.z])).e so;have aA:∀k∈[ar],k∉[wc.z]:=or1 (c_<|.inl au) (j_ aR h5.lt aw)<|O_ (c_ h5.lt)<|lt_ ay I.s;refine dR z z (l1 g_3 z (atp aA)<|az.at z)<|dR z z (l1 g_102 z (atp hx)<|av.at z)<|dR z z (V_ z)<|dR z z (fd o_4 z)<|dR z z (l1 g_3 z (atp aA)<|az.at z)<|dE0 z (fs0 (cur':=[vI 0,sl none 0 0,sl none 0 0]) i_ z z ((((((((h5.e G).e ha).e sb).e h2).c h3<|djs<|mm1 h5.lt ax).e I).c hw<|djs hx).e so) z z z z) (.inr fun _ _ h=>chgIn (List.mem_singleton.2 z) h.2) ?_
  rintro _ _ ⟨b2,b3⟩;refine dQ z z z<|dQ z z z<|pD<|Wo ?_
  obtain rfl:=som aD;exact Wr<|F_ hr (r_ y_ i_ z b2 z) z z ⟨bM (bup (bM (bup (bM (bup (bup (bup (bup (bup h1 h4) G) ha) sb) h2) h3<|m1 hv) I) hw<|m1<|lt_ (lt_ hv h2.s) h3.s) so) b3.one<|m1 h1.s,none,0,0,[],none,0,0,[],z,ii z,onL,onL,b0,b1,nd0,al0⟩
 refine E z (fc call53 z<|n_T aq hcm) ?_;rintro _ _ ⟨rfl,sf⟩;refine Wx z (fun hc=>(bcon hc z).elim) (fun _=>?_)
 refine Wk<|Ws<|R z (lN (vs:=[vI rs.number,sl ah ng ci,sl aj nk cl]) y_ i_ z z fid<|((aT.e I).e sf).row 0 3 z)<|Rm z ?_
 have hy:=lt_ G.s ha.s;refine E0 (fs0 (cur':=[vI rs.number,sl ah ng ci,sl aj nk cl]) i_ z z (((((((h5.e G).e ha).e sb).e h2).c h3<|djs<|mm1 h5.lt<|lt_ hy sb.s).e I).e sf) z z z z) ?_;rintro _ _ ⟨b4,b5⟩;have hz:=b5.one;refine Ra z<|Rw z ?_
 obtain rfl:=som<|ifF a4 hcm;exact Wr<|F_ hr (r_ y_ i_ z b4 z) z z ⟨bM (bup (bup (bM (bup (bup (bup (bup (bup h1 h4) G) ha) sb) h2) h3<|m1<|lt_ he sb.s) I) sf) hz<|m1 h1.s,ah,ng,ci,aN,aj,nk,cl,aO,z,aP,((((ak.e h2).c h3<|ds<|mnr<|a_.lt ak).e I).e sf).c hz<|j_ (al_ hn) h5.lt hy,((((al.e h2).c h3<|ds<|mnr<|a_.lt al).e I).e sf).c hz<|j_ (ar_ hn) h5.lt hy,aQ,ii z,na_ (nl_ hu) (nr_ hu)<|nj hu,aa_ (l_ (al_ hn) he)<|l_ (ar_ hn) he⟩
theorem W_w2r {x1:d_}{x2:List UInt8}{res:Val×Int×Int}(hm:h_1 n x1 x2=some res)(W:B<=w0.z)(hG:Gl w0 B)(V:repS w0 B (sl A0 N0 C0) x1.rules)(Y:repS w0 B (sl A5 N5 C5) x2):n_ prog 44 [(.agg #[sl A0 N0 C0]),sl A5 N5 C5] w0 (Q15 w0 B res):=by
 unfold h_1 at hm
 refine goG func44 z z z fun fn hr=>Ws<|E z (fb z) ?_
 rintro _ wn ⟨rfl,ao⟩;have h2:=ao.below;have hv:Blk wn w0.z [sl A0 N0 C0]:=ao.blk;refine E z (fa a_6) ?_;rintro _ I ⟨rfl,ap⟩;have h1:=ap.below;have ho:Blk I wn.z [vI 0,sl none 0 0,sl none 0 0]:=ap.blk;refine Ra z<|Rw z<|Wq ?_
 obtain ⟨bn,ak,bh⟩:=bdS hm;refine Wt (fun a w=>∃(xb:Int)(xw:List UInt8)(xx:List Val)(xc:Int)(xd:Int),(xb,xw,xx,xc,xd)=bn/\∃ae nf cg J ah ni cj L O,Sat 32 [(1,sl A5 N5 C5),(4,pt wn.z),(7,pt O),(8,vI xc),(9,vI xd)] a/\Below I.z I w/\inI xb/\a_ w J (sl ae nf cg) xw/\J.Nodup/\(∀k∈J,I.z<=k)/\a_ w L (sl ah ni cj) xx/\L.Nodup/\(∀k∈L,I.z<=k)/\(∀k∈L,k∉J)/\inI xc/\inI xd/\Blk w O [vI xb,sl ae nf cg,sl ah ni cj]/\I.z<=O/\(∀k∈J,k∉[O])/\(∀k∈L,k∉[O])) ?_ ?_
 ·refine Wd (X:=fun k=>k∈([]:List Nat)∨I.z<=k) 0 (.rd 0<|.rd 1<|.rd 3<|.br 2 (.br 4 (.rd 5<|.rd 6<|.rd 7<|.rd 8<|.ef 9<|.ef 10<|.rd 11<|.rd 12 .done) 9<|.ef 4<|.rd 5<|.rd 6<|.rd 7<|.rd 8<|.ef 10<|.rd 11<|.rd 12 .done) 9<|.ef 2<|.ef 4<|.rd 5<|.rd 6<|.rd 7<|.rd 8<|.ef 10<|.rd 11<|.rd 12 .done) mo (by kernel_rfl) fun aq G _=>?_
  have ar:=(hv.e h1).e G;refine dR z z (lN (vs:=[sl A0 N0 C0]) t_ q_ z z (a_y nm0<|Nat.lt_of_lt_of_le hv.lt h1.s)<|ar.row 0 1 z)<|dR z z (lN (vs:=[sl A0 N0 C0]) t_ q_ z z (a_y nm0<|Nat.lt_of_lt_of_le hv.lt h1.s)<|ar.row 0 1 z)<|dM z z z<|d_X ?_ ?_
  ·have hy:=((h2.ag B).e h1).e G;have hz:=lt_ (lt_ h2.s h1.s) G.s;obtain ⟨_,bo,al⟩:=bdS ak;refine dE z z (fc call46 z<|f_Q bo (zt' W hz)<|V.g hy) (.inr fun _ _ h=>w_<|h.1) ?_;rintro _ au ⟨s3,rfl,av⟩;refine d_X ?_ ?_
   ·have aw:=hy.e s3;obtain ⟨rp,bp,bq,bt,bi⟩:=v_ al;refine dE z z (fc call25 z<|i_1 bt (zt' W<|lt_ hz s3.s) ((((hG.e h2).e h1).e G).e s3) (V.g aw) av (Y.g aw)<|ii z) (.inr fun _ _ h=>w_<|h.1) ?_;rintro _ ax ⟨ay,az,aA,aB,bu,aC,aD,aE,bv,rfl,bw,aF,aG,bx,bz,a1,aH⟩;refine dM z z z ?_
    iterate 3 refine dR z z (ext_ z z) ?_
    refine dE z z (fa a_6) (.inr fun _ _ h=>w_<|h.2.below) ?_;rintro _ bA ⟨rfl,aI⟩;have a2:=aI.below;have a3:=lt_ G.s s3.s;have a4:=m1<|lt_ a3 ay.s
    refine dE0 z (fs0 (cur':=[vI rp.number,sl az aA aB,sl aC aD aE]) i_ z z (aI.blk:Blk bA ax.z [vI 0,sl none 0 0,sl none 0 0]) z z z z) (.inr fun _ _ h=>c_v (atp a4) h.2) ?_;rintro _ _ ⟨bB,bC⟩;have a5:=bC.one;refine dQ z z z<|dQ z z z<|pD ?_
    have aJ:=mnr<|a_.lt aF
    have aK:=mnr<|a_.lt aG
    exact fun _ q=>⟨rp.number,rp.bytes,rp.items,bp,bq,som bi,az,aA,aB,bu,aC,aD,aE,bv,ax.z,q.k<|s5 z z z z z,bM (bup (bup (bup G s3) ay) a2) a5 a4,bw,(aF.e a2).c a5<|ds aJ,nl_ a1,l_ (al_ aH) a3,(aG.e a2).c a5<|ds aK,nr_ a1,l_ (ar_ aH) a3,ds<|nj a1,bx,bz,bB,atp a4,ds aJ,ds aK⟩
   refine dE z z (fa a_6) (.inr fun _ _ h=>w_<|h.2.below) ?_;rintro _ bD ⟨rfl,aL⟩;have hk:=aL.below;have a6:Blk bD au.z [vI 0,sl none 0 0,sl none 0 0]:=aL.blk;have aM:=(hy.e s3).e hk;obtain ⟨rq,bE,bF,bG,bj⟩:=v_ al;refine dE z z (fc call25 z<|i_1 bG (zt' W<|lt_ (lt_ hz s3.s) hk.s) (((((hG.e h2).e h1).e G).e s3).e hk) (V.g aM) av (Y.g aM)<|ii z) (.inr fun _ _ h=>w_<|h.1) ?_;rintro _ _ ⟨aN,aO,aP,aQ,bH,aR,aS,aT,bI,rfl,bJ,bK,bL,bN,bO,a7,ht⟩;refine dM z z z ?_
   iterate 3 refine dR z z (ext_ z z) ?_
   have aU:=lt_ G.s s3.s;have a8:=m1 aU;refine dE0 z (fs0 (cur':=[vI rq.number,sl aO aP aQ,sl aR aS aT]) i_ z z (a6.e aN) z z z z) (.inr fun _ _ h=>c_v (atp a8) h.2) ?_;rintro _ _ ⟨bQ,bR⟩;have a9:=bR.one;refine dQ z z z<|dQ z z z<|pD ?_
   have aV:=j_ (al_ ht) a6.lt lr;have aW:=lt_ aU hk.s;have aX:=j_ (ar_ ht) a6.lt lr;exact fun _ q=>⟨rq.number,rq.bytes,rq.items,bE,bF,som bj,aO,aP,aQ,bH,aR,aS,aT,bI,au.z,q.k<|s5 z z z z z,bM (bup (bup (bup G s3) hk) aN) a9 a8,bJ,bK.c a9 aV,nl_ a7,l_ (al_ ht) aW,bL.c a9 aX,nr_ a7,l_ (ar_ ht) aW,ds<|nj a7,bN,bO,bQ,atp a8,aV,aX⟩
  refine dE z z (fa a_6) (.inr fun _ _ h=>w_<|h.2.below) ?_;rintro _ bS ⟨rfl,aY⟩;have hl:=aY.below;have aa:Blk bS aq.z [vI 0,sl none 0 0,sl none 0 0]:=aY.blk;have aZ:=(((h2.ag B).e h1).e G).e hl;have b0:=lt_ (lt_ (lt_ h2.s h1.s) G.s) hl.s;obtain ⟨_,bT,bk⟩:=bdS ak;refine dE z z (fc call46 z<|f_Q bT (zt' W b0)<|V.g aZ) (.inr fun _ _ h=>w_<|h.1) ?_;rintro _ _ ⟨s6,rfl,bU⟩;have b1:=aZ.e s6;obtain ⟨rr,bV,bW,bX,bm⟩:=v_ bk;refine dE z z (fc call25 z<|i_1 bX (zt' W<|lt_ b0 s6.s) (((((hG.e h2).e h1).e G).e hl).e s6) (V.g b1) bU (Y.g b1)<|ii z) (.inr fun _ _ h=>w_<|h.1) ?_;rintro _ _ ⟨b2,b3,b4,b5,bY,b6,b7,b8,bZ,rfl,c0,c1,c2,c3,c4,ab,hu⟩;refine dM z z z ?_
  iterate 3 refine dR z z (ext_ z z) ?_
  have ad:=m1 G.s;refine dE0 z (fs0 (cur':=[vI rr.number,sl b3 b4 b5,sl b6 b7 b8]) i_ z z ((aa.e s6).e b2) z z z z) (.inr fun _ _ h=>c_v (atp ad) h.2) ?_;rintro _ _ ⟨c5,c6⟩;have af:=c6.one;refine dQ z z z<|dQ z z z<|pD ?_
  have b9:=j_ (al_ hu) aa.lt s6.s;have ba:=lt_ (lt_ G.s hl.s) s6.s;have bb:=j_ (ar_ hu) aa.lt s6.s;exact fun _ q=>⟨rr.number,rr.bytes,rr.items,bV,bW,som bm,b3,b4,b5,bY,b6,b7,b8,bZ,aq.z,q.k<|s5 z z z z z,bM (bup (bup (bup G hl) s6) b2) af ad,c0,c1.c af b9,nl_ ab,l_ (al_ hu) ba,c2.c af bb,nr_ ab,l_ (ar_ hu) ba,ds<|nj ab,c3,c4,c5,atp ad,b9,bb⟩
 rintro c7 ws ⟨xb,xw,xx,xc,xd,rfl,ae,nf,cg,J,ah,ni,cj,L,O,_,sm,c8,c9,ca,bc,cb,cc,be,cd,bf,ce,cf,_,_,_⟩;revert c7;refine Wo<|Wq<|Wq ?_
 obtain ⟨ch,am,an⟩:=bdS<|c_u bh;refine Wt (fun a w=>∃(ai:Bool),ai=ch/\Sat 32 [(4,pt wn.z),(7,pt O),(8,vI xc),(9,vI xd),(26,vB ai)] a/\Below ws.z ws w) ?_ ?_
 ·refine Wg<|Rm z<|Rq z z z<|Rm z ?_
  rcases bs (xd==0) with H | H
  ·exact Rh z H (mv z)<|Rh z H (mv z)<|Rh z H (lnR p_ z<|Y.g<|((h2.ag B).e h1).e sm)<|Rh z H (lss z z)<|R z (pT z H z)<|Wl (fun _ q=>⟨decide<|xc<(x2.length:Int),som<|ifT am H,q.k<|s5 z z z z z,br ws⟩)
  iterate 4 refine Nh z H ?_
  exact R z (pF z H z)<|Wl (fun _ q=>⟨false,som<|ifF am H,q.k<|s5 z z z z z,br ws⟩)
 rintro ci _ ⟨ai,rfl,_,sa⟩;revert ci;refine Wo<|Wc z (fun a0=>?_) (fun a0=>?_)
 ·refine Ws<|R z (bP (parts:=[]) (cs:=[vI 0,sl none 0 0,sl none 0 0]) Y_ z z)<|Rm z<|E0 (fs0 (cur':=[vI 0,sl none 0 0,sl none 0 0]) i_ z z ((ho.e sm).e sa) z z z z) ?_
  rintro _ _ ⟨ck,cl⟩;refine Ra z<|Rw z ?_
  obtain rfl:=som<|ifT an a0;exact Wr<|F_ hr (r_ y_ i_ z ck z) z z ⟨bM (bup (bup (bup h2 h1) sm) sa) cl.one<|m1 h2.s,none,0,0,[],none,0,0,[],z,ii z,onL,onL,bf,ii z,nd0,al0⟩
 refine Wk<|Ws<|R z (lN (vs:=[vI xb,sl ae nf cg,sl ah ni cj]) y_ i_ z z fid<|(cf.e sa).row 0 3 z)<|RM z z<|E0 (fs0 (cur':=[vI xb,sl ae nf cg,sl ah ni cj]) i_ z z ((ho.e sm).e sa) z z z z) ?_
 rintro _ _ ⟨cm,cn⟩;have aj:=cn.one;refine Ra z<|Rw z ?_
 obtain rfl:=som<|ifF an a0;have bg:=lt_ h2.s h1.s;exact Wr<|F_ hr (r_ y_ i_ z cm z) z z ⟨bM (bup (bup (bup h2 h1) sm) sa) aj<|m1 h2.s,ae,nf,cg,J,ah,ni,cj,L,z,c8,(c9.e sa).c aj<|j_ bc ho.lt lr,(cb.e sa).c aj<|j_ be ho.lt lr,bf,ce,na_ ca cc<|ds cd,aa_ (l_ bc bg)<|l_ be bg⟩
def Q26 (w0:World)(B:Zone)(r:S_)(v:Value)(w':World):Prop:=Bw w0 w'/\(fun G=>(.agg #[vI G.at_,vI G.code])=v/\inI G.at_/\inI G.code) r
theorem f_R {x1:a_5}{b1 o1:Nat}{x2:Int}{x3:Int}{res:S_}(hm:d_q x1 x2 x3=some res)(a0:B<=w0.z)(V:repS w0 B (sl A0 N0 C0) x1.d.rules)(I:repS w0 B (sl A6 N6 C6) x1.b)(W:inI x1.applied)(hC1:W_ w0 b1 o1 [sl A0 N0 C0,sl A6 N6 C6,vI x1.applied])(hC1b:B b1)(J:inI x2)(Y:inI x3):n_ prog 122 [(.pointer<|some ⟨b1,o1,none⟩),vI x2,vI x3] w0 (Q26 w0 B res):=by
 unfold d_q at hm
 refine goG func122 z z z fun fn hr=>Ws<|E z (fa b_u) ?_
 rintro _ L ⟨rfl,h2⟩;have G:=h2.below;have h3:Blk L w0.z [vI 0,vI 0]:=h2.blk;refine Wn<|Wq<|Wm z<|Rm z<|R z (V_ z)<|Rf z d_7 z<|R z (l0 P_ z<|(hC1.e G).at (j:=1) z)<|R z (lnR p_ z<|I.e G)<|Rm z<|R z (sb_ z z)<|R z (a_e z z)<|Wx z (fun H=>?_) (fun H=>?_)
 ·refine Wm z<|R z (bP (parts:=[(0,.tmp 16),(1,.const<|.int .i64 1)]) (cs:=[vI x2,vI 1]) c_i z z)<|E0 (fs0 (cur':=[vI x2,vI 1]) H_ z z h3 z z z z) ?_
  rintro _ _ ⟨h5,s6⟩;refine Wn ?_;obtain rfl:=som<|ifT hm H;exact Wr<|h_ hr (r_ a_h H_ z h5 z) ⟨bM G s6.one<|c_ lr,z,J,ii z⟩
 refine Wk<|Wm z<|Rm z<|R z (add_ z z)<|R z (bP (parts:=[(0,.tmp 20),(1,.const<|.int .i64 0)]) (cs:=[vI (g_ x2 x3),vI 0]) c_i z z)<|E0 (fs0 (cur':=[vI (g_ x2 x3),vI 0]) H_ z z h3 z z z z) ?_
 rintro _ _ ⟨O,s8⟩;refine Wn ?_;obtain rfl:=som<|ifF hm H;exact Wr<|h_ hr (r_ a_h H_ z O z) ⟨bM G s8.one<|c_ lr,z,iA _ _,ii z⟩
def Q27 (w0:World)(g1:Nat)(B:Zone)(A0:Option Addr)(N0 C0:Nat)(A6:Option Addr)(N6 C6:Nat)(x1:a_5)(r:Int×S_×Int)(v:Value)(w':World):Prop:=Chg (· ∈ [g1]) w0 w'/\un3 (fun H G I=>v = .tuple #[vI H,(.agg #[vI G.at_,vI G.code])]/\inI H/\inI G.at_/\inI G.code/\inI I/\Blk w' g1 [sl A0 N0 C0,sl A6 N6 C6,vI I]) r
theorem i_2 {x1:a_5}{g1:Nat}{x2:Int}{x3:Int}{res:Int×S_×Int}(hm:d_R x1 x2 x3=some res)(hB1:Blk w0 g1 [sl A0 N0 C0,sl A6 N6 C6,vI x1.applied])(L:B<=w0.z)(hBg:¬B g1)(O:repS w0 B (sl A0 N0 C0) x1.d.rules)(V:repS w0 B (sl A6 N6 C6) x1.b)(aP:inI x1.applied)(aQ:inI x2)(al:inI x3):n_ prog 120 [pt g1,vI x2,vI x3] w0 (Q27 w0 g1 B A0 N0 C0 A6 N6 C6 x1 res):=by
 unfold d_R at hm
 refine goG func120 z z z fun fn hr=>Ws<|Ra z<|E z (fa b_u) ?_
 rintro _ wf ⟨rfl,ho⟩;have hb:=ho.below;have I:Blk wf w0.z [vI 0,vI 0]:=ho.blk;refine Wn<|Wm z<|R z (V_ z)<|Rf z h_T z ?_
 have hp:=hB1.e hb;refine R z (l0 g_3 z<|hp.at z)<|R z (add_ z z)<|R z (V_ z)<|Rf z h_T z<|E0 (fs0 (cur':=[sl A0 N0 C0,sl A6 N6 C6,vI<|g_ x1.applied 1]) z_3 z z hp z z z z) ?_
 rintro _ J ⟨hq,ap⟩;have h1:=ap.one;refine Wn<|Wm z<|R z (V_ z)<|Rf z k_P z<|Rf z R_ z<|R z (l0 T_ z<|hq.at z)<|Rm z ?_
 obtain ⟨xr,aq,am⟩:=bdS hm;have ht:=(hb.ag B).c h1<|b_<|c_ hBg
 refine RX z (at_ (α:=e_) U_ m_ z z z (O.g ht) aq) ?_;rintro _ ⟨_,_,_,rfl,ar,av,_⟩;obtain ⟨au,ns,cv,aw,nx,cy,az,Y,a0,a1,a2,a3,rfl,_,_,ax,_,_,_,_⟩:=a_m av;refine R z (lN (vs:=vR xr au ns cv aw nx cy az Y a0 a1 a2 a3) I_ m_ z z fid ar)<|E z (fa b_g) ?_
 rintro _ wg ⟨rfl,a4⟩;have h4:=a4.below;have a5:Blk wg J.z [(Str.v (⟨[]⟩:Str)),vI 0,vI 0,vB false,sl none 0 0,sl none 0 0,sl none 0 0,sl none 0 0]:=a4.blk;refine E0 (fs0 (cur':=vR xr au ns cv aw nx cy az Y a0 a1 a2 a3) m_ z z a5 z z z z) ?_;rintro _ a6 ⟨a7,ay⟩;have h2:=ay.one;refine Wn<|Wm z<|Rm z<|Rf z a_z z<|R z (l0 g_3 z<|a7.at z) ?_
 have hc:=lt_ hb.s h1.s;have hh:=(hq.e h4).c h2<|djs<|mm1 (Blk.lt hB1) hc
 have hi:=(ht.e h4).c h2<|b_ (or0 (c_ lr) (k_<|zt' L hc):∀k∈[J.z],¬B k)
 have hj:=lt_ (lt_ hc h4.s) h2.s;obtain ⟨H,aA,W⟩:=bdS am;refine E z (fc call122 z<|f_R (B:=w0.z) aA (a_T hj) (repS.mono (O.g hi) L) (repS.mono (V.g hi) L) (iA _ _) (hh.row 0 3 z) (Blk.lt hB1) al ax) ?_;rintro _ wa ⟨G,rfl,a8,a9⟩;refine E z (fa b_u) ?_;rintro _ wk ⟨rfl,aa⟩;have h5:=aa.below;refine E0 (fs0 (cur':=[vI H.at_,vI H.code]) H_ z z (aa.blk:Blk wk wa.z [vI 0,vI 0]) z z z z) ?_;rintro _ ab ⟨hl,aB⟩;have h6:=aB.one;refine Wn<|Wq<|Ws<|Rf z c_J z<|R z (l0 g_3 z<|hl.at z)<|R z (nq z z)<|Wx z (fun hcm=>?_) (fun hcm=>?_)
 ·refine Wq (Wd (X:=noX) 4 (pl_ 3 [2]) mo (by kernel_rfl) fun aC sd _=>dR z z (lN (vs:=[vI H.at_,vI H.code]) a_h H_ z z fid<|(hl.e sd).row 0 2 z)<|dQ z z z ?_);have ad:=mmr<|Blk.lt hB1
  refine dE0 z (fs0 (cur':=[vI H.at_,vI H.code]) H_ z z (((((((I.c h1<|atp ad).e h4).c h2<|djs<|mm1 I.lt h1.s).e G).e h5).c h6<|djs<|mm1 I.lt<|lt_ (lt_ (lt_ h1.s h4.s) h2.s) G.s).e sd) z z z z) (.inl z) ?_;rintro _ aD ⟨aE,aF⟩;have ae:=aF.one;refine pD<|Wo ?_
  obtain rfl:=som<|ifT W hcm;have af:=lt_ hj G.s;exact Wr<|a_u hr z (r_ a_h H_ z aE z) ⟨(cM (f_ (cM (f_ (f_ (cM (f_ (cM (f_ (cr [g1] w0) hb:Chg (· ∈ [g1]) w0 wf) h1 (io sr):Chg (· ∈ [g1]) w0 J) h4:Chg (· ∈ [g1]) w0 wg) h2 (mor hc:∀k∈[J.z],k∈[g1]∨w0.z<=k):Chg (· ∈ [g1]) w0 a6) G:Chg (· ∈ [g1]) w0 wa) h5:Chg (· ∈ [g1]) w0 wk) h6 (mor af:∀k∈[wa.z],k∈[g1]∨w0.z<=k):Chg (· ∈ [g1]) w0 ab) sd:Chg (· ∈ [g1]) w0 aC) ae (mor lr:∀k∈[w0.z],k∈[g1]∨w0.z<=k):Chg (· ∈ [g1]) w0 aD),z,ii z,a8,a9,iA _ _,((((hh.e G).e h5).c h6<|djs<|mm1 (Blk.lt hB1) af).e sd).c ae<|djs ad⟩
 refine Wk<|Wq (Wd (X:=noX) 8192 (.rd 0<|.rd 1<|.rd 2<|.rd 3<|.rd 4<|.rd 5<|.rd 6<|.rd 7<|.rd 8<|.rd 9<|.rd 11<|.ef 10<|.rd 12<|.ef 13 .done) mo (by kernel_rfl) fun aG s7 _=>dM z z z<|dR z z (V_ z)<|dR z z (fd d_7 z) ?_)
 have he:=lt_ hj G.s;have ah:=(((hh.e G).e h5).c h6<|djs<|mm1 (Blk.lt hB1) he).e s7;refine dR z z (l0 P_ z<|ah.at z)<|dM z z z<|dR z z (fd c_w z) ?_
 have ai:=hl.e s7;refine dR z z (l0 g_3 z<|ai.at z) ?_;obtain ⟨_,aH,an⟩:=bdS<|ifF W hcm;refine dRX z z (rX p_ z_5 z z (V.g<|(((hi.e G).e h5).c h6<|b_ (or0 (c_ lr) (k_<|zt' L he):∀k∈[wa.z],¬B k)).e s7) z z aH) ?_;rintro _ ⟨_,_,_,rfl,aI⟩;refine dR z z (fd c_L z)<|dR z z (l0 g_4 z<|((((a7.e G).e h5).c h6<|djs<|mm1 a5.lt<|lt_ h2.s G.s).e s7).at z)<|dR z z (lN (vs:=[vI H.at_,vI H.code]) a_h H_ z z fid<|ai.row 0 2 z) ?_
 obtain ⟨_,aJ,ao⟩:=bdS an;refine dE z z (fc call109 z<|W_w1k aJ (zt' L<|lt_ (lt_ (lt_ he h5.s) h6.s) s7.s) aI) (.inr fun _ _ h=>w_<|h.1) ?_;rintro _ aK ⟨sn,rfl,aL⟩;refine dQ z z z ?_;have aj:=mmr<|Blk.lt hB1
 refine dE0 z (fs0 (cur':=[vI H.at_,vI H.code]) H_ z z ((((((((I.c h1<|atp aj).e h4).c h2<|djs<|mm1 I.lt h1.s).e G).e h5).c h6<|djs<|mm1 I.lt<|lt_ (lt_ (lt_ h1.s h4.s) h2.s) G.s).e s7).e sn) z z z z) (.inl z) ?_;rintro _ aM ⟨aN,aO⟩;have ak:=aO.one;refine pD<|Wo ?_
 obtain rfl:=som ao;exact Wr<|a_u hr z (r_ a_h H_ z aN z) ⟨(cM (f_ (f_ (cM (f_ (f_ (cM (f_ (cM (f_ (cr [g1] w0) hb:Chg (· ∈ [g1]) w0 wf) h1 (io sr):Chg (· ∈ [g1]) w0 J) h4:Chg (· ∈ [g1]) w0 wg) h2 (mor hc:∀k∈[J.z],k∈[g1]∨w0.z<=k):Chg (· ∈ [g1]) w0 a6) G:Chg (· ∈ [g1]) w0 wa) h5:Chg (· ∈ [g1]) w0 wk) h6 (mor he:∀k∈[wa.z],k∈[g1]∨w0.z<=k):Chg (· ∈ [g1]) w0 ab) s7:Chg (· ∈ [g1]) w0 aG) sn:Chg (· ∈ [g1]) w0 aK) ak (mor lr:∀k∈[w0.z],k∈[g1]∨w0.z<=k):Chg (· ∈ [g1]) w0 aM),z,aL,a8,a9,iA _ _,(ah.e sn).c ak<|djs aj⟩
theorem W_w2s {x1:a_5}{b1 o1:Nat}{x2:e_}{x3:Int}{res:S_}(hm:g_N x1 x2 x3=some res)(ah:B<=w0.z)(a7:repS w0 B (sl A0 N0 C0) x1.d.rules)(W:repS w0 B (sl A6 N6 C6) x1.b)(a8:inI x1.applied)(hC1:W_ w0 b1 o1 [sl A0 N0 C0,sl A6 N6 C6,vI x1.applied])(hC1b:B b1)(a9:x2.name.b.length<=LEN)(aa:inI x2.kind)(ab:inI x2.size)(I:repS w0 B (sl A2 N2 C2) x2.bytes)(ad:repS w0 B (sl A3 N3 C3) x2.names)(ae:repS w0 B (sl A1 N1 C1) x2.tags)(af:repS w0 B (sl A4 N4 C4) x2.kids)(Y:inI x3):n_ prog 121 [(.pointer<|some ⟨b1,o1,none⟩),.agg #[Str.v x2.name,vI x2.kind,vI x2.size,vB x2.little,sl A2 N2 C2,sl A3 N3 C3,sl A1 N1 C1,sl A4 N4 C4],vI x3] w0 (Q26 w0 B res):=by
 unfold g_N at hm
 refine goG func121 z z z fun fn hr=>Ws<|E z (fb z) ?_
 rintro _ J ⟨rfl,hb⟩;have G:=hb.below;refine E z (fa b_u) ?_;rintro _ H ⟨rfl,hd⟩;have h3:=hd.below;have O:Blk H J.z [vI 0,vI 0]:=hd.blk;refine Wn<|Wq<|Ws<|Rf z a_R z ?_
 have he:=(hb.blk:Blk J w0.z (vR x2 A2 N2 C2 A3 N3 C3 A1 N1 C1 A4 N4 C4)).e h3;refine R z (l0 P_ z<|he.at z) ?_;have V:=(G.ag B).e h3;refine R z (lnR p_ z<|I.g V)<|Rm z<|Wn ?_
 obtain ⟨_,hum,hmc⟩:=bdS hm;refine Wf (σ:=Unit) (ρ:=S_) (fun (k5:Nat)(_:Unit) a w=>Sat 50 [(0,.pointer<|some ⟨b1,o1,none⟩),(2,vI x3),(4,pt w0.z),(6,pt J.z),(10,sl A2 N2 C2),(11,vI (x2.bytes.length:Int)),(12,vI ((k5:Nat):Int))] a/\Below H.z H w) (fun (_:Unit) a w=>Sat 50 [(2,vI x3),(4,pt w0.z),(6,pt J.z)] a/\Below H.z H w) (rQ prog fn<|Q26 w0 B) hum ?_ ?_ ?_ ?_ ?_
 ·exact fun _ q=>⟨q.k<|s7 z z z z z z z,br H⟩
 ·rintro k5 _ _ _ _ hkf ⟨hSn,s1⟩ hmo;refine Wu ?_ hSn;refine Ws<|Rl z z z<|Wn<|Wq<|Wc z (fun _=>?_) (fun hc=>(a_2 hkf hc).elim)
  refine Wk<|Wq<|Wb<|Wm z ?_
  obtain ⟨_,ep,hmg⟩:=bdS hmo;have hh:=V.e s1;refine RX z (at_ (α:=UInt8) p_ z_5 z z z (I.g hh) ep) ?_;rintro _ ⟨_,_,_,rfl,hq,ht,_⟩;obtain rfl:=u8 ht;refine R z (l0 g_5 z<|hq.at0 z)<|Ra z<|Rw z<|Wq<|Wm z<|Rm z<|R z (add_ z z)<|Rm z<|R z (V_ z)<|Rf z d_7 z ?_
  have hi:=((hC1.e G).e h3).e s1;refine R z (l0 P_ z<|hi.at (j:=1) z) ?_;have hj:=W.g hh;refine R z (lnR p_ z hj)<|Rq z z z<|Wx z (fun L=>?_) (fun L=>?_)
  ·refine Wm z<|R z (bP (parts:=[(0,.tmp 26),(1,.const<|.int .i64 1)]) (cs:=[vI x3,vI 1]) c_i z z)<|E0 (fs0 (cur':=[vI x3,vI 1]) H_ z z (O.e s1) z z z z) ?_
   rintro _ _ ⟨hu,sr⟩;exact Wn<|Wr<|rtO<|qL (som<|ifT hmg L).symm<|h_ hr (r_ a_h H_ z hu z) ⟨bM (bup (bup G h3) s1) sr.one<|m1 G.s,z,Y,ii z⟩
  refine Wk<|Wm z<|R z (V_ z)<|Rf z d_7 z<|R z (l0 P_ z<|hi.at (j:=1) z)<|RM z z<|R z (add_ z z) ?_
  obtain ⟨_,es,hmk⟩:=bdS<|ifF hmg L;refine RX z (at_ (α:=UInt8) p_ z_5 z z z hj es) ?_;rintro _ ⟨_,_,_,rfl,hv,hw,_⟩;obtain rfl:=u8 hw;refine R z (l0 g_5 z<|hv.at0 z)<|Rm z<|R z (nq z z)<|Wx z (fun hca=>?_) (fun hca=>?_)
  ·refine Wm z<|Rm z<|R z (add_ z z)<|R z (bP (parts:=[(0,.tmp 41),(1,.const<|.int .i64 2)]) (cs:=[(vI<|g_ x3 ((k5:Nat):Int)),vI 2]) c_i z z)<|E0 (fs0 (cur':=[(vI<|g_ x3 ((k5:Nat):Int)),vI 2]) H_ z z (O.e s1) z z z z) ?_
   rintro _ _ ⟨hx,sy⟩;exact Wn<|Wr<|rtO<|qL (som<|ifT hmk hca).symm<|h_ hr (r_ a_h H_ z hx z) ⟨bM (bup (bup G h3) s1) sy.one<|m1 G.s,z,iA _ _,ii z⟩
  exact Wk<|Wg<|R z (inc_ hkf (lt_ (repS.len I) K_) z z)<|Rm z<|Wl (fun _ q=>⟨(),(som<|ifF hmk hca).symm,⟨q.k<|s7 z z z z z z z,s1⟩⟩)
 ·rintro _ _ _ ⟨hSz,a3⟩;refine Wu ?_ hSz;refine Ws<|Rl z z z<|Wn<|Wq<|Wc z (fun hc=>(a_3 hc).elim) (fun _=>?_)
  exact We<|fun _ q=>⟨rfl,⟨q.k<|s3 z z z,a3⟩⟩
 ·rintro _ a4 _ rfl ⟨_,s6⟩;have a0:=elL hmc;revert a4;refine Wo<|Wm z<|Rf z a_R z<|R z (l0 P_ z<|(he.e s6).at z)<|R z (lnR p_ z<|I.g<|V.e s6)<|R z (add_ z z)<|R z (bP (parts:=[(0,.tmp 48),(1,.const<|.int .i64 0)]) (cs:=[(vI<|g_ x3 (x2.bytes.length:Int)),vI 0]) c_i z z)<|E0 (fs0 (cur':=[(vI<|g_ x3 (x2.bytes.length:Int)),vI 0]) H_ z z (O.e s6) z z z z) ?_
  rintro _ _ ⟨a5,a6⟩;refine Wn ?_;obtain rfl:=som a0;exact Wr<|h_ hr (r_ a_h H_ z a5 z) ⟨bM (bup (bup G h3) s6) a6.one<|m1 G.s,z,iA _ _,ii z⟩
 rintro _ _ _ _ rfl ⟨rfl,a1⟩;have a2:=elR hmc;obtain rfl:=som a2;exact ⟨a1,z⟩
def Q28 (w0:World)(g1:Nat)(B:Zone)(A0:Option Addr)(N0 C0:Nat)(A6:Option Addr)(N6 C6:Nat)(x1:a_5)(r:S_×Int)(v:Value)(w':World):Prop:=Chg (· ∈ [g1]) w0 w'/\un2 (fun G H=>(.agg #[vI G.at_,vI G.code])=v/\inI G.at_/\inI G.code/\inI H/\Blk w' g1 [sl A0 N0 C0,sl A6 N6 C6,vI H]) r
structure j_v (f:a_5->Int->Int->Option (S_×Int)):Prop where
  run:∀{A0 A6:Option Addr}{N0 C0 N6 C6 g1:Nat}{B:Zone}{x1:a_5}{x2:Int}{x3:Int}{res:S_×Int}{w0:World}(hm:f x1 x2 x3=some res)(hB1:Blk w0 g1 [sl A0 N0 C0,sl A6 N6 C6,vI x1.applied])(hBw:B<=w0.z)(hBg:¬B g1)(p1_0:repS w0 B (sl A0 N0 C0) x1.d.rules)(p1_1:repS w0 B (sl A6 N6 C6) x1.b)(p1_2:inI x1.applied)(p2_0:inI x2)(p3_0:inI x3),n_ prog 103 [pt g1,vI x2,vI x3] w0<|Q28 w0 g1 B A0 N0 C0 A6 N6 C6 x1 res
structure j_w (f:a_5->e_->Int->Option (S_×Int)):Prop where
  run:∀{A0 A6 A2 A3 A1 A4:Option Addr}{N0 C0 N6 C6 g1 N2 C2 N3 C3 N1 C1 N4 C4:Nat}{B:Zone}{x1:a_5}{x2:e_}{x3:Int}{res:S_×Int}{w0:World}(hm:f x1 x2 x3=some res)(hB1:Blk w0 g1 [sl A0 N0 C0,sl A6 N6 C6,vI x1.applied])(hBw:B<=w0.z)(hBg:¬B g1)(p1_0:repS w0 B (sl A0 N0 C0) x1.d.rules)(p1_1:repS w0 B (sl A6 N6 C6) x1.b)(p1_2:inI x1.applied)(p2_0:x2.name.b.length<=LEN)(p2_1:inI x2.kind)(p2_2:inI x2.size)(p2_4:repS w0 B (sl A2 N2 C2) x2.bytes)(p2_5:repS w0 B (sl A3 N3 C3) x2.names)(p2_6:repS w0 B (sl A1 N1 C1) x2.tags)(p2_7:repS w0 B (sl A4 N4 C4) x2.kids)(p3_0:inI x3),n_ prog 123 [pt g1,.agg #[Str.v x2.name,vI x2.kind,vI x2.size,vB x2.little,sl A2 N2 C2,sl A3 N3 C3,sl A1 N1 C1,sl A4 N4 C4],vI x3] w0<|Q28 w0 g1 B A0 N0 C0 A6 N6 C6 x1 res
structure j_x (f:a_5->e_->Int->Option (S_×Int)):Prop where
  run:∀{A0 A6 A2 A3 A1 A4:Option Addr}{N0 C0 N6 C6 g1 N2 C2 N3 C3 N1 C1 N4 C4:Nat}{B:Zone}{x1:a_5}{x2:e_}{x3:Int}{res:S_×Int}{w0:World}(hm:f x1 x2 x3=some res)(hB1:Blk w0 g1 [sl A0 N0 C0,sl A6 N6 C6,vI x1.applied])(hBw:B<=w0.z)(hBg:¬B g1)(p1_0:repS w0 B (sl A0 N0 C0) x1.d.rules)(p1_1:repS w0 B (sl A6 N6 C6) x1.b)(p1_2:inI x1.applied)(p2_0:x2.name.b.length<=LEN)(p2_1:inI x2.kind)(p2_2:inI x2.size)(p2_4:repS w0 B (sl A2 N2 C2) x2.bytes)(p2_5:repS w0 B (sl A3 N3 C3) x2.names)(p2_6:repS w0 B (sl A1 N1 C1) x2.tags)(p2_7:repS w0 B (sl A4 N4 C4) x2.kids)(p3_0:inI x3),n_ prog 124 [pt g1,.agg #[Str.v x2.name,vI x2.kind,vI x2.size,vB x2.little,sl A2 N2 C2,sl A3 N3 C3,sl A1 N1 C1,sl A4 N4 C4],vI x3] w0<|Q28 w0 g1 B A0 N0 C0 A6 N6 C6 x1 res
structure j_y (f:a_5->e_->Int->Option (S_×Int)):Prop where
  run:∀{A0 A6 A2 A3 A1 A4:Option Addr}{N0 C0 N6 C6 g1 N2 C2 N3 C3 N1 C1 N4 C4:Nat}{B:Zone}{x1:a_5}{x2:e_}{x3:Int}{res:S_×Int}{w0:World}(hm:f x1 x2 x3=some res)(hB1:Blk w0 g1 [sl A0 N0 C0,sl A6 N6 C6,vI x1.applied])(hBw:B<=w0.z)(hBg:¬B g1)(p1_0:repS w0 B (sl A0 N0 C0) x1.d.rules)(p1_1:repS w0 B (sl A6 N6 C6) x1.b)(p1_2:inI x1.applied)(p2_0:x2.name.b.length<=LEN)(p2_1:inI x2.kind)(p2_2:inI x2.size)(p2_4:repS w0 B (sl A2 N2 C2) x2.bytes)(p2_5:repS w0 B (sl A3 N3 C3) x2.names)(p2_6:repS w0 B (sl A1 N1 C1) x2.tags)(p2_7:repS w0 B (sl A4 N4 C4) x2.kids)(p3_0:inI x3),n_ prog 125 [pt g1,.agg #[Str.v x2.name,vI x2.kind,vI x2.size,vB x2.little,sl A2 N2 C2,sl A3 N3 C3,sl A1 N1 C1,sl A4 N4 C4],vI x3] w0<|Q28 w0 g1 B A0 N0 C0 A6 N6 C6 x1 res
structure j_z (f:a_5->e_->Int->Option (S_×Int)):Prop where
  run:∀{A0 A6 A2 A3 A1 A4:Option Addr}{N0 C0 N6 C6 g1 N2 C2 N3 C3 N1 C1 N4 C4:Nat}{B:Zone}{x1:a_5}{x2:e_}{x3:Int}{res:S_×Int}{w0:World}(hm:f x1 x2 x3=some res)(hB1:Blk w0 g1 [sl A0 N0 C0,sl A6 N6 C6,vI x1.applied])(hBw:B<=w0.z)(hBg:¬B g1)(p1_0:repS w0 B (sl A0 N0 C0) x1.d.rules)(p1_1:repS w0 B (sl A6 N6 C6) x1.b)(p1_2:inI x1.applied)(p2_0:x2.name.b.length<=LEN)(p2_1:inI x2.kind)(p2_2:inI x2.size)(p2_4:repS w0 B (sl A2 N2 C2) x2.bytes)(p2_5:repS w0 B (sl A3 N3 C3) x2.names)(p2_6:repS w0 B (sl A1 N1 C1) x2.tags)(p2_7:repS w0 B (sl A4 N4 C4) x2.kids)(p3_0:inI x3),n_ prog 126 [pt g1,.agg #[Str.v x2.name,vI x2.kind,vI x2.size,vB x2.little,sl A2 N2 C2,sl A3 N3 C3,sl A1 N1 C1,sl A4 N4 C4],vI x3] w0<|Q28 w0 g1 B A0 N0 C0 A6 N6 C6 x1 res
abbrev e_O (n:Nat):Prop:=j_v (a_w n).impl_checker_value/\j_w (a_w n).impl_checker_array/\j_x (a_w n).impl_checker_choice/\j_y (a_w n).impl_checker_option/\j_z (a_w n).impl_checker_checked
theorem T_w04 (ih:e_O n):j_v (g_O n<|a_w n):=by
 obtain ⟨dN,dO,dP,dS,dT⟩:=ih
 constructor
 intro A0 A6 N0 C0 N6 C6 g1 B x1 x2 x3 res w0 hm hB1 J hBg W Y cT cU a0;unfold g_O at hm
 refine goG func103 z z z fun fn hr=>Ws<|E z (fa b_u) ?_
 rintro _ H ⟨rfl,bo⟩;have h1:=bo.below;have h6:Blk H w0.z [vI 0,vI 0]:=bo.blk;refine Wn<|Wm z<|R z (V_ z)<|Rf z k_P z<|Rf z R_ z ?_
 have aL:=hB1.e h1;refine R z (l0 T_ z<|aL.at z)<|Rm z ?_
 obtain ⟨xh,dU,b8⟩:=bdS hm;refine RX z (at_ (α:=e_) U_ m_ z z z (W.e h1) dU) ?_;rintro _ ⟨_,_,_,rfl,dV,dW,_⟩;obtain ⟨ao,np,cq,ar,ns,ct,au,nv,cw,ai,nj,ck,rfl,a7,a8,hz,a1,a9,aa,he⟩:=a_m dW;refine R z (lN (vs:=vR xh ao np cq ar ns ct au nv cw ai nj ck) I_ m_ z z fid dV)<|E z (fa b_g) ?_
 rintro _ O ⟨rfl,bp⟩;have h2:=bp.below;have bq:Blk O H.z [(Str.v (⟨[]⟩:Str)),vI 0,vI 0,vB false,sl none 0 0,sl none 0 0,sl none 0 0,sl none 0 0]:=bp.blk;refine E0 (fs0 (cur':=vR xh ao np cq ar ns ct au nv cw ai nj ck) m_ z z bq z z z z) ?_;rintro _ V ⟨br,dX⟩;have G:=dX.one;refine Wn<|Wq<|Ws<|Rf z a_n z<|R z (l0 g_3 z<|br.at z)<|Rq z z z<|Wx z (fun az=>?_) (fun az=>?_)
 ·refine Wm z<|RM z z ?_
  have bs:=((h1.ag B).e h2).c G<|b_ (or0 (c_ lr) (k_<|zt' J h1.s):∀k∈[H.z],¬B k)
  have bt:=lt_ (lt_ h1.s h2.s) G.s;obtain ⟨_,a2,_,dY,cV⟩:=v_<|ifT b8 az;refine E z (fc call120 z<|i_2 (B:=B) dY ((aL.e h2).c G<|djs<|mm1 (Blk.lt hB1) h1.s) (zt' J bt) hBg (W.g bs) (Y.g bs) cT cU a0) ?_;rintro _ aM ⟨aj,rfl,_,dZ,e0,e1,e2⟩;refine Rm z<|Re z z z<|Re z z z<|E z (fa b_u) ?_
  rintro _ bu ⟨rfl,bv⟩;have aN:=bv.below;refine Ra z<|E0 (fs0 (cur':=[vI a2.at_,vI a2.code]) H_ z z (bv.blk:Blk bu aM.z [vI 0,vI 0]) z z z z) ?_
  rintro _ e3 ⟨e4,e5⟩;have aO:=e5.one;refine Wn<|Ws<|R z (lN (vs:=[vI a2.at_,vI a2.code]) a_h H_ z z fid<|e4.row 0 2 z) ?_
  have bw:=mmr<|Blk.lt hB1
  refine E0 (fs0 (cur':=[vI a2.at_,vI a2.code]) H_ z z (((((h6.e h2).c G<|djs<|mmr h6.lt).c aj<|atp bw).e aN).c aO<|djs<|mm1 h6.lt<|lt_ (lt_ h2.s G.s) aj.s) z z z z) ?_;rintro _ e6 ⟨e7,e8⟩;have bx:=e8.one;refine Wn ?_;obtain rfl:=som cV;have bz:=lt_ bt aj.s;exact Wr<|h_ hr (r_ a_h H_ z e7 z) ⟨(cM (cM (f_ (cM (cM (f_ (f_ (cr [g1] w0) h1:Chg (· ∈ [g1]) w0 H) h2:Chg (· ∈ [g1]) w0 O) G (mor h1.s:∀k∈[H.z],k∈[g1]∨w0.z<=k):Chg (· ∈ [g1]) w0 V) aj (io sr):Chg (· ∈ [g1]) w0 aM) aN:Chg (· ∈ [g1]) w0 bu) aO (mor bz:∀k∈[aM.z],k∈[g1]∨w0.z<=k):Chg (· ∈ [g1]) w0 e3) bx (mor lr:∀k∈[w0.z],k∈[g1]∨w0.z<=k):Chg (· ∈ [g1]) w0 e6),z,dZ,e0,e1,((e2.e aN).c aO<|djs<|mm1 (Blk.lt hB1) bz).c bx<|djs bw⟩
 have b9:=ifF b8 az;refine Wk<|Wm z<|R z (V_ z)<|Rf z h_T z ?_
 have bA:=mm1 (Blk.lt hB1) h1.s;have bB:=(aL.e h2).c G<|djs bA
 refine R z (l0 g_3 z<|bB.at z)<|R z (add_ z z)<|R z (V_ z)<|Rf z h_T z<|E0 (fs0 (cur':=[sl A0 N0 C0,sl A6 N6 C6,vI<|g_ x1.applied 1]) z_3 z z bB z z z z) ?_
 rintro _ I ⟨ha,e9⟩;have h3:=e9.one;refine Wn<|Wq<|Ws<|Rf z a_n z ?_
 have hb:=br.c h3<|atp bA
 refine R z (l0 g_3 z<|hb.at z)<|Wn<|Wb<|Ws<|Rq z z z<|Rw z<|Wc z (fun aA=>?_) (fun aA=>?_)
 ·refine Wm z<|R z (lN (vs:=vR xh ao np cq ar ns ct au nv cw ai nj ck) I_ m_ z z fid<|hb.row 0 8 z)<|Rm z ?_
  have bC:∀k∈[H.z],¬B k:=or0 (c_ lr)<|k_<|zt' J h1.s;have bD:=(((h1.ag B).e h2).c G<|b_ bC).c h3<|b_<|c_ hBg
  have ak:=((h2.ag B).c G<|b_ bC).c h3<|b_<|c_ hBg
  obtain ⟨bE,ea,cW⟩:=bdS<|ifT b9 aA;refine E z (fc call121 z<|W_w2s (B:=w0.z) ea (a_T<|lt_ (lt_ (lt_ h1.s h2.s) G.s) h3.s) (repS.mono (W.g bD) J) (repS.mono (Y.g bD) J) (iA _ _) (ha.row 0 3 z) (Blk.lt hB1) a7 a8 hz (repS.mono (a1.g ak) J) (repS.mono (a9.g ak) J) (repS.mono (aa.g ak) J) (repS.mono (he.g ak) J) a0) ?_;rintro _ eb ⟨aP,rfl,ec,ed⟩;have bF:=mmr<|Blk.lt hB1
  refine E0 (fs0 (cur':=[vI bE.at_,vI bE.code]) H_ z z ((((h6.e h2).c G<|djs<|mmr h6.lt).c h3<|atp bF).e aP) z z z z) ?_;rintro _ ee ⟨ef,eg⟩;have bG:=eg.one;refine Wn ?_;obtain rfl:=som cW;exact Wr<|rtO<|h_ hr (r_ a_h H_ z ef z) ⟨(cM (f_ (cM (cM (f_ (f_ (cr [g1] w0) h1:Chg (· ∈ [g1]) w0 H) h2:Chg (· ∈ [g1]) w0 O) G (mor h1.s:∀k∈[H.z],k∈[g1]∨w0.z<=k):Chg (· ∈ [g1]) w0 V) h3 (io sr):Chg (· ∈ [g1]) w0 I) aP:Chg (· ∈ [g1]) w0 eb) bG (mor lr:∀k∈[w0.z],k∈[g1]∨w0.z<=k):Chg (· ∈ [g1]) w0 ee),z,ec,ed,iA _ _,(ha.e aP).c bG<|djs bF⟩
 have ba:=ifF b9 aA;refine Ws<|Rq z z z<|Rw z<|Wc z (fun aB=>?_) (fun aB=>?_)
 ·refine Wm z<|Rm z<|Rf z a_z z<|R z (l0 g_3 z<|hb.at z) ?_
  have bH:=(((h1.ag B).e h2).c G<|b_ (or0 (c_ lr) (k_<|zt' J h1.s):∀k∈[H.z],¬B k)).c h3<|b_<|c_ hBg
  obtain ⟨bI,eh,cX⟩:=bdS<|ifT ba aB;refine E z (fc call122 z<|f_R (B:=w0.z) eh (a_T<|lt_ (lt_ (lt_ h1.s h2.s) G.s) h3.s) (repS.mono (W.g bH) J) (repS.mono (Y.g bH) J) (iA _ _) (ha.row 0 3 z) (Blk.lt hB1) a0 hz) ?_;rintro _ ei ⟨aQ,rfl,ej,ek⟩;have bJ:=mmr<|Blk.lt hB1
  refine E0 (fs0 (cur':=[vI bI.at_,vI bI.code]) H_ z z ((((h6.e h2).c G<|djs<|mmr h6.lt).c h3<|atp bJ).e aQ) z z z z) ?_;rintro _ em ⟨en,eo⟩;have bK:=eo.one;refine Wn ?_;obtain rfl:=som cX;exact Wr<|rtO<|h_ hr (r_ a_h H_ z en z) ⟨(cM (f_ (cM (cM (f_ (f_ (cr [g1] w0) h1:Chg (· ∈ [g1]) w0 H) h2:Chg (· ∈ [g1]) w0 O) G (mor h1.s:∀k∈[H.z],k∈[g1]∨w0.z<=k):Chg (· ∈ [g1]) w0 V) h3 (io sr):Chg (· ∈ [g1]) w0 I) aQ:Chg (· ∈ [g1]) w0 ei) bK (mor lr:∀k∈[w0.z],k∈[g1]∨w0.z<=k):Chg (· ∈ [g1]) w0 em),z,ej,ek,iA _ _,(ha.e aQ).c bK<|djs bJ⟩
 have bb:=ifF ba aB;refine Ws<|Rq z z z<|Rw z<|Wc z (fun aC=>?_) (fun aC=>?_)
 ·refine Wm z<|Rf z J_ z<|R z (l0 D_ z<|hb.at z) ?_
  obtain ⟨_,ep,cY⟩:=bdS<|ifT bb aC;have bL:∀k∈[H.z],¬B k:=or0 (c_ lr)<|k_<|zt' J h1.s;refine RX z (at_ (α:=Int) o_ z_3 z z z (he.g<|((h2.ag B).c G<|b_ bL).c h3<|b_<|c_ hBg) ep) ?_;rintro _ ⟨_,_,_,rfl,er,es,_⟩;obtain ⟨rfl,eu⟩:=M_ es;refine R z (l0 g_3 z<|er.at0 z)<|Rm z ?_
  have aR:=(((h1.ag B).e h2).c G<|b_ bL).c h3<|b_<|c_ hBg
  have aS:=lt_ (lt_ (lt_ h1.s h2.s) G.s) h3.s;obtain ⟨_,a3,_,ew,bc⟩:=v_ cY;refine E z (fc call120 z<|i_2 (B:=B) ew ha (zt' J aS) hBg (W.g aR) (Y.g aR) (iA _ _) eu a0) ?_;rintro _ a4 ⟨sf,rfl,ex,bM,ey,aT,bN⟩;refine Rm z<|Re z z z<|Re z z z<|E z (fa b_u) ?_
  rintro _ aU ⟨rfl,bO⟩;have hl:=bO.below;refine Ra z<|E0 (fs0 (cur':=[vI a3.at_,vI a3.code]) H_ z z (bO.blk:Blk aU a4.z [vI 0,vI 0]) z z z z) ?_
  rintro _ bQ ⟨aV,ez⟩;have hn:=ez.one;refine Wn<|Wq<|Ws<|Rf z c_J z<|R z (l0 g_3 z<|aV.at z)<|R z (nq z z)<|Wx z (fun aD=>?_) (fun aD=>?_)
  ·refine Ws<|R z (lN (vs:=[vI a3.at_,vI a3.code]) a_h H_ z z fid<|aV.row 0 2 z) ?_
   have aW:=mmr<|Blk.lt hB1
   refine E0 (fs0 (cur':=[vI a3.at_,vI a3.code]) H_ z z ((((((h6.e h2).c G<|djs<|mmr h6.lt).c h3<|atp aW).c sf<|atp aW).e hl).c hn<|djs<|mm1 h6.lt<|lt_ (lt_ (lt_ h2.s G.s) h3.s) sf.s) z z z z) ?_;rintro _ eA ⟨eB,eC⟩;have bR:=eC.one;refine Wn ?_;obtain rfl:=som<|ifT bc aD;have bS:=lt_ aS sf.s;exact Wr<|rtO<|h_ hr (r_ a_h H_ z eB z) ⟨(cM (cM (f_ (cM (cM (cM (f_ (f_ (cr [g1] w0) h1:Chg (· ∈ [g1]) w0 H) h2:Chg (· ∈ [g1]) w0 O) G (mor h1.s:∀k∈[H.z],k∈[g1]∨w0.z<=k):Chg (· ∈ [g1]) w0 V) h3 (io sr):Chg (· ∈ [g1]) w0 I) sf (io sr):Chg (· ∈ [g1]) w0 a4) hl:Chg (· ∈ [g1]) w0 aU) hn (mor bS:∀k∈[a4.z],k∈[g1]∨w0.z<=k):Chg (· ∈ [g1]) w0 bQ) bR (mor lr:∀k∈[w0.z],k∈[g1]∨w0.z<=k):Chg (· ∈ [g1]) w0 eA),z,bM,ey,aT,((bN.e hl).c hn<|djs<|mm1 (Blk.lt hB1) bS).c bR<|djs aW⟩
  refine Wk<|Wm z<|Rf z c_w z<|R z (l0 g_3 z<|aV.at z)<|Rm z ?_
  have al:=lt_ aS sf.s;have bT:=(bN.e hl).c hn<|djs<|mm1 (Blk.lt hB1) al
  have bU:=((aR.c sf<|b_<|c_ hBg).e hl).c hn<|b_ (or0 (c_ lr) (k_<|zt' J al):∀k∈[a4.z],¬B k)
  obtain ⟨bV,eD,cZ⟩:=bdS<|ifF bc aD;refine E z (fc call122 z<|f_R (B:=w0.z) eD (a_T<|lt_ (lt_ al hl.s) hn.s) (repS.mono (W.g bU) J) (repS.mono (Y.g bU) J) aT (bT.row 0 3 z) (Blk.lt hB1) bM ex) ?_;rintro _ eE ⟨aX,rfl,eF,eG⟩;have aY:=mmr<|Blk.lt hB1
  refine E0 (fs0 (cur':=[vI bV.at_,vI bV.code]) H_ z z (((((((h6.e h2).c G<|djs<|mmr h6.lt).c h3<|atp aY).c sf<|atp aY).e hl).c hn<|djs<|mm1 h6.lt<|lt_ (lt_ (lt_ h2.s G.s) h3.s) sf.s).e aX) z z z z) ?_;rintro _ eH ⟨eI,eJ⟩;have bW:=eJ.one;refine Wn ?_;obtain rfl:=som cZ;exact Wr<|rtO<|h_ hr (r_ a_h H_ z eI z) ⟨(cM (f_ (cM (f_ (cM (cM (cM (f_ (f_ (cr [g1] w0) h1:Chg (· ∈ [g1]) w0 H) h2:Chg (· ∈ [g1]) w0 O) G (mor h1.s:∀k∈[H.z],k∈[g1]∨w0.z<=k):Chg (· ∈ [g1]) w0 V) h3 (io sr):Chg (· ∈ [g1]) w0 I) sf (io sr):Chg (· ∈ [g1]) w0 a4) hl:Chg (· ∈ [g1]) w0 aU) hn (mor al:∀k∈[a4.z],k∈[g1]∨w0.z<=k):Chg (· ∈ [g1]) w0 bQ) aX:Chg (· ∈ [g1]) w0 eE) bW (mor lr:∀k∈[w0.z],k∈[g1]∨w0.z<=k):Chg (· ∈ [g1]) w0 eH),z,eF,eG,aT,(bT.e aX).c bW<|djs aY⟩
 have be:=ifF bb aC;refine Ws<|Rq z z z<|Rw z<|Wc z (fun aE=>?_) (fun aE=>?_)
 ·refine Wm z<|R z (lN (vs:=vR xh ao np cq ar ns ct au nv cw ai nj ck) I_ m_ z z fid<|hb.row 0 8 z)<|Rm z ?_
  have bX:∀k∈[H.z],¬B k:=or0 (c_ lr)<|k_<|zt' J h1.s;have bY:=(((h1.ag B).e h2).c G<|b_ bX).c h3<|b_<|c_ hBg
  have am:=((h2.ag B).c G<|b_ bX).c h3<|b_<|c_ hBg
  obtain ⟨bZ,_,eK,d0⟩:=a_t<|ifT be aE;refine E z (fc call123 z<|dO.run (B:=B) eK ha (zt' J<|lt_ (lt_ (lt_ h1.s h2.s) G.s) h3.s) hBg (W.g bY) (Y.g bY) (iA _ _) a7 a8 hz (a1.g am) (a9.g am) (aa.g am) (he.g am) a0) ?_;rintro _ eL ⟨c0,rfl,eM,eN,eO,eP⟩;have aZ:=mmr<|Blk.lt hB1
  refine E0 (fs0 (cur':=[vI bZ.at_,vI bZ.code]) H_ z z ((((h6.e h2).c G<|djs<|mmr h6.lt).c h3<|atp aZ).c c0<|atp aZ) z z z z) ?_;rintro _ eQ ⟨eR,eS⟩;have c1:=eS.one;refine Wn ?_;obtain rfl:=som d0;exact Wr<|rtO<|h_ hr (r_ a_h H_ z eR z) ⟨(cM (cM (cM (cM (f_ (f_ (cr [g1] w0) h1:Chg (· ∈ [g1]) w0 H) h2:Chg (· ∈ [g1]) w0 O) G (mor h1.s:∀k∈[H.z],k∈[g1]∨w0.z<=k):Chg (· ∈ [g1]) w0 V) h3 (io sr):Chg (· ∈ [g1]) w0 I) c0 (io sr):Chg (· ∈ [g1]) w0 eL) c1 (mor lr:∀k∈[w0.z],k∈[g1]∨w0.z<=k):Chg (· ∈ [g1]) w0 eQ),z,eM,eN,eO,eP.c c1<|djs aZ⟩
 have bf:=ifF be aE;refine Ws<|Rq z z z<|Rw z<|Wc z (fun aF=>?_) (fun aF=>?_)
 ·refine Wm z<|R z (bP (parts:=[(0,.tmp 88),(1,.const<|.int .i64 0)]) (cs:=[vI x3,vI 0]) c_i z z)<|E z (fa b_u) ?_
  rintro _ c2 ⟨rfl,c3⟩;have hx:=c3.below;refine E0 (fs0 (cur':=[vI x3,vI 0]) H_ z z (c3.blk:Blk c2 I.z [vI 0,vI 0]) z z z z) ?_;rintro _ L ⟨eT,eU⟩;have hy:=eU.one;refine Wn<|Wq<|Ws<|Rf z J_ z<|R z (l0 D_ z<|((hb.e hx).c hy<|djs<|mm1 bq.lt<|lt_ G.s h3.s).at z) ?_
  have c4:∀k∈[H.z],¬B k:=or0 (c_ lr)<|k_<|zt' J h1.s;have ab:=lt_ (lt_ (lt_ h1.s h2.s) G.s) h3.s;have an:∀k∈[I.z],¬B k:=or0 (c_ lr)<|k_<|zt' J ab;have c5:=((((h2.ag B).c G<|b_ c4).c h3<|b_<|c_ hBg).e hx).c hy<|b_ an
  refine R z (lnR o_ z<|he.g c5)<|Rm z<|Wn ?_
  obtain ⟨_,d1,bg⟩:=bdS<|ifT bf aF;refine Wf (σ:=Int×Int×Int) (ρ:=S_×Int) (fun (c6:Nat) s a w=>un3 (fun xm xc xd=>Sat 145 [(0,pt g1),(6,pt w0.z),(12,pt I.z),(91,sl ai nj ck),(92,vI (xh.kids.length:Int)),(93,vI ((c6:Nat):Int))] a/\Chg (· ∈ ([g1]++[I.z])) L w/\inI xm/\inI xc/\inI xd/\Blk w g1 [sl A0 N0 C0,sl A6 N6 C6,vI xm]/\Blk w I.z [vI xc,vI xd]) s) (fun s a w=>un3 (fun xm xc xd=>Sat 145 [(6,pt w0.z),(12,pt I.z)] a/\Chg (· ∈ ([g1]++[I.z])) L w/\inI xm/\inI xc/\inI xd/\Blk w g1 [sl A0 N0 C0,sl A6 N6 C6,vI xm]/\Blk w I.z [vI xc,vI xd]) s) (rQ prog fn<|Q28 w0 g1 B A0 N0 C0 A6 N6 C6 x1) d1 ?_ ?_ ?_ ?_ ?_
  ·exact fun _ q=>⟨q.k<|s6 z z z z z z,cr ([g1]++[I.z]) L,iA _ _,a0,ii z,(ha.e hx).c hy<|djs<|mm1 (Blk.lt hB1) ab,eT⟩
  ·rintro c6 ⟨xm,xc,xd⟩ _ c7 _ bh ⟨d2,ad,ae,af,ap,ah,a5⟩ d3;refine Wu ?_ d2;refine Ws<|Rl z z z<|Wn<|Wq<|Wc z (fun _=>?_) (fun hc=>(a_2 bh hc).elim)
   refine Wk<|Wq<|Wb<|Ws ?_
   obtain ⟨_,eV,d4⟩:=bdS<|b_B d3;refine RX z (at_ (α:=Int) o_ z_3 z z z (he.g<|c5.c ad<|nmA (b_<|c_ hBg)<|b_ an) eV) ?_;rintro _ ⟨_,_,_,rfl,eW,eX,_⟩;obtain ⟨rfl,eY⟩:=M_ eX;refine R z (l0 g_3 z<|eW.at0 z)<|Rw z<|Wm z<|Rm z<|Rf z c_w z<|R z (l0 g_3 z<|a5.at z) ?_
   have c8:=((((((h1.ag B).e h2).c G<|b_ c4).c h3<|b_<|c_ hBg).e hx).c hy<|b_ an).c ad<|nmA (b_<|c_ hBg)<|b_ an
   obtain ⟨aq,eZ,f0,bi⟩:=a_t d4;refine E z (fc call103 z<|dN.run (B:=B) f0 ah (zt' J<|lt_ (lt_ (lt_ ab hx.s) hy.s) ad.s) hBg (W.g c8) (Y.g c8) ae eY af) ?_;rintro _ c9 ⟨b0,rfl,ca,cb,cc,cd⟩;have b1:=mm1 (Blk.lt hB1) ab;refine E0 (fs0 (cur':=[vI aq.at_,vI aq.code]) H_ z z (a5.c b0<|atp b1) z z z z) ?_;rintro _ ce ⟨b2,f1⟩;have av:=f1.one;refine Wn<|Ws<|Rf z c_J z<|R z (l0 g_3 z<|b2.at z)<|R z (nq z z)<|Wx z (fun aG=>?_) (fun aG=>?_)
   ·have f2:Chg (· ∈ ([g1]++[I.z])) L c7:=cM (cr ([g1]++[I.z]) L) ad<|aa_ (io<|A_ sr)<|io<|C_ sr;exact We<|exO z (fun _ q=>b_t (som<|ifT bi aG).symm ⟨q.k<|s2 z z,(cM (cM f2 b0 (io<|A_ sr):Chg (· ∈ ([g1]++[I.z])) L c9) av (io<|C_ sr):Chg (· ∈ ([g1]++[I.z])) L ce),cc,ca,cb,cd.c av<|djs b1,b2⟩)
   refine Wk<|Wg<|R z (inc_ bh (lt_ (repS.len he) K_) z z)<|Rm z<|Wl ?_
   exact fun _ q=>⟨(eZ,aq.at_,aq.code),(som<|ifF bi aG).symm,⟨q.k<|s6 z z z z z z,(cM (cM (cM (cr ([g1]++[I.z]) L) ad (aa_ (io<|A_ sr)<|io<|C_ sr):Chg (· ∈ ([g1]++[I.z])) L c7) b0 (io<|A_ sr):Chg (· ∈ ([g1]++[I.z])) L c9) av (io<|C_ sr):Chg (· ∈ ([g1]++[I.z])) L ce),cc,ca,cb,cd.c av<|djs b1,b2⟩⟩
  ·rintro ⟨xm,xc,xd⟩ _ f3 ⟨d5,f4,ae,af,ap,ah,a5⟩;refine Wu ?_ d5;refine Ws<|Rl z z z<|Wn<|Wq<|Wc z (fun hc=>(a_3 hc).elim) (fun _=>?_)
   exact We<|fun _ q=>⟨rfl,⟨q.k<|s2 z z,(cM (cr ([g1]++[I.z]) L) f4 (aa_ (io<|A_ sr)<|io<|C_ sr):Chg (· ∈ ([g1]++[I.z])) L f3),ae,af,ap,ah,a5⟩⟩
  ·rintro ⟨xm,xc,xd⟩ f5 f6 rfl ⟨_,cf,ae,af,ap,ah,a5⟩;have d6:=elL bg;revert f5;refine Wo<|Ws<|R z (lN (vs:=[vI xc,vI xd]) a_h H_ z z fid<|a5.row 0 2 z) ?_
   have b3:=mmr<|Blk.lt hB1
   have cg:=mm1 h6.lt<|lt_ (lt_ h2.s G.s) h3.s
   refine E0 (fs0 (cur':=[vI xc,vI xd]) H_ z z ((((((h6.e h2).c G<|djs<|mmr h6.lt).c h3<|atp b3).e hx).c hy<|djs cg).c cf<|atp<|nmA b3<|ds cg) z z z z) ?_;rintro _ f7 ⟨f8,f9⟩;have ch:=f9.one;refine Wn ?_;obtain rfl:=som<|b_B d6;have ci:∀k∈[I.z],k∈[g1]∨w0.z<=k:=mor ab;exact Wr<|rtO<|h_ hr (r_ a_h H_ z f8 z) ⟨(cM (cM (cM (f_ (cM (cM (f_ (f_ (cr [g1] w0) h1:Chg (· ∈ [g1]) w0 H) h2:Chg (· ∈ [g1]) w0 O) G (mor h1.s:∀k∈[H.z],k∈[g1]∨w0.z<=k):Chg (· ∈ [g1]) w0 V) h3 (io sr):Chg (· ∈ [g1]) w0 I) hx:Chg (· ∈ [g1]) w0 c2) hy ci:Chg (· ∈ [g1]) w0 L) cf (aa_ (io sr) ci):Chg (· ∈ [g1]) w0 f6) ch (mor lr:∀k∈[w0.z],k∈[g1]∨w0.z<=k):Chg (· ∈ [g1]) w0 f7),z,af,ap,ae,ah.c ch<|djs b3⟩
  rintro _ _ _ _ rfl ⟨rfl,cN⟩;have cO:=elR bg;obtain rfl:=som cO;exact ⟨cN,z⟩
 have bj:=ifF bf aF;refine Ws<|Rq z z z<|Rw z<|Wc z (fun aH=>?_) (fun aH=>?_)
 ·refine Wm z<|R z (lN (vs:=vR xh ao np cq ar ns ct au nv cw ai nj ck) I_ m_ z z fid<|hb.row 0 8 z)<|Rm z ?_
  have cj:∀k∈[H.z],¬B k:=or0 (c_ lr)<|k_<|zt' J h1.s;have cl:=(((h1.ag B).e h2).c G<|b_ cj).c h3<|b_<|c_ hBg
  have aw:=((h2.ag B).c G<|b_ cj).c h3<|b_<|c_ hBg
  obtain ⟨cm,_,d7,cP⟩:=a_t<|ifT bj aH;refine E z (fc call124 z<|dP.run (B:=B) d7 ha (zt' J<|lt_ (lt_ (lt_ h1.s h2.s) G.s) h3.s) hBg (W.g cl) (Y.g cl) (iA _ _) a7 a8 hz (a1.g aw) (a9.g aw) (aa.g aw) (he.g aw) a0) ?_;rintro _ d8 ⟨cn,rfl,d9,da,db,dc⟩;have b4:=mmr<|Blk.lt hB1
  refine E0 (fs0 (cur':=[vI cm.at_,vI cm.code]) H_ z z ((((h6.e h2).c G<|djs<|mmr h6.lt).c h3<|atp b4).c cn<|atp b4) z z z z) ?_;rintro _ dd ⟨de,df⟩;have co:=df.one;refine Wn ?_;obtain rfl:=som cP;exact Wr<|rtO<|h_ hr (r_ a_h H_ z de z) ⟨(cM (cM (cM (cM (f_ (f_ (cr [g1] w0) h1:Chg (· ∈ [g1]) w0 H) h2:Chg (· ∈ [g1]) w0 O) G (mor h1.s:∀k∈[H.z],k∈[g1]∨w0.z<=k):Chg (· ∈ [g1]) w0 V) h3 (io sr):Chg (· ∈ [g1]) w0 I) cn (io sr):Chg (· ∈ [g1]) w0 d8) co (mor lr:∀k∈[w0.z],k∈[g1]∨w0.z<=k):Chg (· ∈ [g1]) w0 dd),z,d9,da,db,dc.c co<|djs b4⟩
 have bk:=ifF bj aH;refine Ws<|Rq z z z<|Rw z<|Wc z (fun aI=>?_) (fun aI=>?_)
 ·refine Wm z<|R z (lN (vs:=vR xh ao np cq ar ns ct au nv cw ai nj ck) I_ m_ z z fid<|hb.row 0 8 z)<|Rm z ?_
  have cp:∀k∈[H.z],¬B k:=or0 (c_ lr)<|k_<|zt' J h1.s;have cu:=(((h1.ag B).e h2).c G<|b_ cp).c h3<|b_<|c_ hBg
  have ax:=((h2.ag B).c G<|b_ cp).c h3<|b_<|c_ hBg
  obtain ⟨cv,_,dg,cQ⟩:=a_t<|ifT bk aI;refine E z (fc call125 z<|dS.run (B:=B) dg ha (zt' J<|lt_ (lt_ (lt_ h1.s h2.s) G.s) h3.s) hBg (W.g cu) (Y.g cu) (iA _ _) a7 a8 hz (a1.g ax) (a9.g ax) (aa.g ax) (he.g ax) a0) ?_;rintro _ dh ⟨cx,rfl,di,dj,dk,dl⟩;have b5:=mmr<|Blk.lt hB1
  refine E0 (fs0 (cur':=[vI cv.at_,vI cv.code]) H_ z z ((((h6.e h2).c G<|djs<|mmr h6.lt).c h3<|atp b5).c cx<|atp b5) z z z z) ?_;rintro _ dm ⟨dn,dp⟩;have cy:=dp.one;refine Wn ?_;obtain rfl:=som cQ;exact Wr<|rtO<|h_ hr (r_ a_h H_ z dn z) ⟨(cM (cM (cM (cM (f_ (f_ (cr [g1] w0) h1:Chg (· ∈ [g1]) w0 H) h2:Chg (· ∈ [g1]) w0 O) G (mor h1.s:∀k∈[H.z],k∈[g1]∨w0.z<=k):Chg (· ∈ [g1]) w0 V) h3 (io sr):Chg (· ∈ [g1]) w0 I) cx (io sr):Chg (· ∈ [g1]) w0 dh) cy (mor lr:∀k∈[w0.z],k∈[g1]∨w0.z<=k):Chg (· ∈ [g1]) w0 dm),z,di,dj,dk,dl.c cy<|djs b5⟩
 have bm:=ifF bk aI;refine Ws<|Rq z z z<|Rw z<|Wc z (fun aJ=>?_) (fun aJ=>?_)
 ·refine Wm z<|R z (lN (vs:=vR xh ao np cq ar ns ct au nv cw ai nj ck) I_ m_ z z fid<|hb.row 0 8 z)<|Rm z ?_
  have cz:∀k∈[H.z],¬B k:=or0 (c_ lr)<|k_<|zt' J h1.s;have cA:=(((h1.ag B).e h2).c G<|b_ cz).c h3<|b_<|c_ hBg
  have ay:=((h2.ag B).c G<|b_ cz).c h3<|b_<|c_ hBg
  obtain ⟨cB,_,dq,cR⟩:=a_t<|ifT bm aJ;refine E z (fc call126 z<|dT.run (B:=B) dq ha (zt' J<|lt_ (lt_ (lt_ h1.s h2.s) G.s) h3.s) hBg (W.g cA) (Y.g cA) (iA _ _) a7 a8 hz (a1.g ay) (a9.g ay) (aa.g ay) (he.g ay) a0) ?_;rintro _ dr ⟨cC,rfl,dt,du,dv,dw⟩;have b6:=mmr<|Blk.lt hB1
  refine E0 (fs0 (cur':=[vI cB.at_,vI cB.code]) H_ z z ((((h6.e h2).c G<|djs<|mmr h6.lt).c h3<|atp b6).c cC<|atp b6) z z z z) ?_;rintro _ dx ⟨dy,dz⟩;have cD:=dz.one;refine Wn ?_;obtain rfl:=som cR;exact Wr<|rtO<|h_ hr (r_ a_h H_ z dy z) ⟨(cM (cM (cM (cM (f_ (f_ (cr [g1] w0) h1:Chg (· ∈ [g1]) w0 H) h2:Chg (· ∈ [g1]) w0 O) G (mor h1.s:∀k∈[H.z],k∈[g1]∨w0.z<=k):Chg (· ∈ [g1]) w0 V) h3 (io sr):Chg (· ∈ [g1]) w0 I) cC (io sr):Chg (· ∈ [g1]) w0 dr) cD (mor lr:∀k∈[w0.z],k∈[g1]∨w0.z<=k):Chg (· ∈ [g1]) w0 dx),z,dt,du,dv,dw.c cD<|djs b6⟩
 refine Wk<|Wq (Wd (X:=noX) 0 (pl_ 17 [9]) mo (by kernel_rfl) fun cE sg _=>dM z z z<|dR z z (V_ z)<|dR z z (fd d_7 z) ?_)
 have b7:=ha.e sg;refine dR z z (l0 P_ z<|b7.at z)<|dM z z z<|dR z z (fd a_R z)<|dR z z (l0 P_ z<|(hb.e sg).at z) ?_
 obtain ⟨_,dA,cS⟩:=bdS<|ifF bm aJ;have cF:∀k∈[H.z],¬B k:=or0 (c_ lr)<|k_<|zt' J h1.s;refine dRX z z (at_ (α:=UInt8) p_ z_5 z z z (a1.g<|(((h2.ag B).c G<|b_ cF).c h3<|b_<|c_ hBg).e sg) dA) ?_;rintro _ ⟨_,_,_,rfl,dB,dC,_⟩;obtain rfl:=u8 dC;refine dR z z (l0 g_5 z<|dB.at0 z) ?_;obtain ⟨_,cG,_,dD,bn⟩:=v_ cS;refine dE z z (fc call82 z<|W_w1n dD (zt' J<|lt_ (lt_ (lt_ (lt_ h1.s h2.s) G.s) h3.s) sg.s) (Y.g<|((((h1.ag B).e h2).c G<|b_ cF).c h3<|b_<|c_ hBg).e sg) a0) (.inr fun _ _ h=>w_<|h.1) ?_;rintro _ cH ⟨a6,_,_,_,_,rfl,_,dF,_,_⟩;refine dM z z z ?_
 iterate 3 refine dR z z (ext_ z z) ?_
 iterate 3 refine dQ z z z ?_
 refine pD<|Wo<|Wq<|Wm z<|R z (not_ z)<|Wx z (fun aK=>?_) (fun aK=>?_)
 ·refine Wm z<|R z (bP (parts:=[(0,.tmp 141),(1,.const<|.int .i64 1)]) (cs:=[vI x3,vI 1]) c_i z z) ?_
  have cI:=mmr<|Blk.lt hB1
  refine E0 (fs0 (cur':=[vI x3,vI 1]) H_ z z (((((h6.e h2).c G<|djs<|mmr h6.lt).c h3<|atp cI).e sg).e a6) z z z z) ?_;rintro _ dG ⟨dH,dI⟩;have cJ:=dI.one;refine Wn ?_;obtain rfl:=som<|ifT bn aK;exact Wr<|h_ hr (r_ a_h H_ z dH z) ⟨(cM (f_ (f_ (cM (cM (f_ (f_ (cr [g1] w0) h1:Chg (· ∈ [g1]) w0 H) h2:Chg (· ∈ [g1]) w0 O) G (mor h1.s:∀k∈[H.z],k∈[g1]∨w0.z<=k):Chg (· ∈ [g1]) w0 V) h3 (io sr):Chg (· ∈ [g1]) w0 I) sg:Chg (· ∈ [g1]) w0 cE) a6:Chg (· ∈ [g1]) w0 cH) cJ (mor lr:∀k∈[w0.z],k∈[g1]∨w0.z<=k):Chg (· ∈ [g1]) w0 dG),z,a0,ii z,iA _ _,(b7.e a6).c cJ<|djs cI⟩
 refine Wk<|Wm z<|R z (bP (parts:=[(0,.tmp 143),(1,.const<|.int .i64 0)]) (cs:=[vI cG,vI 0]) c_i z z) ?_
 have cK:=mmr<|Blk.lt hB1
 refine E0 (fs0 (cur':=[vI cG,vI 0]) H_ z z (((((h6.e h2).c G<|djs<|mmr h6.lt).c h3<|atp cK).e sg).e a6) z z z z) ?_;rintro _ dJ ⟨dK,dL⟩;have cL:=dL.one;refine Wn ?_;obtain rfl:=som<|ifF bn aK;exact Wr<|h_ hr (r_ a_h H_ z dK z) ⟨(cM (f_ (f_ (cM (cM (f_ (f_ (cr [g1] w0) h1:Chg (· ∈ [g1]) w0 H) h2:Chg (· ∈ [g1]) w0 O) G (mor h1.s:∀k∈[H.z],k∈[g1]∨w0.z<=k):Chg (· ∈ [g1]) w0 V) h3 (io sr):Chg (· ∈ [g1]) w0 I) sg:Chg (· ∈ [g1]) w0 cE) a6:Chg (· ∈ [g1]) w0 cH) cL (mor lr:∀k∈[w0.z],k∈[g1]∨w0.z<=k):Chg (· ∈ [g1]) w0 dJ),z,dF,ii z,iA _ _,(b7.e a6).c cL<|djs cK⟩
theorem T_w1t (ih:e_O n):j_w (g_P n<|a_w n):=by
 obtain ⟨aP,_,_,_,_⟩:=ih
 constructor
 intro A0 A6 A2 A3 A1 A4 N0 C0 N6 C6 g1 N2 C2 N3 C3 N1 C1 N4 C4 B x1 x2 x3 res w0 hm hB1 W hBg a2 a3 aE bu bv bw bx bz bA a4 a5;unfold g_P at hm
 refine goG func123 z z z fun fn hr=>Ws<|E z (fb z) ?_
 rintro _ J ⟨rfl,ab⟩;have h6:=ab.below;have ad:Blk J w0.z (vR x2 A2 N2 C2 A3 N3 C3 A1 N1 C1 A4 N4 C4):=ab.blk;refine E z (fa b_u) ?_;rintro _ wr ⟨rfl,ae⟩;have he:=ae.below;have hn:Blk wr J.z [vI 0,vI 0]:=ae.blk;refine Wn<|Wm z<|Rf z J_ z ?_
 have af:=ad.e he;refine R z (l0 D_ z<|af.at z) ?_;obtain ⟨_,aQ,aF⟩:=bdS hm;have ho:=(h6.ag B).e he;refine RX z (at_ (α:=Int) o_ z_3 z z z (a4.g ho) aQ) ?_;rintro _ ⟨_,_,_,rfl,aR,aS,_⟩;obtain ⟨rfl,aT⟩:=M_ aS;refine R z (l0 g_3 z<|aR.at0 z)<|Rm z ?_
 have hj:=lt_ h6.s he.s;obtain ⟨ah,rs,_,aU,aG⟩:=v_ aF;refine E z (fc call120 z<|i_2 (B:=B) aU ((hB1.e h6).e he) (zt' W hj) hBg (a2.g ho) (a3.g ho) aE aT a5) ?_;rintro _ G ⟨I,rfl,aV,aW,aX,ai,aj⟩;refine Rm z<|Re z z z<|Re z z z<|E z (fa b_u) ?_
 rintro _ wu ⟨rfl,ak⟩;have O:=ak.below;refine Ra z<|E0 (fs0 (cur':=[vI rs.at_,vI rs.code]) H_ z z (ak.blk:Blk wu G.z [vI 0,vI 0]) z z z z) ?_
 rintro _ wg ⟨al,aY⟩;have V:=aY.one;refine Wn<|Wq<|Wq ?_
 obtain ⟨aZ,a6,a7⟩:=bdS aG;refine Wt (fun a w=>∃(xv:Bool),xv=aZ/\Sat 46 [(0,pt g1),(2,vI x3),(4,pt w0.z),(6,pt J.z),(7,vI ah),(8,pt G.z),(25,vB xv)] a/\Below wg.z wg w) ?_ ?_
 ·refine Wg<|Rf z c_J z<|R z (l0 g_3 z<|al.at z)<|Rq z z z<|Rm z ?_
  rcases bs (rs.code==0) with L | L
  ·exact Rh z L (mv z)<|Rh z L (a_e z z)<|R z (pT z L z)<|Wl (fun _ q=>⟨decide<|40<ah,som<|ifT a6 L,q.k<|s7 z z z z z z z,br wg⟩)
  exact Nh z L<|Nh z L<|R z (pF z L z)<|Wl (fun _ q=>⟨false,som<|ifF a6 L,q.k<|s7 z z z z z z z,br wg⟩)
 rintro b0 H ⟨xv,rfl,_,s4⟩;revert b0;refine Wo<|Wc z (fun hcw=>?_) (fun hcw=>?_)
 ·refine Wm z<|R z (bP (parts:=[(0,.tmp 26),(1,.const<|.int .i64 6)]) (cs:=[vI x3,vI 6]) c_i z z) ?_
  have am:=mm1 (Blk.lt hB1) h6.s;refine E0 (fs0 (cur':=[vI x3,vI 6]) H_ z z ((((hn.c I<|atp am).e O).c V<|djs<|mm1 hn.lt I.s).e s4) z z z z) ?_;rintro _ b1 ⟨b2,b3⟩;have an:=b3.one;refine Wn ?_;obtain rfl:=som<|ifT a7 hcw;have ao:=lt_ hj I.s;exact Wr<|h_ hr (r_ a_h H_ z b2 z) ⟨(cM (f_ (cM (f_ (cM (f_ (f_ (cr [g1] w0) h6:Chg (· ∈ [g1]) w0 J) he:Chg (· ∈ [g1]) w0 wr) I (io sr):Chg (· ∈ [g1]) w0 G) O:Chg (· ∈ [g1]) w0 wu) V (mor ao:∀k∈[G.z],k∈[g1]∨w0.z<=k):Chg (· ∈ [g1]) w0 wg) s4:Chg (· ∈ [g1]) w0 H) an (mor h6.s:∀k∈[J.z],k∈[g1]∨w0.z<=k):Chg (· ∈ [g1]) w0 b1),z,a5,ii z,ai,(((aj.e O).c V<|djs<|mm1 (Blk.lt hB1) ao).e s4).c an<|djs am⟩
 refine Wk<|Wq ?_
 obtain ⟨_,aH,a8⟩:=bdS<|ifF a7 hcw;refine b_M (σ:=Int×Int×Int×Int) (ρ:=S_×Int) (fun s a w=>un4 (fun xa xf xb x5=>Sat 46 [(0,pt g1),(4,pt w0.z),(6,pt J.z),(7,vI xa),(8,pt G.z)] a/\Chg (· ∈ ([g1]++[G.z])) H w/\inI xa/\inI xf/\inI xb/\inI x5/\Blk w g1 [sl A0 N0 C0,sl A6 N6 C6,vI xf]/\Blk w G.z [vI xb,vI x5]) s) (fun s a w=>un4 (fun xa xf xb x5=>Sat 46 [(6,pt J.z),(8,pt G.z)] a/\Chg (· ∈ ([g1]++[G.z])) H w/\inI xa/\inI xf/\inI xb/\inI x5/\Blk w g1 [sl A0 N0 C0,sl A6 N6 C6,vI xf]/\Blk w G.z [vI xb,vI x5]) s) (rQ prog fn<|Q28 w0 g1 B A0 N0 C0 A6 N6 C6 x1) aH ?_ ?_ ?_ ?_
 ·exact fun _ q=>⟨q.k<|s5 z z z z z,cr ([g1]++[G.z]) H,aV,ai,aW,aX,((aj.e O).c V<|djs<|mm1 (Blk.lt hB1)<|lt_ hj I.s).e s4,al.e s4⟩
 ·rintro ⟨xa,xf,xb,x5⟩ _ wh _ ⟨aI,sk,ap,hp,hq,hx,ht,hl⟩ aJ;refine Wu ?_ aI;refine Wq<|Wq ?_
  obtain ⟨b4,a9,aa⟩:=bdS<|c_I aJ;refine Wt (fun a w=>∃(xy:Bool),xy=b4/\Sat 46 [(0,pt g1),(4,pt w0.z),(6,pt J.z),(7,vI xa),(8,pt G.z),(34,vB xy)] a/\Below wh.z wh w) ?_ ?_
  ·refine Wg<|Rm z<|R z (a_e z z)<|Rm z ?_
   rcases bs (decide<|0<xa) with hcc | hcc
   ·exact Rh z hcc (fd c_J z)<|Rh z hcc (l0 g_3 z<|hl.at z)<|Rh z hcc (eql z z)<|R z (pT z hcc z)<|Wl (fun _ q=>⟨x5==0,som<|ifT a9 hcc,q.k<|s6 z z z z z z,br wh⟩)
   iterate 3 refine Nh z hcc ?_
   exact R z (pF z hcc z)<|Wl (fun _ q=>⟨false,som<|ifF a9 hcc,q.k<|s6 z z z z z z,br wh⟩)
  rintro b5 aq ⟨xy,rfl,_,sd⟩;revert b5;refine Wo<|Wc z (fun hcz=>?_) (fun hcz=>?_)
  ·refine Wk<|Wq<|Wb (Wd (X:=noX) 384 (pl_ 9 [7,8]) mo (by kernel_rfl) fun b6 si _=>dM z z z<|dR z z (fd J_ z) ?_)
   have ar:=mmr<|Blk.lt hB1
   have au:=mm1 ad.lt<|lt_ he.s I.s
   refine dR z z (l0 D_ z<|(((((((af.c I<|atp ar).e O).c V<|djs au).e s4).c sk<|atp<|nmA ar<|ds au).e sd).e si).at z) ?_;obtain ⟨_,b7,aK⟩:=bdS<|ifT aa hcz;have Y:=lt_ hj I.s;have av:∀k∈[G.z],¬B k:=or0 (c_ lr)<|k_<|zt' W Y;have a0:=((((((ho.c I<|b_<|c_ hBg).e O).c V<|b_ av).e s4).c sk<|nmA (b_<|c_ hBg)<|b_ av).e sd).e si;refine dRX z z (at_ (α:=Int) o_ z_3 z z z (a4.g a0) b7) ?_;rintro _ ⟨_,_,_,rfl,b8,b9,_⟩;obtain ⟨rfl,ba⟩:=M_ b9;refine dR z z (l0 g_3 z<|b8.at0 z)<|dR z z (fd c_w z) ?_
   have aw:=(hl.e sd).e si;refine dR z z (l0 g_3 z<|aw.at z) ?_;obtain ⟨rm,bb,bc,aL⟩:=a_t aK;refine dE z z (fc call103 z<|aP.run (B:=B) bc ((ht.e sd).e si) (zt' W<|lt_ (lt_ (lt_ (lt_ (lt_ (lt_ Y O.s) V.s) s4.s) sk.s) sd.s) si.s) hBg (a2.g a0) (a3.g a0) hp ba hq) (.inl z) ?_;rintro _ be ⟨ax,rfl,bf,bg,bh,bi⟩;have ay:=mm1 (Blk.lt hB1) Y;refine dE0 z (fs0 (cur':=[vI rm.at_,vI rm.code]) H_ z z (aw.c ax<|atp ay) z z z z) (.inl z) ?_;rintro _ bj ⟨bk,bm⟩;have az:=bm.one;refine pD<|Wo<|Wg<|Rm z<|R z (sb_ z z)<|Ra z<|Wl ?_
   exact fun _ q=>⟨(L_ xa 1,bb,rm.at_,rm.code),(som aL).symm,⟨q.k<|s5 z z z z z,(cM (cM (f_ (f_ (cM (cr ([g1]++[G.z]) H) sk (aa_ (io<|A_ sr)<|io<|C_ sr):Chg (· ∈ ([g1]++[G.z])) H wh) sd:Chg (· ∈ ([g1]++[G.z])) H aq) si:Chg (· ∈ ([g1]++[G.z])) H b6) ax (io<|A_ sr):Chg (· ∈ ([g1]++[G.z])) H be) az (io<|C_ sr):Chg (· ∈ ([g1]++[G.z])) H bj),iS _ _,bh,bf,bg,bi.c az<|djs ay,bk⟩⟩
  exact We<|fun _ q=>b_t (som<|ifF aa hcz).symm ⟨q.k<|s2 z z,(f_ (cM (cr ([g1]++[G.z]) H) sk (aa_ (io<|A_ sr)<|io<|C_ sr):Chg (· ∈ ([g1]++[G.z])) H wh) sd:Chg (· ∈ ([g1]++[G.z])) H aq),ap,hp,hq,hx,ht.e sd,hl.e sd⟩
 ·rintro ⟨xa,xf,xb,x5⟩ bn bo rfl ⟨_,aA,ap,hp,hq,hx,ht,hl⟩;have aM:=elL a8;revert bn;refine Wo<|Ws<|R z (lN (vs:=[vI xb,vI x5]) a_h H_ z z fid<|hl.row 0 2 z) ?_
  have a1:=mm1 (Blk.lt hB1) h6.s;have aB:=mm1 hn.lt I.s;refine E0 (fs0 (cur':=[vI xb,vI x5]) H_ z z (((((hn.c I<|atp a1).e O).c V<|djs aB).e s4).c aA<|atp<|nmA a1<|ds aB) z z z z) ?_;rintro _ bp ⟨bq,bt⟩;have aC:=bt.one;refine Wn ?_;obtain rfl:=som<|c_I aM;have aD:∀k∈[G.z],k∈[g1]∨w0.z<=k:=mor<|lt_ hj I.s;exact Wr<|h_ hr (r_ a_h H_ z bq z) ⟨(cM (cM (f_ (cM (f_ (cM (f_ (f_ (cr [g1] w0) h6:Chg (· ∈ [g1]) w0 J) he:Chg (· ∈ [g1]) w0 wr) I (io sr):Chg (· ∈ [g1]) w0 G) O:Chg (· ∈ [g1]) w0 wu) V aD:Chg (· ∈ [g1]) w0 wg) s4:Chg (· ∈ [g1]) w0 H) aA (aa_ (io sr) aD):Chg (· ∈ [g1]) w0 bo) aC (mor h6.s:∀k∈[J.z],k∈[g1]∨w0.z<=k):Chg (· ∈ [g1]) w0 bp),z,hq,hx,hp,ht.c aC<|djs a1⟩
 rintro _ _ _ _ rfl ⟨rfl,aN⟩;have aO:=elR a8;obtain rfl:=som aO;exact ⟨aN,z⟩
theorem T_w1u (ih:e_O n):j_x (g_Q n<|a_w n):=by
 obtain ⟨aq,_,_,_,_⟩:=ih
 constructor
 intro A0 A6 A2 A3 A1 A4 N0 C0 N6 C6 g1 N2 C2 N3 C3 N1 C1 N4 C4 B x1 x2 x3 res w0 hm hB1 V hBg W Y ae b2 b3 b4 b5 b6 O a0 a1;unfold g_Q at hm
 refine goG func124 z z z fun fn hr=>Ws<|E z (fb z) ?_
 rintro _ H ⟨rfl,hq⟩;have h1:=hq.below;have ht:Blk H w0.z (vR x2 A2 N2 C2 A3 N3 C3 A1 N1 C1 A4 N4 C4):=hq.blk;refine E z (fa b_u) ?_;rintro _ wc ⟨rfl,hu⟩;have h6:=hu.below;have L:Blk wc H.z [vI 0,vI 0]:=hu.blk;refine Wn<|Wm z<|Rf z J_ z ?_
 have hv:=ht.e h6;refine R z (l0 D_ z<|hv.at z) ?_;obtain ⟨_,ar,af⟩:=bdS hm;have he:=(h1.ag B).e h6;refine RX z (at_ (α:=Int) o_ z_3 z z z (a0.g he) ar) ?_;rintro _ ⟨_,_,_,rfl,au,av,_⟩;obtain ⟨rfl,aw⟩:=M_ av;refine R z (l0 g_3 z<|au.at0 z)<|Rm z ?_
 have hg:=lt_ h1.s h6.s;obtain ⟨ax,rb,_,ay,hmr⟩:=v_ af;refine E z (fc call120 z<|i_2 (B:=B) ay ((hB1.e h1).e h6) (zt' V hg) hBg (W.g he) (Y.g he) ae aw a1) ?_;rintro _ I ⟨G,rfl,_,hw,az,hh,hi⟩;refine Rm z<|Re z z z<|Re z z z<|E z (fa b_u) ?_
 rintro _ wf ⟨rfl,hx⟩;have h2:=hx.below;refine Ra z<|E0 (fs0 (cur':=[vI rb.at_,vI rb.code]) H_ z z (hx.blk:Blk wf I.z [vI 0,vI 0]) z z z z) ?_
 rintro _ J ⟨hj,aA⟩;have h3:=aA.one;refine Wn<|Wq<|Ws<|Rf z c_J z<|R z (l0 g_3 z<|hj.at z)<|R z (nq z z)<|Wx z (fun hck=>?_) (fun hck=>?_)
 ·refine Ws<|R z (lN (vs:=[vI rb.at_,vI rb.code]) a_h H_ z z fid<|hj.row 0 2 z) ?_
  have hy:=mm1 (Blk.lt hB1) h1.s;refine E0 (fs0 (cur':=[vI rb.at_,vI rb.code]) H_ z z (((L.c G<|atp hy).e h2).c h3<|djs<|mm1 L.lt G.s) z z z z) ?_;rintro _ aB ⟨aC,aD⟩;have hz:=aD.one;refine Wn ?_;obtain rfl:=som<|ifT hmr hck;have a3:=lt_ hg G.s;exact Wr<|h_ hr (r_ a_h H_ z aC z) ⟨(cM (cM (f_ (cM (f_ (f_ (cr [g1] w0) h1:Chg (· ∈ [g1]) w0 H) h6:Chg (· ∈ [g1]) w0 wc) G (io sr):Chg (· ∈ [g1]) w0 I) h2:Chg (· ∈ [g1]) w0 wf) h3 (mor a3:∀k∈[I.z],k∈[g1]∨w0.z<=k):Chg (· ∈ [g1]) w0 J) hz (mor h1.s:∀k∈[H.z],k∈[g1]∨w0.z<=k):Chg (· ∈ [g1]) w0 aB),z,hw,az,hh,((hi.e h2).c h3<|djs<|mm1 (Blk.lt hB1) a3).c hz<|djs hy⟩
 refine Wk<|Wq<|Ws<|Rf z a_S z ?_
 have a4:=((hv.c G<|atp<|mmr<|Blk.lt hB1).e h2).c h3<|djs<|mm1 ht.lt<|lt_ h6.s G.s
 refine R z (l0 D_ z<|a4.at z) ?_;have hd:=lt_ hg G.s;have a5:=((he.c G<|b_<|c_ hBg).e h2).c h3<|b_ (or0 (c_ lr) (k_<|zt' V hd):∀k∈[I.z],¬B k)
 refine R z (lnR o_ z<|O.g a5)<|Rm z<|Wn ?_
 obtain ⟨_,ah,hms⟩:=bdS<|ifF hmr hck;refine Wf (σ:=Unit) (ρ:=S_×Int) (fun (a6:Nat)(_:Unit) a w=>Sat 49 [(0,pt g1),(2,vI x3),(4,pt w0.z),(6,pt H.z),(7,vI ax),(8,pt I.z),(26,sl A1 N1 C1),(27,vI (x2.tags.length:Int)),(28,vI ((a6:Nat):Int))] a/\Below J.z J w) (fun (_:Unit) a w=>Sat 49 [(2,vI x3),(6,pt H.z)] a/\Below J.z J w) (rQ prog fn<|Q28 w0 g1 B A0 N0 C0 A6 N6 C6 x1) ah ?_ ?_ ?_ ?_ ?_
 ·exact fun _ q=>⟨q.k<|s9 z z z z z z z z z,br J⟩
 ·rintro a6 _ _ aE _ hkl ⟨ai,s8⟩ aj;refine Wu ?_ ai;refine Ws<|Rl z z z<|Wn<|Wq<|Wc z (fun _=>?_) (fun hc=>(a_2 hkl hc).elim)
  refine Wk<|Wq<|Wb<|Wm z ?_
  obtain ⟨_,aF,a2⟩:=bdS aj;have a7:=a5.e s8;refine RX z (at_ (α:=Int) o_ z_3 z z z (O.g a7) aF) ?_;rintro _ ⟨_,_,_,rfl,aG,aH,_⟩;obtain ⟨rfl,_⟩:=M_ aH;refine R z (l0 g_3 z<|aG.at0 z)<|Ra z<|Rw z<|Wm z<|Rm z<|Rq z z z<|Wx z (fun hcm=>?_) (fun hcm=>?_)
  ·refine Wq (Wd (X:=noX) 1536 (pl_ 11 [9,10]) mo (by kernel_rfl) fun aI sa _=>dM z z z<|dR z z (fd J_ z)<|dR z z (l0 D_ z<|((a4.e s8).e sa).at z)<|dM z z z<|dR z z (inc_ hkl (lt_ (repS.len O) K_) z z) ?_);obtain ⟨_,aJ,ak⟩:=bdS<|ifT a2 hcm;have hn:=a7.e sa;refine dRX z z (at_ (α:=Int) o_ z_3 z z z (a0.g hn) aJ) ?_;rintro _ ⟨_,_,_,rfl,aK,aL,_⟩;obtain ⟨rfl,aM⟩:=M_ aL;refine dR z z (l0 g_3 z<|aK.at0 z)<|dR z z (fd c_w z)<|dR z z (l0 g_3 z<|((hj.e s8).e sa).at z) ?_
   obtain ⟨a8,_,aN,al⟩:=a_t ak;refine dE z z (fc call103 z<|aq.run (B:=B) aN ((((hi.e h2).c h3<|djs<|mm1 (Blk.lt hB1) hd).e s8).e sa) (zt' V<|lt_ (lt_ (lt_ (lt_ hd h2.s) h3.s) s8.s) sa.s) hBg (W.g hn) (Y.g hn) hh aM hw) (.inl z) ?_;rintro _ aO ⟨a9,rfl,aP,aQ,aR,aS⟩;have ho:=mm1 (Blk.lt hB1) h1.s;refine dE0 z (fs0 (cur':=[vI a8.at_,vI a8.code]) H_ z z ((((((L.c G<|atp ho).e h2).c h3<|djs<|mm1 L.lt G.s).e s8).e sa).c a9<|atp ho) z z z z) (.inl z) ?_;rintro _ aT ⟨aU,aV⟩;have aa:=aV.one;refine pD<|Wo ?_
   exact Wr<|rtO<|qL (som al).symm<|h_ hr (r_ a_h H_ z aU z) ⟨(cM (cM (f_ (f_ (cM (f_ (cM (f_ (f_ (cr [g1] w0) h1:Chg (· ∈ [g1]) w0 H) h6:Chg (· ∈ [g1]) w0 wc) G (io sr):Chg (· ∈ [g1]) w0 I) h2:Chg (· ∈ [g1]) w0 wf) h3 (mor hd:∀k∈[I.z],k∈[g1]∨w0.z<=k):Chg (· ∈ [g1]) w0 J) s8:Chg (· ∈ [g1]) w0 aE) sa:Chg (· ∈ [g1]) w0 aI) a9 (io sr):Chg (· ∈ [g1]) w0 aO) aa (mor h1.s:∀k∈[H.z],k∈[g1]∨w0.z<=k):Chg (· ∈ [g1]) w0 aT),z,aP,aQ,aR,aS.c aa<|djs ho⟩
  exact Wk<|Wg<|R z (inc_ hkl (lt_ (repS.len O) K_) z z)<|Rm z<|Wl (fun _ q=>⟨(),(som<|ifF a2 hcm).symm,⟨q.k<|s9 z z z z z z z z z,s8⟩⟩)
 ·rintro _ _ _ ⟨am,aW⟩;refine Wu ?_ am;refine Ws<|Rl z z z<|Wn<|Wq<|Wc z (fun hc=>(a_3 hc).elim) (fun _=>?_)
  exact We<|fun _ q=>⟨rfl,⟨q.k<|s2 z z,aW⟩⟩
 ·rintro _ aX aY rfl ⟨_,sp⟩;have an:=elL hms;revert aX;refine Wo<|Wm z<|R z (bP (parts:=[(0,.tmp 47),(1,.const<|.int .i64 3)]) (cs:=[vI x3,vI 3]) c_i z z) ?_
  have ab:=mm1 (Blk.lt hB1) h1.s;refine E0 (fs0 (cur':=[vI x3,vI 3]) H_ z z ((((L.c G<|atp ab).e h2).c h3<|djs<|mm1 L.lt G.s).e sp) z z z z) ?_;rintro _ aZ ⟨b0,b1⟩;have ad:=b1.one;refine Wn ?_;obtain rfl:=som an;exact Wr<|h_ hr (r_ a_h H_ z b0 z) ⟨(cM (f_ (cM (f_ (cM (f_ (f_ (cr [g1] w0) h1:Chg (· ∈ [g1]) w0 H) h6:Chg (· ∈ [g1]) w0 wc) G (io sr):Chg (· ∈ [g1]) w0 I) h2:Chg (· ∈ [g1]) w0 wf) h3 (mor hd:∀k∈[I.z],k∈[g1]∨w0.z<=k):Chg (· ∈ [g1]) w0 J) sp:Chg (· ∈ [g1]) w0 aY) ad (mor h1.s:∀k∈[H.z],k∈[g1]∨w0.z<=k):Chg (· ∈ [g1]) w0 aZ),z,a1,ii z,hh,(((hi.e h2).c h3<|djs<|mm1 (Blk.lt hB1) hd).e sp).c ad<|djs ab⟩
 rintro _ _ _ _ rfl ⟨rfl,ao⟩;have ap:=elR hms;obtain rfl:=som ap;exact ⟨ao,z⟩
theorem T_w1v (ih:e_O n):j_y (g_R n<|a_w n):=by
 obtain ⟨af,_,_,_,_⟩:=ih
 constructor
 intro A0 A6 A2 A3 A1 A4 N0 C0 N6 C6 g1 N2 C2 N3 C3 N1 C1 N4 C4 B x1 x2 x3 res w0 hm hB1 V hBg a0 W Y aP aQ aR aS aT aU a9 a1;unfold g_R at hm
 refine goG func125 z z z fun fn hr=>Ws<|E z (fb z) ?_
 rintro _ J ⟨rfl,hq⟩;have h5:=hq.below;have ht:Blk J w0.z (vR x2 A2 N2 C2 A3 N3 C3 A1 N1 C1 A4 N4 C4):=hq.blk;refine E z (fa b_u) ?_;rintro _ we ⟨rfl,hu⟩;have L:=hu.below;have hc:Blk we J.z [vI 0,vI 0]:=hu.blk;refine Wn<|Wm z<|Rm z ?_
 have hf:=(hB1.e h5).e L;have hg:=(h5.ag B).e L;have hh:=lt_ h5.s L.s;obtain ⟨O,ah,aa⟩:=bdS hm;refine E z (fc call122 z<|f_R (B:=w0.z) ah (a_T hh) (repS.mono (a0.g hg) V) (repS.mono (W.g hg) V) Y (hf.row 0 3 z) (Blk.lt hB1) a1<|ii z) ?_;rintro _ I ⟨G,rfl,hv,ai⟩;refine E z (fa b_u) ?_;rintro _ wi ⟨rfl,hw⟩;have h2:=hw.below;refine E0 (fs0 (cur':=[vI O.at_,vI O.code]) H_ z z (hw.blk:Blk wi I.z [vI 0,vI 0]) z z z z) ?_;rintro _ wa ⟨hj,aj⟩;have h3:=aj.one;refine Wn<|Wq<|Wb<|Wq ?_
 obtain ⟨ak,hur,hms⟩:=bdS aa;refine Wt (fun a w=>∃(xk:Bool),xk=ak/\Sat 45 [(0,pt g1),(2,vI x3),(4,pt w0.z),(6,pt J.z),(7,pt I.z),(11,vB xk)] a/\Below wa.z wa w) ?_ ?_
 ·refine Wg<|Rf z c_J z<|R z (l0 g_3 z<|hj.at z)<|R z (nq z z)<|Rm z ?_
  rcases bs (O.code != 0) with H | H
  ·iterate 8 refine Nh z H ?_
   exact R z (pT z H z)<|Ra z<|Wl (fun _ q=>⟨true,som<|ifT hur H,q.k<|s6 z z z z z z,br wa⟩)
  refine Rh z H (mv z)<|Rh z H (V_ z)<|Rh z H (fd d_7 z) ?_
  have hx:=lt_ hh G.s;refine Rh z H (l0 P_ z<|(((hf.e G).e h2).c h3<|djs<|mm1 (Blk.lt hB1) hx).at z)<|Rh z H (mv z) ?_
  obtain ⟨al,am,ab⟩:=bdS<|ifF hur H;refine RXg z z H z (at_ (α:=UInt8) p_ z_5 z z z (W.g<|((hg.e G).e h2).c h3<|b_ (or0 (c_ lr) (k_<|zt' V hx):∀k∈[I.z],¬B k)) am) ?_;rintro _ ⟨_,_,_,rfl,an,ao,_⟩;obtain rfl:=u8 ao;exact Rh z H (l0 g_5 z<|an.at0 z)<|Rh z H (eql z z)<|R z (pF z H z)<|Ra z<|Wl (fun _ q=>⟨(byteI al)==(byteI (0:UInt8)),som ab,q.k<|s6 z z z z z z,br wa⟩)
 rintro ap wl ⟨xk,rfl,_,s4⟩;revert ap;refine Wo<|Wc z (fun hcm=>?_) (fun hcm=>?_)
 ·refine Ws<|R z (lN (vs:=[vI O.at_,vI O.code]) a_h H_ z z fid<|(hj.e s4).row 0 2 z)<|E0 (fs0 (cur':=[vI O.at_,vI O.code]) H_ z z ((((hc.e G).e h2).c h3<|djs<|mm1 hc.lt G.s).e s4) z z z z) ?_
  rintro _ aq ⟨ar,au⟩;have hy:=au.one;refine Wn ?_;obtain rfl:=som<|ifT hms hcm;have hz:=lt_ hh G.s;exact Wr<|rtO<|h_ hr (r_ a_h H_ z ar z) ⟨(cM (f_ (cM (f_ (f_ (f_ (f_ (cr [g1] w0) h5:Chg (· ∈ [g1]) w0 J) L:Chg (· ∈ [g1]) w0 we) G:Chg (· ∈ [g1]) w0 I) h2:Chg (· ∈ [g1]) w0 wi) h3 (mor hz:∀k∈[I.z],k∈[g1]∨w0.z<=k):Chg (· ∈ [g1]) w0 wa) s4:Chg (· ∈ [g1]) w0 wl) hy (mor h5.s:∀k∈[J.z],k∈[g1]∨w0.z<=k):Chg (· ∈ [g1]) w0 aq),z,hv,ai,Y,((((hf.e G).e h2).c h3<|djs<|mm1 (Blk.lt hB1) hz).e s4).c hy<|djs<|mm1 (Blk.lt hB1) h5.s⟩
 refine Wm z<|R z (V_ z)<|Rf z d_7 z ?_
 have hd:=lt_ hh G.s;have hn:=(((hf.e G).e h2).c h3<|djs<|mm1 (Blk.lt hB1) hd).e s4;refine R z (l0 P_ z<|hn.at z)<|Rm z ?_
 obtain ⟨_,av,a2⟩:=bdS<|ifF hms hcm;have a3:=(((hg.e G).e h2).c h3<|b_ (or0 (c_ lr) (k_<|zt' V hd):∀k∈[I.z],¬B k)).e s4;refine RX z (at_ (α:=UInt8) p_ z_5 z z z (W.g a3) av) ?_;rintro _ ⟨_,_,_,rfl,aw,ax,_⟩;obtain rfl:=u8 ax;refine R z (l0 g_5 z<|aw.at0 z)<|R z (a_e z z)<|Rw z<|Wc z (fun hco=>?_) (fun hco=>?_)
 ·refine Wm z<|R z (bP (parts:=[(0,.tmp 35),(1,.const<|.int .i64 4)]) (cs:=[vI x3,vI 4]) c_i z z)<|E0 (fs0 (cur':=[vI x3,vI 4]) H_ z z ((((hc.e G).e h2).c h3<|djs<|mm1 hc.lt G.s).e s4) z z z z) ?_
  rintro _ ay ⟨az,aA⟩;have a4:=aA.one;refine Wn ?_;obtain rfl:=som<|ifT a2 hco;exact Wr<|rtO<|h_ hr (r_ a_h H_ z az z) ⟨(cM (f_ (cM (f_ (f_ (f_ (f_ (cr [g1] w0) h5:Chg (· ∈ [g1]) w0 J) L:Chg (· ∈ [g1]) w0 we) G:Chg (· ∈ [g1]) w0 I) h2:Chg (· ∈ [g1]) w0 wi) h3 (mor hd:∀k∈[I.z],k∈[g1]∨w0.z<=k):Chg (· ∈ [g1]) w0 wa) s4:Chg (· ∈ [g1]) w0 wl) a4 (mor h5.s:∀k∈[J.z],k∈[g1]∨w0.z<=k):Chg (· ∈ [g1]) w0 ay),z,a1,ii z,Y,hn.c a4<|djs<|mm1 (Blk.lt hB1) h5.s⟩
 refine Wk<|Wq (Wd (X:=noX) 384 (pl_ 9 [7,8]) mo (by kernel_rfl) fun aB sb _=>dM z z z<|dR z z (fd J_ z)<|dR z z (l0 D_ z<|((((((ht.e L).e G).e h2).c h3<|djs<|mm1 ht.lt<|lt_ L.s G.s).e s4).e sb).at z) ?_)
 obtain ⟨_,aC,ad⟩:=bdS<|ifF a2 hco;have hp:=a3.e sb;refine dRX z z (at_ (α:=Int) o_ z_3 z z z (a9.g hp) aC) ?_;rintro _ ⟨_,_,_,rfl,aD,aE,_⟩;obtain ⟨rfl,aF⟩:=M_ aE;refine dR z z (l0 g_3 z<|aD.at0 z)<|dR z z (fd c_w z)<|dR z z (l0 g_3 z<|((hj.e s4).e sb).at z) ?_
 obtain ⟨a5,_,aG,ae⟩:=a_t ad;refine dE z z (fc call103 z<|af.run (B:=B) aG (hn.e sb) (zt' V<|lt_ (lt_ (lt_ (lt_ hd h2.s) h3.s) s4.s) sb.s) hBg (a0.g hp) (W.g hp) Y aF hv) (.inl z) ?_;rintro _ aH ⟨a6,rfl,aI,aJ,aK,aL⟩;have a7:=mm1 (Blk.lt hB1) h5.s;refine dE0 z (fs0 (cur':=[vI a5.at_,vI a5.code]) H_ z z ((((((hc.e G).e h2).c h3<|djs<|mm1 hc.lt G.s).e s4).e sb).c a6<|atp a7) z z z z) (.inl z) ?_;rintro _ aM ⟨aN,aO⟩;have a8:=aO.one;refine pD<|Wo ?_
 obtain rfl:=som ae;exact Wr<|h_ hr (r_ a_h H_ z aN z) ⟨(cM (cM (f_ (f_ (cM (f_ (f_ (f_ (f_ (cr [g1] w0) h5:Chg (· ∈ [g1]) w0 J) L:Chg (· ∈ [g1]) w0 we) G:Chg (· ∈ [g1]) w0 I) h2:Chg (· ∈ [g1]) w0 wi) h3 (mor hd:∀k∈[I.z],k∈[g1]∨w0.z<=k):Chg (· ∈ [g1]) w0 wa) s4:Chg (· ∈ [g1]) w0 wl) sb:Chg (· ∈ [g1]) w0 aB) a6 (io sr):Chg (· ∈ [g1]) w0 aH) a8 (mor h5.s:∀k∈[J.z],k∈[g1]∨w0.z<=k):Chg (· ∈ [g1]) w0 aM),z,aI,aJ,aK,aL.c a8<|djs a7⟩
theorem T_w1w (ih:e_O n):j_z (g_S n<|a_w n):=by
 obtain ⟨aw,_,_,_,_⟩:=ih
 constructor
 intro A0 A6 A2 A3 A1 A4 N0 C0 N6 C6 g1 N2 C2 N3 C3 N1 C1 N4 C4 B x1 x2 x3 res w0 hm hB1 L hBg V O am b2 b3 b4 b5 b6 b7 an ao;unfold g_S at hm
 refine goG func126 z z z fun fn hr=>Ws<|E z (fb z) ?_
 rintro _ I ⟨rfl,a1⟩;have h4:=a1.below;refine E z (fa b_u) ?_;rintro _ wj ⟨rfl,a2⟩;have hd:=a2.below;have ha:Blk wj I.z [vI 0,vI 0]:=a2.blk;refine Wn<|Wm z<|Rf z J_ z<|R z (l0 D_ z<|((a1.blk:Blk I w0.z (vR x2 A2 N2 C2 A3 N3 C3 A1 N1 C1 A4 N4 C4)).e hd).at z) ?_
 obtain ⟨_,ax,ap⟩:=bdS hm;have hk:=(h4.ag B).e hd;refine RX z (at_ (α:=Int) o_ z_3 z z z (an.g hk) ax) ?_;rintro _ ⟨_,_,_,rfl,ay,az,_⟩;obtain ⟨rfl,aA⟩:=M_ az;refine R z (l0 g_3 z<|ay.at0 z)<|Rm z ?_
 have hq:=lt_ h4.s hd.s;obtain ⟨rb,_,aB,W⟩:=a_t ap;refine E z (fc call103 z<|aw.run (B:=B) aB ((hB1.e h4).e hd) (zt' L hq) hBg (V.g hk) (O.g hk) am aA ao) ?_;rintro _ J ⟨s2,rfl,ht,aC,hl,a3⟩;refine E z (fa b_u) ?_;rintro _ wm ⟨rfl,a4⟩;have h5:=a4.below;have hu:Blk wm J.z [vI 0,vI 0]:=a4.blk;refine E0 (fs0 (cur':=[vI rb.at_,vI rb.code]) H_ z z hu z z z z) ?_;rintro _ wr ⟨hh,aD⟩;have h3:=aD.one;refine Wn<|Wq<|Ws<|Rf z c_J z<|R z (l0 g_3 z<|hh.at z)<|R z (nq z z)<|Wx z (fun hcs=>?_) (fun hcs=>?_)
 ·refine Ws<|R z (lN (vs:=[vI rb.at_,vI rb.code]) a_h H_ z z fid<|hh.row 0 2 z) ?_
  have a5:=mm1 (Blk.lt hB1) h4.s;refine E0 (fs0 (cur':=[vI rb.at_,vI rb.code]) H_ z z (((ha.c s2<|atp a5).e h5).c h3<|djs<|mm1 ha.lt s2.s) z z z z) ?_;rintro _ aE ⟨aF,aG⟩;have a6:=aG.one;refine Wn ?_;obtain rfl:=som<|ifT W hcs;have a7:=lt_ hq s2.s;exact Wr<|h_ hr (r_ a_h H_ z aF z) ⟨(cM (cM (f_ (cM (f_ (f_ (cr [g1] w0) h4:Chg (· ∈ [g1]) w0 I) hd:Chg (· ∈ [g1]) w0 wj) s2 (io sr):Chg (· ∈ [g1]) w0 J) h5:Chg (· ∈ [g1]) w0 wm) h3 (mor a7:∀k∈[J.z],k∈[g1]∨w0.z<=k):Chg (· ∈ [g1]) w0 wr) a6 (mor h4.s:∀k∈[I.z],k∈[g1]∨w0.z<=k):Chg (· ∈ [g1]) w0 aE),z,ht,aC,hl,((a3.e h5).c h3<|djs<|mm1 (Blk.lt hB1) a7).c a6<|djs a5⟩
 refine Wk<|Wm z<|Rf z c_w z<|R z (l0 g_3 z<|hh.at z) ?_
 have hi:=lt_ hq s2.s;have hn:=(a3.e h5).c h3<|djs<|mm1 (Blk.lt hB1) hi
 have hv:=((hk.c s2<|b_<|c_ hBg).e h5).c h3<|b_ (or0 (c_ lr) (k_<|zt' L hi):∀k∈[J.z],¬B k)
 have ho:=lt_ (lt_ hi h5.s) h3.s;obtain ⟨re,aH,aq⟩:=bdS<|ifF W hcs;refine E z (fc call122 z<|f_R (B:=w0.z) aH (a_T ho) (repS.mono (V.g hv) L) (repS.mono (O.g hv) L) hl (hn.row 0 3 z) (Blk.lt hB1) ht<|ii z) ?_;rintro _ wf ⟨s1,rfl,aI,aJ⟩;refine E z (fa b_u) ?_;rintro _ ww ⟨rfl,a8⟩;have h6:=a8.below;refine E0 (fs0 (cur':=[vI re.at_,vI re.code]) H_ z z (a8.blk:Blk ww wf.z [vI 0,vI 0]) z z z z) ?_;rintro _ wp ⟨a9,aK⟩;have H:=aK.one;refine Wn<|Wq<|Wq ?_
 obtain ⟨aL,Y,a0⟩:=bdS aq;refine Wt (fun a w=>∃(xx:Bool),xx=aL/\Sat 52 [(6,pt I.z),(7,pt J.z),(8,pt wf.z),(47,vB xx)] a/\Below wp.z wp w) ?_ ?_
 ·refine Wd (X:=noX) 0 (pl_ 24 [21]) mo (by kernel_rfl) fun b8 sg _=>dR z z (fd c_J z)<|dR z z (l0 g_3 z<|(a9.e sg).at z)<|dR z z (eql z z)<|dM z z z ?_
  rcases bs (re.code==0) with G | G
  ·refine dRg z z z G z (mv z)<|dRg z z z G z (V_ z)<|dRg z z z G z (fd d_7 z) ?_
   have hy:=lt_ ho s1.s;have aa:=(((hn.e s1).e h6).c H<|djs<|mm1 (Blk.lt hB1) hy).e sg;refine dRg z z z G z (l0 P_ z<|aa.at z)<|dRg z z z G z (fd c_w z) ?_
   have ab:=(((hh.e s1).e h6).c H<|djs<|mm1 hu.lt<|lt_ h3.s s1.s).e sg;refine dRg z z z G z (l0 g_3 z<|ab.at z) ?_;obtain ⟨aM,aN,ar⟩:=bdS<|ifT Y G;have ad:=O.g<|(((hv.e s1).e h6).c H<|b_ (or0 (c_ lr) (k_<|zt' L hy):∀k∈[wf.z],¬B k)).e sg
   refine b_L z z z G z (at_ (α:=UInt8) p_ z_5 z z z ad aN) ?_;rintro _ ⟨_,_,_,rfl,aO,aP,_⟩;obtain rfl:=u8 aP;refine dRg z z z G z (l0 g_5 z<|aO.at0 z)<|dRg z z z G z (b_U d_5 d_3 z)<|dRg z z z G z (mv z)<|dRg z z z G z (V_ z)<|dRg z z z G z (fd d_7 z)<|dRg z z z G z (l0 P_ z<|aa.at z)<|dRg z z z G z (mv z)<|dRg z z z G z (fd c_w z)<|dRg z z z G z (l0 g_3 z<|ab.at z) ?_
   obtain ⟨_,aQ,au⟩:=bdS ar;refine b_L z z z G z (rX p_ z_5 z z ad z z aQ) ?_;rintro _ ⟨_,_,_,rfl,aR⟩;obtain ⟨aS,aT,av⟩:=bdS au;refine dEg z z z G z (fc call110 z<|W_w1m aT (zt' L<|lt_ (lt_ (lt_ hy h6.s) H.s) sg.s) aR) (.inr fun _ _ h=>w_<|h.1) ?_;rintro _ _ ⟨aU,rfl,_⟩;exact dRg z z z G z (nq z z)<|dR z z (pT z G z)<|pD (fun _ q=>⟨(byteI aM) != aS,som av,q.k<|s4 z z z z,bup sg aU⟩)
  iterate 17 refine dRn z z z G z ?_
  exact dEn z z z G z<|dRn z z z G z<|dR z z (pF z G z)<|pD (fun _ q=>⟨false,som<|ifF Y G,q.k<|s4 z z z z,sg⟩)
 rintro aV ae ⟨xx,rfl,_,sc⟩;revert aV;refine Wo<|Wc z (fun hcz=>?_) (fun hcz=>?_)
 ·refine Ws<|Rf z c_w z<|R z (l0 g_3 z<|((((hh.e s1).e h6).c H<|djs<|mm1 hu.lt<|lt_ h3.s s1.s).e sc).at z)<|R z (bP (parts:=[(0,.tmp 49),(1,.const<|.int .i64 5)]) (cs:=[vI rb.at_,vI 5]) c_i z z) ?_
  have af:=mm1 (Blk.lt hB1) h4.s;refine E0 (fs0 (cur':=[vI rb.at_,vI 5]) H_ z z (((((((ha.c s2<|atp af).e h5).c h3<|djs<|mm1 ha.lt s2.s).e s1).e h6).c H<|djs<|mm1 ha.lt<|lt_ (lt_ (lt_ s2.s h5.s) h3.s) s1.s).e sc) z z z z) ?_;rintro _ aW ⟨aX,aY⟩;have ah:=aY.one;refine Wn ?_;obtain rfl:=som<|ifT a0 hcz;have ai:=lt_ ho s1.s;exact Wr<|h_ hr (r_ a_h H_ z aX z) ⟨(cM (f_ (cM (f_ (f_ (cM (f_ (cM (f_ (f_ (cr [g1] w0) h4:Chg (· ∈ [g1]) w0 I) hd:Chg (· ∈ [g1]) w0 wj) s2 (io sr):Chg (· ∈ [g1]) w0 J) h5:Chg (· ∈ [g1]) w0 wm) h3 (mor hi:∀k∈[J.z],k∈[g1]∨w0.z<=k):Chg (· ∈ [g1]) w0 wr) s1:Chg (· ∈ [g1]) w0 wf) h6:Chg (· ∈ [g1]) w0 ww) H (mor ai:∀k∈[wf.z],k∈[g1]∨w0.z<=k):Chg (· ∈ [g1]) w0 wp) sc:Chg (· ∈ [g1]) w0 ae) ah (mor h4.s:∀k∈[I.z],k∈[g1]∨w0.z<=k):Chg (· ∈ [g1]) w0 aW),z,ht,ii z,hl,((((hn.e s1).e h6).c H<|djs<|mm1 (Blk.lt hB1) ai).e sc).c ah<|djs af⟩
 refine Wk<|Ws<|R z (lN (vs:=[vI re.at_,vI re.code]) a_h H_ z z fid<|(a9.e sc).row 0 2 z) ?_
 have aj:=mm1 (Blk.lt hB1) h4.s;refine E0 (fs0 (cur':=[vI re.at_,vI re.code]) H_ z z (((((((ha.c s2<|atp aj).e h5).c h3<|djs<|mm1 ha.lt s2.s).e s1).e h6).c H<|djs<|mm1 ha.lt<|lt_ (lt_ (lt_ s2.s h5.s) h3.s) s1.s).e sc) z z z z) ?_;rintro _ aZ ⟨b0,b1⟩;have ak:=b1.one;refine Wn ?_;obtain rfl:=som<|ifF a0 hcz;have al:=lt_ ho s1.s;exact Wr<|h_ hr (r_ a_h H_ z b0 z) ⟨(cM (f_ (cM (f_ (f_ (cM (f_ (cM (f_ (f_ (cr [g1] w0) h4:Chg (· ∈ [g1]) w0 I) hd:Chg (· ∈ [g1]) w0 wj) s2 (io sr):Chg (· ∈ [g1]) w0 J) h5:Chg (· ∈ [g1]) w0 wm) h3 (mor hi:∀k∈[J.z],k∈[g1]∨w0.z<=k):Chg (· ∈ [g1]) w0 wr) s1:Chg (· ∈ [g1]) w0 wf) h6:Chg (· ∈ [g1]) w0 ww) H (mor al:∀k∈[wf.z],k∈[g1]∨w0.z<=k):Chg (· ∈ [g1]) w0 wp) sc:Chg (· ∈ [g1]) w0 ae) ak (mor h4.s:∀k∈[I.z],k∈[g1]∨w0.z<=k):Chg (· ∈ [g1]) w0 aZ),z,aI,aJ,hl,((((hn.e s1).e h6).c H<|djs<|mm1 (Blk.lt hB1) al).e sc).c ak<|djs aj⟩
theorem c_N:∀n,e_O n
  | 0=>⟨⟨fun hm=>by intros;exact nomatch (show none=some _ from hm)⟩,⟨fun hm=>by intros;exact nomatch (show none=some _ from hm)⟩,⟨fun hm=>by intros;exact nomatch (show none=some _ from hm)⟩,⟨fun hm=>by intros;exact nomatch (show none=some _ from hm)⟩,⟨fun hm=>by intros;exact nomatch (show none=some _ from hm)⟩⟩
  | n+1=>⟨T_w04<|c_N n,T_w1t<|c_N n,T_w1u<|c_N n,T_w1v<|c_N n,T_w1w<|c_N n⟩
theorem W_w04:j_v (a_w n).impl_checker_value:=(c_N n).1
theorem W_w1t:j_w (a_w n).impl_checker_array:=(c_N n).2.1
theorem W_w1u:j_x (a_w n).impl_checker_choice:=(c_N n).2.2.1
theorem W_w1v:j_y (a_w n).impl_checker_option:=(c_N n).2.2.2.1
theorem W_w1w:j_z (a_w n).impl_checker_checked:=(c_N n).2.2.2.2
def Q29 (w0:World)(B:Zone)(r:Int×Int)(v:Value)(w':World):Prop:=Bw w0 w'/\un2 (fun G H=>v = .tuple #[vI G,vI H]/\inI G/\inI H) r
theorem W_w2t {x1:d_}{x2:Int}{x3:List UInt8}{x4:Int}{res:Int×Int}(hm:g_T n x1 x2 x3 x4=some res)(J:B<=w0.z)(Y:repS w0 B (sl A0 N0 C0) x1.rules)(a0:inI x2)(a1:repS w0 B (sl A7 N7 C7) x3)(a2:inI x4):n_ prog 68 [(.agg #[sl A0 N0 C0]),vI x2,sl A7 N7 C7,vI x4] w0 (Q29 w0 B res):=by
 unfold g_T at hm
 refine goG func68 z z z fun fn hr=>Ws<|E z (fb z) ?_
 rintro _ O ⟨rfl,hb⟩;have h3:=hb.below;have hc:Blk O w0.z [sl A0 N0 C0]:=hb.blk;refine Ra z<|Rw z<|Wq<|Wq ?_
 obtain ⟨ur,hus,hmd⟩:=bdS hm;refine Wt (fun a w=>∃(V:Bool),V=ur/\Sat 43 [(1,vI x2),(2,sl A7 N7 C7),(3,vI x4),(4,pt w0.z),(30,vB V)] a/\Below O.z O w) ?_ ?_
 ·refine Wg<|R z (lN (vs:=[sl A0 N0 C0]) t_ q_ z z fid<|hc.row 0 1 z)<|Rm z ?_
  obtain ⟨rt,eu,hme⟩:=bdS hus;refine E z (fc call51 z<|j_o eu (zt' J h3.s) (Y.e h3) a0) ?_;rintro _ _ ⟨s4,rfl⟩;refine R z (not_ z)<|Rm z ?_
  rcases bs (!rt) with H | H
  ·exact Nh z H<|Nh z H<|R z (pT z H z)<|Rm z<|Nh z z<|Nh z z<|Nh z z<|Nh z z<|R z (pT z z z)<|Rm z<|Nh z z<|Nh z z<|Nh z z<|R z (pT z z z)<|Wl (fun _ q=>⟨true,som<|ifT hme H,q.k<|s5 z z z z z,s4⟩)
  have hmf:=ifF hme H;refine Rh z H (mv z)<|Rh z H (lss z z)<|R z (pF z H z)<|Rm z ?_
  rcases bs (decide<|x4<0) with G | G
  ·iterate 4 refine Nh z G ?_
   exact R z (pT z G z)<|Rm z<|Nh z z<|Nh z z<|Nh z z<|R z (pT z z z)<|Wl (fun _ q=>⟨true,som<|ifT hmf G,q.k<|s5 z z z z z,s4⟩)
  have hmg:=ifF hmf G;refine Rh z G (mv z)<|Rh z G (mv z) ?_
  have hh:=a1.g<|(h3.ag B).e s4
  refine Rh z G (lnR p_ z hh)<|Rh z G (a_e z z)<|R z (pF z G z)<|Rm z ?_
  rcases bs (decide<|(x3.length:Int)<x4) with I | I
  ·iterate 3 refine Nh z I ?_
   exact R z (pT z I z)<|Wl (fun _ q=>⟨true,som<|ifT hmg I,q.k<|s5 z z z z z,s4⟩)
  exact Rh z I (mv z)<|Rh z I (lnR p_ z hh)<|Rh z I (a_e z z)<|R z (pF z I z)<|Wl (fun _ q=>⟨decide<|400<(x3.length:Int),som<|ifF hmg I,q.k<|s5 z z z z z,s4⟩)
 rintro av wi ⟨V,rfl,_,s6⟩;revert av;refine Wo<|Wc z (fun L=>?_) (fun L=>?_)
 ·refine Ws<|Ra z<|Rw z ?_
  obtain rfl:=som<|ifT hmd L;exact Wr<|a_u hr z z ⟨bup h3 s6,z,ii z,ii z⟩
 refine Wk<|Ws<|R z (lN (vs:=[sl A0 N0 C0]) t_ q_ z z fid<|(hc.e s6).row 0 1 z)<|Rm z<|R z (bP (parts:=[(0,.tmp 31),(1,.tmp 32)]) (cs:=[sl A0 N0 C0,sl A7 N7 C7,vI 0]) n_W z z)<|E z (fb z) ?_
 rintro _ ww ⟨rfl,hj⟩;have W:=hj.below;refine Rw z<|Wm z<|RM z z ?_
 have hk:=((h3.ag B).e s6).e W;have ha:=lt_ h3.s s6.s;have hl:=lt_ ha W.s;obtain ⟨rm,_,ez,a3⟩:=a_t<|ifF hmd L;refine E z (fc call103 z<|W_w04.run (B:=B) ez (hj.blk:Blk ww wi.z [sl A0 N0 C0,sl A7 N7 C7,vI 0]) (zt' J hl) (atp (or0 (c_ lr) (k_<|zt' J ha):∀k∈[wi.z],¬B k)) (Y.g hk) (a1.g hk) (ii z) a0 a2) ?_;rintro _ a4 ⟨sn,rfl,a5,a6,_,_⟩;refine E z (fa b_u) ?_;rintro _ a7 ⟨rfl,ho⟩;refine E0 (fs0 (cur':=[vI rm.at_,vI rm.code]) H_ z z (ho.blk:Blk a7 a4.z [vI 0,vI 0]) z z z z) ?_;rintro _ _ ⟨a8,a9⟩;refine Wn<|Wq (Wd (X:=noX) 0 (pl_ 6 []) mo (by kernel_rfl) fun aa sp _=>dR z z (fd c_w z) ?_)
 have hq:=a8.e sp;refine dR z z (l0 g_3 z<|hq.at z)<|dR z z (fd c_J z)<|dR z z (l0 g_3 z<|hq.at z)<|dQ z z z<|dQ z z z<|pD<|Wo ?_
 obtain rfl:=som a3;exact Wr<|a_u hr z z ⟨bup (bM (bup (bM (bup (bup h3 s6) W) sn<|m1 ha) ho.below) a9.one<|m1<|lt_ hl sn.s) sp,z,a5,a6⟩
theorem W_w1x {x1:Int}{res:Str}(hm:e_u x1=some res)(H:B<=w0.z)(hG:Gl w0 B)(G:inI x1):n_ prog 26 [vI x1] w0 (Q4 w0 B res):=by
 unfold e_u at hm
 refine goG func26 z z z fun fn hr=>Ws<|Rw z<|Wm z ?_
 obtain ⟨_,J,I⟩:=bdS hm;refine E z (fc call54 z<|n_x (B:=B) J H hG G) ?_;rintro _ _ ⟨s2,rfl,h3⟩;refine Rw z ?_
 obtain rfl:=som I;exact Wr<|h_ hr z ⟨s2,z,h3⟩
theorem W_w2u {x1:d_}{x2:Int}{x3:Int}{res:Str}(hm:e_v n x1 x2 x3=some res)(J:B<=w0.z)(hG:Gl w0 B)(W:repS w0 B (sl A0 N0 C0) x1.rules)(ae:inI x2)(af:inI x3):n_ prog 69 [(.agg #[sl A0 N0 C0]),vI x2,vI x3] w0 (Q4 w0 B res):=by
 unfold e_v at hm
 refine goG func69 z z z fun fn hr=>Ws<|E z (fb z) ?_
 rintro _ wb ⟨rfl,hn⟩;have G:=hn.below;have ho:Blk wb w0.z [sl A0 N0 C0]:=hn.blk;refine Rw z<|Wq<|Wq ?_
 obtain ⟨ak,ah,hmp⟩:=bdS hm;refine Wt (fun a w=>∃(xc:Bool),xc=ak/\Sat 58 [(1,vI x2),(2,vI x3),(3,pt w0.z),(15,vB xc)] a/\Below wb.z wb w) ?_ ?_
 ·refine Wg<|R z (lN (vs:=[sl A0 N0 C0]) t_ q_ z z fid<|ho.row 0 1 z)<|Rm z ?_
  obtain ⟨al,am,hmq⟩:=bdS ah;refine E z (fc call51 z<|j_o am (zt' J G.s) (W.e G) ae) ?_;rintro _ _ ⟨sr,rfl⟩;refine R z (not_ z)<|Rm z ?_
  rcases bs (!al) with I | I
  ·exact Nh z I<|Nh z I<|R z (pT z I z)<|Wl (fun _ q=>⟨true,som<|ifT hmq I,q.k<|s4 z z z z,sr⟩)
  exact Rh z I (mv z)<|Rh z I (lss z z)<|R z (pF z I z)<|Wl (fun _ q=>⟨decide<|x3<0,som<|ifF hmq I,q.k<|s4 z z z z,sr⟩)
 rintro an L ⟨xc,rfl,_,s1⟩;revert an;refine Wo<|Wc z (fun hcd=>?_) (fun hcd=>?_)
 ·refine Ws<|Rw z ?_
  obtain rfl:=som<|ifT hmp hcd;exact Wr<|h_ hr z ⟨bup G s1,z,lb z⟩
 refine Wk<|Ws<|Rf z R_ z<|R z (l0 T_ z<|(ho.e s1).at z)<|Rm z ?_
 obtain ⟨V,ao,hms⟩:=bdS<|ifF hmp hcd;refine RX z (at_ (α:=e_) U_ m_ z z z (W.g<|(G.ag B).e s1) ao) ?_;rintro _ ⟨_,_,_,rfl,ap,aq,_⟩;obtain ⟨au,nt,cv,aw,nx,cy,az,a5,a6,a7,a8,a9,rfl,_,_,_,_,aa,_,_⟩:=a_m aq;refine R z (lN (vs:=vR V au nt cv aw nx cy az a5 a6 a7 a8 a9) I_ m_ z z fid ap)<|E z (fa b_g) ?_
 rintro _ ar ⟨rfl,ab⟩;have h2:=ab.below;refine E0 (fs0 (cur':=vR V au nt cv aw nx cy az a5 a6 a7 a8 a9) m_ z z (ab.blk:Blk ar L.z [(Str.v (⟨[]⟩:Str)),vI 0,vI 0,vB false,sl none 0 0,sl none 0 0,sl none 0 0,sl none 0 0]) z z z z) ?_;rintro _ wa ⟨O,av⟩;have h3:=av.one;refine Wn<|Wq<|Wb<|Ws<|Rf z a_n z<|R z (l0 g_3 z<|O.at z)<|Rq z z z<|Rw z<|Wc z (fun hce=>?_) (fun hce=>?_)
 ·refine Wm z ?_
  have hf:=lt_ G.s s1.s;obtain ⟨_,ax,ai⟩:=bdS<|ifT hms hce;refine E z (fc call26 z<|W_w1x ax (zt' J<|lt_ (lt_ hf h2.s) h3.s) ((((hG.e G).e s1).e h2).c h3<|b_ (or0 (c_ lr) (k_<|zt' J hf):∀k∈[L.z],¬B k)) af) ?_;rintro _ _ ⟨ay,rfl,aA⟩;refine Rw z ?_
  obtain rfl:=som ai;exact Wr<|rtO<|h_ hr z ⟨bup (bM (bup (bup G s1) h2) h3<|m1 hf) ay,z,aA⟩
 refine Wq ?_;obtain ⟨aB,Y,a0⟩:=bdS<|ifF hms hce;refine Wt (fun a w=>∃(xg:Bool),xg=aB/\Sat 58 [(2,vI x3),(7,pt L.z),(27,vB xg)] a/\Below wa.z wa w) ?_ ?_
 ·refine Wg<|Rf z a_n z<|R z (l0 g_3 z<|O.at z)<|Rq z z z<|Rm z ?_
  rcases bs (V.kind==6) with H | H
  ·refine Rh z H (mv z)<|Rh z H (fd c_2 z)<|Rh z H (l0 c_h z<|O.at z) ?_
   exact Rh z H (lnR a_j z<|aa.g<|(h2.ag B).c h3<|b_ (or0 (c_ lr) (k_<|zt' J<|lt_ G.s s1.s):∀k∈[L.z],¬B k))<|Rh z H (lss z z)<|R z (pT z H z)<|Ra z<|Wl (fun _ q=>⟨decide<|x3<(V.names.length:Int),som<|ifT Y H,q.k<|s3 z z z,br wa⟩)
  iterate 5 refine Nh z H ?_
  exact R z (pF z H z)<|Ra z<|Wl (fun _ q=>⟨false,som<|ifF Y H,q.k<|s3 z z z,br wa⟩)
 rintro aC _ ⟨xg,rfl,_,s6⟩;revert aC;refine Wo<|Wc z (fun hch=>?_) (fun hch=>?_)
 ·refine Ws<|Rf z c_2 z<|R z (l0 c_h z<|(O.e s6).at z)<|Rm z ?_
  obtain ⟨_,aD,aj⟩:=bdS<|ifT a0 hch;have ad:=lt_ G.s s1.s;refine RX z (at_ (α:=Str) a_j z_9 z z z (aa.g<|((h2.ag B).c h3<|b_ (or0 (c_ lr) (k_<|zt' J ad):∀k∈[L.z],¬B k)).e s6) aD) ?_;rintro _ ⟨_,_,_,rfl,aE,aF,_⟩;obtain ⟨rfl,aG⟩:=b_K aF;refine R z (l0 g_9 z<|aE.at0 z)<|Rw z ?_
  obtain rfl:=som aj;exact Wr<|rtO<|h_ hr z ⟨bup (bM (bup (bup G s1) h2) h3<|m1 ad) s6,z,aG⟩
 have a1:=ifF a0 hch;refine Wm z<|R z (a_e z z)<|Rw z<|Wc z (fun hci=>?_) (fun hci=>?_)
 ·refine Ws<|Rw z ?_
  obtain rfl:=som<|ifT a1 hci;exact Wr<|rtO<|h_ hr z ⟨bup (bM (bup (bup G s1) h2) h3<|m1<|lt_ G.s s1.s) s6,z,lb z⟩
 have a2:=ifF a1 hci;refine Ws<|Rf z a_n z ?_
 have hj:=O.e s6;refine R z (l0 g_3 z<|hj.at z)<|Rq z z z<|Rw z<|Wc z (fun hck=>?_) (fun hck=>?_)
 ·refine Ws<|Rw z ?_
  obtain rfl:=som<|ifT a2 hck;exact Wr<|rtO<|h_ hr z ⟨bup (bM (bup (bup G s1) h2) h3<|m1<|lt_ G.s s1.s) s6,z,lb z⟩
 have a3:=ifF a2 hck;refine Ws<|Rf z a_n z<|R z (l0 g_3 z<|hj.at z)<|Rq z z z<|Rw z<|Wc z (fun hcl=>?_) (fun hcl=>?_)
 ·refine Ws<|Rw z ?_
  obtain rfl:=som<|ifT a3 hcl;exact Wr<|rtO<|h_ hr z ⟨bup (bM (bup (bup G s1) h2) h3<|m1<|lt_ G.s s1.s) s6,z,lb z⟩
 have a4:=ifF a3 hcl;refine Ws<|Rf z a_n z<|R z (l0 g_3 z<|hj.at z)<|Rq z z z<|Rw z<|Wc z (fun hcm=>?_) (fun hcm=>?_)
 ·refine Ws<|Rw z ?_
  obtain rfl:=som<|ifT a4 hcm;exact Wr<|rtO<|h_ hr z ⟨bup (bM (bup (bup G s1) h2) h3<|m1<|lt_ G.s s1.s) s6,z,lb z⟩
 refine Wk<|Ws<|Rw z ?_
 obtain rfl:=som<|ifF a4 hcm;exact Wr<|h_ hr z ⟨bup (bM (bup (bup G s1) h2) h3<|m1<|lt_ G.s s1.s) s6,z,lb z⟩
theorem W_w2v {x1:d_}{x2:Int}{x3:Val}{J O:Nat}{x4:Int}{res:Int}(hm:e_w x1 x2 x3 x4=some res)(aY:B<=w0.z)(W:repS w0 B (sl A0 N0 C0) x1.rules)(aS:inI x2)(aT:inI x3.number)(aU:repS w0 B (sl A9 N9 C9) x3.bytes)(aV:repS w0 B (sl AA NA CA) x3.items)(aj:W_ w0 J O [vI x3.number,sl A9 N9 C9,sl AA NA CA])(aW:B J)(aX:inI x4):n_ prog 70 [(.agg #[sl A0 N0 C0]),vI x2,.pointer<|some ⟨J,O,none⟩,vI x4] w0 (Q9 w0 B res):=by
 unfold e_w at hm
 refine goG func70 z z z fun fn hr=>Ws<|E z (fb z) ?_
 rintro _ G ⟨rfl,hj⟩;have H:=hj.below;refine Rw z<|Ws<|Rf z R_ z<|R z (l0 T_ z<|(hj.blk:Blk G w0.z [sl A0 N0 C0]).at z)<|Rm z ?_
 obtain ⟨V,ew,hmk⟩:=bdS hm;refine RX z (at_ (α:=e_) U_ m_ z z z (W.e H) ew) ?_;rintro _ ⟨bl,om,_,rfl,h2,hx,_⟩;obtain ⟨_,_,_,_,_,_,ay,nz,ak,_,_,_,rfl,_,_,_,_,_,h5,h4⟩:=a_m hx;refine Rw z<|Wq<|Wm z<|R z (V_ z)<|Rf z a_n z<|R z (l0 g_3 z<|h2.at (j:=1) z)<|Wn<|Wb<|Ws<|Rq z z z<|Rw z<|Wc z (fun L=>?_) (fun L=>?_)
 ·refine Wm z<|R z (V_ z)<|Rf z J_ z<|R z (l0 D_ z<|h2.at (j:=7) z) ?_
  obtain ⟨_,al,Y⟩:=bdS<|ifT hmk L;refine RX z (at_ (α:=Int) o_ z_3 z z z h4 al) ?_;rintro _ ⟨_,_,_,rfl,am,an,_⟩;obtain ⟨rfl,ao⟩:=M_ an;refine R z (l0 g_3 z<|am.at0 z)<|Rw z ?_
  obtain rfl:=som Y;exact Wr<|rtO<|h_ hr z ⟨H,z,ao⟩
 refine Ws<|Rq z z z<|Rw z ?_
 obtain ⟨ap,hun,I⟩:=bdS<|ifF hmk L;refine Wt (fun a w=>Sum.inl ()=ap/\Sat 80 [] a/\Below G.z G w) ?_ ?_
 ·refine Wc z (fun hca=>?_)<|fun hca=>?_
  ·have hmo:=ifT hun hca;refine Wm z<|Rm z<|R z (V_ z)<|Rf z J_ z<|R z (l0 D_ z<|h2.at (j:=7) z)<|R z (lnR o_ z h4)<|Rl z z z<|Wx z (fun hcb=>?_) (fun hcb=>?_)
   ·refine Wm z<|R z (V_ z)<|Rf z J_ z<|R z (l0 D_ z<|h2.at (j:=7) z)<|Rm z ?_
    obtain ⟨_,aq,a0⟩:=bdS<|ifT hmo hcb;refine RX z (at_ (α:=Int) o_ z_3 z z z h4 aq) ?_;rintro _ ⟨_,_,_,rfl,ar,au,_⟩;obtain ⟨rfl,av⟩:=M_ au;refine R z (l0 g_3 z<|ar.at0 z)<|Rw z ?_
    obtain rfl:=som a0;have a1:=elR I;obtain rfl:=som a1;exact Wr<|rtO<|h_ hr z ⟨H,z,av⟩
   exact a_7<|fun _ q=>⟨som<|ifF hmo hcb,q.k sn,br G⟩
  refine Ws<|Rq z z z<|Rw z ?_
  obtain ⟨aw,hup,hmc⟩:=bdS<|ifF hun hca;refine Wt (fun a w=>Sum.inl ()=aw/\Sat 80 [] a/\Below G.z G w) ?_ ?_
  ·refine Wc z (fun hcd=>?_)<|fun hcd=>?_
   ·refine Wm z<|R z (V_ z)<|Rf z a_S z<|R z (l0 D_ z<|h2.at (j:=6) z)<|R z (lnR o_ z h5)<|Rm z<|Wn ?_
    obtain ⟨_,a2,hmq⟩:=bdS<|ifT hup hcd;refine Wf (σ:=Unit) (ρ:=Int) (fun (kr:Nat)(_:Unit) a w=>Sat 80 [(2,.pointer<|some ⟨J,O,none⟩),(9,.pointer<|some ⟨bl,om,none⟩),(49,sl ay nz ak),(50,vI (V.tags.length:Int)),(51,vI ((kr:Nat):Int))] a/\Below G.z G w) (fun (_:Unit) a w=>Sat 80 [] a/\Below G.z G w) (rQ prog fn<|Q9 w0 B) a2 ?_ ?_ ?_ ?_ ?_
    ·exact fun _ q=>⟨q.k<|s5 z z z z z,br G⟩
    ·rintro kr _ _ _ _ hke ⟨a3,s3⟩ a4;refine Wu ?_ a3;refine Ws<|Rl z z z<|Wn<|Wq<|Wc z (fun _=>?_) (fun hc=>(a_2 hke hc).elim)
     refine Wk<|Wq<|Wb<|Wm z ?_
     obtain ⟨_,ax,hms⟩:=bdS a4;refine RX z (at_ (α:=Int) o_ z_3 z z z (h5.e s3) ax) ?_;rintro _ ⟨_,_,_,rfl,az,aA,_⟩;obtain ⟨rfl,_⟩:=M_ aA;refine R z (l0 g_3 z<|az.at0 z)<|Ra z<|Rw z<|Wm z<|Rm z<|R z (V_ z)<|Rf z b_3 z<|R z (l0 g_3 z<|((aj.e H).e s3).at (j:=0) z)<|Rq z z z<|Wx z (fun hcf=>?_) (fun hcf=>?_)
     ·refine Wm z<|R z (V_ z)<|Rf z J_ z<|R z (l0 D_ z<|(h2.e s3).at (j:=7) z)<|Rm z<|R z (inc_ hke (lt_ (repS.len h5) K_) z z) ?_
      obtain ⟨_,aB,a5⟩:=bdS<|ifT hms hcf;refine RX z (at_ (α:=Int) o_ z_3 z z z (h4.e s3) aB) ?_;rintro _ ⟨_,_,_,rfl,aC,aD,_⟩;obtain ⟨rfl,aE⟩:=M_ aD;exact R z (l0 g_3 z<|aC.at0 z)<|Rw z<|Wr<|rtO<|qL (som a5).symm<|h_ hr z ⟨bup H s3,z,aE⟩
     exact Wk<|Wg<|R z (inc_ hke (lt_ (repS.len h5) K_) z z)<|Rm z<|Wl (fun _ q=>⟨(),(som<|ifF hms hcf).symm,⟨q.k<|s5 z z z z z,s3⟩⟩)
    ·rintro _ _ _ ⟨a6,aF⟩;refine Wu ?_ a6;refine Ws<|Rl z z z<|Wn<|Wq<|Wc z (fun hc=>(a_3 hc).elim) (fun _=>?_)
     exact We<|fun _ q=>⟨rfl,⟨q.k sn,aF⟩⟩
    ·rintro _ aG _ rfl ⟨_,aH⟩;have a7:=elL hmq;revert aG;exact fun _ q=>⟨som a7,q.k sn,aH⟩
    rintro _ _ _ _ rfl ⟨rfl,a8⟩;have a9:=elR hmq;obtain rfl:=som a9;have aa:=elR hmc;obtain rfl:=som aa;have ab:=elR I;obtain rfl:=som ab;exact ⟨a8,z⟩
   refine Wq<|Ws<|Rq z z z<|Rw z ?_
   obtain ⟨aI,hut,hmu⟩:=bdS<|ifF hup hcd;refine Wt (fun a w=>∃(xg:Bool),xg=aI/\Sat 80 [(9,.pointer<|some ⟨bl,om,none⟩),(71,vB xg)] a/\Below G.z G w) ?_ ?_
   ·refine Wc z (fun hch=>?_)<|fun hch=>?_
    ·exact a_7<|fun _ q=>⟨V.kind==8,som<|ifT hut hch,q.k<|s2 z z,br G⟩
    exact Wg<|Rq z z z<|Ra z<|Wl (fun _ q=>⟨V.kind==9,som<|ifF hut hch,q.k<|s2 z z,br G⟩)
   rintro aJ _ ⟨xg,rfl,_,s7⟩;revert aJ;refine Wo<|Wc z (fun hci=>?_) (fun hci=>?_)
   ·refine Wm z<|R z (V_ z)<|Rf z J_ z<|R z (l0 D_ z<|(h2.e s7).at (j:=7) z) ?_
    obtain ⟨_,aK,ad⟩:=bdS<|ifT hmu hci;refine RX z (at_ (α:=Int) o_ z_3 z z z (h4.e s7) aK) ?_;rintro _ ⟨_,_,_,rfl,aL,aM,_⟩;obtain ⟨rfl,aN⟩:=M_ aM;refine R z (l0 g_3 z<|aL.at0 z)<|Rw z ?_
    obtain rfl:=som ad;have ae:=elR hmc;obtain rfl:=som ae;have af:=elR I;obtain rfl:=som af;exact Wr<|rtO<|h_ hr z ⟨bup H s7,z,aN⟩
   exact a_7<|fun _ q=>⟨som<|ifF hmu hci,q.k sn,s7⟩
  rintro aO _ ⟨rfl,_,aP⟩;have ah:=elL hmc;revert aO;exact fun _ q=>⟨som ah,q.k sn,aP⟩
 rintro aQ _ ⟨rfl,_,aR⟩;have ai:=elL I;revert aQ;refine Wo<|Ws<|Rw z ?_
 obtain rfl:=som ai;exact Wr<|h_ hr z ⟨bup H aR,z,ii z⟩
def Q30 (w0:World)(g1:Nat)(B:Zone)(A0:Option Addr)(N0 C0:Nat)(A6:Option Addr)(N6 C6:Nat)(AH:Option Addr)(NH CH:Nat)(S1_2:List Nat)(x1:c_E)(r:Int×(List u_))(v:Value)(w':World):Prop:=Chg (· ∈ ([g1]++S1_2)) w0 w'/\un2 (fun G L=>∃H I J S1,(vI G)=v/\inI G/\a_ w' S1 (sl H I J) L/\S1.Nodup/\(∀k∈S1,k∈S1_2∨w0.z<=k)/\Blk w' g1 [sl A0 N0 C0,sl A6 N6 C6,sl H I J]) r
structure j_A (f:c_E->Str->Int->Val->Int->Option (Int×(List u_))):Prop where
  run:∀{A0 A6 AH AI AJ:Option Addr}{N0 C0 N6 C6 NH CH g1 NI CI NJ CJ b4 o4:Nat}{S1_2:List Nat}{B:Zone}{x1:c_E}{x2:Str}{x3:Int}{x4:Val}{x5:Int}{res:Int×(List u_)}{w0:World}(hm:f x1 x2 x3 x4 x5=some res)(hB1:Blk w0 g1 [sl A0 N0 C0,sl A6 N6 C6,sl AH NH CH])(hBw:B<=w0.z)(hBg:¬B g1)(hG:Gl w0 B)(p1_0:repS w0 B (sl A0 N0 C0) x1.d.rules)(p1_1:repS w0 B (sl A6 N6 C6) x1.b)(p1_2:a_ w0 S1_2 (sl AH NH CH) x1.list_)(p1_2n:S1_2.Nodup)(p1_2g:∀k∈S1_2,¬B k)(p1_2d:∀k∈S1_2,k∉[g1])(p2_0:x2.b.length<=LEN)(p3_0:inI x3)(p4_0:inI x4.number)(p4_1:repS w0 B (sl AI NI CI) x4.bytes)(p4_2:repS w0 B (sl AJ NJ CJ) x4.items)(hC4:W_ w0 b4 o4 [vI x4.number,sl AI NI CI,sl AJ NJ CJ])(hC4b:B b4)(p5_0:inI x5),n_ prog 45 [pt g1,Str.v x2,vI x3,.pointer<|some ⟨b4,o4,none⟩,vI x5] w0<|Q30 w0 g1 B A0 N0 C0 A6 N6 C6 AH NH CH S1_2 x1 res
abbrev k_Z (n:Nat):Prop:=j_A (d_W n).impl_indexer_part
theorem T_w0h (bD:k_Z n):j_A (h_4 n<|d_W n):=by
 constructor
 intro A0 A6 AH AI AJ N0 C0 N6 C6 NH CH g1 NI CI NJ CJ b4 o4 S1_2 B x1 x2 x3 x4 x5 res w0 hm hB1 O hBg hG V an ao p1_2n p1_2g p1_2d ap Y ba bb W hC4 hC4b a0;unfold h_4 at hm
 refine goG func45 z z z fun fn hr=>Ws<|Rw z<|Wm z<|R z (V_ z)<|Rf z f_J z<|R z (l0 g_27 z<|hB1.at z)<|R z (lnR c_j z<|a_.rep ao)<|Rw z<|Wm z<|Rm z<|R z (V_ z)<|Rf z f_J z<|R z (l0 g_27 z<|hB1.at z)<|RM z z<|Rm z<|R z (bP (parts:=[(0,.tmp 27),(1,.tmp 28),(2,.tmp 29)]) (cs:=[Str.v x2,vI x3,vI x5,vI 0]) e_G z z)<|E z (fS [(.tmp 30)] e_H z z z (a_c z) (lb z)<|lb z) ?_
 rintro _ aw ⟨rfl,a9⟩;have h3:=a9.below;have cP:=a_x a9<|h_f (x:=(⟨x2,x3,x5,0⟩:u_)) ap Y a0<|ii z
 obtain ⟨_,bE,bc⟩:=bdS hm;refine E z (a_O (α:=u_) e_H bE z z (ao.e h3) p1_2n (a9.blk:Blk aw w0.z [Str.v x2,vI x3,vI x5,vI 0]) (h_f (x:=(⟨x2,x3,x5,0⟩:u_)) ap Y a0<|ii z) an_ G_) ?_;rintro _ bF ⟨G,ax,ay,az,rfl,sk,aA,bG,hl⟩;refine R z (V_ z)<|Rf z f_J z<|E0 (fs0 (cur':=[sl A0 N0 C0,sl A6 N6 C6,sl ax ay az]) z_27 z z ((hB1.e h3).c sk<|djs p1_2d) z z z z) ?_
 rintro _ bH ⟨bI,bJ⟩;have hi:=bJ.one;refine Wn<|Wq (Wd (X:=noX) 0 (pl_ 16 [10]) mo (by kernel_rfl) fun bK sf _=>dM z z z<|dR z z (V_ z)<|dR z z (fd f_I z) ?_)
 have aa:=bI.e sf;refine dR z z (lN (vs:=[sl A0 N0 C0]) t_ q_ z z fid<|aa.row 0 1 z)<|dM z z z<|dM z z z<|dR z z (V_ z)<|dR z z (fd f_87_1 z)<|dR z z (l0 P_ z<|aa.at z)<|dM z z z ?_
 have ab:=(((h3.ag B).c sk<|b_ p1_2g).c hi<|b_<|c_ hBg).e sf;have ad:=lt_ (lt_ (lt_ h3.s sk.s) hi.s) sf.s;obtain ⟨rm,_,bL,be⟩:=a_t bc;refine dE z z (fc call68 z<|W_w2t (B:=B) (x1:=(⟨x1.d.rules⟩:d_)) bL (zt' O ad) (V.g ab) Y (an.g ab) a0) (.inr fun _ _ h=>w_<|h.1) ?_;rintro _ wn ⟨sd,rfl,aB,_⟩;refine dM z z z<|dR z z (ext_ z z)<|dR z z (ext_ z z)<|dQ z z z<|dQ z z z<|pD<|Wo<|Wm z<|Rw z<|Wq<|Wm z<|R z (V_ z)<|Rf z f_I z<|Rf z R_ z ?_
 have ae:=aa.e sd;refine R z (l0 T_ z<|ae.at z)<|Rm z ?_
 obtain ⟨xr,bM,bf⟩:=bdS be;have af:=ab.e sd;refine RX z (at_ (α:=e_) U_ m_ z z z (V.g af) bM) ?_;rintro _ ⟨_,_,_,rfl,bN,bO,_⟩;obtain ⟨aC,aD,aE,aF,aG,aH,aI,aJ,aK,aL,aM,aN,rfl,_,_,_,_,_,_,bQ⟩:=a_m bO;refine R z (lN (vs:=vR xr aC aD aE aF aG aH aI aJ aK aL aM aN) I_ m_ z z fid bN)<|E z (fa b_g) ?_
 rintro _ aO ⟨rfl,aP⟩;have h5:=aP.below;refine E0 (fs0 (cur':=vR xr aC aD aE aF aG aH aI aJ aK aL aM aN) m_ z z (aP.blk:Blk aO wn.z [(Str.v (⟨[]⟩:Str)),vI 0,vI 0,vB false,sl none 0 0,sl none 0 0,sl none 0 0,sl none 0 0]) z z z z) ?_;rintro _ ws ⟨aQ,bR⟩;have h6:=bR.one;refine Wn<|Ws<|Rf z a_n z<|R z (l0 g_3 z<|aQ.at z)<|Wn<|Wb<|Wq<|Ws<|Rq z z z<|Rw z ?_
 obtain ⟨bS,aq,bg⟩:=bdS bf;refine Wt (fun a w=>∃(ah:Bool),ah=bS/\Sat 126 [(0,pt g1),(1,Str.v x2),(2,vI x3),(3,.pointer<|some ⟨b4,o4,none⟩),(11,vI (x1.list_.length:Int)),(12,vI rm),(14,vI x5),(15,pt wn.z),(59,vI xr.kind),(60,vB ah)] a/\Below ws.z ws w) ?_ ?_
 ·refine Wc z (fun a5=>?_)<|fun a5=>?_
  ·exact a_7<|fun _ q=>⟨xr.kind==5,som<|ifT aq a5,q.k<|sc z<|sc z<|sc z<|sc z<|sc z<|sc z<|sc z<|sc z<|sc z<|sc z sn,br ws⟩
  exact Wg<|Rq z z z<|Ra z<|Wl (fun _ q=>⟨xr.kind==7,som<|ifF aq a5,q.k<|sc z<|sc z<|sc z<|sc z<|sc z<|sc z<|sc z<|sc z<|sc z<|sc z sn,br ws⟩)
 rintro bT wc ⟨ah,rfl,_,s4⟩;revert bT;refine Wo ?_;obtain ⟨bU,ar,bh⟩:=bdS bg;refine Wt (fun a w=>∃(xy:Int),xy=bU/\Sat 126 [(0,pt g1),(1,Str.v x2),(2,vI x3),(3,.pointer<|some ⟨b4,o4,none⟩),(11,vI (x1.list_.length:Int)),(12,vI rm),(14,vI xy)] a/\Below wc.z wc w/\inI xy) ?_ ?_
 ·refine Wc z (fun a6=>?_)<|fun a6=>?_
  ·refine Wd (X:=noX) 0 (pl_ 15 []) mo (by kernel_rfl) fun cQ su _=>dM z z z<|dM z z z<|dR z z (V_ z)<|dR z z (fd f_I z)<|dR z z (fd R_ z) ?_
   have aR:=lt_ ad sd.s;refine dR z z (l0 T_ z<|((((ae.e h5).c h6<|djs<|mm1 (Blk.lt hB1) aR).e s4).e su).at z)<|dR z z (fd J_ z)<|dR z z (l0 D_ z<|((aQ.e s4).e su).at z) ?_
   obtain ⟨_,bV,bi⟩:=bdS<|ifT ar a6;have aS:∀k∈[wn.z],¬B k:=or0 (c_ lr)<|k_<|zt' O aR;refine dRX z z (at_ (α:=Int) o_ z_3 z z z (bQ.g<|(((h5.ag B).c h6<|b_ aS).e s4).e su) bV) ?_;rintro _ ⟨_,_,_,rfl,bW,bX,_⟩;obtain ⟨rfl,_⟩:=M_ bX;refine dR z z (l0 g_3 z<|bW.at0 z) ?_;obtain ⟨bY,bZ,bj⟩:=bdS bi;refine dRX z z (at_ (α:=e_) U_ m_ z z z (V.g<|(((af.e h5).c h6<|b_ aS).e s4).e su) bZ) ?_;rintro _ ⟨_,_,_,rfl,c0,c1,_⟩;obtain ⟨_,_,_,_,_,_,_,_,_,_,_,_,rfl,_,_,_,_,_,_,_⟩:=a_m c1;exact dR z z (fd a_z z)<|dR z z (l0 g_3 z<|c0.at (j:=2) z)<|dR z z (add_ z z)<|dQ z z z<|pD (fun _ q=>⟨g_ x5 bY.size,som bj,q.k<|s7 z z z z z z z,su,iA _ _⟩)
  refine Ws<|Rq z z z<|Rw z ?_
  obtain ⟨c2,au,bk⟩:=bdS<|ifF ar a6;refine Wt (fun a w=>∃(xv:Int),xv=c2/\Sat 126 [(0,pt g1),(1,Str.v x2),(2,vI x3),(3,.pointer<|some ⟨b4,o4,none⟩),(11,vI (x1.list_.length:Int)),(12,vI rm),(14,vI xv)] a/\Below wc.z wc w/\inI xv) ?_ ?_
  ·refine Wc z (fun a8=>?_)<|fun a8=>?_
   ·exact Wg<|Rm z<|R z (add_ z z)<|Ra z<|Wl (fun _ q=>⟨g_ x5 1,som<|ifT au a8,q.k<|s7 z z z z z z z,br wc,iA _ _⟩)
   exact a_7<|fun _ q=>⟨x5,som<|ifF au a8,q.k<|s7 z z z z z z z,br wc,a0⟩
  rintro c3 _ ⟨xv,rfl,_,c4,c5⟩;revert c3;exact fun _ q=>⟨xv,som bk,q.k<|s7 z z z z z z z,c4,c5⟩
 rintro c6 H ⟨xy,rfl,_,sg,c7⟩;revert c6;refine Wo<|Wq<|Wm z<|R z (V_ z)<|Rf z a_q z ?_
 have hw:=lt_ ad sd.s;have ai:∀k∈[wn.z],¬B k:=or0 (c_ lr)<|k_<|zt' O hw;have aT:=((((((((hC4.e h3).c sk<|(b_ p1_2g) _ hC4b).c hi<|(b_<|c_ hBg) _ hC4b).e sf).e sd).e h5).c h6<|(b_ ai) _ hC4b).e s4).e sg;refine R z (l0 a_P z<|aT.at (j:=2) z) ?_;have aU:=(((af.e h5).c h6<|b_ ai).e s4).e sg;refine R z (lnR b_5 z<|W.g aU)<|Rm z<|Wn ?_
 obtain ⟨_,bm,av⟩:=bdS bh;refine Wf (σ:=Int×(List u_)) (ρ:=Int×(List u_)) (fun (aV:Nat) s a w=>un2 (fun xj xo=>∃I J L S1,Sat 126 [(0,pt g1),(1,Str.v x2),(2,vI x3),(3,.pointer<|some ⟨b4,o4,none⟩),(11,vI (x1.list_.length:Int)),(12,vI rm),(14,vI xj),(85,vI (x4.items.length:Int)),(86,vI ((aV:Nat):Int))] a/\Chg (· ∈ ([g1]++G)) H w/\inI xj/\a_ w S1 (sl I J L) xo/\S1.Nodup/\(∀k∈S1,k∈G∨H.z<=k)/\Blk w g1 [sl A0 N0 C0,sl A6 N6 C6,sl I J L]) s) (fun s a w=>un2 (fun xj xo=>∃I J L S1,Sat 126 [(0,pt g1),(11,vI (x1.list_.length:Int)),(12,vI rm)] a/\Chg (· ∈ ([g1]++G)) H w/\inI xj/\a_ w S1 (sl I J L) xo/\S1.Nodup/\(∀k∈S1,k∈G∨H.z<=k)/\Blk w g1 [sl A0 N0 C0,sl A6 N6 C6,sl I J L]) s) (rQ prog fn<|Q30 w0 g1 B A0 N0 C0 A6 N6 C6 AH NH CH S1_2 x1) bm ?_ ?_ ?_ ?_ ?_
 ·have c8:∀k∈G,k∉[g1]:=or2 hl p1_2d an_<|O_ (c_<|Blk.lt hB1) h3.s;exact fun _ q=>⟨ax,ay,az,G,q.k<|s9 z z z z z z z z z,cr ([g1]++G) H,c7,((((((aA.c hi c8).e sf).e sd).e h5).c h6<|ds<|mno (a_.lt aA)<|lt_ (lt_ hi.s sf.s) sd.s).e s4).e sg,bG,io sr,(((ae.e h5).c h6<|djs<|mm1 (Blk.lt hB1) hw).e s4).e sg⟩
 ·rintro aV ⟨xj,xo⟩ _ ca _ hkz ⟨I,J,L,S1,bn,sp,a1,hq,hx,ha,ht⟩ bo;refine Wu ?_ bn;refine Ws<|Rl z z z<|Wn<|Wq<|Wc z (fun _=>?_) (fun hc=>(a_2 hkz hc).elim)
  refine Wk<|Wq<|Wb<|Wm z<|Ra z<|Wn (Wd (X:=noX) 67108864 (.rd 0<|.rd 1<|.rd 2<|.rd 3<|.rd 4<|.rd 5<|.rd 6<|.rd 7<|.rd 8<|.rd 11<|.rd 12<|.rd 13<|.rd 14<|.rd 15<|.rd 16<|.rd 17<|.rd 19<|.rd 20<|.rd 21<|.rd 22<|.rd 23<|.rd 24<|.rd 25<|.ef 9<|.rd 10<|.ef 18<|.ef 26<|.rd 27 .done) mo (by kernel_rfl) fun cb sh _=>dM z z z<|dM z z z ?_)
  obtain ⟨_,cc,bp⟩:=bdS<|a_G bo;refine dR z z (c_g z z cc)<|dM z z z<|dR z z (V_ z)<|dR z z (fd f_I z) ?_
  have aj:=ht.e sh;refine dR z z (lN (vs:=[sl A0 N0 C0]) t_ q_ z z fid<|aj.row 0 1 z) ?_
  iterate 3 refine dM z z z ?_
  refine dR z z (V_ z)<|dR z z (fd f_I z)<|dR z z (lN (vs:=[sl A0 N0 C0]) t_ q_ z z fid<|aj.row 0 1 z) ?_
  iterate 4 refine dM z z z ?_
  refine dR z z (V_ z)<|dR z z (fd a_q z) ?_
  have a2:∀k∈G,¬B k:=or2 hl p1_2g an_<|k_<|zt' O h3.s;have aW:=(aT.c sp<|(nmA (b_<|c_ hBg)<|b_ a2) _ hC4b).e sh;refine dR z z (l0 a_P z<|aW.at (j:=2) z)<|dM z z z ?_
  obtain ⟨_,cd,bq⟩:=bdS bp;have ak:=(aU.c sp<|nmA (b_<|c_ hBg)<|b_ a2).e sh;refine dRX z z (at_ (α:=Val) b_5 i_ z z z (W.g ak) cd) ?_;rintro _ ⟨_,_,_,rfl,ce,cf,cg⟩;obtain ⟨_,_,_,_,_,_,rfl,ch,ci,cj⟩:=k_m cf;refine dM z z z ?_;have aX:=((((((((((hG.e h3).c sk<|b_ p1_2g).c hi<|b_<|c_ hBg).e sf).e sd).e h5).c h6<|b_ ai).e s4).e sg).c sp<|nmA (b_<|c_ hBg)<|b_ a2).e sh;have al:=lt_ (lt_ (lt_ (lt_ hw h5.s) h6.s) s4.s) sg.s;have aY:=lt_ (lt_ al sp.s) sh.s;obtain ⟨_,ck,bs⟩:=bdS bq;refine dE z z (fc call69 z<|W_w2u (B:=B) (x1:=(⟨x1.d.rules⟩:d_)) ck (zt' O aY) aX (V.g ak) Y<|ic (Nat.le_of_lt hkz)<|lt_ (repS.len W) K_) (.inr fun _ _ h=>w_<|h.1) ?_;rintro _ cl ⟨sb,rfl,_⟩;obtain ⟨_,aZ,bt⟩:=bdS bs;refine dR z z (c_g z z aZ) ?_;have a3:=ak.e sb;have b0:=lt_ aY sb.s;obtain ⟨_,cm,bu⟩:=bdS bt;refine dE z z (fc call70 z<|W_w2v (B:=B) (x1:=(⟨x1.d.rules⟩:d_)) cm (zt' O b0) (V.g a3) Y ba (bb.g a3) (W.g a3) (aW.e sb) hC4b<|ic (Nat.le_of_lt hkz)<|lt_ (repS.len W) K_) (.inr fun _ _ h=>w_<|h.1) ?_;rintro _ cn ⟨se,rfl,co⟩;have b1:=a3.e se;have b2:=(sb.ag B).e se;obtain ⟨cp,cq,ct,bv⟩:=a_t bu;refine dE z z (fc call45 z<|bD.run (B:=B) ct ((aj.e sb).e se) (zt' O<|lt_ b0 se.s) hBg ((aX.e sb).e se) (V.g b1) (an.g b1) (((hq.e sh).e sb).e se) hx (or1 ha a2 (k_<|zt' O al):∀k∈S1,¬B k) (or1 ha (or2 hl p1_2d an_ (O_ (c_<|Blk.lt hB1) h3.s):∀k∈G,k∉[g1]) (O_ (c_<|Blk.lt hB1) al):∀k∈S1,k∉[g1]) (c_f aZ) co ch (ci.g b2) (cj.g b2) ((ce.e sb).e se) cg a1) (.inl z) ?_;rintro _ cu ⟨cv,cw,cx,cy,b3,rfl,cz,cA,cB,cC,cD⟩;refine dQ z z z<|pD<|Wo<|Wg<|R z (inc_ hkz (lt_ (repS.len W) K_) z z)<|Rm z<|Wl ?_
  exact fun _ q=>⟨(cp,cq),(som bv).symm,⟨cw,cx,cy,b3,q.k<|s9 z z z z z z z z z,(cM (f_ (f_ (f_ (cM (cr ([g1]++G) H) sp (aa_ (io<|A_ sr)<|io<|C_ sr):Chg (· ∈ ([g1]++G)) H ca) sh:Chg (· ∈ ([g1]++G)) H cb) sb:Chg (· ∈ ([g1]++G)) H cl) se:Chg (· ∈ ([g1]++G)) H cn) cv (aa_ (io<|A_ sr) (or1 ha (io<|C_ sr) (s_ lr):∀k∈S1,k∈([g1]++G)∨H.z<=k)):Chg (· ∈ ([g1]++G)) H cu),cz,cA,cB,(or1 cC (or1 ha (io sr) (s_ lr):∀k∈S1,k∈G∨H.z<=k) (s_<|lt_ (lt_ (lt_ sp.s sh.s) sb.s) se.s):∀k∈b3,k∈G∨H.z<=k),cD⟩⟩
 ·rintro ⟨xj,xo⟩ _ cE ⟨I,J,L,S1,bw,cF,a1,hq,hx,ha,ht⟩;refine Wu ?_ bw;refine Ws<|Rl z z z<|Wn<|Wq<|Wc z (fun hc=>(a_3 hc).elim) (fun _=>?_)
  exact We<|fun _ q=>⟨rfl,⟨I,J,L,S1,q.k<|s3 z z z,(cM (cr ([g1]++G) H) cF (aa_ (io<|A_ sr)<|io<|C_ sr):Chg (· ∈ ([g1]++G)) H cE),a1,hq,hx,(or1 ha (io sr) (s_ lr):∀k∈S1,k∈G∨H.z<=k),ht⟩⟩
 ·rintro ⟨xj,xo⟩ cG cH rfl ⟨I,J,L,S1,_,b5,a1,hq,hx,ha,ht⟩;have bx:=elL av;revert cG;refine Wo<|Wm z<|R z (V_ z)<|Rf z f_J z<|R z (l0 g_27 z<|ht.at z)<|RM z z ?_
  obtain ⟨am,b6,bz⟩:=bdS<|a_G bx;refine RX z (rd_atQ (α:=u_) c_j b_p z z hq b6) ?_;rintro _ ⟨_,cI,rfl⟩;refine Rf z f_54_3 z ?_;obtain ⟨_,cJ,bA⟩:=bdS bz;refine E0 (o_m (α:=u_) (v':=(⟨am.path,am.rule,am.start,rm⟩:u_)) z_3 z cI z z z z b6 cJ hq hx (lb z)<|fun _ _ _ h=>m_V h aB) ?_;rintro _ cK ⟨b7,b8,cL,cN,cO⟩;refine Wn<|Wm z<|Rw z ?_
  obtain rfl:=som bA;have b9:∀k∈G,k∈([g1]++S1_2)∨w0.z<=k:=or2 hl (io<|C_ sr) an_<|s_ h3.s;have a4:=lt_ (lt_ (lt_ (lt_ hw h5.s) h6.s) s4.s) sg.s;exact Wr<|h_ hr z ⟨(cM (cM (f_ (f_ (cM (f_ (f_ (f_ (cM (cM (f_ (cr ([g1]++S1_2) w0) h3:Chg (· ∈ ([g1]++S1_2)) w0 aw) sk (io<|C_ sr):Chg (· ∈ ([g1]++S1_2)) w0 bF) hi (io<|A_ sr):Chg (· ∈ ([g1]++S1_2)) w0 bH) sf:Chg (· ∈ ([g1]++S1_2)) w0 bK) sd:Chg (· ∈ ([g1]++S1_2)) w0 wn) h5:Chg (· ∈ ([g1]++S1_2)) w0 aO) h6 (mor hw:∀k∈[wn.z],k∈([g1]++S1_2)∨w0.z<=k):Chg (· ∈ ([g1]++S1_2)) w0 ws) s4:Chg (· ∈ ([g1]++S1_2)) w0 wc) sg:Chg (· ∈ ([g1]++S1_2)) w0 H) b5 (aa_ (io<|A_ sr) b9):Chg (· ∈ ([g1]++S1_2)) w0 cH) b8 (or1 ha b9 (s_ a4):∀k∈S1,k∈([g1]++S1_2)∨w0.z<=k):Chg (· ∈ ([g1]++S1_2)) w0 cK),I,J,L,b7,z,aB,cL,cN,(or1 cO (or1 ha (or2 hl (io sr) an_ (s_ h3.s):∀k∈G,k∈S1_2∨w0.z<=k) (s_ a4):∀k∈S1,k∈S1_2∨w0.z<=k) (s_<|lt_ a4 b5.s):∀k∈b7,k∈S1_2∨w0.z<=k),ht.c b8<|djs (or1 ha (or2 hl p1_2d an_ (O_ (c_<|Blk.lt hB1) h3.s):∀k∈G,k∉[g1]) (O_ (c_<|Blk.lt hB1) a4):∀k∈S1,k∉[g1])⟩
 rintro _ _ _ _ rfl ⟨rfl,bB⟩;have bC:=elR av;obtain rfl:=som bC;exact ⟨bB,z⟩
theorem A_w0h:∀n,k_Z n
  | 0=>⟨fun hm=>by intros;exact nomatch (show none=some _ from hm)⟩
  | n+1=>T_w0h<|A_w0h n
theorem W_w0h:j_A (d_W n).impl_indexer_part:=A_w0h n
theorem W_w1y {x1:d_}{x2:List UInt8}{res:(List u_)×Bool}(hm:f_d n x1 x2=some res)(H:B<=w0.z)(hG:Gl w0 B)(I:repS w0 B (sl A0 N0 C0) x1.rules)(V:repS w0 B (sl A5 N5 C5) x2):n_ prog 20 [(.agg #[sl A0 N0 C0]),sl A5 N5 C5] w0 (Q18 w0 B res):=by
 unfold f_d at hm
 refine goG func20 z z z fun fn hr=>Ws<|E z (fb z) ?_
 rintro _ wr ⟨rfl,hc⟩;have h2:=hc.below;have h6:Blk wr w0.z [sl A0 N0 C0]:=hc.blk;refine Ra z<|Rw z<|Ws<|R z (lN (vs:=[sl A0 N0 C0]) t_ q_ z z fid<|h6.row 0 1 z)<|Rm z ?_
 have hd:=hG.e h2;obtain ⟨rs,_,_,ew,hme⟩:=v_ hm;refine E z (fc call44 z<|W_w2r ew (zt' H h2.s) hd (I.e h2)<|V.e h2) ?_;rintro _ wf ⟨s5,ax,ny,cz,_,a0,a1,a2,_,rfl,a3,L,O,_,_,_,_⟩;refine Rm z ?_
 iterate 3 refine Re z z z ?_
 refine E z (fa a_6) ?_;rintro _ wg ⟨rfl,hh⟩;have G:=hh.below;have hi:Blk wg wf.z [vI 0,sl none 0 0,sl none 0 0]:=hh.blk;refine E0 (fs0 (cur':=[vI rs.number,sl ax ny cz,sl a0 a1 a2]) i_ z z hi z z z z) ?_;rintro _ wj ⟨a4,a5⟩;have h1:=a5.one;refine Ra z<|Rw z<|Wq<|Wm z<|R z (nq z z)<|Wx z (fun J=>?_) (fun J=>?_)
 ·refine Ws<|E z (f0 (α:=u_) e_H) ?_
  rintro _ _ ⟨a6,a7,a8,rfl,a9,aa⟩;refine Ra z<|Rw z ?_
  obtain rfl:=som<|ifT hme J;have hk:=lt_ h2.s s5.s;exact Wr<|a_u hr z z ⟨bup (bM (bup (bup h2 s5) G) h1<|m1 hk) a9,a6,a7,a8,[wj.z],z,aa,a_k,m1<|lt_ (lt_ hk G.s) h1.s⟩
 refine Wk<|Ws ?_
 have hl:=((h6.e s5).e G).c h1<|djs<|mm1 h6.lt s5.s
 refine R z (lN (vs:=[sl A0 N0 C0]) t_ q_ z z fid<|hl.row 0 1 z)<|Rm z<|R z (bP (parts:=[(0,.tmp 20),(1,.tmp 21)]) (cs:=[sl A0 N0 C0,sl A5 N5 C5,sl none 0 0]) o_1 z z)<|E z (fb z) ?_
 rintro _ ab ⟨rfl,hn⟩;have h3:=hn.below;refine Rw z<|Wm z<|R z (lN (vs:=[sl A0 N0 C0]) t_ q_ z z fid<|(hl.e h3).row 0 1 z) ?_
 have ha:=lt_ h2.s s5.s;have ho:∀k∈[wf.z],¬B k:=or0 (c_ lr)<|k_<|zt' H ha;have hp:=((((h2.ag B).e s5).e G).c h1<|b_ ho).e h3;have hq:=lt_ ha G.s;have ht:=lt_ hq h1.s;have hu:=lt_ ht h3.s;obtain ⟨_,ad,W⟩:=bdS<|ifF hme J;refine E z (fc call46 z<|f_Q ad (zt' H hu)<|I.g hp) ?_;rintro _ _ ⟨s4,rfl,ae⟩;have hv:=hp.e s4;have hb:=zt' H hq;obtain ⟨_,_,af,Y⟩:=a_t W;refine E z (fc call45 z<|W_w0h.run (B:=wg.z) af ((hn.blk:Blk ab wj.z [sl A0 N0 C0,sl A5 N5 C5,sl none 0 0]).e s4) (a_T<|lt_ (lt_ h1.s h3.s) s4.s) (atp<|nbl<|m1 h1.s) ((((((hd.e s5).e G).c h1<|b_ ho).e h3).e s4).mono hb) (repS.mono (I.g hv) hb) (repS.mono (V.g hv) hb) onL G_ (nbl an_) an_ (lb z) ae a3 (repS.mono (or_ ((((L.e G).c h1<|ds<|mnr<|a_.lt L).e h3).e s4)<|a_.lt L)<|a_T G.s) (repS.mono (or_ ((((O.e G).c h1<|ds<|mnr<|a_.lt O).e h3).e s4)<|a_.lt O)<|a_T G.s) (((a4.e h3).e s4).row 0 3 z) hi.lt<|ii z) ?_;rintro _ _ ⟨ah,ai,aj,ak,Sm,rfl,_,al,am,an,ao⟩;refine Wn<|Wm z<|R z (V_ z)<|Rf z f_J z<|R z (l0 g_27 z<|ao.at z)<|Ra z<|Rw z ?_
 obtain rfl:=som Y;exact Wr<|a_u hr z z ⟨bM (bup (bup (bM (bup (bup h2 s5) G) h1<|m1 ha) h3) s4) ah<|aa_ (m1 ht) an_,ai,aj,ak,Sm,z,al,am,(or1 an an_ (b_f<|lt_ hu s4.s):∀k∈Sm,w0.z<=k)⟩
def Q31 (w0:World)(B:Zone)(r:(List Int))(v:Value)(w':World):Prop:=Bw w0 w'/\(fun J=>∃G H I S1,(sl G H I)=v/\a_ w' S1 (sl G H I) J/\S1.Nodup/\(∀k∈S1,w0.z<=k)) r
theorem W_w2w {x1:d_}{x2:List UInt8}{res:(List Int)}(hm:f_j n x1 x2=some res)(ab:B<=w0.z)(hG:Gl w0 B)(V:repS w0 B (sl A0 N0 C0) x1.rules)(W:repS w0 B (sl A5 N5 C5) x2):n_ prog 6 [(.agg #[sl A0 N0 C0]),sl A5 N5 C5] w0 (Q31 w0 B res):=by
 unfold f_j at hm
 refine goG func6 z z z fun fn hr=>Ws<|E z (fb z) ?_
 rintro _ wz ⟨rfl,hl⟩;have h3:=hl.below;have hn:Blk wz w0.z [sl A0 N0 C0]:=hl.blk;refine Rw z<|Ws<|R z (lN (vs:=[sl A0 N0 C0]) t_ q_ z z fid<|hn.row 0 1 z)<|Rm z ?_
 obtain ⟨ad,_,ae,hmm⟩:=a_t hm;refine E z (fc call20 z<|W_w1y ae (zt' ab h3.s) (hG.e h3) (V.e h3)<|W.e h3) ?_;rintro _ G ⟨s6,af,ah,ai,_,rfl,L,_,_⟩;refine Rm z<|Re z z z<|Re z z z<|Ra z<|Rw z<|Wq<|Wm z<|R z (not_ z)<|Wx z (fun hcf=>?_) (fun hcf=>?_)
 ·refine Ws<|E z (f0 (α:=Int) a_Y) ?_
  rintro _ _ ⟨aj,ak,al,rfl,am,an⟩;refine Rw z ?_
  obtain rfl:=som<|ifT hmm hcf;exact Wr<|h_ hr z ⟨bup (bup h3 s6) am,aj,ak,al,[G.z],z,an,a_k,m1<|lt_ h3.s s6.s⟩
 refine Wk<|Ws<|Rf z R_ z<|R z (l0 T_ z<|(hn.e s6).at z)<|R z (lnR U_ z<|V.g<|(h3.ag B).e s6) ?_
 obtain ⟨_,ao,Y⟩:=bdS<|ifF hmm hcf;refine E z (h_I (α:=Int) a_Y (fun _=>a_Q<|ii z) ao z z) ?_;rintro _ H ⟨O,na,cb,rfl,sg,ap⟩;refine Rw z<|Wq<|Wm z ?_
 have ho:=L.e sg;refine R z (lnR c_j z<|or_ ho<|a_.lt L)<|Rm z<|Wn ?_
 obtain ⟨_,a0,hmp⟩:=bdS Y;refine Wf (σ:=List Int) (ρ:=List Int) (fun (kq:Nat)(J:List Int) a w=>∃(I:List Nat),Sat 38 [(7,sl O na cb),(23,sl af ah ai),(24,vI (ad.length:Int)),(25,vI ((kq:Nat):Int))] a/\Chg (· ∈ [G.z]) H w/\a_ w I (sl O na cb) J/\I.Nodup/\(∀k∈I,k∈[G.z]∨H.z<=k)) (fun (J:List Int) a w=>∃(I:List Nat),Sat 38 [(7,sl O na cb)] a/\Chg (· ∈ [G.z]) H w/\a_ w I (sl O na cb) J/\I.Nodup/\(∀k∈I,k∈[G.z]∨H.z<=k)) (rQ prog fn<|Q31 w0 B) a0 ?_ ?_ ?_ ?_ ?_
 ·exact fun _ q=>⟨[G.z],q.k<|s4 z z z z,cr [G.z] H,ap,a_k,io sr⟩
 ·rintro kq J _ wh _ hkr ⟨I,a1,sc,h5,hd,he⟩ a2;refine Wu ?_ a1;refine Ws<|Rl z z z<|Wn<|Wq<|Wc z (fun _=>?_) (fun hc=>(a_2 hkr hc).elim)
  refine Wk<|Wq<|Wb<|Ws ?_
  obtain ⟨x4,aq,a3⟩:=bdS a2;refine RX z (at_ (α:=u_) c_j b_p z z z (or_ (ho.c sc<|ds<|mnr<|a_.lt L)<|a_.lt L) aq) ?_;rintro _ ⟨_,_,_,rfl,ar,au,_⟩;obtain ⟨rfl,_,_,_,_⟩:=f_y au;refine R z (lN (vs:=[Str.v x4.path,vI x4.rule,vI x4.start,vI x4.end_]) e_F b_p z z fid ar)<|E z (fa h_W) ?_
  rintro _ ws ⟨rfl,ht⟩;have hi:=ht.below;refine E0 (fs0 (cur':=[Str.v x4.path,vI x4.rule,vI x4.start,vI x4.end_]) b_p z z (ht.blk:Blk ws wh.z [(Str.v (⟨[]⟩:Str)),vI 0,vI 0,vI 0]) z z z z) ?_;rintro _ av ⟨aw,ax⟩;have hj:=ax.one;refine Wn<|Wg<|Rm z<|Rf z e_6 z<|R z (l0 g_3 z<|aw.at z) ?_
  obtain ⟨_,ay,a4⟩:=bdS a3;have hk:=(h5.e hi).c hj<|ds<|mnr<|a_.lt h5
  refine RX z (at_ (α:=Int) o_ z_3 z z z (or_ hk<|a_.lt h5) ay) ?_;rintro _ ⟨_,_,_,rfl,az,aA,_⟩;obtain ⟨rfl,_⟩:=M_ aA;refine R z (l0 g_3 z<|az.at0 z)<|R z (add_ z z) ?_
  obtain ⟨aB,eu,a5⟩:=bdS a4;refine RX z (h_E (α:=Int) o_ z_3 z z hk eu) ?_;rintro _ ⟨_,aC,rfl⟩;refine E0 (e_E (α:=Int) z_3 z aC z z z eu hk hd (a_Q<|iA _ _) an_ G_) ?_;rintro _ aD ⟨Sv,aE,aF,aG,aH⟩;refine Wn<|Wg<|R z (inc_ hkr (lt_ (a_.len L) K_) z z)<|Rm z<|Wl ?_
  have hw:∀k∈I,k∈[G.z]∨H.z<=k:=or1 he (io sr)<|s_ lr;exact fun _ q=>⟨aB,(som a5).symm,⟨Sv,q.k<|s4 z z z z,(cM (cM (f_ (cM (cr [G.z] H) sc (io sr):Chg (· ∈ [G.z]) H wh) hi:Chg (· ∈ [G.z]) H ws) hj (mor sc.s:∀k∈[wh.z],k∈[G.z]∨H.z<=k):Chg (· ∈ [G.z]) H av) aE hw:Chg (· ∈ [G.z]) H aD),aF,aG,(or2 aH hw an_ (s_<|lt_ (lt_ sc.s hi.s) hj.s):∀k∈Sv,k∈[G.z]∨H.z<=k)⟩⟩
 ·rintro J _ aI ⟨I,a6,aJ,h5,hd,he⟩;refine Wu ?_ a6;refine Ws<|Rl z z z<|Wn<|Wq<|Wc z (fun hc=>(a_3 hc).elim) (fun _=>?_)
  exact We<|fun _ q=>⟨rfl,⟨I,q.k<|s1 z,(cM (cr [G.z] H) aJ (io sr):Chg (· ∈ [G.z]) H aI),h5,hd,(or1 he (io sr) (s_ lr):∀k∈I,k∈[G.z]∨H.z<=k)⟩⟩
 ·rintro J aK _ rfl ⟨I,_,aL,h5,hd,he⟩;have a7:=elL hmp;revert aK;refine Wo<|Wm z<|Rw z ?_
  obtain rfl:=som a7;have hx:=lt_ h3.s s6.s;have hy:=m1 hx;exact Wr<|h_ hr z ⟨bM (bup (bup h3 s6) sg) aL hy,O,na,cb,I,z,h5,hd,a_i he hy<|lt_ hx sg.s⟩
 rintro _ _ _ _ rfl ⟨rfl,a8⟩;have aa:=elR hmp;obtain rfl:=som aa;exact ⟨a8,z⟩
theorem W_w1z {x1:d_}{res:(List Int)}(hm:d_t n x1=some res)(a0:B<=w0.z)(Y:repS w0 B (sl A0 N0 C0) x1.rules):n_ prog 22 [(.agg #[sl A0 N0 C0])] w0 (Q31 w0 B res):=by
 unfold d_t at hm
 refine goG func22 z z z fun fn hr=>Ws<|E z (fb z) ?_
 rintro _ H ⟨rfl,aV⟩;have ht:=aV.below;have a2:Blk H w0.z [sl A0 N0 C0]:=aV.blk;refine Rw z<|Ws<|E z (ef_arr (m:=24) (u:=.bool false) (z0:=false) o_7 z z (fun _=>h_o) (by decide)) ?_
 rintro _ _ ⟨rfl,sk,bX⟩;refine Wn<|Ws ?_
 have aW:=a2.e sk;refine R z (lN (vs:=[sl A0 N0 C0]) t_ q_ z z fid<|aW.row 0 1 z) ?_;have aX:=(ht.ag B).e sk;have aY:=lt_ ht.s sk.s;obtain ⟨_,bY,bi⟩:=bdS hm;refine E z (fc call46 z<|f_Q bY (zt' a0 aY)<|Y.g aX) ?_;rintro _ _ ⟨sh,rfl,_⟩;obtain ⟨_,aZ,bj⟩:=bdS bi;have b0:=bX.e sh;refine RX z (k_p (α:=Bool) d_92 z_4 z z b0 aZ) ?_;rintro _ ⟨_,bZ,rfl⟩;refine E0 (e_E (α:=Bool) z_4 z bZ z z z aZ b0 a_k h_o an_ G_) ?_;rintro _ _ ⟨S2,a3,c0,c1,hu⟩;refine Wn<|Wq<|Ws ?_
 have au:=mmr a2.lt;have av:=(aW.e sh).c a3<|djs au
 refine R z (lN (vs:=[sl A0 N0 C0]) t_ q_ z z fid<|av.row 0 1 z) ?_;have aw:∀k∈[H.z],¬B k:=or0 (c_ lr)<|k_<|zt' a0 ht.s;have ax:=(aX.e sh).c a3<|b_ aw
 have a4:=lt_ aY sh.s;have ay:=lt_ a4 a3.s;obtain ⟨_,c2,bk⟩:=bdS bj;refine E z (fc call46 z<|f_Q c2 (zt' a0 ay)<|Y.g ax) ?_;rintro _ V ⟨sf,rfl,c3⟩;refine Rw z ?_
 obtain ⟨_,bm,aK⟩:=bdS bk;refine b_M (σ:=(List Bool)×Int) (ρ:=List Int) (fun s a w=>un2 (fun xl W=>∃(G:List Nat),Sat 66 [(1,pt w0.z),(3,pt H.z),(4,vI W)] a/\Chg (· ∈ S2) V w/\a_ w G (sl (some ⟨H.z,0,none⟩) 24 24) xl/\G.Nodup/\(∀k∈G,k∈S2∨V.z<=k)/\inI W) s) (fun s a w=>un2 (fun xl W=>∃(G:List Nat),Sat 66 [(1,pt w0.z),(3,pt H.z)] a/\Chg (· ∈ S2) V w/\a_ w G (sl (some ⟨H.z,0,none⟩) 24 24) xl/\G.Nodup/\(∀k∈G,k∈S2∨V.z<=k)/\inI W) s) (rQ prog fn<|Q31 w0 B) bm ?_ ?_ ?_ ?_
 ·exact fun _ q=>⟨S2,q.k<|s3 z z z,cr S2 V,c0.e sf,c1,io sr,c3⟩
 ·rintro ⟨xl,W⟩ _ I _ ⟨G,bn,ss,hg,a5,a6,b1⟩ bo;have aL:=a_G bo;refine Wu ?_ bn;refine Wq<|Wm z<|R z (b_i z z)<|Wx z (fun am=>?_) (fun am=>?_)
  ·refine Wk<|Wq ?_
   obtain ⟨c4,bp,aM⟩:=bdS<|ifT aL am;refine Wt (fun a w=>∃(a7:List Bool),Sum.inl a7=c4/\∃(Sm:List Nat),Sat 66 [(1,pt w0.z),(3,pt H.z),(4,vI W)] a/\Chg (· ∈ G) I w/\a_ w Sm (sl (some ⟨H.z,0,none⟩) 24 24) a7/\Sm.Nodup/\(∀k∈Sm,k∈G∨I.z<=k)) ?_ ?_
   ·refine Wb<|Wq<|Wm z ?_
    obtain ⟨_,c5,aN⟩:=bdS bp;refine RX z (k_o (α:=Bool) d_92 z_4 z z z (a_.rep hg) c5) ?_;rintro _ ⟨_,_,_,rfl,c6,c7,_⟩;obtain rfl:=i_Z c7;refine R z (l0 g_4 z<|c6.at0 z)<|R z (not_ z)<|Wx z (fun an=>?_) (fun an=>?_)
    ·refine We<|exH ?_
     exact fun _ q=>⟨xl,som<|ifT aN an,G,q.k<|s3 z z z,cr G I,hg,a5,io sr⟩
    refine Wk<|Ws<|Rf z R_ z ?_
    have b2:=(av.e sf).c ss<|djs (or2 hu au an_ (O_ (c_ a2.lt)<|lt_ sk.s sh.s):∀k∈S2,k∉[w0.z])
    refine R z (l0 T_ z<|b2.at z)<|Rm z ?_
    obtain ⟨c8,c9,bq⟩:=bdS<|ifF aN an;have b3:∀k∈S2,¬B k:=or2 hu aw an_<|k_<|zt' a0 a4;have b4:=Y.g<|(ax.e sf).c ss<|b_ b3
    refine RX z (at_ (α:=e_) U_ m_ z z z b4 c9) ?_;rintro _ ⟨_,_,_,rfl,ca,cb,_⟩;obtain ⟨_,_,_,_,_,_,_,_,_,az,aA,aB,rfl,_,_,_,_,_,_,b5⟩:=a_m cb;refine Rf z J_ z<|R z (l0 D_ z<|ca.at (j:=7) z)<|Rw z<|Wq<|Ws<|Rf z R_ z<|R z (l0 T_ z<|b2.at z)<|Rm z ?_
    obtain ⟨aC,cc,bs⟩:=bdS bq;refine RX z (at_ (α:=e_) U_ m_ z z z b4 cc) ?_;rintro _ ⟨_,_,_,rfl,ce,cf,_⟩;obtain ⟨_,_,_,_,_,_,_,_,_,_,_,_,rfl,_,_,_,_,_,_,_⟩:=a_m cf;refine Rf z a_n z<|R z (l0 g_3 z<|ce.at (j:=1) z)<|Wn<|Wb<|Wq<|Ws<|Rq z z z<|Rw z ?_
    obtain ⟨cg,aO,bt⟩:=bdS bs;refine Wt (fun a w=>∃(aD:Bool),aD=cg/\Sat 66 [(1,pt w0.z),(3,pt H.z),(4,vI W),(5,sl az aA aB),(35,vB aD)] a/\Below I.z I w) ?_ ?_
    ·refine Wc z (fun ao=>?_)<|fun ao=>?_
     ·exact a_7<|fun _ q=>⟨aC.kind==4,som<|ifT aO ao,q.k<|s5 z z z z z,br I⟩
     refine Ws<|Rq z z z<|Rw z ?_
     obtain ⟨ch,aP,bu⟩:=bdS<|ifF aO ao;refine Wt (fun a w=>∃(a8:Bool),a8=ch/\Sat 66 [(1,pt w0.z),(3,pt H.z),(4,vI W),(5,sl az aA aB),(35,vB a8)] a/\Below I.z I w) ?_ ?_
     ·refine Wc z (fun ap=>?_)<|fun ap=>?_
      ·exact a_7<|fun _ q=>⟨aC.kind==5,som<|ifT aP ap,q.k<|s5 z z z z z,br I⟩
      exact Wg<|Rq z z z<|Ra z<|Wl (fun _ q=>⟨aC.kind==7,som<|ifF aP ap,q.k<|s5 z z z z z,br I⟩)
     rintro ci _ ⟨a8,rfl,_,cj⟩;revert ci;exact fun _ q=>⟨a8,som bu,q.k<|s5 z z z z z,cj⟩
    rintro ck wv ⟨aD,rfl,_,sn⟩;revert ck;refine Wo ?_;obtain ⟨cl,aQ,bv⟩:=bdS bt;refine Wt (fun a w=>∃(a9:List Int),a9=cl/\∃aa ad ae,Sat 66 [(1,pt w0.z),(3,pt H.z),(4,vI W),(5,sl aa ad ae)] a/\Below wv.z wv w/\repS w B (sl aa ad ae) a9) ?_ ?_
    ·refine Wc z (fun aq=>?_)<|fun aq=>?_
     ·refine Wg<|Rm z ?_
      obtain ⟨cm,cn,bw⟩:=bdS<|ifT aQ aq;refine RX z (rX o_ z_3 z z (b5.e sn) z z cn) ?_;rintro _ ⟨co,cp,cq,rfl,ct⟩;exact Ra z<|Wl (fun _ q=>⟨cm,som bw,co,cp,cq,q.k<|s4 z z z z,br wv,ct⟩)
     exact a_7<|fun _ q=>⟨c8.kids,som<|ifF aQ aq,az,aA,aB,q.k<|s4 z z z z,br wv,b5.e sn⟩
    rintro cu L ⟨a9,rfl,aa,ad,ae,_,aE,aF⟩;revert cu;refine Wo<|Wm z<|R z (lnR o_ z aF)<|Rm z<|Wn ?_
    obtain ⟨_,bx,aR⟩:=bdS bv;refine Wf (σ:=List Bool) (ρ:=List Int) (fun (b6:Nat)(xi:List Bool) a w=>∃(J:List Nat),Sat 66 [(1,pt w0.z),(3,pt H.z),(4,vI W),(41,sl aa ad ae),(42,vI (a9.length:Int)),(43,vI ((b6:Nat):Int))] a/\Chg (· ∈ G) L w/\a_ w J (sl (some ⟨H.z,0,none⟩) 24 24) xi/\J.Nodup/\(∀k∈J,k∈G∨L.z<=k)) (fun (xi:List Bool) a w=>∃(J:List Nat),Sat 66 [(1,pt w0.z),(3,pt H.z),(4,vI W)] a/\Chg (· ∈ G) L w/\a_ w J (sl (some ⟨H.z,0,none⟩) 24 24) xi/\J.Nodup/\(∀k∈J,k∈G∨L.z<=k)) (rQ prog fn<|Q31 w0 B) bx ?_ ?_ ?_ ?_ ?_
    ·exact fun _ q=>⟨G,q.k<|s6 z z z z z z,cr G L,(hg.e sn).e aE,a5,io sr⟩
    ·rintro b6 xi _ cv _ aS ⟨J,bz,aG,ho,hw,hx⟩ bA;refine Wu ?_ bz;refine Ws<|Rl z z z<|Wn<|Wq<|Wc z (fun _=>?_) (fun hc=>(a_2 aS hc).elim)
     refine Wk<|Wq<|Wb<|Ws ?_
     obtain ⟨_,cw,bB⟩:=bdS bA;refine RX z (at_ (α:=Int) o_ z_3 z z z (aF.c aG<|b_ (or1 a6 b3 (k_<|zt' a0<|lt_ ay sf.s):∀k∈G,¬B k)) cw) ?_;rintro _ ⟨_,_,_,rfl,cx,cy,_⟩;obtain ⟨rfl,_⟩:=M_ cy;refine R z (l0 g_3 z<|cx.at0 z)<|Rw z<|Wg<|Rm z ?_
     obtain ⟨cz,b7,bC⟩:=bdS bB;refine RX z (k_p (α:=Bool) d_92 z_4 z z ho b7) ?_;rintro _ ⟨_,cA,rfl⟩;refine E0 (e_E (α:=Bool) z_4 z cA z z z b7 ho hw h_o an_ G_) ?_;rintro _ cB ⟨b8,cC,cD,cE,cF⟩;refine Wn<|Wg<|R z (inc_ aS (lt_ (repS.len aF) K_) z z)<|Rm z<|Wl ?_
     have b9:∀k∈J,k∈G∨L.z<=k:=or1 hx (io sr)<|s_ lr;exact fun _ q=>⟨cz,(som bC).symm,⟨b8,q.k<|s6 z z z z z z,(cM (cM (cr G L) aG (io sr):Chg (· ∈ G) L cv) cC b9:Chg (· ∈ G) L cB),cD,cE,(or2 cF b9 an_ (s_ aG.s):∀k∈b8,k∈G∨L.z<=k)⟩⟩
    ·rintro xi _ cG ⟨J,bD,cH,ho,hw,hx⟩;refine Wu ?_ bD;refine Ws<|Rl z z z<|Wn<|Wq<|Wc z (fun hc=>(a_3 hc).elim) (fun _=>?_)
     exact We<|fun _ q=>⟨rfl,⟨J,q.k<|s3 z z z,(cM (cr G L) cH (io sr):Chg (· ∈ G) L cG),ho,hw,(or1 hx (io sr) (s_ lr):∀k∈J,k∈G∨L.z<=k)⟩⟩
    ·rintro xi cI cJ rfl ⟨J,_,cK,ho,hw,hx⟩;have bE:=elL aR;revert cI;exact fun _ q=>⟨xi,som bE,J,q.k<|s3 z z z,(cM (f_ (f_ (cr G I) sn:Chg (· ∈ G) I wv) aE:Chg (· ∈ G) I L) cK (io sr):Chg (· ∈ G) I cJ),ho,hw,(or1 hx (io sr) (s_<|lt_ sn.s aE.s):∀k∈J,k∈G∨I.z<=k)⟩
    rintro _ _ _ _ rfl ⟨rfl,bF⟩;have bG:=elR aR;obtain rfl:=som bG;have bH:=elR aM;exact ⟨inbR<|k_I (som bH).symm ⟨rfl,bF⟩,z⟩
   rintro cL cN ⟨a7,rfl,Sm,_,cO,cP,cQ,cR⟩;have bI:=elL aM;revert cL;refine Wo<|Wg<|Rm z<|R z (sb_ z z)<|Ra z<|Wl ?_
   have ba:∀k∈G,k∈S2∨V.z<=k:=or1 a6 (io sr)<|s_ lr;exact fun _ q=>⟨(a7,L_ W 1),(som bI).symm,⟨Sm,q.k<|s3 z z z,(cM (cM (cr S2 V) ss (io sr):Chg (· ∈ S2) V I) cO ba:Chg (· ∈ S2) V cN),cP,cQ,(or1 cR ba (s_ ss.s):∀k∈Sm,k∈S2∨V.z<=k),iS _ _⟩⟩
  exact We<|fun _ q=>b_t (som<|ifF aL am).symm ⟨G,q.k<|s2 z z,(cM (cr S2 V) ss (io sr):Chg (· ∈ S2) V I),hg,a5,(or1 a6 (io sr) (s_ lr):∀k∈G,k∈S2∨V.z<=k),b1⟩
 ·rintro ⟨xl,W⟩ cS O rfl ⟨G,_,af,hg,a5,a6,b1⟩;have bJ:=elL aK;revert cS;refine Wo<|Ws<|E z (f0 (α:=Int) a_Y) ?_
  rintro _ wa ⟨cT,cU,cV,rfl,sy,cW⟩;refine Rw z<|Wq<|Ws<|Rf z R_ z ?_
  refine R z (l0 T_ z<|(((av.e sf).c af<|djs (or2 hu au an_ (O_ (c_ a2.lt)<|lt_ sk.s sh.s):∀k∈S2,k∉[w0.z])).e sy).at z) ?_;refine R z (lnR U_ z<|Y.g<|((ax.e sf).c af<|b_ (or2 hu aw an_ (k_<|zt' a0 a4):∀k∈S2,¬B k)).e sy)<|Rm z<|Wn ?_
  obtain ⟨_,bK,aT⟩:=bdS<|a_G bJ;refine Wf (σ:=List Int) (ρ:=List Int) (fun (ah:Nat)(xj:List Int) a w=>∃ab nc cd S1,Sat 66 [(3,pt H.z),(8,sl ab nc cd),(53,vI (x1.rules.length:Int)),(54,vI ((ah:Nat):Int))] a/\Chg (· ∈ [O.z]) wa w/\a_ w S1 (sl ab nc cd) xj/\S1.Nodup/\(∀k∈S1,k∈[O.z]∨wa.z<=k)) (fun (xj:List Int) a w=>∃ab nc cd S1,Sat 66 [(8,sl ab nc cd)] a/\Chg (· ∈ [O.z]) wa w/\a_ w S1 (sl ab nc cd) xj/\S1.Nodup/\(∀k∈S1,k∈[O.z]∨wa.z<=k)) (rQ prog fn<|Q31 w0 B) bK ?_ ?_ ?_ ?_ ?_
  ·exact fun _ q=>⟨cT,cU,cV,[O.z],q.k<|s4 z z z z,cr [O.z] wa,cW,a_k,io sr⟩
  ·rintro ah xj _ we _ a1 ⟨ab,nc,cd,S1,bL,aH,hp,hq,hz⟩ bN;refine Wu ?_ bL;refine Ws<|Rl z z z<|Wn<|Wq<|Wc z (fun _=>?_) (fun hc=>(a_2 a1 hc).elim)
   refine Wk<|Wq<|Wb<|Wm z<|Rw z<|Wm z ?_
   obtain ⟨_,cX,bO⟩:=bdS bN;refine RX z (k_o (α:=Bool) d_92 z_4 z z z (or_ ((hg.e sy).c aH<|ds<|mnr<|a_.lt hg)<|a_.lt hg) cX) ?_;rintro _ ⟨_,_,_,rfl,cY,cZ,_⟩;obtain rfl:=i_Z cZ;refine R z (l0 g_4 z<|cY.at0 z)<|Wn ?_
   obtain ⟨d0,aU,bP⟩:=bdS bO;refine Wt (fun a w=>∃(ai:List Int),ai=d0/\∃aj ak al Sr,Sat 66 [(3,pt H.z),(8,sl aj ak al),(53,vI (x1.rules.length:Int)),(54,vI ((ah:Nat):Int))] a/\Chg (· ∈ S1) we w/\a_ w Sr (sl aj ak al) ai/\Sr.Nodup/\(∀k∈Sr,k∈S1∨we.z<=k)) ?_ ?_
   ·refine Wc z (fun ar=>?_)<|fun ar=>?_
    ·refine Wg<|RM z z<|E z (fS [(.tmp 61)] a_Y z z z (a_c z) (lb z)<|lb z) ?_
     rintro _ bb ⟨rfl,aI⟩;have aJ:=aI.below;have dl:=a_x aI<|a_Q<|ic (Nat.le_of_lt a1)<|lt_ (repS.len Y) K_
     obtain ⟨d1,d2,bQ⟩:=bdS<|ifT aU ar;refine E z (a_O (α:=Int) a_Y d2 z z (hp.e aJ) hq (aI.blk:Blk bb we.z [(vI ((ah:Nat):Int))]) (a_Q<|ic (Nat.le_of_lt a1)<|lt_ (repS.len Y) K_) an_ G_) ?_;rintro _ d3 ⟨bc,d4,d5,d6,rfl,d7,d8,d9,da⟩;refine Ra z<|Wl ?_
     exact fun _ q=>⟨d1,som bQ,d4,d5,d6,bc,q.k<|s4 z z z z,(cM (f_ (cr S1 we) aJ:Chg (· ∈ S1) we bb) d7 (io sr):Chg (· ∈ S1) we d3),d8,d9,(or2 da (io sr) an_ (s_ aJ.s):∀k∈bc,k∈S1∨we.z<=k)⟩
    exact a_7<|fun _ q=>⟨xj,som<|ifF aU ar,ab,nc,cd,S1,q.k<|s4 z z z z,cr S1 we,hp,hq,io sr⟩
   rintro db dc ⟨ai,rfl,aj,ak,al,Sr,_,dd,de,df,dg⟩;revert db;refine Wo<|Wg<|R z (inc_ a1 (lt_ (repS.len Y) K_) z z)<|Rm z<|Wl ?_
   have be:∀k∈S1,k∈[O.z]∨wa.z<=k:=or1 hz (io sr)<|s_ lr;exact fun _ q=>⟨ai,(som bP).symm,⟨aj,ak,al,Sr,q.k<|s4 z z z z,(cM (cM (cr [O.z] wa) aH (io sr):Chg (· ∈ [O.z]) wa we) dd be:Chg (· ∈ [O.z]) wa dc),de,df,(or1 dg be (s_ aH.s):∀k∈Sr,k∈[O.z]∨wa.z<=k)⟩⟩
  ·rintro xj _ dh ⟨ab,nc,cd,S1,bR,di,hp,hq,hz⟩;refine Wu ?_ bR;refine Ws<|Rl z z z<|Wn<|Wq<|Wc z (fun hc=>(a_3 hc).elim) (fun _=>?_)
   exact We<|fun _ q=>⟨rfl,⟨ab,nc,cd,S1,q.k<|s1 z,(cM (cr [O.z] wa) di (io sr):Chg (· ∈ [O.z]) wa dh),hp,hq,(or1 hz (io sr) (s_ lr):∀k∈S1,k∈[O.z]∨wa.z<=k)⟩⟩
  ·rintro xj dj _ rfl ⟨ab,nc,cd,S1,_,dk,hp,hq,hz⟩;have bS:=elL aT;revert dj;refine Wo<|Wm z<|Rw z ?_
   obtain rfl:=som bS;have bf:=m1 ht.s;have bg:=lt_ (lt_ ay sf.s) af.s;have bh:=m1 bg;exact Wr<|h_ hr z ⟨bM (bup (bM (bup (bM (bup (bup ht sk) sh) a3 bf) sf) af (or2 hu bf an_ (b_f a4):∀k∈S2,w0.z<=k)) sy) dk bh,ab,nc,cd,S1,z,hp,hq,a_i hz bh<|lt_ bg sy.s⟩
  rintro _ _ _ _ rfl ⟨rfl,bT⟩;have bU:=elR aT;obtain rfl:=som bU;exact ⟨bT,z⟩
 rintro _ _ _ _ rfl ⟨rfl,bV⟩;have bW:=elR aK;obtain rfl:=som bW;exact ⟨bV,z⟩
theorem i_3 {x1:List Int}{x2:Int}{res:Int}(hm:c_0 x1 x2=some res)(a1:B<=w0.z)(I:repS w0 B (sl A0 N0 C0) x1)(a0:inI x2):n_ prog 23 [sl A0 N0 C0,vI x2] w0 (Q9 w0 B res):=by
 unfold c_0 at hm
 refine goG func23 z z z fun fn hr=>Ws<|Rw z<|Wq<|Wq ?_
 obtain ⟨V,J,L⟩:=bdS hm;refine Wt (fun a w=>∃(x3:Bool),x3=V/\Sat 17 [(0,sl A0 N0 C0),(1,vI x2),(12,vB x3)] a/\Below w0.z w0 w) ?_ ?_
 ·refine Wg<|Rm z<|Rl z z z<|Rm z ?_
  rcases bs (decide<|x2<0) with G | G
  ·iterate 4 refine Nh z G ?_
   exact R z (pT z G z)<|Wl (fun _ q=>⟨true,som<|ifT J G,q.k<|s3 z z z,br w0⟩)
  exact Rh z G (mv z)<|Rh z G (mv z)<|Rh z G (lnR o_ z I)<|Rh z G (b_i z z)<|R z (pF z G z)<|Wl (fun _ q=>⟨decide<|(x1.length:Int)<=x2,som<|ifF J G,q.k<|s3 z z z,br w0⟩)
 rintro W _ ⟨x3,rfl,_,s1⟩;revert W;refine Wo<|Wc z (fun H=>?_) (fun H=>?_)
 ·refine Ws<|Rw z ?_
  obtain rfl:=som<|ifT L H;exact Wr<|h_ hr z ⟨s1,z,ii z⟩
 refine Wk<|Wm z<|Rm z ?_
 obtain ⟨_,Y,O⟩:=bdS<|ifF L H;refine RX z (at_ (α:=Int) o_ z_3 z z z (I.e s1) Y) ?_;rintro _ ⟨_,_,_,rfl,ha,hb,_⟩;obtain ⟨rfl,hc⟩:=M_ hb;refine R z (l0 g_3 z<|ha.at0 z)<|Rw z ?_
 obtain rfl:=som O;exact Wr<|h_ hr z ⟨s1,z,hc⟩
theorem W_w2x {x1:d_}{x2:List Int}{res:Int}(hm:f_k n x1 x2=some res)(O:B<=w0.z)(V:repS w0 B (sl A0 N0 C0) x1.rules)(W:repS w0 B (sl A5 N5 C5) x2):n_ prog 7 [(.agg #[sl A0 N0 C0]),sl A5 N5 C5] w0 (Q9 w0 B res):=by
 unfold f_k at hm
 refine goG func7 z z z fun fn hr=>Ws<|E z (fb z) ?_
 rintro _ wq ⟨rfl,hg⟩;have h1:=hg.below;have hh:Blk wq w0.z [sl A0 N0 C0]:=hg.blk;refine Rw z<|Wq<|Ws<|R z (lN (vs:=[sl A0 N0 C0]) t_ q_ z z fid<|hh.row 0 1 z) ?_
 obtain ⟨_,er,hmi⟩:=bdS hm;refine E z (fc call21 z<|j_n er (zt' O h1.s)<|V.e h1) ?_;rintro _ _ ⟨s3,rfl⟩;refine R z (not_ z)<|Wx z (fun hcc=>?_) (fun hcc=>?_)
 ·refine Ws<|Rw z ?_
  obtain rfl:=som<|ifT hmi hcc;exact Wr<|h_ hr z ⟨bup h1 s3,z,ii z⟩
 refine Wk<|Ws<|R z (lN (vs:=[sl A0 N0 C0]) t_ q_ z z fid<|(hh.e s3).row 0 1 z) ?_
 have hj:=(h1.ag B).e s3;have hk:=lt_ h1.s s3.s;obtain ⟨rl,es,hmt⟩:=bdS<|ifF hmi hcc;refine E z (fc call22 z<|W_w1z es (zt' O hk)<|V.g hj) ?_;rintro _ G ⟨sd,H,I,J,_,rfl,h2,_,_⟩;refine Rw z<|Ws<|Rw z<|Wq<|Wm z<|R z (lnR o_ z<|a_.rep h2)<|Rm z<|Wn ?_
 obtain ⟨_,huu,hmm⟩:=bdS hmt;refine Wf (σ:=Int) (ρ:=Int) (fun (ke:Nat)(x0:Int) a w=>Sat 32 [(1,sl A5 N5 C5),(5,sl H I J),(6,vI x0),(14,sl H I J),(15,vI (rl.length:Int)),(16,vI ((ke:Nat):Int))] a/\Below G.z G w/\inI x0) (fun (x0:Int) a w=>Sat 32 [(5,sl H I J),(6,vI x0)] a/\Below G.z G w/\inI x0) (rQ prog fn<|Q9 w0 B) huu ?_ ?_ ?_ ?_ ?_
 ·exact fun _ q=>⟨q.k<|s6 z z z z z z,br G,ii z⟩
 ·rintro ke x0 _ _ _ hkn ⟨hSv,s9,ha⟩ hmw;refine Wu ?_ hSv;refine Ws<|Rl z z z<|Wn<|Wq<|Wc z (fun _=>?_) (fun hc=>(a_2 hkn hc).elim)
  refine Wk<|Wq<|Wb<|Ws ?_
  obtain ⟨_,ey,hmx⟩:=bdS hmw;refine RX z (at_ (α:=Int) o_ z_3 z z z (or_ (h2.e s9)<|a_.lt h2) ey) ?_;rintro _ ⟨_,_,_,rfl,hz,a7,_⟩;obtain ⟨rfl,a8⟩:=M_ a7;refine R z (l0 g_3 z<|hz.at0 z)<|Rw z<|Wm z<|Rm z ?_
  obtain ⟨_,a9,Y⟩:=bdS hmx;refine E z (fc call23 z<|i_3 a9 (zt' O<|lt_ (lt_ hk sd.s) s9.s) (W.g<|(hj.e sd).e s9) a8) ?_;rintro _ wb ⟨aa,rfl,_⟩;refine R z (a_e z z)<|Wn ?_
  obtain ⟨ab,huo,a0⟩:=bdS Y;refine Wt (fun a w=>∃(L:Int),L=ab/\Sat 32 [(1,sl A5 N5 C5),(5,sl H I J),(6,vI L),(14,sl H I J),(15,vI (rl.length:Int)),(16,vI ((ke:Nat):Int))] a/\Below wb.z wb w/\inI L) ?_ ?_
  ·refine Wc z (fun hcf=>?_)<|fun hcf=>?_
   ·exact Wg<|Rm z<|R z (add_ z z)<|Ra z<|Wl (fun _ q=>⟨g_ x0 1,som<|ifT huo hcf,q.k<|s6 z z z z z z,br wb,iA _ _⟩)
   exact a_7<|fun _ q=>⟨x0,som<|ifF huo hcf,q.k<|s6 z z z z z z,br wb,ha⟩
  rintro ad _ ⟨L,rfl,_,ae,af⟩;revert ad;exact Wo<|Wg<|R z (inc_ hkn (lt_ (a_.len h2) K_) z z)<|Rm z<|Wl (fun _ q=>⟨L,(som a0).symm,⟨q.k<|s6 z z z z z z,bup (bup s9 aa) ae,af⟩⟩)
 ·rintro x0 _ _ ⟨a1,ah,ha⟩;refine Wu ?_ a1;refine Ws<|Rl z z z<|Wn<|Wq<|Wc z (fun hc=>(a_3 hc).elim) (fun _=>?_)
  exact We<|fun _ q=>⟨rfl,⟨q.k<|s2 z z,ah,ha⟩⟩
 ·rintro x0 ai _ rfl ⟨_,sp,ha⟩;have a2:=elL hmm;revert ai;refine Wo<|Wm z<|R z (c_m z z)<|Rm z<|R z (lnR o_ z<|or_ (h2.e sp)<|a_.lt h2) ?_
  obtain ⟨_,aj,a3⟩:=bdS a2;refine R z (e_c z z<|nzS aj)<|Rw z ?_
  obtain rfl:=som a3;exact Wr<|h_ hr z ⟨bup (bup (bup h1 s3) sd) sp,z,e_3 _ _⟩
 rintro _ _ _ _ rfl ⟨rfl,a4⟩;have a6:=elR hmm;obtain rfl:=som a6;exact ⟨a4,z⟩
def Q32 (w0:World)(B:Zone)(r:(List Str))(v:Value)(w':World):Prop:=Bw w0 w'/\(fun J=>∃G H I S1,(sl G H I)=v/\a_ w' S1 (sl G H I) J/\S1.Nodup/\(∀k∈S1,w0.z<=k)) r
theorem W_w2y {x1:d_}{x2:List Int}{res:(List Str)}(hm:f_l n x1 x2=some res)(a0:B<=w0.z)(a1:repS w0 B (sl A0 N0 C0) x1.rules)(ao:repS w0 B (sl A5 N5 C5) x2):n_ prog 8 [(.agg #[sl A0 N0 C0]),sl A5 N5 C5] w0 (Q32 w0 B res):=by
 unfold f_l at hm
 refine goG func8 z z z fun fn hr=>Ws<|E z (fb z) ?_
 rintro _ H ⟨rfl,hv⟩;have W:=hv.below;have hw:Blk H w0.z [sl A0 N0 C0]:=hv.blk;refine Rw z<|Ws<|E z (f0 (α:=Str) b_o) ?_
 rintro _ _ ⟨ax,ns,cy,rfl,sg,hn⟩;refine Rw z<|Wq<|Ws ?_
 have hz:=hw.e sg;refine R z (lN (vs:=[sl A0 N0 C0]) t_ q_ z z fid<|hz.row 0 1 z) ?_;have a7:=(W.ag B).e sg;have a8:=lt_ W.s sg.s;obtain ⟨_,aF,a2⟩:=bdS hm;refine E z (fc call21 z<|j_n aF (zt' a0 a8)<|a1.g a7) ?_;rintro _ _ ⟨s7,rfl⟩;refine R z (not_ z)<|Wx z (fun hco=>?_) (fun hco=>?_)
 ·refine Wm z<|Rw z ?_
  obtain rfl:=som<|ifT a2 hco;exact Wr<|h_ hr z ⟨bup (bup W sg) s7,ax,ns,cy,[H.z],z,hn.e s7,a_k,m1 W.s⟩
 refine Wk<|Wq<|Ws ?_
 have a9:=hz.e s7;refine R z (lN (vs:=[sl A0 N0 C0]) t_ q_ z z fid<|a9.row 0 1 z) ?_;have aa:=a7.e s7;have hp:=lt_ a8 s7.s;obtain ⟨ab,aG,ap⟩:=bdS<|ifF a2 hco;refine E z (fc call22 z<|W_w1z aG (zt' a0 hp)<|a1.g aa) ?_;rintro _ I ⟨sa,ad,ae,af,_,rfl,hi,_,aH⟩;refine R z (lnR o_ z<|a_.rep hi)<|Rm z<|Wn ?_
 obtain ⟨_,aq,a4⟩:=bdS ap;refine Wf (σ:=List Str) (ρ:=List Str) (fun (kq:Nat)(Y:List Str) a w=>∃J L O G,Sat 35 [(1,sl A5 N5 C5),(2,pt w0.z),(5,sl J L O),(14,sl ad ae af),(15,vI (ab.length:Int)),(16,vI ((kq:Nat):Int))] a/\Chg (· ∈ [H.z]) I w/\a_ w G (sl J L O) Y/\G.Nodup/\(∀k∈G,k∈[H.z]∨I.z<=k)) (fun (Y:List Str) a w=>∃J L O G,Sat 35 [(5,sl J L O)] a/\Chg (· ∈ [H.z]) I w/\a_ w G (sl J L O) Y/\G.Nodup/\(∀k∈G,k∈[H.z]∨I.z<=k)) (rQ prog fn<|Q32 w0 B) aq ?_ ?_ ?_ ?_ ?_
 ·exact fun _ q=>⟨ax,ns,cy,[H.z],q.k<|s6 z z z z z z,cr [H.z] I,(hn.e s7).e sa,a_k,io sr⟩
 ·rintro kq Y _ aI _ a5 ⟨J,L,O,G,ar,sb,hd,he,hh⟩ au;refine Wu ?_ ar;refine Ws<|Rl z z z<|Wn<|Wq<|Wc z (fun _=>?_) (fun hc=>(a_2 a5 hc).elim)
  refine Wk<|Wq<|Wb<|Ws ?_
  obtain ⟨_,aJ,av⟩:=bdS au;refine RX z (at_ (α:=Int) o_ z_3 z z z (or_ (hi.c sb<|b_e aH (a_.lt hn) s7.s)<|a_.lt hi) aJ) ?_;rintro _ ⟨_,_,_,rfl,aK,aL,_⟩;obtain ⟨rfl,aM⟩:=M_ aL;refine R z (l0 g_3 z<|aK.at0 z)<|Rw z<|Wm z<|Rm z ?_
  have ah:=(aa.e sa).c sb<|b_ (or0 (c_ lr) (k_<|zt' a0 W.s):∀k∈[H.z],¬B k)
  obtain ⟨_,aN,aw⟩:=bdS av;refine E z (fc call23 z<|i_3 aN (zt' a0<|lt_ (lt_ hp sa.s) sb.s) (ao.g ah) aM) ?_;rintro _ V ⟨sc,rfl,_⟩;refine Rq z z z<|Wn ?_
  obtain ⟨aO,a6,ay⟩:=bdS aw;refine Wt (fun a w=>∃(xj:List Str),xj=aO/\∃ak nl cm Sf,Sat 35 [(1,sl A5 N5 C5),(2,pt w0.z),(5,sl ak nl cm),(14,sl ad ae af),(15,vI (ab.length:Int)),(16,vI ((kq:Nat):Int))] a/\Chg (· ∈ G) V w/\a_ w Sf (sl ak nl cm) xj/\Sf.Nodup/\(∀k∈Sf,k∈G∨V.z<=k)) ?_ ?_
  ·refine Wc z (fun hcr=>?_)<|fun hcr=>?_
   ·refine Wg<|Rm z<|Rf z R_ z<|R z (l0 T_ z<|(((a9.e sa).c sb<|djs<|mmr hw.lt).e sc).at z)<|Rm z ?_
    obtain ⟨aP,aQ,az⟩:=bdS<|ifT a6 hcr;refine RX z (at_ (α:=e_) U_ m_ z z z (a1.g<|ah.e sc) aQ) ?_;rintro _ ⟨_,_,_,rfl,aR,aS,_⟩;obtain ⟨_,_,_,_,_,_,_,_,_,_,_,_,rfl,ai,_,_,_,_,_,_⟩:=a_m aS;refine Rf z c_K z<|R z (l0 g_9 z<|aR.at (j:=0) z)<|E z (fS [(.tmp 30)] b_o z z z (a_c z) (lb z)<|lb z) ?_
    rintro _ aj ⟨rfl,ht⟩;have hu:=ht.below;have be:=a_x ht<|c_e ai
    obtain ⟨aT,aU,aA⟩:=bdS az;refine E z (a_O (α:=Str) b_o aU z z ((hd.e sc).e hu) he (ht.blk:Blk aj V.z [Str.v aP.name]) (c_e ai) an_ G_) ?_;rintro _ aV ⟨al,aW,aX,aY,rfl,aZ,b0,b1,b2⟩;refine Ra z<|Wl ?_
    exact fun _ q=>⟨aT,som aA,aW,aX,aY,al,q.k<|s6 z z z z z z,(cM (f_ (cr G V) hu:Chg (· ∈ G) V aj) aZ (io sr):Chg (· ∈ G) V aV),b0,b1,(or2 b2 (io sr) an_ (s_ hu.s):∀k∈al,k∈G∨V.z<=k)⟩
   exact a_7<|fun _ q=>⟨Y,som<|ifF a6 hcr,J,L,O,G,q.k<|s6 z z z z z z,cr G V,hd.e sc,he,io sr⟩
  rintro b3 b4 ⟨xj,rfl,ak,nl,cm,Sf,_,b5,b6,b7,b8⟩;revert b3;refine Wo<|Wg<|R z (inc_ a5 (lt_ (a_.len hi) K_) z z)<|Rm z<|Wl ?_
  have am:∀k∈G,k∈[H.z]∨I.z<=k:=or1 hh (io sr)<|s_ lr;exact fun _ q=>⟨xj,(som ay).symm,⟨ak,nl,cm,Sf,q.k<|s6 z z z z z z,(cM (f_ (cM (cr [H.z] I) sb (io sr):Chg (· ∈ [H.z]) I aI) sc:Chg (· ∈ [H.z]) I V) b5 am:Chg (· ∈ [H.z]) I b4),b6,b7,(or1 b8 am (s_<|lt_ sb.s sc.s):∀k∈Sf,k∈[H.z]∨I.z<=k)⟩⟩
 ·rintro Y _ b9 ⟨J,L,O,G,aB,ba,hd,he,hh⟩;refine Wu ?_ aB;refine Ws<|Rl z z z<|Wn<|Wq<|Wc z (fun hc=>(a_3 hc).elim) (fun _=>?_)
  exact We<|fun _ q=>⟨rfl,⟨J,L,O,G,q.k<|s1 z,(cM (cr [H.z] I) ba (io sr):Chg (· ∈ [H.z]) I b9),hd,he,(or1 hh (io sr) (s_ lr):∀k∈G,k∈[H.z]∨I.z<=k)⟩⟩
 ·rintro Y bb _ rfl ⟨J,L,O,G,_,bc,hd,he,hh⟩;have aC:=elL a4;revert bb;refine Wo<|Wm z<|Rw z ?_
  obtain rfl:=som aC;have an:=m1 W.s;exact Wr<|h_ hr z ⟨bM (bup (bup (bup W sg) s7) sa) bc an,J,L,O,G,z,hd,he,a_i hh an<|lt_ hp sa.s⟩
 rintro _ _ _ _ rfl ⟨rfl,aD⟩;have aE:=elR a4;obtain rfl:=som aE;exact ⟨aD,z⟩
theorem W_w2z {x1:Int}{x2:Int}{res:Bool}(hm:e_A x1 x2=some res)(I:B<=w0.z)(G:inI x1)(H:inI x2):n_ prog 50 [vI x1,vI x2] w0 (Q0 w0 B res):=by
 unfold e_A at hm
 refine goG func50 z z z fun fn hr=>Ws<|Rw z<|Wm z<|Rm z<|R z (a_e z z)<|Rw z ?_
 obtain rfl:=som hm;exact Wr<|h_ hr z ⟨br w0,z⟩
theorem W_w30 {x2:Int}{x3:List Int}{res:Int}(hm:h_9 x2 x3=some res)(W:B<=w0.z)(V:inI x2)(H:repS w0 B (sl A7 N7 C7) x3):n_ prog 49 [(.func (.func 50) #[] #[]),vI x2,sl A7 N7 C7] w0 (Q9 w0 B res):=by
 unfold h_9 at hm
 refine goG func49 z z z fun fn hr=>Ws<|Rw z<|Wq<|Wm z<|R z (lnR o_ z H)<|Rm z<|Wn ?_
 obtain ⟨_,hub,J⟩:=bdS hm;refine Wf (σ:=Int) (ρ:=Int) (fun (k3:Nat)(x0:Int) a w=>Sat 22 [(0,.func (.func 50) #[] #[]),(1,vI x0),(9,sl A7 N7 C7),(10,vI (x3.length:Int)),(11,vI ((k3:Nat):Int))] a/\Below w0.z w0 w/\inI x0) (fun (x0:Int) a w=>Sat 22 [(1,vI x0)] a/\Below w0.z w0 w/\inI x0) (rQ prog fn<|Q9 w0 B) hub ?_ ?_ ?_ ?_ ?_
 ·exact fun _ q=>⟨q.k<|s5 z z z z z,br w0,V⟩
 ·rintro k3 x0 _ _ _ L ⟨hSc,s6,h1⟩ hmd;refine Wu ?_ hSc;refine Ws<|Rl z z z<|Wn<|Wq<|Wc z (fun _=>?_) (fun hc=>(a_2 L hc).elim)
  refine Wk<|Wq<|Wb<|Ws ?_
  obtain ⟨xe,ef,hmg⟩:=bdS hmd;refine RX z (at_ (α:=Int) o_ z_3 z z z (H.e s6) ef) ?_;rintro _ ⟨_,_,_,rfl,hh,hi,_⟩;obtain ⟨rfl,O⟩:=M_ hi;refine R z (l0 g_3 z<|hh.at0 z)<|Rw z<|Wm z<|RM z z ?_
  obtain ⟨_,ej,hmk⟩:=bdS hmg;refine E z (n_2 call50 z z<|W_w2z ej (zt' W s6.s) O h1) ?_;rintro _ G ⟨sm,rfl⟩;refine Wn ?_;obtain ⟨ul,hua,hmn⟩:=bdS hmk;refine Wt (fun a w=>∃(x4:Int),x4=ul/\Sat 22 [(0,.func (.func 50) #[] #[]),(1,vI x4),(9,sl A7 N7 C7),(10,vI (x3.length:Int)),(11,vI ((k3:Nat):Int))] a/\Below G.z G w/\inI x4) ?_ ?_
  ·refine Wc z (fun I=>?_)<|fun I=>?_
   ·exact Wg<|Rm z<|Ra z<|Wl (fun _ q=>⟨xe,som<|ifT hua I,q.k<|s5 z z z z z,br G,O⟩)
   exact a_7<|fun _ q=>⟨x0,som<|ifF hua I,q.k<|s5 z z z z z,br G,h1⟩
  rintro ao _ ⟨x4,rfl,_,sp,hq⟩;revert ao;exact Wo<|Wg<|R z (inc_ L (lt_ (repS.len H) K_) z z)<|Rm z<|Wl (fun _ q=>⟨x4,(som hmn).symm,⟨q.k<|s5 z z z z z,bup (bup s6 sm) sp,hq⟩⟩)
 ·rintro x0 _ _ ⟨hSr,ss,h1⟩;refine Wu ?_ hSr;refine Ws<|Rl z z z<|Wn<|Wq<|Wc z (fun hc=>(a_3 hc).elim) (fun _=>?_)
  exact We<|fun _ q=>⟨rfl,⟨q.k<|s1 z,ss,h1⟩⟩
 ·rintro x0 au _ rfl ⟨_,st,h1⟩;have hmv:=elL J;revert au;refine Wo<|Wm z<|Rw z ?_
  obtain rfl:=som hmv;exact Wr<|h_ hr z ⟨st,z,h1⟩
 rintro _ _ _ _ rfl ⟨rfl,hqw⟩;have hmx:=elR J;obtain rfl:=som hmx;exact ⟨hqw,z⟩
theorem W_w31 {x1:Int}{x2:Int}{res:Int}(hm:f_m x1 x2=some res)(V:B<=w0.z)(I:inI x1)(J:inI x2):n_ prog 24 [vI x1,vI x2] w0 (Q9 w0 B res):=by
 unfold f_m at hm
 refine goG func24 z z z fun fn hr=>Ws<|Rw z<|Wm z<|Rm z<|E z (fS [(.tmp 6)] a_Y z z z (a_c z) (lb z)<|lb z) ?_
 rintro _ H ⟨rfl,G⟩;have h6:Blk H w0.z [vI x2]:=G.blk;obtain ⟨_,O,L⟩:=bdS hm;refine E z (fc call49 z<|W_w30 (B:=H.z) O zr I<|a_.rep<|a_x G<|a_Q J) ?_;rintro _ _ ⟨s4,rfl,h5⟩;refine Rw z ?_
 obtain rfl:=som L;exact Wr<|h_ hr z ⟨bup G.below s4,z,h5⟩
theorem W_w32 {x1:List Int}{x2:List Int}{res:(List Int)}(hm:f_n x1 x2=some res)(Y:B<=w0.z)(a0:repS w0 B (sl A0 N0 C0) x1)(a1:repS w0 B (sl A5 N5 C5) x2):n_ prog 10 [sl A0 N0 C0,sl A5 N5 C5] w0 (Q31 w0 B res):=by
 unfold f_n at hm
 refine goG func10 z z z fun fn hr=>Ws<|Rw z<|Wm z<|R z (lnR o_ z a0)<|Rm z<|R z (lnR o_ z a1) ?_
 obtain ⟨_,eq,hmr⟩:=bdS hm;refine E z (fc call24 z<|W_w31 (B:=B) eq Y (a_N<|repS.len a0)<|a_N<|repS.len a1) ?_;rintro _ G ⟨s3,rfl,_⟩;obtain ⟨xs,et,hmu⟩:=bdS hmr;refine E z (h_I (α:=Int) a_Y (fun _=>a_Q<|ii z) et z z) ?_;rintro _ H ⟨J,L,O,rfl,sd,V⟩;refine Rw z<|Wq<|Wm z<|R z (lnR o_ z<|a_.rep V)<|Rm z<|Wn ?_
 obtain ⟨_,huv,hmh⟩:=bdS hmu;refine Wf (σ:=List Int) (ρ:=List Int) (fun (ki:Nat)(x4:List Int) a w=>∃(I:List Nat),Sat 30 [(0,sl A0 N0 C0),(1,sl A5 N5 C5),(5,sl J L O),(14,vI (xs.length:Int)),(15,vI ((ki:Nat):Int))] a/\Chg (· ∈ [G.z]) H w/\a_ w I (sl J L O) x4/\I.Nodup/\(∀k∈I,k∈[G.z]∨H.z<=k)) (fun (x4:List Int) a w=>∃(I:List Nat),Sat 30 [(5,sl J L O)] a/\Chg (· ∈ [G.z]) H w/\a_ w I (sl J L O) x4/\I.Nodup/\(∀k∈I,k∈[G.z]∨H.z<=k)) (rQ prog fn<|Q31 w0 B) huv ?_ ?_ ?_ ?_ ?_
 ·exact fun _ q=>⟨[G.z],q.k<|s5 z z z z z,cr [G.z] H,V,a_k,io sr⟩
 ·rintro ki x4 _ ww _ hke ⟨I,hSx,sf,W,ha,hb⟩ hmy;refine Wu ?_ hSx;refine Ws<|Rl z z z<|Wn<|Wq<|Wc z (fun _=>?_) (fun hc=>(a_2 hke hc).elim)
  refine Wk<|Wq<|Wb<|Wm z<|Rw z<|Wg<|RM z z<|RM z z ?_
  have hj:=((s3.ag B).e sd).c sf<|b_ (or0 (c_ lr) (k_<|zt' Y s3.s):∀k∈[G.z],¬B k)
  have hk:=lt_ (lt_ s3.s sd.s) sf.s;obtain ⟨_,aa,a2⟩:=bdS hmy;refine E z (fc call23 z<|i_3 aa (zt' Y hk) (a0.g hj)<|ic (Nat.le_of_lt hke)<|lt_ (a_.len V) K_) ?_;rintro _ ab ⟨sc,rfl,_⟩;refine RM z z ?_
  obtain ⟨_,ad,a3⟩:=bdS a2;refine E z (fc call23 z<|i_3 ad (zt' Y<|lt_ hk sc.s) (a1.g<|hj.e sc)<|ic (Nat.le_of_lt hke)<|lt_ (a_.len V) K_) ?_;rintro _ ae ⟨sg,rfl,_⟩;refine R z (add_ z z) ?_;obtain ⟨af,el,a4⟩:=bdS a3;have hn:=(W.e sc).e sg;refine RX z (h_E (α:=Int) o_ z_3 z z hn el) ?_;rintro _ ⟨_,ah,rfl⟩;refine E0 (e_E (α:=Int) z_3 z ah z z z el hn ha (a_Q<|iA _ _) an_ G_) ?_;rintro _ ai ⟨Sm,aj,ak,al,am⟩;refine Wn<|Wg<|R z (inc_ hke (lt_ (a_.len V) K_) z z)<|Rm z<|Wl ?_
  have ho:∀k∈I,k∈[G.z]∨H.z<=k:=or1 hb (io sr)<|s_ lr;exact fun _ q=>⟨af,(som a4).symm,⟨Sm,q.k<|s5 z z z z z,(cM (f_ (f_ (cM (cr [G.z] H) sf (io sr):Chg (· ∈ [G.z]) H ww) sc:Chg (· ∈ [G.z]) H ab) sg:Chg (· ∈ [G.z]) H ae) aj ho:Chg (· ∈ [G.z]) H ai),ak,al,(or2 am ho an_ (s_<|lt_ (lt_ sf.s sc.s) sg.s):∀k∈Sm,k∈[G.z]∨H.z<=k)⟩⟩
 ·rintro x4 _ an ⟨I,a6,ao,W,ha,hb⟩;refine Wu ?_ a6;refine Ws<|Rl z z z<|Wn<|Wq<|Wc z (fun hc=>(a_3 hc).elim) (fun _=>?_)
  exact We<|fun _ q=>⟨rfl,⟨I,q.k<|s1 z,(cM (cr [G.z] H) ao (io sr):Chg (· ∈ [G.z]) H an),W,ha,(or1 hb (io sr) (s_ lr):∀k∈I,k∈[G.z]∨H.z<=k)⟩⟩
 ·rintro x4 ap _ rfl ⟨I,_,aq,W,ha,hb⟩;have a7:=elL hmh;revert ap;refine Wo<|Wm z<|Rw z ?_
  obtain rfl:=som a7;have hp:=m1 s3.s;exact Wr<|h_ hr z ⟨bM (bup s3 sd) aq hp,J,L,O,I,z,W,ha,a_i hb hp<|lt_ s3.s sd.s⟩
 rintro _ _ _ _ rfl ⟨rfl,a8⟩;have a9:=elR hmh;obtain rfl:=som a9;exact ⟨a8,z⟩
theorem W_w33 {x1:d_}{x2:List UInt8}{res:(List Str)}(hm:h_6 n x1 x2=some res)(W:B<=w0.z)(hG:Gl w0 B)(aj:repS w0 B (sl A0 N0 C0) x1.rules)(aG:repS w0 B (sl A5 N5 C5) x2):n_ prog 12 [(.agg #[sl A0 N0 C0]),sl A5 N5 C5] w0 (Q32 w0 B res):=by
 unfold h_6 at hm
 refine goG func12 z z z fun fn hr=>Ws<|E z (fb z) ?_
 rintro _ J ⟨rfl,aL⟩;have hw:=aL.below;have Y:Blk J w0.z [sl A0 N0 C0]:=aL.blk;refine Rw z<|Ws<|E z (f0 (α:=Str) b_o) ?_
 rintro _ _ ⟨c9,ca,cb,rfl,sx,am⟩;refine Rw z<|Ws ?_
 have aM:=Y.e sx;refine R z (lN (vs:=[sl A0 N0 C0]) t_ q_ z z fid<|aM.row 0 1 z)<|Rm z ?_
 have an:=(hw.ag B).e sx;have aN:=(hG.e hw).e sx;have ao:=lt_ hw.s sx.s;obtain ⟨ap,_,cc,bS⟩:=a_t hm;refine E z (fc call20 z<|W_w1y cc (zt' W ao) aN (aj.g an)<|aG.g an) ?_;rintro _ H ⟨sj,aq,ar,au,_,rfl,a0,_,cd⟩;refine Rm z<|Re z z z<|Re z z z<|Ra z<|Rw z<|Ws<|E z (o_r e_J e_K) ?_
 rintro _ wa ⟨rfl,sk,hp⟩;refine Rw z<|Wq<|Wm z ?_
 have aO:=a0.e sk;refine R z (lnR c_j z<|or_ aO<|a_.lt a0)<|Rm z<|Wn ?_
 obtain ⟨_,bT,aH⟩:=bdS bS;refine Wf (σ:=(List Str)×(a_F->Bool)) (ρ:=List Str) (fun (a2:Nat) s a w=>un2 (fun xm xl=>∃ac nf cg G,Sat 73 [(1,sl A5 N5 C5),(2,pt w0.z),(5,sl ac nf cg),(8,.map<|some H.z),(24,sl aq ar au),(25,vI (ap.length:Int)),(26,vI ((a2:Nat):Int))] a/\Chg (· ∈ ([H.z]++[J.z])) wa w/\a_ w G (sl ac nf cg) xm/\G.Nodup/\(∀k∈G,k∈[J.z]∨wa.z<=k)/\a_Z e_J e_K w H.z xl) s) (fun s a w=>un2 (fun xm xl=>∃ac nf cg G,Sat 73 [(5,sl ac nf cg)] a/\Chg (· ∈ ([H.z]++[J.z])) wa w/\a_ w G (sl ac nf cg) xm/\G.Nodup/\(∀k∈G,k∈[J.z]∨wa.z<=k)/\a_Z e_J e_K w H.z xl) s) (rQ prog fn<|Q32 w0 B) bT ?_ ?_ ?_ ?_ ?_
 ·exact fun _ q=>⟨c9,ca,cb,[J.z],q.k<|s7 z z z z z z z,cr ([H.z]++[J.z]) wa,(am.e sj).e sk,a_k,io sr,hp⟩
 ·rintro a2 ⟨xm,xl⟩ _ I _ aI ⟨ac,nf,cg,G,bU,sh,L,ht,hu,a1⟩ bV;refine Wu ?_ bU;refine Ws<|Rl z z z<|Wn<|Wq<|Wc z (fun _=>?_) (fun hc=>(a_2 aI hc).elim)
  refine Wk<|Wq ?_
  obtain ⟨ce,bW,bX⟩:=bdS<|a_G bV;refine Wt (fun a w=>∃(a3:List Str)(a4:(a_F->Bool)),(a3,a4)=ce/\∃a5 a6 a7 Sr,Sat 73 [(1,sl A5 N5 C5),(2,pt w0.z),(5,sl a5 a6 a7),(8,.map<|some H.z),(24,sl aq ar au),(25,vI (ap.length:Int)),(26,vI ((a2:Nat):Int))] a/\Chg (· ∈ ([H.z]++G)) I w/\a_ w Sr (sl a5 a6 a7) a3/\Sr.Nodup/\(∀k∈Sr,k∈G∨I.z<=k)/\a_Z e_J e_K w H.z a4) ?_ ?_
  ·refine Wb<|Ws ?_
   obtain ⟨V,cf,bY⟩:=bdS bW;refine RX z (at_ (α:=u_) c_j b_p z z z (or_ (aO.c sh<|nmA (ds<|mnr<|a_.lt a0)<|b_e cd (a_.lt am) lr)<|a_.lt a0) cf) ?_;rintro _ ⟨_,_,_,rfl,ch,ci,_⟩;obtain ⟨rfl,_,av,cj,_⟩:=f_y ci;refine R z (lN (vs:=[Str.v V.path,vI V.rule,vI V.start,vI V.end_]) e_F b_p z z fid ch)<|E z (fa h_W) ?_
   rintro _ aw ⟨rfl,aP⟩;have h4:=aP.below;have ax:Blk aw I.z [(Str.v (⟨[]⟩:Str)),vI 0,vI 0,vI 0]:=aP.blk;refine E0 (fs0 (cur':=[Str.v V.path,vI V.rule,vI V.start,vI V.end_]) b_p z z ax z z z z) ?_;rintro _ wy ⟨aQ,ck⟩;have h3:=ck.one;refine Wn<|Ws<|Rf z R_ z ?_
   have aR:=lt_ sx.s sj.s;have aS:=lt_ (lt_ aR sk.s) sh.s;have aT:=((((aM.e sj).e sk).c sh<|atp<|nmA (ds<|mm1 Y.lt aR)<|ds<|mmr Y.lt).e h4).c h3<|djs<|mm1 Y.lt aS
   refine R z (l0 T_ z<|aT.at z)<|Rf z e_6 z<|R z (l0 g_3 z<|aQ.at z) ?_
   obtain ⟨aU,cl,aJ⟩:=bdS bY;have aV:∀k∈[J.z],¬B k:=or0 (c_ lr)<|k_<|zt' W hw.s;have aW:=lt_ ao sj.s;have ay:∀k∈[H.z],¬B k:=or0 (c_ lr)<|k_<|zt' W aW;have aX:=lt_ (lt_ aW sk.s) sh.s;have aY:∀k∈[I.z],¬B k:=or0 (c_ lr)<|k_<|zt' W aX;have aZ:=((((an.e sj).e sk).c sh<|nmA (b_ ay)<|b_ aV).e h4).c h3<|b_ aY
   refine RX z (at_ (α:=e_) U_ m_ z z z (aj.g aZ) cl) ?_;rintro _ ⟨_,_,_,rfl,cm,cn,_⟩;obtain ⟨b0,b1,b2,b3,b4,b5,b6,b7,b8,b9,ba,bb,rfl,_,_,_,_,_,_,_⟩:=a_m cn;refine R z (lN (vs:=vR aU b0 b1 b2 b3 b4 b5 b6 b7 b8 b9 ba bb) I_ m_ z z fid cm)<|E z (fa b_g) ?_
   rintro _ az ⟨rfl,bc⟩;have O:=bc.below;have aA:Blk az wy.z [(Str.v (⟨[]⟩:Str)),vI 0,vI 0,vB false,sl none 0 0,sl none 0 0,sl none 0 0,sl none 0 0]:=bc.blk;refine E0 (fs0 (cur':=vR aU b0 b1 b2 b3 b4 b5 b6 b7 b8 b9 ba bb) m_ z z aA z z z z) ?_;rintro _ be ⟨bf,co⟩;have h5:=co.one;refine Wn<|Wq<|Ws<|Rf z a_n z<|R z (l0 g_3 z<|bf.at z)<|R z (nq z z)<|Wx z (fun ak=>?_) (fun ak=>?_)
   ·refine We<|exH ?_
    have bg:=lt_ h4.s h3.s;exact fun _ q=>⟨xm,xl,som<|ifT aJ ak,ac,nf,cg,G,q.k<|s7 z z z z z z z,(cM (f_ (cM (f_ (cr ([H.z]++G) I) h4:Chg (· ∈ ([H.z]++G)) I aw) h3 (mor lr:∀k∈[I.z],k∈([H.z]++G)∨I.z<=k):Chg (· ∈ ([H.z]++G)) I wy) O:Chg (· ∈ ([H.z]++G)) I az) h5 (mor bg:∀k∈[wy.z],k∈([H.z]++G)∨I.z<=k):Chg (· ∈ ([H.z]++G)) I be),(((L.e h4).c h3<|ds<|mnr<|a_.lt L).e O).c h5<|ds<|mno (a_.lt L) bg,ht,io sr,(((a1.e h4).c h3<|djs<|mm1 hp.lt sh.s).e O).c h5<|djs<|mm1 hp.lt<|lt_ (lt_ sh.s h4.s) h3.s⟩
   refine Wk<|Ws<|R z (lN (vs:=[sl A0 N0 C0]) t_ q_ z z fid<|((aT.e O).c h5<|djs<|mm1 Y.lt<|lt_ (lt_ aS h4.s) h3.s).row 0 1 z)<|Rf z e_6 z ?_
   have aB:=(aQ.e O).c h5<|djs<|mm1 ax.lt h3.s
   refine R z (l0 g_3 z<|aB.at z)<|Rm z<|Rf z k_Q z<|R z (l0 g_3 z<|aB.at z) ?_
   have bh:=lt_ (lt_ aX h4.s) h3.s;have bi:∀k∈[wy.z],¬B k:=or0 (c_ lr)<|k_<|zt' W bh;have bj:=(aZ.e O).c h5<|b_ bi
   have bk:=((((((aN.e sj).e sk).c sh<|nmA (b_ ay)<|b_ aV).e h4).c h3<|b_ aY).e O).c h5<|b_ bi
   have bm:=lt_ (lt_ bh O.s) h5.s;obtain ⟨rq,_,_,cp,bZ⟩:=v_<|ifF aJ ak;refine E z (fc call25 z<|i_1 cp (zt' W bm) bk (aj.g bj) av (aG.g bj) cj) ?_;rintro _ a8 ⟨sb,cq,ct,cu,_,cv,cw,cx,_,rfl,aC,_,_,_,_,_,_⟩;refine Rm z ?_
   iterate 3 refine Re z z z ?_
   refine E z (fa a_6) ?_;rintro _ bn ⟨rfl,bo⟩;have he:=bo.below;have bp:Blk bn a8.z [vI 0,sl none 0 0,sl none 0 0]:=bo.blk;refine E0 (fs0 (cur':=[vI rq.number,sl cq ct cu,sl cv cw cx]) i_ z z bp z z z z) ?_;rintro _ a9 ⟨bq,cy⟩;have hd:=cy.one;refine Ra z<|Rw z<|Ws<|Rf z e_6 z<|R z (l0 g_3 z<|(((aB.e sb).e he).c hd<|djs<|mm1 ax.lt<|lt_ (lt_ (lt_ h3.s O.s) h5.s) sb.s).at z)<|Rf z b_3 z<|R z (l0 g_3 z<|bq.at z)<|R z (bP (parts:=[(0,.tmp 51),(1,.tmp 53)]) (cs:=[vI V.rule,vI rq.number]) n_Z z z)<|E z (fa o_6) ?_
   rintro _ br ⟨rfl,bs⟩;have hn:=bs.below;refine E0 (fs0 (cur':=[vI V.rule,vI rq.number]) z_63 z z (bs.blk:Blk br a9.z [vI 0,vI 0]) z z z z) ?_;rintro _ wi ⟨bt,cz⟩;have ho:=cz.one;refine Wn<|Wm z<|R z (lN (vs:=[vI V.rule,vI rq.number]) g_63 z_63 z z fid<|bt.row 0 2 z) ?_
   have bu:=lt_ (lt_ sh.s h4.s) h3.s;have bv:=mm1 hp.lt bu;have bw:=lt_ (lt_ (lt_ bu O.s) h5.s) sb.s;have bx:=mm1 hp.lt bw;have aD:=((((((((a1.e h4).c h3<|djs<|mm1 hp.lt sh.s).e O).c h5<|djs bv).e sb).e he).c hd<|djs bx).e hn).c ho<|djs<|mm1 hp.lt<|lt_ (lt_ bw he.s) hd.s
   refine R z (o_s (k:=((⟨V.rule,rq.number⟩:a_F):a_F)) k_T z z ⟨av,aC⟩ fid aD)<|R z (not_ z)<|Wn ?_
   obtain ⟨cA,aK,c0⟩:=bdS bZ;refine Wt (fun a w=>∃(aa:List Str)(ab:(a_F->Bool)),(aa,ab)=cA/\∃ad ae af Sz,Sat 73 [(1,sl A5 N5 C5),(2,pt w0.z),(5,sl ad ae af),(8,.map<|some H.z),(24,sl aq ar au),(25,vI (ap.length:Int)),(26,vI ((a2:Nat):Int))] a/\Chg (· ∈ ([H.z]++G)) wi w/\a_ w Sz (sl ad ae af) aa/\Sz.Nodup/\(∀k∈Sz,k∈G∨wi.z<=k)/\a_Z e_J e_K w H.z ab) ?_ ?_
   ·refine Wc z (fun al=>?_)<|fun al=>?_
    ·refine Wm z<|R z (lN (vs:=[vI V.rule,vI rq.number]) g_63 z_63 z z fid<|bt.row 0 2 z)<|E0 (o_t (k:=((⟨V.rule,rq.number⟩:a_F):a_F)) k_T z z ⟨av,aC⟩ z aD) ?_
     rintro _ cB ⟨cC,sv⟩;refine Wn (Wd (X:=noX) 512 (pl_ 11 [6,8,9]) mo (by kernel_rfl) fun cD ss _=>dM z z z<|dR z z (fd c_K z) ?_);have bz:=lt_ h5.s sb.s;refine dR z z (l0 g_9 z<|(((((((bf.e sb).e he).c hd<|djs<|mm1 aA.lt bz).e hn).c ho<|djs<|mm1 aA.lt<|lt_ (lt_ bz he.s) hd.s).c sv<|atp bv).e ss).at z) ?_;obtain ⟨_,cE,c1⟩:=bdS<|ifT aK al;refine dR z z (c_g z z cE)<|dR z z (fd b_3 z)<|dR z z (l0 g_3 z<|((((bq.e hn).c ho<|djs<|mm1 bp.lt hd.s).c sv<|atp bx).e ss).at z) ?_
     have bA:=lt_ bm sb.s;have bB:=lt_ (lt_ bA he.s) hd.s;obtain ⟨_,cF,c2⟩:=bdS c1;refine dE z z (fc call26 z<|W_w1x cF (zt' W<|lt_ (lt_ (lt_ (lt_ bB hn.s) ho.s) sv.s) ss.s) (((((((bk.e sb).e he).c hd<|b_ (or0 (c_ lr) (k_<|zt' W bA):∀k∈[a8.z],¬B k)).e hn).c ho<|b_ (or0 (c_ lr) (k_<|zt' W bB):∀k∈[a9.z],¬B k)).c sv<|b_ ay).e ss) aC) (.inr fun _ _ h=>w_<|h.1) ?_;rintro _ bC ⟨ah,rfl,_⟩;obtain ⟨cG,aE,c3⟩:=bdS c2;refine dR z z (c_g z z aE)<|dE z z (fS [(.tmp 68)] b_o z z z (a_c z) (lb z)<|lb z) (.inr fun _ _ h=>w_<|h.2.below) ?_
     rintro _ bD ⟨rfl,aF⟩;have ai:=aF.below;have d9:=a_x aF<|c_e<|c_f aE
     have bE:=lt_ h4.s h3.s;have bF:=lt_ (lt_ (lt_ bE O.s) h5.s) sb.s;have bG:∀k∈G,k∉[H.z]:=or1 hu (ds<|mno (a_.lt am) sj.s)<|O_ (c_ hp.lt) lr;obtain ⟨cH,cI,c4⟩:=bdS c3;refine dE z z (a_O (α:=Str) b_o cI z z (((((((((((((L.e h4).c h3<|ds<|mnr<|a_.lt L).e O).c h5<|ds<|mno (a_.lt L) bE).e sb).e he).c hd<|ds<|mno (a_.lt L) bF).e hn).c ho<|ds<|mno (a_.lt L)<|lt_ (lt_ bF he.s) hd.s).c sv bG).e ss).e ah).e ai) ht (aF.blk:Blk bD bC.z [Str.v cG]) (c_e<|c_f aE) an_ G_) (.inl z) ?_;rintro _ cJ ⟨bH,cK,cL,cN,rfl,bI,cO,cP,cQ⟩;refine dQ z z z<|pD ?_
     exact fun _ q=>⟨cH,c_l xl ((⟨V.rule,rq.number⟩:a_F):a_F) true,som c4,cK,cL,cN,bH,q.k<|s7 z z z z z z z,(cM (f_ (f_ (f_ (cM (cr ([H.z]++G) wi) sv (io<|A_ sr):Chg (· ∈ ([H.z]++G)) wi cB) ss:Chg (· ∈ ([H.z]++G)) wi cD) ah:Chg (· ∈ ([H.z]++G)) wi bC) ai:Chg (· ∈ ([H.z]++G)) wi bD) bI (io<|C_ sr):Chg (· ∈ ([H.z]++G)) wi cJ),cO,cP,(or2 cQ (io sr) an_ (s_<|lt_ (lt_ (lt_ sv.s ss.s) ah.s) ai.s):∀k∈bH,k∈G∨wi.z<=k),(((cC.e ss).e ah).e ai).c bI<|djs bG⟩
    refine a_7 ?_;have bJ:=lt_ h4.s h3.s;have bK:=lt_ (lt_ (lt_ bJ O.s) h5.s) sb.s;exact fun _ q=>⟨xm,xl,som<|ifF aK al,ac,nf,cg,G,q.k<|s7 z z z z z z z,cr ([H.z]++G) wi,((((((((L.e h4).c h3<|ds<|mnr<|a_.lt L).e O).c h5<|ds<|mno (a_.lt L) bJ).e sb).e he).c hd<|ds<|mno (a_.lt L) bK).e hn).c ho<|ds<|mno (a_.lt L)<|lt_ (lt_ bK he.s) hd.s,ht,io sr,aD⟩
   rintro cR cS ⟨aa,ab,rfl,ad,ae,af,Sz,_,cT,cU,cV,cW,cX⟩;revert cR;have bL:=lt_ h4.s h3.s;have bN:=lt_ (lt_ (lt_ bL O.s) h5.s) sb.s;have bO:=lt_ (lt_ bN he.s) hd.s;exact fun _ q=>⟨aa,ab,som<|a_G c0,ad,ae,af,Sz,q.k<|s7 z z z z z z z,(cM (cM (f_ (cM (f_ (f_ (cM (f_ (cM (f_ (cr ([H.z]++G) I) h4:Chg (· ∈ ([H.z]++G)) I aw) h3 (mor lr:∀k∈[I.z],k∈([H.z]++G)∨I.z<=k):Chg (· ∈ ([H.z]++G)) I wy) O:Chg (· ∈ ([H.z]++G)) I az) h5 (mor bL:∀k∈[wy.z],k∈([H.z]++G)∨I.z<=k):Chg (· ∈ ([H.z]++G)) I be) sb:Chg (· ∈ ([H.z]++G)) I a8) he:Chg (· ∈ ([H.z]++G)) I bn) hd (mor bN:∀k∈[a8.z],k∈([H.z]++G)∨I.z<=k):Chg (· ∈ ([H.z]++G)) I a9) hn:Chg (· ∈ ([H.z]++G)) I br) ho (mor bO:∀k∈[a9.z],k∈([H.z]++G)∨I.z<=k):Chg (· ∈ ([H.z]++G)) I wi) cT (aa_ (io<|A_ sr)<|io<|C_ sr):Chg (· ∈ ([H.z]++G)) I cS),cU,cV,(or1 cW (io sr) (s_<|lt_ (lt_ bO hn.s) ho.s):∀k∈Sz,k∈G∨I.z<=k),cX⟩
  rintro cY cZ ⟨a3,a4,rfl,a5,a6,a7,Sr,_,d0,d1,d2,d3,d4⟩;revert cY;refine Wo<|Wg<|R z (inc_ aI (lt_ (a_.len a0) K_) z z)<|Rm z<|Wl ?_
  exact fun _ q=>⟨(a3,a4),(som<|a_G bX).symm,⟨a5,a6,a7,Sr,q.k<|s7 z z z z z z z,(cM (cM (cr ([H.z]++[J.z]) wa) sh (aa_ (io<|A_ sr)<|io<|C_ sr):Chg (· ∈ ([H.z]++[J.z])) wa I) d0 (aa_ (io<|A_ sr) (or1 hu (io<|C_ sr) (s_ lr):∀k∈G,k∈([H.z]++[J.z])∨wa.z<=k)):Chg (· ∈ ([H.z]++[J.z])) wa cZ),d1,d2,(or1 d3 (or1 hu (io sr) (s_ lr):∀k∈G,k∈[J.z]∨wa.z<=k) (s_ sh.s):∀k∈Sr,k∈[J.z]∨wa.z<=k),d4⟩⟩
 ·rintro ⟨xm,xl⟩ _ d5 ⟨ac,nf,cg,G,c5,d6,L,ht,hu,a1⟩;refine Wu ?_ c5;refine Ws<|Rl z z z<|Wn<|Wq<|Wc z (fun hc=>(a_3 hc).elim) (fun _=>?_)
  exact We<|fun _ q=>⟨rfl,⟨ac,nf,cg,G,q.k<|s1 z,(cM (cr ([H.z]++[J.z]) wa) d6 (aa_ (io<|A_ sr)<|io<|C_ sr):Chg (· ∈ ([H.z]++[J.z])) wa d5),L,ht,(or1 hu (io sr) (s_ lr):∀k∈G,k∈[J.z]∨wa.z<=k),a1⟩⟩
 ·rintro ⟨xm,xl⟩ d7 _ rfl ⟨ac,nf,cg,G,_,d8,L,ht,hu,a1⟩;have c6:=elL aH;revert d7;refine Wo<|Wm z<|Rw z ?_
  obtain rfl:=som<|a_G c6;have bQ:=m1 hw.s;have bR:=lt_ ao sj.s;exact Wr<|h_ hr z ⟨bM (bup (bup (bup hw sx) sj) sk) d8<|aa_ (m1 bR) bQ,ac,nf,cg,G,z,L,ht,a_i hu bQ<|lt_ bR sk.s⟩
 rintro _ _ _ _ rfl ⟨rfl,c7⟩;have c8:=elR aH;obtain rfl:=som c8;exact ⟨c7,z⟩
theorem W_w34 {x1:Str}{x2:UInt8}{res:(List Str)}(hm:g_q n x1 x2=some res)(aM:B<=w0.z)(Y:x1.b.length<=LEN):n_ prog 115 [Str.v x1,vU<|byteI x2] w0 (Q32 w0 B res):=by
 unfold g_q at hm
 refine goG func115 z z z fun fn hr=>Ws<|Rw z<|Ws<|E z (f0 (α:=Str) b_o) ?_
 rintro _ H ⟨ah,aj,ak,rfl,ss,al⟩;refine Rw z<|Ws<|Rw z<|Wq<|Ws<|Rw z ?_
 obtain ⟨_,a4,hmr⟩:=bdS hm;refine b_M (σ:=(List Str)×Int×Int) (ρ:=List Str) (fun s a w=>un3 (fun W V x3=>∃a2 J L G,Sat 36 [(0,Str.v x1),(1,vU<|byteI x2),(5,sl a2 J L),(6,vI V),(7,vI x3)] a/\Chg (· ∈ [w0.z]) H w/\a_ w G (sl a2 J L) W/\G.Nodup/\(∀k∈G,k∈[w0.z]∨H.z<=k)/\inI V/\inI x3) s) (fun s a w=>un3 (fun W V x3=>∃a2 J L G,Sat 36 [(5,sl a2 J L)] a/\Chg (· ∈ [w0.z]) H w/\a_ w G (sl a2 J L) W/\G.Nodup/\(∀k∈G,k∈[w0.z]∨H.z<=k)/\inI V/\inI x3) s) (rQ prog fn<|Q32 w0 B) a4 ?_ ?_ ?_ ?_
 ·exact fun _ q=>⟨ah,aj,ak,[w0.z],q.k<|s5 z z z z z,cr [w0.z] H,al,a_k,io sr,ii z,ii z⟩
 ·rintro ⟨W,V,x3⟩ _ wa _ ⟨a2,J,L,G,a5,sm,hc,hd,hf,hl,hv⟩ a6;have hmw:=b_B a6;refine Wu ?_ a5;refine Wq<|Wm z<|Rm z<|R z (lnT d_9 z)<|R z (b_C z z)<|Wx z (fun hcn=>?_) (fun hcn=>?_)
  ·refine Wk<|Wq<|Wb<|Wq ?_
   obtain ⟨am,hux,a7⟩:=bdS<|ifT hmw hcn;refine Wt (fun a w=>∃(xo:Bool),xo=am/\Sat 36 [(0,Str.v x1),(1,vU<|byteI x2),(5,sl a2 J L),(6,vI V),(7,vI x3),(25,vB xo)] a/\Below wa.z wa w) ?_ ?_
   ·refine Wg<|RM z z<|R z (lnT d_9 z)<|Rq z z z<|Rm z ?_
    rcases bs (x3==(x1.b.length:Int)) with I | I
    ·iterate 5 refine Nh z I ?_
     exact R z (pT z I z)<|Wl (fun _ q=>⟨true,som<|ifT hux I,q.k<|s6 z z z z z z,br wa⟩)
    refine Rh z I (mv z)<|Rh z I (mv z) ?_
    obtain ⟨an,ey,a8⟩:=bdS<|ifF hux I;exact Rh z I (e_b d_9 z z (b_m ey).1 (b_m ey).2.1)<|Rh z I (mv z)<|Rh z I (eql z z)<|R z (pF z I z)<|Wl (fun _ q=>⟨(byteI an)==(byteI x2),som a8,q.k<|s6 z z z z z z,br wa⟩)
   rintro ao O ⟨xo,rfl,_,sg⟩;revert ao;refine Wo ?_;obtain ⟨ap,huz,a9⟩:=bdS a7;refine Wt (fun a w=>∃(xh:List Str)(xe:Int),(xh,xe)=ap/\∃ai nj ck Sb,Sat 36 [(0,Str.v x1),(1,vU<|byteI x2),(5,sl ai nj ck),(6,vI xe),(7,vI x3)] a/\Chg (· ∈ G) O w/\a_ w Sb (sl ai nj ck) xh/\Sb.Nodup/\(∀k∈Sb,k∈G∨O.z<=k)/\inI xe) ?_ ?_
   ·refine Wc z (fun hcp=>?_)<|fun hcp=>?_
    ·refine Wm z<|RM z z<|Rm z ?_
     obtain ⟨aq,eq,aa⟩:=bdS<|ifT huz hcp;refine R z (o_u d_9 z z z Y eq)<|E z (fS [(.tmp 30)] b_o z z z (a_c z) (lb z)<|lb z) ?_
     rintro _ a0 ⟨rfl,ht⟩;have hu:=ht.below;have aN:=a_x ht<|c_e<|k_J eq Y
     obtain ⟨ar,au,ab⟩:=bdS aa;refine E z (a_O (α:=Str) b_o au z z ((hc.e sg).e hu) hd (ht.blk:Blk a0 O.z [Str.v aq]) (c_e<|k_J eq Y) an_ G_) ?_;rintro _ av ⟨a1,aw,ax,ay,rfl,az,aA,aB,aC⟩;refine Rw z<|Wg<|Rm z<|R z (add_ z z)<|Ra z<|Wl ?_
     exact fun _ q=>⟨ar,g_ x3 1,som ab,aw,ax,ay,a1,q.k<|s5 z z z z z,(cM (f_ (cr G O) hu:Chg (· ∈ G) O a0) az (io sr):Chg (· ∈ G) O av),aA,aB,(or2 aC (io sr) an_ (s_ hu.s):∀k∈a1,k∈G∨O.z<=k),iA _ _⟩
    exact a_7<|fun _ q=>⟨W,V,som<|ifF huz hcp,a2,J,L,G,q.k<|s5 z z z z z,cr G O,hc.e sg,hd,io sr,hl⟩
   rintro aD aE ⟨xh,xe,rfl,ai,nj,ck,Sb,_,aF,aG,aH,aI,aJ⟩;revert aD;refine Wo<|Wg<|Rm z<|R z (add_ z z)<|Ra z<|Wl ?_
   have a3:∀k∈G,k∈[w0.z]∨H.z<=k:=or1 hf (io sr)<|s_ lr;exact fun _ q=>⟨(xh,xe,g_ x3 1),(som<|a_G a9).symm,⟨ai,nj,ck,Sb,q.k<|s5 z z z z z,(cM (f_ (cM (cr [w0.z] H) sm (io sr):Chg (· ∈ [w0.z]) H wa) sg:Chg (· ∈ [w0.z]) H O) aF a3:Chg (· ∈ [w0.z]) H aE),aG,aH,(or1 aI a3 (s_<|lt_ sm.s sg.s):∀k∈Sb,k∈[w0.z]∨H.z<=k),aJ,iA _ _⟩⟩
  exact We<|fun _ q=>b_t (som<|ifF hmw hcn).symm ⟨a2,J,L,G,q.k<|s1 z,(cM (cr [w0.z] H) sm (io sr):Chg (· ∈ [w0.z]) H wa),hc,hd,(or1 hf (io sr) (s_ lr):∀k∈G,k∈[w0.z]∨H.z<=k),hl,hv⟩
 ·rintro ⟨W,V,x3⟩ aK _ rfl ⟨a2,J,L,G,_,aL,hc,hd,hf,hl,hv⟩;have ad:=elL hmr;revert aK;refine Wo<|Wm z<|Rw z ?_
  obtain rfl:=som<|b_B ad;exact Wr<|h_ hr z ⟨bM ss aL<|c_ lr,a2,J,L,G,z,hc,hd,(or1 hf (c_ lr) (b_f ss.s):∀k∈G,w0.z<=k)⟩
 rintro _ _ _ _ rfl ⟨rfl,ae⟩;have af:=elR hmr;obtain rfl:=som af;exact ⟨ae,z⟩
def Q33 (w0:World)(B:Zone)(r:Int×Bool)(v:Value)(w':World):Prop:=Bw w0 w'/\un2 (fun G H=>v = .tuple #[vI G,vB H]/\inI G) r
theorem W_w35 {x1:Str}{res:Int×Bool}(hm:g_r n x1=some res)(I:B<=w0.z)(V:x1.b.length<=LEN):n_ prog 133 [Str.v x1] w0 (Q33 w0 B res):=by
 unfold g_r at hm
 refine goG func133 z z z fun fn hr=>Ws<|Ra z<|Rw z<|Wq<|Wm z<|R z (lnT d_9 z) ?_
 obtain ⟨_,en,hmc⟩:=bdS hm;refine E z (fc call99 z<|b_h (B:=B) en I (a_N V) (ii z)<|ii z) ?_;rintro _ H ⟨s4,rfl⟩;refine R z (not_ z)<|Wx z (fun J=>?_) (fun J=>?_)
 ·refine Ws<|Ra z<|Rw z ?_
  obtain rfl:=som<|ifT hmc J;exact Wr<|a_u hr z z ⟨s4,z,ii z⟩
 refine Wk<|Ws<|Rw z<|Wq<|Ws<|Rw z ?_
 obtain ⟨_,huo,hmd⟩:=bdS<|ifF hmc J;refine Wf (σ:=Int) (ρ:=Int×Bool) (fun (ke:Nat)(x0:Int) a w=>Sat 39 [(0,Str.v x1),(4,vI x0),(5,vI ((ke:Nat):Int))] a/\Below H.z H w/\inI x0) (fun (x0:Int) a w=>Sat 39 [(0,Str.v x1),(4,vI x0)] a/\Below H.z H w/\inI x0) (rQ prog fn<|Q33 w0 B) huo ?_ ?_ ?_ ?_ ?_
 ·exact fun _ q=>⟨q.k<|s3 z z z,br H,ii z⟩
 ·rintro ke x0 _ _ _ hkf ⟨hSp,s6,h3⟩ hmq;refine Wu ?_ hSp;refine Wq<|Wm z<|Rm z<|R z (lnT d_9 z)<|Rl z z z<|Wx z (fun _=>?_) (fun hc=>(a_2 hkf hc).elim)
  refine Wk<|Wq<|Wb<|Wq<|Wm z<|Rm z ?_
  obtain ⟨_,eg,hmr⟩:=bdS hmq;refine R z (e_b d_9 z z (b_m eg).1 (b_m eg).2.1)<|R z (b_U d_5 d_3 z) ?_
  obtain ⟨_,es,hmh⟩:=bdS hmr;refine E z (fc call99 z<|b_h es (zt' I<|lt_ s4.s s6.s) (i_Y _) (ii z)<|ii z) ?_;rintro _ _ ⟨si,rfl⟩;refine R z (not_ z)<|Wx z (fun L=>?_) (fun L=>?_)
  ·exact Ws<|Ra z<|Rw z<|Wr<|rtO<|qL (som<|ifT hmh L).symm<|a_u hr z z ⟨bup (bup s4 s6) si,z,ii z⟩
  refine Wk<|Wg<|Rm z<|R z (c_m z z)<|RM z z ?_
  obtain ⟨xt,ej,hmu⟩:=bdS<|ifF hmh L;exact R z (e_b d_9 z z (b_m ej).1 (b_m ej).2.1)<|R z (n_6 z z)<|R z (b_U d_5 d_3 z)<|R z (add_ z z)<|Rw z<|Wg<|Rm z<|R z (inc_ hkf (lt_ V K_) z z)<|Ra z<|Wl (fun _ q=>⟨g_ (a_1 10 x0)<|byteI<|mkB (byteI xt - byteI (48:UInt8)),(som hmu).symm,⟨q.k<|s3 z z z,bup s6 si,iA _ _⟩⟩)
 ·rintro x0 _ _ ⟨hSv,sw,h3⟩;refine Wu ?_ hSv;refine Wq<|Wm z<|Rm z<|R z (lnT d_9 z)<|Rl z z z<|Wx z (fun hc=>(a_3 hc).elim) (fun _=>?_)
  exact We<|fun _ q=>⟨rfl,⟨q.k<|s2 z z,sw,h3⟩⟩
 ·rintro x0 ax O rfl ⟨_,s9,h3⟩;have hmy:=elL hmd;revert ax;refine Wo<|Wq<|Wq ?_
  obtain ⟨uz,huk,hml⟩:=bdS hmy;refine Wt (fun a w=>∃(xa:Bool),xa=uz/\Sat 39 [(4,vI x0),(37,vB xa)] a/\Below O.z O w) ?_ ?_
  ·refine Wg<|Rm z<|R z (a_e z z)<|Rm z ?_
   rcases bs (decide<|1000000000000<x0) with G | G
   ·iterate 4 refine Nh z G ?_
    exact R z (pT z G z)<|Wl (fun _ q=>⟨true,som<|ifT huk G,q.k<|s2 z z,br O⟩)
   refine Rh z G (mv z) ?_;obtain ⟨a1,a2,W⟩:=bdS<|ifF huk G;refine Eg z z G z (fc call28 z<|e_L a2 (zt' I<|lt_ s4.s s9.s) h3) ?_;rintro _ _ ⟨a3,rfl,_⟩;exact Rh z G (mv z)<|Rh z G (j_H z z)<|R z (pF z G z)<|Wl (fun _ q=>⟨a1.b != x1.b,som W,q.k<|s2 z z,a3⟩)
  rintro a4 _ ⟨xa,rfl,_,sm⟩;revert a4;refine Wo<|Wc z (fun hcb=>?_) (fun hcb=>?_)
  ·refine Ws<|Ra z<|Rw z ?_
   obtain rfl:=som<|ifT hml hcb;exact Wr<|a_u hr z z ⟨bup (bup s4 s9) sm,z,ii z⟩
  refine Wk<|Wm z<|Ra z<|Rw z ?_
  obtain rfl:=som<|ifF hml hcb;exact Wr<|a_u hr z z ⟨bup (bup s4 s9) sm,z,h3⟩
 rintro _ _ _ _ rfl ⟨rfl,Y⟩;have a0:=elR hmd;obtain rfl:=som a0;exact ⟨Y,z⟩
theorem W_w36 {x1:Str}{res:Bool}(hm:e_j n x1=some res)(L:B<=w0.z)(Y:x1.b.length<=LEN):n_ prog 116 [Str.v x1] w0 (Q0 w0 B res):=by
 unfold e_j at hm
 refine goG func116 z z z fun fn hr=>Ws<|Rw z<|Wq<|Wq ?_
 obtain ⟨ug,huh,hma⟩:=bdS hm;refine Wt (fun a w=>∃(x6:Bool),x6=ug/\Sat 31 [(0,Str.v x1),(18,vB x6)] a/\Below w0.z w0 w) ?_ ?_
 ·refine Wg<|Rm z ?_
  obtain ⟨ri,ej,hmb⟩:=bdS huh;refine E z (fc call132 z<|j_9 (B:=B) ej L Y) ?_;rintro _ _ ⟨s4,rfl⟩;refine Rm z ?_
  rcases bs ri with H | H
  ·exact Nh z H<|Nh z H<|R z (pT z H z)<|Rm z<|Nh z z<|Nh z z<|R z (pT z z z)<|Rm z<|Nh z z<|Nh z z<|R z (pT z z z)<|Wl (fun _ q=>⟨true,som<|ifT hmb H,q.k<|s2 z z,s4⟩)
  have hmc:=ifF hmb H;refine Rh z H (mv z)<|Rh z H (c_P z z)<|R z (pF z H z)<|Rm z ?_
  rcases bs (x1.b==(⟨[42]⟩:Str).b) with I | I
  ·exact Nh z I<|Nh z I<|R z (pT z I z)<|Rm z<|Nh z z<|Nh z z<|R z (pT z z z)<|Wl (fun _ q=>⟨true,som<|ifT hmc I,q.k<|s2 z z,s4⟩)
  have hmd:=ifF hmc I;refine Rh z I (mv z)<|Rh z I (c_P z z)<|R z (pF z I z)<|Rm z ?_
  rcases bs (x1.b==(⟨[63]⟩:Str).b) with J | J
  ·exact Nh z J<|Nh z J<|R z (pT z J z)<|Wl (fun _ q=>⟨true,som<|ifT hmd J,q.k<|s2 z z,s4⟩)
  exact Rh z J (mv z)<|Rh z J (c_P z z)<|R z (pF z J z)<|Wl (fun _ q=>⟨x1.b==(⟨[43]⟩:Str).b,som<|ifF hmd J,q.k<|s2 z z,s4⟩)
 rintro ak _ ⟨x6,rfl,_,s5⟩;revert ak;refine Wo<|Wc z (fun O=>?_) (fun O=>?_)
 ·refine Ws<|Rw z ?_
  obtain rfl:=som<|ifT hma O;exact Wr<|h_ hr z ⟨s5,z⟩
 refine Wk<|Wm z ?_
 obtain ⟨_,rl,em,hmn⟩:=a_t<|ifF hma O;refine E z (fc call133 z<|W_w35 em (zt' L s5.s) Y) ?_;rintro _ V ⟨se,rfl,ho⟩;refine Rm z<|Re z z z<|Re z z z<|Ra z<|Rw z<|Wq ?_
 obtain ⟨up,huf,hmq⟩:=bdS hmn;refine Wt (fun a w=>∃(W:Bool),W=up/\Sat 31 [(2,vB W)] a/\Below V.z V w) ?_ ?_
 ·refine Wg<|RM z z ?_
  rcases bs rl with G | G
  ·refine Rh z G (mv z) ?_;obtain ⟨rr,es,hmt⟩:=bdS<|ifT huf G;refine Eg z z G z (fc call28 z<|e_L es (zt' L<|lt_ s5.s se.s) ho) ?_;rintro _ _ ⟨su,rfl,_⟩;exact Rh z G (mv z)<|Rh z G (c_P z z)<|R z (pT z G z)<|Ra z<|Wl (fun _ q=>⟨rr.b==x1.b,som hmt,q.k<|s1 z,su⟩)
  iterate 4 refine Nh z G ?_
  exact R z (pF z G z)<|Ra z<|Wl (fun _ q=>⟨false,som<|ifF huf G,q.k<|s1 z,br V⟩)
 rintro av _ ⟨W,rfl,_,sw⟩;revert av;refine Wo ?_;obtain rfl:=som hmq;exact Wr<|h_ hr z ⟨bup (bup s5 se) sw,z⟩
def Q34 (w0:World)(B:Zone)(r:(List Str)×Bool)(v:Value)(w':World):Prop:=Bw w0 w'/\un2 (fun J L=>∃G H I,v = .tuple #[sl G H I,vB L]/\repS w' (zn B w0.z w'.z) (sl G H I) J) r
theorem W_w37 {x1:Str}{res:(List Str)×Bool}(hm:g_s n x1=some res)(O:B<=w0.z)(V:x1.b.length<=LEN):n_ prog 89 [Str.v x1] w0 (Q34 w0 B res):=by
 unfold g_s at hm
 refine goG func89 z z z fun fn hr=>Ws<|Ra z<|Rw z<|Wq<|Wm z<|R z (c_P z z)<|Wx z (fun I=>?_) (fun I=>?_)
 ·refine Ws<|E z (f0 (α:=Str) b_o) ?_
  rintro _ _ ⟨aq,nr,cs,rfl,st,hc⟩;refine Ra z<|Rw z ?_
  obtain rfl:=som<|ifT hm I;exact Wr<|a_u hr z z ⟨st,aq,nr,cs,z,or_ hc<|zin (B:=B) (c_ lr)<|a_.lt hc⟩
 refine Wk<|Wm z ?_
 obtain ⟨_,eu,hmv⟩:=bdS<|ifF hm I;refine E z (fc call115 z<|W_w34 (B:=B) eu O V) ?_;rintro _ H ⟨s3,ad,ne,cf,_,rfl,G,_,h4⟩;refine Rw z<|Wq<|Wm z ?_
 obtain ⟨_,ew,hmg⟩:=bdS hmv;refine RX z (at_ (α:=Str) a_j z_9 z z z (or_ G<|zin (B:=B) h4<|a_.lt G) ew) ?_;rintro _ ⟨_,_,_,rfl,hx,hy,_⟩;obtain ⟨rfl,_⟩:=b_K hy;refine R z (l0 g_9 z<|hx.at0 z)<|R z (j_H z z)<|Wx z (fun J=>?_) (fun J=>?_)
 ·refine Ws<|E z (f0 (α:=Str) b_o) ?_
  rintro _ _ ⟨az,a5,a6,rfl,a7,hh⟩;refine Ra z<|Rw z ?_
  obtain rfl:=som<|ifT hmg J;exact Wr<|a_u hr z z ⟨bup s3 a7,az,a5,a6,z,repS.mono (or_ hh<|zin (B:=B) (c_ lr)<|a_.lt hh)<|i_7 s3.s lr⟩
 refine Wk<|Wq<|Ws<|Rw z ?_
 obtain ⟨_,W,hmi⟩:=bdS<|ifF hmg J;refine b_M (σ:=Int) (ρ:=(List Str)×Bool) (fun (x2:Int) a w=>Sat 34 [(4,sl ad ne cf),(5,vI x2)] a/\Below H.z H w/\inI x2) (fun (x2:Int) a w=>Sat 34 [(4,sl ad ne cf)] a/\Below H.z H w/\inI x2) (rQ prog fn<|Q34 w0 B) W ?_ ?_ ?_ ?_
 ·exact fun _ q=>⟨q.k<|s2 z z,br H,ii z⟩
 ·rintro x2 _ _ _ ⟨Y,s5,hj⟩ hmk;refine Wu ?_ Y;refine Wq<|Wm z<|Rm z ?_
  have hl:=G.e s5;refine R z (lnR a_j z<|or_ hl<|zin (B:=B) h4<|a_.lt G)<|Rl z z z<|Wx z (fun L=>?_) (fun L=>?_)
  ·refine Wk<|Wq<|Wb<|Wm z<|Rm z ?_
   obtain ⟨_,a8,a0⟩:=bdS<|ifT hmk L;refine RX z (at_ (α:=Str) a_j z_9 z z z (or_ hl<|zin (B:=B) h4<|a_.lt G) a8) ?_;rintro _ ⟨_,_,_,rfl,a9,aa,_⟩;obtain ⟨rfl,ab⟩:=b_K aa;refine R z (l0 g_9 z<|a9.at0 z) ?_;have hn:=lt_ s3.s s5.s;obtain ⟨_,ae,hmm⟩:=bdS a0;refine E z (fc call116 z<|W_w36 ae (zt' O hn) ab) ?_;rintro _ _ ⟨s9,rfl⟩;refine R z (not_ z)<|Wx z (fun hca=>?_) (fun hca=>?_)
   ·refine Ws<|E z (f0 (α:=Str) b_o) ?_
    rintro _ _ ⟨af,ah,ai,rfl,aj,ho⟩;exact Ra z<|Rw z<|Wr<|rtO<|qL (som<|ifT hmm hca).symm<|a_u hr z z ⟨bup (bup (bup s3 s5) s9) aj,af,ah,ai,z,repS.mono (or_ ho<|zin (B:=B) (c_ lr)<|a_.lt ho)<|i_7 (lt_ hn s9.s) lr⟩
   exact Wk<|Wg<|Rm z<|R z (add_ z z)<|Ra z<|Wl (fun _ q=>⟨g_ x2 1,(som<|ifF hmm hca).symm,⟨q.k<|s2 z z,bup s5 s9,iA _ _⟩⟩)
  exact We<|fun _ q=>b_t (som<|ifF hmk L).symm ⟨q.k<|s1 z,s5,hj⟩
 ·rintro x2 ak _ rfl ⟨_,sb,hj⟩;have a1:=elL hmi;revert ak;refine Wo<|Wm z ?_
  obtain ⟨_,al,a2⟩:=bdS a1;have hp:=G.e sb;refine RX z (rX a_j z_9 z z (or_ hp<|zin (B:=B) h4<|a_.lt G) z z al) ?_;rintro _ ⟨am,an,ao,rfl,ap⟩;refine Rm z<|R z (lnR a_j z<|or_ hp<|zin (B:=B) h4<|a_.lt G)<|R z (a_e z z)<|Ra z<|Rw z ?_
  obtain rfl:=som a2;exact Wr<|a_u hr z z ⟨bup s3 sb,am,an,ao,z,repS.mono ap<|i_7 lr sb.s⟩
 rintro _ _ _ _ rfl ⟨rfl,a3⟩;have a4:=elR hmi;obtain rfl:=som a4;exact ⟨a3,z⟩
def Q35 (w0:World)(B:Zone)(r:Int×Int×Int)(v:Value)(w':World):Prop:=Bw w0 w'/\un3 (fun G H I=>v = .tuple #[vI G,vI H,vI I]/\inI G/\inI H/\inI I) r
theorem W_w38 {x1:d_}{x2:e_}{x3:List UInt8}{x4:Int}{res:Int×Int×Int}(hm:g_y x1 x2 x3 x4=some res)(ad:B<=w0.z)(ap:repS w0 B (sl A0 N0 C0) x1.rules)(aq:x2.name.b.length<=LEN)(ar:inI x2.kind)(au:inI x2.size)(av:repS w0 B (sl A2 N2 C2) x2.bytes)(aw:repS w0 B (sl A3 N3 C3) x2.names)(ax:repS w0 B (sl A1 N1 C1) x2.tags)(W:repS w0 B (sl A4 N4 C4) x2.kids)(a0:repS w0 B (sl A7 N7 C7) x3)(V:inI x4):n_ prog 118 [(.agg #[sl A0 N0 C0]),.agg #[Str.v x2.name,vI x2.kind,vI x2.size,vB x2.little,sl A2 N2 C2,sl A3 N3 C3,sl A1 N1 C1,sl A4 N4 C4],sl A7 N7 C7,vI x4] w0 (Q35 w0 B res):=by
 unfold g_y at hm
 refine goG func118 z z z fun fn hr=>Ws<|E z (fb z) ?_
 rintro _ wb ⟨rfl,ae⟩;have h3:=ae.below;refine E z (fb z) ?_;rintro _ H ⟨rfl,af⟩;have I:=af.below;have hf:Blk H wb.z (vR x2 A2 N2 C2 A3 N3 C3 A1 N1 C1 A4 N4 C4):=af.blk;refine RA z z<|Rw z<|Wq<|Ws<|Rf z a_n z<|R z (l0 g_3 z<|hf.at z)<|Wn<|Wb<|Ws<|Rq z z z<|Rw z<|Wc z (fun hcg=>?_) (fun hcg=>?_)
 ·refine Wq (Wd (X:=noX) 0 (pl_ 7 []) mo (by kernel_rfl) fun bh sh _=>dM z z z<|dR z z (fd J_ z)<|dR z z (l0 D_ z<|(hf.e sh).at z) ?_);have ah:=W.g<|((h3.ag B).e I).e sh
  refine dR z z (lnR o_ z ah) ?_
  iterate 3 refine dQ z z z ?_
  refine pD<|Wo ?_
  obtain rfl:=som<|ifT hm hcg;exact Wr<|rtO<|F_ hr z z z ⟨bup (bup h3 I) sh,z,V,a_N<|repS.len ah,ii z⟩
 have a1:=ifF hm hcg;refine Ws<|Rq z z z<|Rw z<|Wc z (fun hci=>?_) (fun hci=>?_)
 ·refine Wm z<|RA z z<|Rw z ?_
  obtain rfl:=som<|ifT a1 hci;exact Wr<|rtO<|F_ hr z z z ⟨bup h3 I,z,V,ii z,ii z⟩
 refine Ws<|Rq z z z<|Rw z ?_
 obtain ⟨aN,a2,hmc⟩:=bdS<|ifF a1 hci;refine Wt (fun a w=>Sum.inl ()=aN/\Sat 81 [(3,vI x4)] a/\Below H.z H w) ?_ ?_
 ·refine Wc z (fun hcj=>?_)<|fun hcj=>?_
  ·refine Wq ?_;obtain ⟨aO,a3,a4⟩:=bdS<|ifT a2 hcj;refine Wt (fun a w=>∃(xk:Bool),xk=aO/\Sat 81 [(3,vI x4),(37,vB xk)] a/\Below H.z H w) ?_ ?_
   ·refine Wg<|RM z z ?_
    have ai:=a0.g<|(h3.ag B).e I
    refine R z (lnR p_ z ai)<|Rl z z z<|Rm z ?_
    rcases bs (decide<|x4<(x3.length:Int)) with G | G
    ·refine Rh z G (mv z)<|Rh z G (mv z) ?_
     obtain ⟨aP,aQ,ay⟩:=bdS<|ifT a3 G;refine RXg z z G z (at_ (α:=UInt8) p_ z_5 z z z ai aQ) ?_;rintro _ ⟨_,_,_,rfl,aR,aS,_⟩;obtain rfl:=u8 aS;exact Rh z G (l0 g_5 z<|aR.at0 z)<|Rh z G (eql z z)<|R z (pT z G z)<|Wl (fun _ q=>⟨(byteI aP)==(byteI (1:UInt8)),som ay,q.k<|s2 z z,br H⟩)
    iterate 5 refine Nh z G ?_
    exact R z (pF z G z)<|Wl (fun _ q=>⟨false,som<|ifF a3 G,q.k<|s2 z z,br H⟩)
   rintro aT _ ⟨xk,rfl,_,aj⟩;revert aT;refine Wo<|Wc z (fun hcl=>?_) (fun hcl=>?_)
   ·refine Wm z<|R z (add_ z z)<|RA z z<|Rw z ?_
    obtain rfl:=som<|ifT a4 hcl;have az:=elR hmc;obtain rfl:=som az;exact Wr<|rtO<|F_ hr z z z ⟨bup (bup h3 I) aj,z,iA _ _,ii z,ii z⟩
   exact a_7<|fun _ q=>⟨som<|ifF a4 hcl,q.k<|s1 z,aj⟩
  refine Wq<|Ws<|Rq z z z<|Rw z ?_
  obtain ⟨aU,a5,aA⟩:=bdS<|ifF a2 hcj;refine Wt (fun a w=>∃(xm:Bool),xm=aU/\Sat 81 [(2,sl A7 N7 C7),(3,vI x4),(4,pt w0.z),(5,pt wb.z),(40,vB xm)] a/\Below H.z H w) ?_ ?_
  ·refine Wc z (fun hcn=>?_)<|fun hcn=>?_
   ·exact a_7<|fun _ q=>⟨x2.kind==5,som<|ifT a5 hcn,q.k<|s5 z z z z z,br H⟩
   exact Wg<|Rq z z z<|Ra z<|Wl (fun _ q=>⟨x2.kind==7,som<|ifF a5 hcn,q.k<|s5 z z z z z,br H⟩)
  rintro aV wo ⟨xm,rfl,_,s6⟩;revert aV;refine Wo ?_;obtain ⟨aW,a6,hmp⟩:=bdS aA;refine Wt (fun a w=>Sum.inl ()=aW/\Sat 81 [(3,vI x4)] a/\Below wo.z wo w) ?_ ?_
  ·refine Wc z (fun hcq=>?_)<|fun hcq=>?_
   ·refine Wq (Wd (X:=noX) 0 (pl_ 15 [7]) mo (by kernel_rfl) fun bi s7 _=>dR z z (lN (vs:=[sl A0 N0 C0]) t_ q_ z z fid<|((((ae.blk:Blk wb w0.z [sl A0 N0 C0]).e I).e s6).e s7).row 0 1 z)<|dR z z (fd J_ z) ?_);have ht:=(hf.e s6).e s7;refine dR z z (l0 D_ z<|ht.at z) ?_;obtain ⟨_,aX,aB⟩:=bdS<|ifT a6 hcq;have hd:=(((h3.ag B).e I).e s6).e s7;refine dRX z z (at_ (α:=Int) o_ z_3 z z z (W.g hd) aX) ?_;rintro _ ⟨_,_,_,rfl,aY,aZ,_⟩;obtain ⟨rfl,b0⟩:=M_ aZ;refine dR z z (l0 g_3 z<|aY.at0 z)<|dM z z z<|dM z z z ?_
    have ak:=lt_ (lt_ (lt_ h3.s I.s) s6.s) s7.s;obtain ⟨rr,al,_,b1,aC⟩:=v_ aB;refine dE z z (fc call66 z<|f_O b1 (zt' ad ak) (ap.g hd) b0 (a0.g hd) V) (.inr fun _ _ h=>w_<|h.1) ?_;rintro _ O ⟨s9,rfl,hu,am⟩;refine dM z z z ?_
    iterate 3 refine dR z z (ext_ z z) ?_
    iterate 3 refine dQ z z z ?_
    refine pD<|Wo<|Wb<|Wm z<|R z (not_ z)<|Rw z ?_
    obtain ⟨b2,a7,hms⟩:=bdS aC;refine Wt (fun a w=>Sum.inl ()=b2/\Sat 81 [(3,vI x4)] a/\Below O.z O w) ?_ ?_
    ·refine Wc z (fun hcv=>?_)<|fun hcv=>?_
     ·exact a_7<|fun _ q=>⟨som<|ifT a7 hcv,q.k<|s1 z,br O⟩
     refine Wq ?_;obtain ⟨b3,a8,a9⟩:=bdS<|ifF a7 hcv;refine Wt (fun a w=>∃(xw:Bool),xw=b3/\Sat 81 [(3,vI x4),(5,pt wb.z),(11,vI rr),(12,vI al),(58,vB xw)] a/\Below O.z O w) ?_ ?_
     ·refine Wg<|Rf z a_n z<|R z (l0 g_3 z<|(ht.e s9).at z)<|Rq z z z<|Rm z ?_
      rcases bs (x2.kind==5) with L | L
      ·exact Rh z L (mv z)<|Rh z L (b_C z z)<|R z (pT z L z)<|Ra z<|Wl (fun _ q=>⟨decide<|rr<=40,som<|ifT a8 L,q.k<|s5 z z z z z,br O⟩)
      exact Nh z L<|Nh z L<|R z (pF z L z)<|Ra z<|Wl (fun _ q=>⟨false,som<|ifF a8 L,q.k<|s5 z z z z z,br O⟩)
     rintro b4 wx ⟨xw,rfl,_,sa⟩;revert b4;refine Wo<|Wc z (fun hcy=>?_) (fun hcy=>?_)
     ·refine Wm z<|Rm z<|RA z z<|Rw z ?_
      obtain rfl:=som<|ifT a9 hcy;have aD:=elR hms;obtain rfl:=som aD;have aE:=elR hmp;obtain rfl:=som aE;have aF:=elR hmc;obtain rfl:=som aF;exact Wr<|rtO<|rtO<|F_ hr z z z ⟨bup (bup (bup (bup (bup h3 I) s6) s7) s9) sa,z,am,hu,ii z⟩
     refine Wq ?_;obtain ⟨b5,aa,ab⟩:=bdS<|ifF a9 hcy;refine Wt (fun a w=>∃(xz:Bool),xz=b5/\Sat 81 [(3,vI x4),(11,vI rr),(12,vI al),(68,vB xz)] a/\Below wx.z wx w) ?_ ?_
     ·refine Wg<|Rf z a_n z ?_
      have an:=(ht.e s9).e sa;refine R z (l0 g_3 z<|an.at z)<|Rq z z z<|Rm z ?_
      rcases bs (x2.kind==7) with J | J
      ·refine Rh z J (lN (vs:=vR x2 A2 N2 C2 A3 N3 C3 A1 N1 C1 A4 N4 C4) I_ m_ z z fid<|an.row 0 8 z)<|Rh z J (mv z) ?_
       have he:=(hd.e s9).e sa;obtain ⟨b6,b7,aG⟩:=bdS<|ifT aa J;refine Eg z z J z (fc call31 z<|d_a b7 (zt' ad<|lt_ (lt_ ak s9.s) sa.s) aq ar au (av.g he) (aw.g he) (ax.g he) (W.g he) hu<|ii z) ?_;rintro _ _ ⟨b8,rfl,_⟩;exact Rh z J (b_i z z)<|R z (pT z J z)<|Ra z<|Wl (fun _ q=>⟨decide<|0<=b6,som aG,q.k<|s4 z z z z,b8⟩)
      iterate 4 refine Nh z J ?_
      exact R z (pF z J z)<|Ra z<|Wl (fun _ q=>⟨false,som<|ifF aa J,q.k<|s4 z z z z,br wx⟩)
     rintro b9 _ ⟨xz,rfl,_,ao⟩;revert b9;refine Wo<|Wc z (fun Y=>?_) (fun Y=>?_)
     ·refine Wm z<|Rm z<|RA z z<|Rw z ?_
      obtain rfl:=som<|ifT ab Y;have aH:=elR hms;obtain rfl:=som aH;have aI:=elR hmp;obtain rfl:=som aI;have aJ:=elR hmc;obtain rfl:=som aJ;exact Wr<|rtO<|rtO<|F_ hr z z z ⟨bup (bup (bup (bup (bup (bup h3 I) s6) s7) s9) sa) ao,z,am,ii z,hu⟩
     exact a_7<|fun _ q=>⟨som<|ifF ab Y,q.k<|s1 z,bup sa ao⟩
    rintro ba _ ⟨rfl,_,bb⟩;have aK:=elL hms;revert ba;exact fun _ q=>⟨som aK,q.k<|s1 z,bup (bup s7 s9) bb⟩
   exact a_7<|fun _ q=>⟨som<|ifF a6 hcq,q.k<|s1 z,br wo⟩
  rintro bc _ ⟨rfl,_,be⟩;have aL:=elL hmp;revert bc;exact fun _ q=>⟨som aL,q.k<|s1 z,bup s6 be⟩
 rintro bf _ ⟨rfl,_,bg⟩;have aM:=elL hmc;revert bf;refine Wo<|Wm z<|RA z z<|Rw z ?_
 obtain rfl:=som aM;exact Wr<|F_ hr z z z ⟨bup (bup h3 I) bg,z,V,ii z,ii z⟩
theorem W_w39 {x1:d_}{x2:Int}{x3:List UInt8}{x4:Int}{x5:Str}{res:Int×Int×Bool}(hm:e_m n x1 x2 x3 x4 x5=some res)(H:B<=w0.z)(L:repS w0 B (sl A0 N0 C0) x1.rules)(b5:inI x2)(a1:repS w0 B (sl A7 N7 C7) x3)(aq:inI x4)(b6:x5.b.length<=LEN):n_ prog 91 [(.agg #[sl A0 N0 C0]),vI x2,sl A7 N7 C7,vI x4,Str.v x5] w0 (Q14 w0 B res):=by
 unfold e_m at hm
 refine goG func91 z z z fun fn hr=>Ws<|E z (fb z) ?_
 rintro _ wp ⟨rfl,a5⟩;have G:=a5.below;have hu:Blk wp w0.z [sl A0 N0 C0]:=a5.blk;refine RA z z<|Rw z<|Ws<|Rf z R_ z<|R z (l0 T_ z<|hu.at z)<|Rm z ?_
 obtain ⟨I,aD,ar⟩:=bdS hm;refine RX z (at_ (α:=e_) U_ m_ z z z (L.e G) aD) ?_;rintro _ ⟨_,_,_,rfl,aE,aF,_⟩;obtain ⟨J,na,cb,ac,nd,ce,af,ng,ch,ai,nj,ck,rfl,hv,hw,hx,hy,hz,V,W⟩:=a_m aF;refine R z (lN (vs:=vR I J na cb ac nd ce af ng ch ai nj ck) I_ m_ z z fid aE)<|E z (fa b_g) ?_
 rintro _ aG ⟨rfl,a6⟩;have h4:=a6.below;refine E0 (fs0 (cur':=vR I J na cb ac nd ce af ng ch ai nj ck) m_ z z (a6.blk:Blk aG wp.z [(Str.v (⟨[]⟩:Str)),vI 0,vI 0,vB false,sl none 0 0,sl none 0 0,sl none 0 0,sl none 0 0]) z z z z) ?_;rintro _ _ ⟨a7,aH⟩;have h5:=aH.one;refine Wn<|Ws ?_
 have a8:=(hu.e h4).c h5<|djs<|mmr hu.lt
 refine R z (lN (vs:=[sl A0 N0 C0]) t_ q_ z z fid<|a8.row 0 1 z)<|R z (lN (vs:=vR I J na cb ac nd ce af ng ch ai nj ck) I_ m_ z z fid<|a7.row 0 8 z)<|RM z z ?_
 have aa:∀k∈[wp.z],¬B k:=or0 (c_ lr)<|k_<|zt' H G.s;have Y:=((G.ag B).e h4).c h5<|b_ aa
 have hl:=(h4.ag B).c h5<|b_ aa
 have ab:=lt_ (lt_ G.s h4.s) h5.s;obtain ⟨_,aI,aJ,aK,au⟩:=v_ ar;refine E z (fc call118 z<|W_w38 aK (zt' H ab) (L.g Y) hv hw hx (hy.g hl) (hz.g hl) (V.g hl) (W.g hl) (a1.g Y) aq) ?_;rintro _ wm ⟨s3,rfl,aL,a0,aM⟩;refine Rm z ?_
 iterate 3 refine Re z z z ?_
 refine RA z z<|Rw z<|Wq<|Ws<|Rw z ?_
 obtain ⟨_,av,a2⟩:=bdS au;refine Wf (σ:=Int) (ρ:=Int×Int×Bool) (fun (ad:Nat)(x6:Int) a w=>Sat 64 [(2,sl A7 N7 C7),(4,Str.v x5),(5,pt w0.z),(13,pt wp.z),(14,vI x6),(15,vI aI),(16,vI aJ),(17,vI ((ad:Nat):Int))] a/\Below wm.z wm w/\inI x6) (fun (x6:Int) a w=>Sat 64 [] a/\Below wm.z wm w/\inI x6) (rQ prog fn<|Q14 w0 B) av ?_ ?_ ?_ ?_ ?_
 ·exact fun _ q=>⟨q.k<|s8 z z z z z z z z,br wm,aL⟩
 ·rintro ad x6 _ _ _ hkq ⟨aw,s1,hn⟩ ax;refine Wu ?_ aw;refine Wq<|Wm z<|Rm z<|Rl z z z<|Wx z (fun _=>?_) (fun hc=>(h_M hkq hc).elim)
  refine Wk<|Wq<|Wb<|Ws ?_
  have ae:=(a7.e s3).e s1;refine R z (lN (vs:=vR I J na cb ac nd ce af ng ch ai nj ck) I_ m_ z z fid<|ae.row 0 8 z)<|RM z z ?_
  have ho:=(hl.e s3).e s1;have ah:=lt_ (lt_ ab s3.s) s1.s;obtain ⟨_,aN,ay⟩:=bdS ax;refine E z (fc call31 z<|d_a aN (zt' H ah) hv hw hx (hy.g ho) (hz.g ho) (V.g ho) (W.g ho) aM<|ic (Nat.le_of_lt hkq)<|tl_ a0) ?_;rintro _ _ ⟨s2,rfl,aj⟩;refine Rw z<|Wq<|Ws<|R z (lN (vs:=vR I J na cb ac nd ce af ng ch ai nj ck) I_ m_ z z fid<|(ae.e s2).row 0 8 z)<|Rm z ?_
  have ht:=ho.e s2;have ak:=lt_ ah s2.s;obtain ⟨_,aO,a3⟩:=bdS ay;refine E z (fc call67 z<|W_w1h aO (zt' H ak) hv hw hx (hy.g ht) (hz.g ht) (V.g ht) (W.g ht)<|ic (Nat.le_of_lt hkq)<|tl_ a0) ?_;rintro _ _ ⟨s7,rfl,_⟩;refine Rm z<|R z (c_P z z)<|Wx z (fun hcs=>?_) (fun hcs=>?_)
  ·exact Wm z<|Rm z<|RA z z<|Rw z<|Wr<|rtO<|qL (som<|ifT a3 hcs).symm<|F_ hr z z z ⟨bup (bup (bup (bup (bM (bup G h4) h5<|m1 G.s) s3) s1) s2) s7,z,aj,hn⟩
  refine Wk<|Ws<|R z (lN (vs:=[sl A0 N0 C0]) t_ q_ z z fid<|((((a8.e s3).e s1).e s2).e s7).row 0 1 z)<|RM z z<|Rm z ?_
  have al:=(((Y.e s3).e s1).e s2).e s7;have am:=lt_ ak s7.s;obtain ⟨aP,aQ,_,aR,a4⟩:=v_<|ifF a3 hcs;refine E z (fc call56 z<|f_P.run aR (zt' H am) (L.g al) aj (a1.g al) hn) ?_;rintro _ aS ⟨sr,aT,aU,aV,_,aW,aX,aY,_,rfl,_,_,_,aZ,_,_,_⟩;refine Rm z ?_
  iterate 3 refine Re z z z ?_
  refine E z (fa a_6) ?_;rintro _ b0 ⟨rfl,an⟩;have ao:=an.below;refine E0 (fs0 (cur':=[vI aP.number,sl aT aU aV,sl aW aX aY]) i_ z z (an.blk:Blk b0 aS.z [vI 0,sl none 0 0,sl none 0 0]) z z z z) ?_;rintro _ _ ⟨_,b1⟩;have ap:=b1.one;refine Ra z<|Rw z<|Wq<|Wm z<|R z (nq z z)<|Wx z (fun O=>?_) (fun O=>?_)
  ·exact Ws<|RA z z<|Rw z<|Wr<|rtO<|qL (som<|ifT a4 O).symm<|F_ hr z z z ⟨bM (bup (bup (bup (bup (bup (bup (bM (bup G h4) h5<|m1 G.s) s3) s1) s2) s7) sr) ao) ap<|m1<|lt_ am sr.s,z,ii z,ii z⟩
  exact Wk<|Wg<|Rm z<|Rw z<|Wg<|Rm z<|R z (inc_ hkq (tl_ a0) z z)<|Ra z<|Wl (fun _ q=>⟨aQ,(som<|ifF a4 O).symm,⟨q.k<|s8 z z z z z z z z,bM (bup (bup (bup (bup s1 s2) s7) sr) ao) ap<|m1<|lt_ (lt_ (lt_ s1.s s2.s) s7.s) sr.s,aZ⟩⟩)
 ·rintro x6 _ _ ⟨az,b2,hn⟩;refine Wu ?_ az;refine Wq<|Wm z<|Rm z<|Rl z z z<|Wx z (fun hc=>(h_N hc).elim) (fun _=>?_)
  exact We<|fun _ q=>⟨rfl,⟨q.k sn,b2,hn⟩⟩
 ·rintro x6 b3 _ rfl ⟨_,b4,hn⟩;have aA:=elL a2;revert b3;refine Wo<|Ws<|RA z z<|Rw z ?_
  obtain rfl:=som aA;exact Wr<|F_ hr z z z ⟨bup (bup (bM (bup G h4) h5<|m1 G.s) s3) b4,z,ii z,ii z⟩
 rintro _ _ _ _ rfl ⟨rfl,aB⟩;have aC:=elR a2;obtain rfl:=som aC;exact ⟨aB,z⟩
def Q36 (w0:World)(B:Zone)(r:u_×Bool)(v:Value)(w':World):Prop:=Bw w0 w'/\un2 (fun G H=>v = .tuple #[(.agg #[Str.v G.path,vI G.rule,vI G.start,vI G.end_]),vB H]/\G.path.b.length<=LEN/\inI G.rule/\inI G.start/\inI G.end_) r
theorem W_w3a {x1:d_}{x2:List UInt8}{x3:Str}{res:u_×Bool}(hm:i_P n x1 x2 x3=some res)(J:B<=w0.z)(L:repS w0 B (sl A0 N0 C0) x1.rules)(O:repS w0 B (sl A5 N5 C5) x2)(V:x3.b.length<=LEN):n_ prog 55 [(.agg #[sl A0 N0 C0]),sl A5 N5 C5,Str.v x3] w0 (Q36 w0 B res):=by
 unfold i_P at hm
 refine goG func55 z z z fun fn hr=>Ws<|E z (fb z) ?_
 rintro _ wg ⟨rfl,hy⟩;have h3:=hy.below;have hz:Blk wg w0.z [sl A0 N0 C0]:=hy.blk;refine E z (fa h_W) ?_;rintro _ wm ⟨rfl,a5⟩;have h6:=a5.below;have hd:Blk wm wg.z [(Str.v (⟨[]⟩:Str)),vI 0,vI 0,vI 0]:=a5.blk;refine Rw z<|Wm z ?_
 have hn:=lt_ h3.s h6.s;obtain ⟨_,av,aw,aj⟩:=a_t hm;refine E z (fc call89 z<|W_w37 aw (zt' J hn) V) ?_;rintro _ wh ⟨G,a6,a7,a8,rfl,hj⟩;refine Rm z<|Re z z z<|Re z z z<|Ra z<|Rw z<|Wq<|Wq ?_
 obtain ⟨ax,W,Y⟩:=bdS aj;refine Wt (fun a w=>∃(xo:Bool),xo=ax/\Sat 80 [(1,sl A5 N5 C5),(2,Str.v x3),(3,pt w0.z),(6,pt wg.z),(8,sl a6 a7 a8),(35,vB xo)] a/\Below wh.z wh w) ?_ ?_
 ·refine Wg<|Rm z<|R z (not_ z)<|Rm z ?_
  rcases bs (!av) with H | H
  ·iterate 3 refine Nh z H ?_
   exact R z (pT z H z)<|Rm z<|Nh z z<|Nh z z<|Nh z z<|R z (pT z z z)<|Wl (fun _ q=>⟨true,som<|ifT W H,q.k<|s6 z z z z z z,br wh⟩)
  refine Rh z H (lN (vs:=[sl A0 N0 C0]) t_ q_ z z fid<|((hz.e h6).e G).row 0 1 z) ?_;have a9:=((h3.ag B).e h6).e G;obtain ⟨ay,az,a0⟩:=bdS<|ifF W H;refine Eg z z H z (fc call90 z<|W_w1b az (zt' J<|lt_ hn G.s)<|L.g a9) ?_;rintro _ _ ⟨sp,rfl⟩;refine Rh z H (not_ z)<|R z (pF z H z)<|Rm z ?_
  rcases bs (!ay) with I | I
  ·iterate 3 refine Nh z I ?_
   exact R z (pT z I z)<|Wl (fun _ q=>⟨true,som<|ifT a0 I,q.k<|s6 z z z z z z,sp⟩)
  exact Rh z I (mv z)<|Rh z I (lnR p_ z<|O.g<|a9.e sp)<|Rh z I (a_e z z)<|R z (pF z I z)<|Wl (fun _ q=>⟨decide<|400<(x2.length:Int),som<|ifF a0 I,q.k<|s6 z z z z z z,sp⟩)
 rintro aA _ ⟨xo,rfl,_,s2⟩;revert aA;refine Wo<|Wc z (fun hcq=>?_) (fun hcq=>?_)
 ·refine Ws<|R z (bP (parts:=[]) (cs:=[(Str.v (⟨[]⟩:Str)),vI 0,vI 0,vI 0]) e_G z z)<|E0 (fs0 (cur':=[(Str.v (⟨[]⟩:Str)),vI 0,vI 0,vI 0]) b_p z z ((hd.e G).e s2) z z z z) ?_
  rintro _ _ ⟨aB,aC⟩;refine Rw z ?_
  obtain rfl:=som<|ifT Y hcq;exact Wr<|a_u hr (r_ e_F b_p z aB z) z ⟨bM (bup (bup (bup h3 h6) G) s2) aC.one<|m1 h3.s,z,lb z,ii z,ii z,ii z⟩
 refine Wk<|Ws ?_
 have ht:=((hz.e h6).e G).e s2;refine R z (lN (vs:=[sl A0 N0 C0]) t_ q_ z z fid<|ht.row 0 1 z) ?_;have hu:=(((h3.ag B).e h6).e G).e s2;have hv:=lt_ (lt_ hn G.s) s2.s;obtain ⟨_,aD,ak⟩:=bdS<|ifF Y hcq;refine E z (fc call41 z<|e_M aD (zt' J hv)<|L.g hu) ?_;rintro _ wi ⟨s1,rfl,aE⟩;refine Rw z<|Ws<|Rw z<|Wq<|Ws<|Rw z ?_
 obtain ⟨_,al,a1⟩:=bdS ak;refine Wf (σ:=Int×Int) (ρ:=u_×Bool) (fun (aa:Nat) s a w=>un2 (fun x4 x5=>Sat 80 [(1,sl A5 N5 C5),(2,Str.v x3),(3,pt w0.z),(6,pt wg.z),(8,sl a6 a7 a8),(10,vI x4),(11,vI x5),(12,vI ((aa:Nat):Int))] a/\Below wi.z wi w/\inI x4/\inI x5) s) (fun s a w=>un2 (fun x4 x5=>Sat 80 [(1,sl A5 N5 C5),(2,Str.v x3),(3,pt w0.z),(6,pt wg.z),(10,vI x4),(11,vI x5)] a/\Below wi.z wi w/\inI x4/\inI x5) s) (rQ prog fn<|Q36 w0 B) al ?_ ?_ ?_ ?_ ?_
 ·exact fun _ q=>⟨q.k<|s8 z z z z z z z z,br wi,aE,ii z⟩
 ·rintro aa ⟨x4,x5⟩ _ _ _ a2 ⟨am,sb,he,hf⟩ an;refine Wu ?_ am;refine Wq<|Wm z<|Rm z ?_
  have ab:=((s2.ag<|zn B wm.z wh.z).e s1).e sb;refine R z (lnR a_j z<|hj.g ab)<|Rl z z z<|Wx z (fun _=>?_) (fun hc=>(a_2 a2 hc).elim)
  refine Wk<|Wq<|Wb<|Wq (Wd (X:=noX) 0 (pl_ 16 [8]) mo (by kernel_rfl) fun b7 sc _=>dR z z (lN (vs:=[sl A0 N0 C0]) t_ q_ z z fid<|(((ht.e s1).e sb).e sc).row 0 1 z) ?_)
  iterate 5 refine dM z z z ?_
  obtain ⟨_,aF,ao⟩:=bdS<|a_G an;refine dRX z z (at_ (α:=Str) a_j z_9 z z z (hj.g<|ab.e sc) aF) ?_;rintro _ ⟨_,_,_,rfl,aG,aH,_⟩;obtain ⟨rfl,aI⟩:=b_K aH;refine dR z z (l0 g_9 z<|aG.at0 z) ?_;have ad:=((hu.e s1).e sb).e sc;obtain ⟨aJ,aK,_,aL,a3⟩:=v_ ao;refine dE z z (fc call91 z<|W_w39 aL (zt' J<|lt_ (lt_ (lt_ hv s1.s) sb.s) sc.s) (L.g ad) he (O.g ad) hf aI) (.inr fun _ _ h=>w_<|h.1) ?_;rintro _ _ ⟨sr,rfl,aM,aN⟩;refine dM z z z ?_
  iterate 3 refine dR z z (ext_ z z) ?_
  iterate 3 refine dQ z z z ?_
  refine pD<|Wo<|Wq<|Wm z<|R z (not_ z)<|Wx z (fun hcs=>?_) (fun hcs=>?_)
  ·refine Ws<|R z (bP (parts:=[]) (cs:=[(Str.v (⟨[]⟩:Str)),vI 0,vI 0,vI 0]) e_G z z)<|E0 (fs0 (cur':=[(Str.v (⟨[]⟩:Str)),vI 0,vI 0,vI 0]) b_p z z ((((((hd.e G).e s2).e s1).e sb).e sc).e sr) z z z z) ?_
   rintro _ _ ⟨aO,aP⟩;exact Rw z<|Wr<|rtO<|qL (som<|ifT a3 hcs).symm<|a_u hr (r_ e_F b_p z aO z) z ⟨bM (bup (bup (bup (bup (bup (bup (bup h3 h6) G) s2) s1) sb) sc) sr) aP.one<|m1 h3.s,z,lb z,ii z,ii z,ii z⟩
  exact Wk<|Wm z<|Rw z<|Wg<|Rm z<|Rw z<|Wg<|Rm z<|R z (inc_ a2 (lt_ (repS.len hj) K_) z z)<|Ra z<|Wl (fun _ q=>⟨(aJ,aK),(som<|ifF a3 hcs).symm,⟨q.k<|s8 z z z z z z z z,bup (bup sb sc) sr,aM,aN⟩⟩)
 ·rintro ⟨x4,x5⟩ _ _ ⟨ap,ae,he,hf⟩;refine Wu ?_ ap;refine Wq<|Wm z<|Rm z<|R z (lnR a_j z<|hj.g<|((s2.ag<|zn B wm.z wh.z).e s1).e ae)<|Rl z z z<|Wx z (fun hc=>(a_3 hc).elim) (fun _=>?_)
  exact We<|fun _ q=>⟨rfl,⟨q.k<|s6 z z z z z z,ae,he,hf⟩⟩
 ·rintro ⟨x4,x5⟩ aQ _ rfl ⟨_,s9,he,hf⟩;have aq:=elL a1;revert aQ;refine Wo<|Ws<|R z (lN (vs:=[sl A0 N0 C0]) t_ q_ z z fid<|((ht.e s1).e s9).row 0 1 z)<|RM z z<|Rm z ?_
  have af:=(hu.e s1).e s9;have hw:=lt_ (lt_ hv s1.s) s9.s;obtain ⟨aR,ah,_,aS,a4⟩:=v_<|a_G aq;refine E z (fc call56 z<|f_P.run aS (zt' J hw) (L.g af) he (O.g af) hf) ?_;rintro _ aT ⟨sa,aU,aV,aW,_,aX,aY,aZ,_,rfl,_,_,_,b0,_,_,_⟩;refine Rm z ?_
  iterate 3 refine Re z z z ?_
  refine E z (fa a_6) ?_;rintro _ b1 ⟨rfl,ai⟩;have hk:=ai.below;refine E0 (fs0 (cur':=[vI aR.number,sl aU aV aW,sl aX aY aZ]) i_ z z (ai.blk:Blk b1 aT.z [vI 0,sl none 0 0,sl none 0 0]) z z z z) ?_;rintro _ _ ⟨_,b2⟩;have hl:=b2.one;refine Ra z<|Rw z<|Wq<|Wm z<|R z (nq z z)<|Wx z (fun hcx=>?_) (fun hcx=>?_)
  ·refine Ws<|R z (bP (parts:=[]) (cs:=[(Str.v (⟨[]⟩:Str)),vI 0,vI 0,vI 0]) e_G z z) ?_
   refine E0 (fs0 (cur':=[(Str.v (⟨[]⟩:Str)),vI 0,vI 0,vI 0]) b_p z z (((((((hd.e G).e s2).e s1).e s9).e sa).e hk).c hl<|djs<|mm1 hd.lt<|lt_ (lt_ (lt_ (lt_ G.s s2.s) s1.s) s9.s) sa.s) z z z z) ?_;rintro _ _ ⟨b3,b4⟩;refine Rw z ?_
   obtain rfl:=som<|ifT a4 hcx;exact Wr<|a_u hr (r_ e_F b_p z b3 z) z ⟨bM (bM (bup (bup (bup (bup (bup (bup (bup h3 h6) G) s2) s1) s9) sa) hk) hl<|m1<|lt_ hw sa.s) b4.one<|m1 h3.s,z,lb z,ii z,ii z,ii z⟩
  refine Wk<|Wm z<|RM z z<|Rm z<|R z (bP (parts:=[(0,.tmp 75),(1,.tmp 76),(2,.tmp 77),(3,.tmp 78)]) (cs:=[Str.v x3,vI x4,vI x5,vI ah]) e_G z z) ?_
  refine E0 (fs0 (cur':=[Str.v x3,vI x4,vI x5,vI ah]) b_p z z (((((((hd.e G).e s2).e s1).e s9).e sa).e hk).c hl<|djs<|mm1 hd.lt<|lt_ (lt_ (lt_ (lt_ G.s s2.s) s1.s) s9.s) sa.s) z z z z) ?_;rintro _ _ ⟨b5,b6⟩;refine Rw z ?_
  obtain rfl:=som<|ifF a4 hcx;exact Wr<|a_u hr (r_ e_F b_p z b5 z) z ⟨bM (bM (bup (bup (bup (bup (bup (bup (bup h3 h6) G) s2) s1) s9) sa) hk) hl<|m1<|lt_ hw sa.s) b6.one<|m1 h3.s,z,V,he,hf,b0⟩
 rintro _ _ _ _ rfl ⟨rfl,ar⟩;have au:=elR a1;obtain rfl:=som au;exact ⟨ar,z⟩
def Q37 (w0:World)(B:Zone)(r:Val×Bool)(v:Value)(w':World):Prop:=Bw w0 w'/\un2 (fun G V=>∃H I J S1 a2 L O S2,v = .tuple #[(.agg #[vI G.number,sl H I J,sl a2 L O]),vB V]/\inI G.number/\a_ w' S1 (sl H I J) G.bytes/\a_ w' S2 (sl a2 L O) G.items/\(S1++S2).Nodup/\(∀k∈(S1++S2),w0.z<=k)) r
theorem W_w20 {x1:d_}{x2:List UInt8}{x3:Str}{res:Val×Bool}(hm:f_b n x1 x2 x3=some res)(L:B<=w0.z)(O:repS w0 B (sl A0 N0 C0) x1.rules)(V:repS w0 B (sl A5 N5 C5) x2)(a1:x3.b.length<=LEN):n_ prog 27 [(.agg #[sl A0 N0 C0]),sl A5 N5 C5,Str.v x3] w0 (Q37 w0 B res):=by
 unfold f_b at hm
 refine goG func27 z z z fun fn hr=>Ws<|E z (fb z) ?_
 rintro _ wq ⟨rfl,ht⟩;have h4:=ht.below;have hu:Blk wq w0.z [sl A0 N0 C0]:=ht.blk;refine E z (fa a_6) ?_;rintro _ a3 ⟨rfl,hv⟩;have h5:=hv.below;have h3:Blk a3 wq.z [vI 0,sl none 0 0,sl none 0 0]:=hv.blk;refine Rw z<|Ws ?_
 have hw:=hu.e h5;refine R z (lN (vs:=[sl A0 N0 C0]) t_ q_ z z fid<|hw.row 0 1 z)<|RM z z ?_
 have hi:=(h4.ag B).e h5;have hj:=lt_ h4.s h5.s;obtain ⟨H,_,a4,hmr⟩:=a_t hm;refine E z (fc call55 z<|W_w3a a4 (zt' L hj) (O.g hi) (V.g hi) a1) ?_;rintro _ ws ⟨G,rfl,_,a5,a6,_⟩;refine Rm z<|Re z z z<|Re z z z<|E z (fa h_W) ?_
 rintro _ a7 ⟨rfl,hx⟩;have h1:=hx.below;refine E0 (fs0 (cur':=[Str.v H.path,vI H.rule,vI H.start,vI H.end_]) b_p z z (hx.blk:Blk a7 ws.z [(Str.v (⟨[]⟩:Str)),vI 0,vI 0,vI 0]) z z z z) ?_;rintro _ _ ⟨hy,a8⟩;have h2:=a8.one;refine Rw z<|Wq<|Wm z<|R z (not_ z)<|Wx z (fun hck=>?_) (fun hck=>?_)
 ·refine Ws<|R z (bP (parts:=[]) (cs:=[vI 0,sl none 0 0,sl none 0 0]) Y_ z z)<|E0 (fs0 (cur':=[vI 0,sl none 0 0,sl none 0 0]) i_ z z (((h3.e G).e h1).c h2<|djs<|mm1 h3.lt G.s) z z z z) ?_
  rintro _ _ ⟨aa,ab⟩;refine Rw z ?_
  obtain rfl:=som<|ifT hmr hck;exact Wr<|a_u hr (r_ y_ i_ z aa z) z ⟨bM (bM (bup (bup (bup h4 h5) G) h1) h2<|m1<|lt_ hj G.s) ab.one<|m1 h4.s,none,0,0,[],none,0,0,[],z,ii z,onL,onL,nd0,al0⟩
 refine Wk<|Ws<|R z (lN (vs:=[sl A0 N0 C0]) t_ q_ z z fid<|(((hw.e G).e h1).c h2<|djs<|mm1 hu.lt<|lt_ h5.s G.s).row 0 1 z)<|Rf z e_6 z<|R z (l0 g_3 z<|hy.at z)<|Rm z<|Rf z k_Q z<|R z (l0 g_3 z<|hy.at z) ?_
 have hl:=lt_ hj G.s;have hz:=((hi.e G).e h1).c h2<|b_ (or0 (c_ lr) (k_<|zt' L hl):∀k∈[ws.z],¬B k)
 have I:=lt_ (lt_ hl h1.s) h2.s;obtain ⟨rm,_,_,ad,a2⟩:=v_<|ifF hmr hck;refine E z (fc call56 z<|f_P.run ad (zt' L I) (O.g hz) a5 (V.g hz) a6) ?_;rintro _ ae ⟨s8,J,na,cb,af,ac,nd,ce,ah,rfl,ai,W,Y,_,_,hn,hf⟩;refine Rm z ?_
 iterate 3 refine Re z z z ?_
 refine E z (fa a_6) ?_;rintro _ aj ⟨rfl,a0⟩;have hg:=a0.below;refine E0 (fs0 (cur':=[vI rm.number,sl J na cb,sl ac nd ce]) i_ z z (a0.blk:Blk aj ae.z [vI 0,sl none 0 0,sl none 0 0]) z z z z) ?_;rintro _ _ ⟨ak,al⟩;have hh:=al.one;refine Ra z<|Rw z<|Ws<|R z (lN (vs:=[vI rm.number,sl J na cb,sl ac nd ce]) y_ i_ z z fid<|ak.row 0 3 z) ?_
 have ho:=lt_ (lt_ G.s h1.s) h2.s;refine E0 (fs0 (cur':=[vI rm.number,sl J na cb,sl ac nd ce]) i_ z z ((((((h3.e G).e h1).c h2<|djs<|mm1 h3.lt G.s).e s8).e hg).c hh<|djs<|mm1 h3.lt<|lt_ ho s8.s) z z z z) ?_;rintro _ _ ⟨am,an⟩;have hp:=an.one;refine Rw z ?_
 obtain rfl:=som a2;exact Wr<|a_u hr (r_ y_ i_ z am z) z ⟨bM (bM (bup (bup (bM (bup (bup (bup h4 h5) G) h1) h2<|m1 hl) s8) hg) hh<|m1<|lt_ I s8.s) hp<|m1 h4.s,J,na,cb,af,ac,nd,ce,ah,z,ai,((W.e hg).c hh<|ds<|mnr<|a_.lt W).c hp<|j_ (al_ hf) h3.lt ho,((Y.e hg).c hh<|ds<|mnr<|a_.lt Y).c hp<|j_ (ar_ hf) h3.lt ho,na_ (nl_ hn) (nr_ hn)<|nj hn,aa_ (l_ (al_ hf) I)<|l_ (ar_ hf) I⟩
end Go.Vw
