
import Derived.Test.YtajhmimbhplkfaaGreatDoorVwLW2
set_option linter.unusedVariables false
namespace Go.Vw
open Go.RowKit Dat Go.Proofs
open Go.Proofs.Tryz
open Go.Vw renaming b_3→Wq,b_r→Wg,WC.of_KC→Wo,b_4→Wl,d_8→Wc,d_B→Wr,g_6→Wu,h_A→pT,h_B→pF,i_4→fd,c_t→l1,i_5→lN,b_R→mv,d_o→asg,f_T→lnR,g_c→lss,i_a→eql,i_6→ext_,h_D→bP,g_8→add_,f_P→inc_,e_o→not_,f_U→at_,e_P→fc,b_N→fs,e_O→fb,e_f→fa,h_u→sr,h_y→cr,h_z→cM,d_e→bM,h_n→iS,h_m→iA,h_p→br,c_0→oA,h_q→bs,ltge→lg,inor→io,g_b→nq,i_7→lnT,i_8→sb_,h_s→ar_,h_r→al_,h_t→ds,i_H→m1,h_w→nr_,h_v→nl_,f_R→aa_,d_d→an_,d_C→Wb,f_Q→u8,h_h→pD,f_A→We,h_o→Wt,f_M→fS,e_K→or_,i_2→Wf,h_K→qL,h_g→Wd,h_E→fN,f_S→na_,h_x→nj,e_U→f0,h_C→rX,h_F→tl_,h_G→ic
variable {A0:Option Addr} {N0 C0:Nat} {B:Zone} {w0:World} {n:Nat} {A6:Option Addr} {N6 C6:Nat} {A9:Option Addr} {A8:Option Addr} {AA:Option Addr} {AB:Option Addr} {N9 C9:Nat} {N8 C8:Nat} {NA CA:Nat} {NB CB:Nat} {AC:Option Addr} {AD:Option Addr} {NC CC:Nat} {ND CD:Nat} {A2:Option Addr} {A3:Option Addr} {A1:Option Addr} {A4:Option Addr} {N2 C2:Nat} {N3 C3:Nat} {N1 C1:Nat} {N4 C4:Nat} {A7:Option Addr} {N7 C7:Nat} {A5:Option Addr} {N5 C5:Nat} {AF:Option Addr} {NF CF:Nat}
theorem T_w04 (ih:f_1 n):j_p (g_Q n<|a_v n):=by
 obtain ⟨dG,dH,dI,dJ,dK⟩:=ih
 constructor
 intro A0 A5 N0 C0 N5 C5 g1 B x1 x2 x3 res w0 hm hB1 hBw hBg p1_0 p1_1 p1_2 p2_0 p3_0;unfold g_Q at hm
 refine goF func193 z z (lb z) fun fn hr=>Ws<|E z (fa b_u) ?_
 rintro _ H ⟨rfl,bj⟩;have h1:=bj.below;have h6:Blk H w0.z [vI 0,vI 0]:=bj.blk;refine Wn<|Ws<|Rm z<|R z (T_ z)<|R z (fd k_X z)<|R z (fd a_4 z) ?_
 have aH:=hB1.e h1;refine R z (l1 a_6 z fid<|aH.at z)<|Rm z ?_
 obtain ⟨xh,dL,b4⟩:=bdS hm;refine RX z (at_ (α:=e_) a_7 o_ z z z (p1_0.e h1) dL) ?_;rintro _ ⟨_,_,_,rfl,dN,dO,_⟩;obtain ⟨ao,np,cq,ar,ns,ct,au,nv,cw,ai,nj,ck,rfl,a3,a4,hz,V,a5,a6,he⟩:=a_P dO;refine R z (lN (vs:=vR xh ao np cq ar ns ct au nv cw ai nj ck) I_ o_ z z fid dN)<|E z (fa b_E) ?_
 rintro _ L ⟨rfl,bk⟩;have h2:=bk.below;have bm:Blk L H.z [(Str.v (⟨[]⟩:Str)),vI 0,vI 0,vB false,sl none 0 0,sl none 0 0,sl none 0 0,sl none 0 0]:=bk.blk;refine E0 (fs (cur':=vR xh ao np cq ar ns ct au nv cw ai nj ck) o_ z z bm z (lb z) (oA z) z) ?_;rintro _ O ⟨bn,dP⟩;have G:=dP.one;refine Wn<|Wq<|Ws<|R z (fd a_C z)<|R z (l1 g_3 z fid<|bn.at z)<|R z (eql z z)<|Wn<|Wc z (fun av=>?_) (fun av=>?_)
 ·refine Ws<|Rm z<|Rm z<|Rm z ?_
  have bo:=((h1.ag B).e h2).c G<|c_ (or0 (b_ lr)  (j_<|zt' hBw h1.s) : ∀ k∈[H.z],¬ B k)
  have bp:=lt_ (lt_ h1.s h2.s) G.s;obtain ⟨_,W,_,dS,cP⟩:=p_<|ifT b4 av;refine E z (fc call238 z<|h_Y (B:=B) dS ((aH.e h2).c G<|djs<|mm1 (Blk.lt hB1) h1.s) (zt' hBw bp) hBg (p1_0.g bo) (p1_1.g bo) p1_2 p2_0 p3_0) ?_;rintro _ aI ⟨ad,rfl,_,dT,dU,dV,dW⟩;refine Rm z<|R z (ext_ z z)<|R z (ext_ z z)<|E z (fa b_u) ?_
  rintro _ bq ⟨rfl,br⟩;have aJ:=br.below;refine Ra z<|E0 (fs (cur':=[vI W.at_,vI W.code]) H_ z z (br.blk:Blk bq aI.z [vI 0,vI 0]) z (lb z) (oA z) z) ?_
  rintro _ dX ⟨dY,dZ⟩;have aK:=dZ.one;refine Wn<|Ws<|R z (lN (vs:=[vI W.at_,vI W.code]) a_f H_ z z fid<|dY.row 0 2 z) ?_
  have bs:=mmr<|Blk.lt hB1
  refine E0 (fs (cur':=[vI W.at_,vI W.code]) H_ z z (((((h6.e h2).c G<|djs<|mmr h6.lt).c ad<|atp bs).e aJ).c aK<|djs<|mm1 h6.lt<|lt_ (lt_ h2.s G.s) ad.s) z (lb z) (oA z) z) ?_;rintro _ e0 ⟨e1,e2⟩;have bt:=e2.one;refine Wn ?_;obtain rfl:=som cP;have bu:=lt_ bp ad.s;exact Wr<|h_ hr (q_ a_f H_ z e1 z) ⟨(cM (cM (d_ (cM (cM (d_ (d_ (cr [g1] w0) h1:Chg (· ∈ [g1]) w0 H) h2:Chg (· ∈ [g1]) w0 L) G (mor h1.s : ∀ k∈[H.z],k∈[g1]∨w0.z≤k):Chg (· ∈ [g1]) w0 O) ad (io sr):Chg (· ∈ [g1]) w0 aI) aJ:Chg (· ∈ [g1]) w0 bq) aK (mor bu : ∀ k∈[aI.z],k∈[g1]∨w0.z≤k):Chg (· ∈ [g1]) w0 dX) bt (mor lr : ∀ k∈[w0.z],k∈[g1]∨w0.z≤k):Chg (· ∈ [g1]) w0 e0),z,dT,dU,dV,((dW.e aJ).c aK<|djs<|mm1 (Blk.lt hB1) bu).c bt<|djs bs⟩
 have b5:=ifF b4 av;refine Wk<|Ws<|Rm z<|R z (T_ z)<|R z (fd h_Q z) ?_
 have bv:=mm1 (Blk.lt hB1) h1.s;have bw:=(aH.e h2).c G<|djs bv
 refine R z (l1 g_3 z fid<|bw.at z)<|R z (add_ z z)<|R z (T_ z)<|R z (fd h_Q z)<|E0 (fs (cur':=[sl A0 N0 C0,sl A5 N5 C5,vI<|g_ x1.applied 1]) z_3 z z bw z (lb z) (oA z) z) ?_
 rintro _ I ⟨ha,e3⟩;have h3:=e3.one;refine Wn<|Wq<|Ws<|R z (fd a_C z) ?_
 have hb:=bn.c h3<|atp bv
 refine R z (l1 g_3 z fid<|hb.at z)<|Wn<|Wb<|Ws<|R z (eql z z)<|Ra z<|Wn<|Wc z (fun aw=>?_) (fun aw=>?_)
 ·refine Ws<|Rm z<|R z (lN (vs:=vR xh ao np cq ar ns ct au nv cw ai nj ck) I_ o_ z z fid<|hb.row 0 8 z)<|Rm z ?_
  have bx : ∀ k∈[H.z],¬ B k:=or0 (b_ lr)  (j_<|zt' hBw h1.s);have bz:=(((h1.ag B).e h2).c G<|c_ bx).c h3<|c_<|b_ hBg
  have ae:=((h2.ag B).c G<|c_ bx).c h3<|c_<|b_ hBg
  obtain ⟨bA,e4,cQ⟩:=bdS<|ifT b5 aw;refine E z (fc call239 z<|W_w2s (B:=w0.z) e4 (a_V<|lt_ (lt_ (lt_ h1.s h2.s) G.s) h3.s) (repS.mono (p1_0.g bz) hBw) (repS.mono (p1_1.g bz) hBw) (iA _ _) (ha.row 0 3 z) (Blk.lt hB1) a3 a4 hz (repS.mono (V.g ae) hBw) (repS.mono (a5.g ae) hBw) (repS.mono (a6.g ae) hBw) (repS.mono (he.g ae) hBw) p3_0) ?_;rintro _ e5 ⟨aL,rfl,e6,e7⟩;have bB:=mmr<|Blk.lt hB1
  refine E0 (fs (cur':=[vI bA.at_,vI bA.code]) H_ z z ((((h6.e h2).c G<|djs<|mmr h6.lt).c h3<|atp bB).e aL) z (lb z) (oA z) z) ?_;rintro _ e8 ⟨e9,ea⟩;have bC:=ea.one;refine Wn ?_;obtain rfl:=som cQ;exact Wr<|rtO<|h_ hr (q_ a_f H_ z e9 z) ⟨(cM (d_ (cM (cM (d_ (d_ (cr [g1] w0) h1:Chg (· ∈ [g1]) w0 H) h2:Chg (· ∈ [g1]) w0 L) G (mor h1.s : ∀ k∈[H.z],k∈[g1]∨w0.z≤k):Chg (· ∈ [g1]) w0 O) h3 (io sr):Chg (· ∈ [g1]) w0 I) aL:Chg (· ∈ [g1]) w0 e5) bC (mor lr : ∀ k∈[w0.z],k∈[g1]∨w0.z≤k):Chg (· ∈ [g1]) w0 e8),z,e6,e7,iA _ _,(ha.e aL).c bC<|djs bB⟩
 have b6:=ifF b5 aw;refine Ws<|R z (eql z z)<|Ra z<|Wn<|Wc z (fun ax=>?_) (fun ax=>?_)
 ·refine Ws<|Rm z<|Rm z<|R z (fd a_K z)<|R z (l1 g_3 z fid<|hb.at z) ?_
  have bD:=(((h1.ag B).e h2).c G<|c_ (or0 (b_ lr)  (j_<|zt' hBw h1.s) : ∀ k∈[H.z],¬ B k)).c h3<|c_<|b_ hBg
  obtain ⟨bE,eb,cR⟩:=bdS<|ifT b6 ax;refine E z (fc call240 z<|g_1 (B:=w0.z) eb (a_V<|lt_ (lt_ (lt_ h1.s h2.s) G.s) h3.s) (repS.mono (p1_0.g bD) hBw) (repS.mono (p1_1.g bD) hBw) (iA _ _) (ha.row 0 3 z) (Blk.lt hB1) p3_0 hz) ?_;rintro _ ec ⟨aM,rfl,ed,ee⟩;have bF:=mmr<|Blk.lt hB1
  refine E0 (fs (cur':=[vI bE.at_,vI bE.code]) H_ z z ((((h6.e h2).c G<|djs<|mmr h6.lt).c h3<|atp bF).e aM) z (lb z) (oA z) z) ?_;rintro _ eg ⟨eh,ei⟩;have bG:=ei.one;refine Wn ?_;obtain rfl:=som cR;exact Wr<|rtO<|h_ hr (q_ a_f H_ z eh z) ⟨(cM (d_ (cM (cM (d_ (d_ (cr [g1] w0) h1:Chg (· ∈ [g1]) w0 H) h2:Chg (· ∈ [g1]) w0 L) G (mor h1.s : ∀ k∈[H.z],k∈[g1]∨w0.z≤k):Chg (· ∈ [g1]) w0 O) h3 (io sr):Chg (· ∈ [g1]) w0 I) aM:Chg (· ∈ [g1]) w0 ec) bG (mor lr : ∀ k∈[w0.z],k∈[g1]∨w0.z≤k):Chg (· ∈ [g1]) w0 eg),z,ed,ee,iA _ _,(ha.e aM).c bG<|djs bF⟩
 have b7:=ifF b6 ax;refine Ws<|R z (eql z z)<|Ra z<|Wn<|Wc z (fun ay=>?_) (fun ay=>?_)
 ·refine Ws<|Rm z<|R z (fd N_ z)<|R z (l1 C_ z fid<|hb.at z) ?_
  obtain ⟨_,ej,cS⟩:=bdS<|ifT b7 ay;have bH : ∀ k∈[H.z],¬ B k:=or0 (b_ lr)  (j_<|zt' hBw h1.s);refine RX z (at_ (α:=Int) w_ z_3 z z z (he.g<|((h2.ag B).c G<|c_ bH).c h3<|c_<|b_ hBg) ej) ?_;rintro _ ⟨_,_,_,rfl,ek,em,_⟩;obtain ⟨rfl,en⟩:=Q_ em;refine R z (l1 g_3 z fid<|ek.at0 z)<|Rm z ?_
  have aN:=(((h1.ag B).e h2).c G<|c_ bH).c h3<|c_<|b_ hBg
  have aO:=lt_ (lt_ (lt_ h1.s h2.s) G.s) h3.s;obtain ⟨_,Y,_,eo,b8⟩:=p_ cS;refine E z (fc call238 z<|h_Y (B:=B) eo ha (zt' hBw aO) hBg (p1_0.g aN) (p1_1.g aN) (iA _ _) en p3_0) ?_;rintro _ a0 ⟨sf,rfl,ep,bI,er,aP,bJ⟩;refine Rm z<|R z (ext_ z z)<|R z (ext_ z z)<|E z (fa b_u) ?_
  rintro _ aQ ⟨rfl,bK⟩;have hl:=bK.below;refine Ra z<|E0 (fs (cur':=[vI Y.at_,vI Y.code]) H_ z z (bK.blk:Blk aQ a0.z [vI 0,vI 0]) z (lb z) (oA z) z) ?_
  rintro _ bL ⟨aR,es⟩;have hn:=es.one;refine Wn<|Wq<|Ws<|R z (fd c_V z)<|R z (l1 g_3 z fid<|aR.at z)<|R z (nq z z)<|Wn<|Wc z (fun az=>?_) (fun az=>?_)
  ·refine Ws<|R z (lN (vs:=[vI Y.at_,vI Y.code]) a_f H_ z z fid<|aR.row 0 2 z) ?_
   have aS:=mmr<|Blk.lt hB1
   refine E0 (fs (cur':=[vI Y.at_,vI Y.code]) H_ z z ((((((h6.e h2).c G<|djs<|mmr h6.lt).c h3<|atp aS).c sf<|atp aS).e hl).c hn<|djs<|mm1 h6.lt<|lt_ (lt_ (lt_ h2.s G.s) h3.s) sf.s) z (lb z) (oA z) z) ?_;rintro _ eu ⟨ew,ey⟩;have bM:=ey.one;refine Wn ?_;obtain rfl:=som<|ifT b8 az;have bN:=lt_ aO sf.s;exact Wr<|rtO<|h_ hr (q_ a_f H_ z ew z) ⟨(cM (cM (d_ (cM (cM (cM (d_ (d_ (cr [g1] w0) h1:Chg (· ∈ [g1]) w0 H) h2:Chg (· ∈ [g1]) w0 L) G (mor h1.s : ∀ k∈[H.z],k∈[g1]∨w0.z≤k):Chg (· ∈ [g1]) w0 O) h3 (io sr):Chg (· ∈ [g1]) w0 I) sf (io sr):Chg (· ∈ [g1]) w0 a0) hl:Chg (· ∈ [g1]) w0 aQ) hn (mor bN : ∀ k∈[a0.z],k∈[g1]∨w0.z≤k):Chg (· ∈ [g1]) w0 bL) bM (mor lr : ∀ k∈[w0.z],k∈[g1]∨w0.z≤k):Chg (· ∈ [g1]) w0 eu),z,bI,er,aP,((bJ.e hl).c hn<|djs<|mm1 (Blk.lt hB1) bN).c bM<|djs aS⟩
  refine Wk<|Ws<|Rm z<|R z (fd c_C z)<|R z (l1 g_3 z fid<|aR.at z)<|Rm z ?_
  have af:=lt_ aO sf.s;have bO:=(bJ.e hl).c hn<|djs<|mm1 (Blk.lt hB1) af
  have bQ:=((aN.c sf<|c_<|b_ hBg).e hl).c hn<|c_ (or0 (b_ lr)  (j_<|zt' hBw af) : ∀ k∈[a0.z],¬ B k)
  obtain ⟨bR,ez,cT⟩:=bdS<|ifF b8 az;refine E z (fc call240 z<|g_1 (B:=w0.z) ez (a_V<|lt_ (lt_ af hl.s) hn.s) (repS.mono (p1_0.g bQ) hBw) (repS.mono (p1_1.g bQ) hBw) aP (bO.row 0 3 z) (Blk.lt hB1) bI ep) ?_;rintro _ eA ⟨aT,rfl,eB,eC⟩;have aU:=mmr<|Blk.lt hB1
  refine E0 (fs (cur':=[vI bR.at_,vI bR.code]) H_ z z (((((((h6.e h2).c G<|djs<|mmr h6.lt).c h3<|atp aU).c sf<|atp aU).e hl).c hn<|djs<|mm1 h6.lt<|lt_ (lt_ (lt_ h2.s G.s) h3.s) sf.s).e aT) z (lb z) (oA z) z) ?_;rintro _ eD ⟨eE,eF⟩;have bS:=eF.one;refine Wn ?_;obtain rfl:=som cT;exact Wr<|rtO<|h_ hr (q_ a_f H_ z eE z) ⟨(cM (d_ (cM (d_ (cM (cM (cM (d_ (d_ (cr [g1] w0) h1:Chg (· ∈ [g1]) w0 H) h2:Chg (· ∈ [g1]) w0 L) G (mor h1.s : ∀ k∈[H.z],k∈[g1]∨w0.z≤k):Chg (· ∈ [g1]) w0 O) h3 (io sr):Chg (· ∈ [g1]) w0 I) sf (io sr):Chg (· ∈ [g1]) w0 a0) hl:Chg (· ∈ [g1]) w0 aQ) hn (mor af : ∀ k∈[a0.z],k∈[g1]∨w0.z≤k):Chg (· ∈ [g1]) w0 bL) aT:Chg (· ∈ [g1]) w0 eA) bS (mor lr : ∀ k∈[w0.z],k∈[g1]∨w0.z≤k):Chg (· ∈ [g1]) w0 eD),z,eB,eC,aP,(bO.e aT).c bS<|djs aU⟩
 have b9:=ifF b7 ay;refine Ws<|R z (eql z z)<|Ra z<|Wn<|Wc z (fun aA=>?_) (fun aA=>?_)
 ·refine Ws<|Rm z<|R z (lN (vs:=vR xh ao np cq ar ns ct au nv cw ai nj ck) I_ o_ z z fid<|hb.row 0 8 z)<|Rm z ?_
  have bT : ∀ k∈[H.z],¬ B k:=or0 (b_ lr)  (j_<|zt' hBw h1.s);have bU:=(((h1.ag B).e h2).c G<|c_ bT).c h3<|c_<|b_ hBg
  have ah:=((h2.ag B).c G<|c_ bT).c h3<|c_<|b_ hBg
  obtain ⟨bV,_,eG,cU⟩:=a_c<|ifT b9 aA;refine E z (fc call241 z<|dH.run (B:=B) eG ha (zt' hBw<|lt_ (lt_ (lt_ h1.s h2.s) G.s) h3.s) hBg (p1_0.g bU) (p1_1.g bU) (iA _ _) a3 a4 hz (V.g ah) (a5.g ah) (a6.g ah) (he.g ah) p3_0) ?_;rintro _ eH ⟨bW,rfl,eI,eJ,eK,eL⟩;have aV:=mmr<|Blk.lt hB1
  refine E0 (fs (cur':=[vI bV.at_,vI bV.code]) H_ z z ((((h6.e h2).c G<|djs<|mmr h6.lt).c h3<|atp aV).c bW<|atp aV) z (lb z) (oA z) z) ?_;rintro _ eM ⟨eN,eO⟩;have bX:=eO.one;refine Wn ?_;obtain rfl:=som cU;exact Wr<|rtO<|h_ hr (q_ a_f H_ z eN z) ⟨(cM (cM (cM (cM (d_ (d_ (cr [g1] w0) h1:Chg (· ∈ [g1]) w0 H) h2:Chg (· ∈ [g1]) w0 L) G (mor h1.s : ∀ k∈[H.z],k∈[g1]∨w0.z≤k):Chg (· ∈ [g1]) w0 O) h3 (io sr):Chg (· ∈ [g1]) w0 I) bW (io sr):Chg (· ∈ [g1]) w0 eH) bX (mor lr : ∀ k∈[w0.z],k∈[g1]∨w0.z≤k):Chg (· ∈ [g1]) w0 eM),z,eI,eJ,eK,eL.c bX<|djs aV⟩
 have ba:=ifF b9 aA;refine Ws<|R z (eql z z)<|Ra z<|Wn<|Wc z (fun aB=>?_) (fun aB=>?_)
 ·refine Ws<|Rm z<|R z (bP (parts:=[(0,.tmp 88),(1,.const<|.int .i64 0)]) (cs:=[vI x3,vI 0]) c_o z z)<|E z (fa b_u) ?_
  rintro _ bY ⟨rfl,bZ⟩;have hx:=bZ.below;refine E0 (fs (cur':=[vI x3,vI 0]) H_ z z (bZ.blk:Blk bY I.z [vI 0,vI 0]) z (lb z) (oA z) z) ?_;rintro _ J ⟨eP,eQ⟩;have hy:=eQ.one;refine Wn<|Wq<|Ws<|R z (fd N_ z)<|R z (l1 C_ z fid<|((hb.e hx).c hy<|djs<|mm1 bm.lt<|lt_ G.s h3.s).at z) ?_
  have c0 : ∀ k∈[H.z],¬ B k:=or0 (b_ lr)  (j_<|zt' hBw h1.s);have a7:=lt_ (lt_ (lt_ h1.s h2.s) G.s) h3.s;have aj : ∀ k∈[I.z],¬ B k:=or0 (b_ lr)  (j_<|zt' hBw a7);have c1:=((((h2.ag B).c G<|c_ c0).c h3<|c_<|b_ hBg).e hx).c hy<|c_ aj
  refine R z (lnR w_ z<|he.g c1)<|Rm z<|Wn ?_
  obtain ⟨_,cV,bb⟩:=bdS<|ifT ba aB;refine Wf (σ:=Int×Int×Int) (ρ:=V_×Int) (fun (c2:Nat) s a w=>un3 (fun xm xc xd=>Sat 145 [(0,pt g1),(6,pt w0.z),(12,pt I.z),(91,sl ai nj ck),(92,vI (xh.kids.length:Int)),(93,vI ((c2:Nat):Int))] a∧Chg (· ∈ ([g1]++[I.z])) J w∧inI xm∧inI xc∧inI xd∧Blk w g1 [sl A0 N0 C0,sl A5 N5 C5,vI xm]∧Blk w I.z [vI xc,vI xd]) s) (fun s a w=>un3 (fun xm xc xd=>Sat 145 [(6,pt w0.z),(12,pt I.z)] a∧Chg (· ∈ ([g1]++[I.z])) J w∧inI xm∧inI xc∧inI xd∧Blk w g1 [sl A0 N0 C0,sl A5 N5 C5,vI xm]∧Blk w I.z [vI xc,vI xd]) s) (fun r ex a w=>ex = .ret∧L_ prog fn (Q25 w0 g1 B A0 N0 C0 A5 N5 C5 x1 r) a w) cV ?_ ?_ ?_ ?_ ?_
  ·exact fun _ q=>⟨q.k<|s6 z z z z z z,cr ([g1]++[I.z]) J,iA _ _,p3_0,ii z,(ha.e hx).c hy<|djs<|mm1 (Blk.lt hB1) a7,eP⟩
  ·rintro c2 ⟨xm,xc,xd⟩ _ c3 _ bc ⟨cW,a8,a9,aa,ak,ab,a1⟩ cX;refine Wu ?_ cW;refine Ws<|R z (lss z z)<|Wn<|Wq<|Wc z (fun _=>?_) (fun hc=>(a_h bc hc).elim)
   refine Wk<|Wq<|Wb<|Ws ?_
   obtain ⟨_,eR,cY⟩:=bdS<|b_C cX;refine RX z (at_ (α:=Int) w_ z_3 z z z (he.g<|c1.c a8<|nmA (c_<|b_ hBg)<|c_ aj) eR) ?_;rintro _ ⟨_,_,_,rfl,eS,eT,_⟩;obtain ⟨rfl,eU⟩:=Q_ eT;refine R z (l1 g_3 z fid<|eS.at0 z)<|Ra z<|Wn<|Ws<|Rm z<|Rm z<|R z (fd c_C z)<|R z (l1 g_3 z fid<|a1.at z) ?_
   have c4:=((((((h1.ag B).e h2).c G<|c_ c0).c h3<|c_<|b_ hBg).e hx).c hy<|c_ aj).c a8<|nmA (c_<|b_ hBg)<|c_ aj
   obtain ⟨al,eV,eW,be⟩:=a_c cY;refine E z (fc call193 z<|dG.run (B:=B) eW ab (zt' hBw<|lt_ (lt_ (lt_ a7 hx.s) hy.s) a8.s) hBg (p1_0.g c4) (p1_1.g c4) a9 eU aa) ?_;rintro _ c5 ⟨aW,rfl,c6,c7,c8,c9⟩;have aX:=mm1 (Blk.lt hB1) a7;refine E0 (fs (cur':=[vI al.at_,vI al.code]) H_ z z (a1.c aW<|atp aX) z (lb z) (oA z) z) ?_;rintro _ ca ⟨aY,eX⟩;have am:=eX.one;refine Wn<|Ws<|R z (fd c_V z)<|R z (l1 g_3 z fid<|aY.at z)<|R z (nq z z)<|Wn<|Wc z (fun aC=>?_) (fun aC=>?_)
   ·have eY:Chg (· ∈ ([g1]++[I.z])) J c3:=cM (cr ([g1]++[I.z]) J) a8<|aa_ (io<|z_ sr)<|io<|B_ sr;exact We<|exO z (fun a' ha'=>b_t (som<|ifT be aC).symm ⟨Sat.weaken ha'<|s2 z z,(cM (cM eY aW (io<|z_ sr):Chg (· ∈ ([g1]++[I.z])) J c5) am (io<|B_ sr):Chg (· ∈ ([g1]++[I.z])) J ca),c8,c6,c7,c9.c am<|djs aX,aY⟩)
   refine Wk<|Wg<|R z (inc_ bc (lt_ (repS.len he) P_) z z)<|Rm z<|Wl ?_
   exact fun _ q=>⟨(eV,al.at_,al.code),(som<|ifF be aC).symm,⟨q.k<|s6 z z z z z z,(cM (cM (cM (cr ([g1]++[I.z]) J) a8 (aa_ (io<|z_ sr)<|io<|B_ sr):Chg (· ∈ ([g1]++[I.z])) J c3) aW (io<|z_ sr):Chg (· ∈ ([g1]++[I.z])) J c5) am (io<|B_ sr):Chg (· ∈ ([g1]++[I.z])) J ca),c8,c6,c7,c9.c am<|djs aX,aY⟩⟩
  ·rintro ⟨xm,xc,xd⟩ _ eZ ⟨cZ,f0,a9,aa,ak,ab,a1⟩;refine Wu ?_ cZ;refine Ws<|R z (lss z z)<|Wn<|Wq<|Wc z (fun hc=>(a_i hc).elim) (fun _=>?_)
   exact We<|fun a' ha'=>⟨rfl,⟨Sat.weaken ha'<|s2 z z,(cM (cr ([g1]++[I.z]) J) f0 (aa_ (io<|z_ sr)<|io<|B_ sr):Chg (· ∈ ([g1]++[I.z])) J eZ),a9,aa,ak,ab,a1⟩⟩
  ·rintro ⟨xm,xc,xd⟩ f1 f2 rfl ⟨_,cb,a9,aa,ak,ab,a1⟩;have d0:=elL bb;revert f1;refine Wo<|Ws<|R z (lN (vs:=[vI xc,vI xd]) a_f H_ z z fid<|a1.row 0 2 z) ?_
   have aZ:=mmr<|Blk.lt hB1
   have cc:=mm1 h6.lt<|lt_ (lt_ h2.s G.s) h3.s
   refine E0 (fs (cur':=[vI xc,vI xd]) H_ z z ((((((h6.e h2).c G<|djs<|mmr h6.lt).c h3<|atp aZ).e hx).c hy<|djs cc).c cb<|atp<|nmA aZ<|ds cc) z (lb z) (oA z) z) ?_;rintro _ f3 ⟨f4,f5⟩;have cd:=f5.one;refine Wn ?_;obtain rfl:=som<|b_C d0;have ce : ∀ k∈[I.z],k∈[g1]∨w0.z≤k:=mor a7;exact Wr<|rtO<|h_ hr (q_ a_f H_ z f4 z) ⟨(cM (cM (cM (d_ (cM (cM (d_ (d_ (cr [g1] w0) h1:Chg (· ∈ [g1]) w0 H) h2:Chg (· ∈ [g1]) w0 L) G (mor h1.s : ∀ k∈[H.z],k∈[g1]∨w0.z≤k):Chg (· ∈ [g1]) w0 O) h3 (io sr):Chg (· ∈ [g1]) w0 I) hx:Chg (· ∈ [g1]) w0 bY) hy ce:Chg (· ∈ [g1]) w0 J) cb (aa_ (io sr) ce):Chg (· ∈ [g1]) w0 f2) cd (mor lr : ∀ k∈[w0.z],k∈[g1]∨w0.z≤k):Chg (· ∈ [g1]) w0 f3),z,aa,ak,a9,ab.c cd<|djs aZ⟩
  rintro _ _ _ _ rfl ⟨rfl,cI⟩;have cJ:=elR bb;obtain rfl:=som cJ;exact ⟨cI,z⟩
 have bf:=ifF ba aB;refine Ws<|R z (eql z z)<|Ra z<|Wn<|Wc z (fun aD=>?_) (fun aD=>?_)
 ·refine Ws<|Rm z<|R z (lN (vs:=vR xh ao np cq ar ns ct au nv cw ai nj ck) I_ o_ z z fid<|hb.row 0 8 z)<|Rm z ?_
  have cf : ∀ k∈[H.z],¬ B k:=or0 (b_ lr)  (j_<|zt' hBw h1.s);have cg:=(((h1.ag B).e h2).c G<|c_ cf).c h3<|c_<|b_ hBg
  have an:=((h2.ag B).c G<|c_ cf).c h3<|c_<|b_ hBg
  obtain ⟨ch,_,d1,cK⟩:=a_c<|ifT bf aD;refine E z (fc call242 z<|dI.run (B:=B) d1 ha (zt' hBw<|lt_ (lt_ (lt_ h1.s h2.s) G.s) h3.s) hBg (p1_0.g cg) (p1_1.g cg) (iA _ _) a3 a4 hz (V.g an) (a5.g an) (a6.g an) (he.g an) p3_0) ?_;rintro _ d2 ⟨ci,rfl,d3,d4,d5,d6⟩;have b0:=mmr<|Blk.lt hB1
  refine E0 (fs (cur':=[vI ch.at_,vI ch.code]) H_ z z ((((h6.e h2).c G<|djs<|mmr h6.lt).c h3<|atp b0).c ci<|atp b0) z (lb z) (oA z) z) ?_;rintro _ d7 ⟨d8,d9⟩;have cj:=d9.one;refine Wn ?_;obtain rfl:=som cK;exact Wr<|rtO<|h_ hr (q_ a_f H_ z d8 z) ⟨(cM (cM (cM (cM (d_ (d_ (cr [g1] w0) h1:Chg (· ∈ [g1]) w0 H) h2:Chg (· ∈ [g1]) w0 L) G (mor h1.s : ∀ k∈[H.z],k∈[g1]∨w0.z≤k):Chg (· ∈ [g1]) w0 O) h3 (io sr):Chg (· ∈ [g1]) w0 I) ci (io sr):Chg (· ∈ [g1]) w0 d2) cj (mor lr : ∀ k∈[w0.z],k∈[g1]∨w0.z≤k):Chg (· ∈ [g1]) w0 d7),z,d3,d4,d5,d6.c cj<|djs b0⟩
 have bg:=ifF bf aD;refine Ws<|R z (eql z z)<|Ra z<|Wn<|Wc z (fun aE=>?_) (fun aE=>?_)
 ·refine Ws<|Rm z<|R z (lN (vs:=vR xh ao np cq ar ns ct au nv cw ai nj ck) I_ o_ z z fid<|hb.row 0 8 z)<|Rm z ?_
  have cl : ∀ k∈[H.z],¬ B k:=or0 (b_ lr)  (j_<|zt' hBw h1.s);have cm:=(((h1.ag B).e h2).c G<|c_ cl).c h3<|c_<|b_ hBg
  have ap:=((h2.ag B).c G<|c_ cl).c h3<|c_<|b_ hBg
  obtain ⟨cn,_,da,cL⟩:=a_c<|ifT bg aE;refine E z (fc call243 z<|dJ.run (B:=B) da ha (zt' hBw<|lt_ (lt_ (lt_ h1.s h2.s) G.s) h3.s) hBg (p1_0.g cm) (p1_1.g cm) (iA _ _) a3 a4 hz (V.g ap) (a5.g ap) (a6.g ap) (he.g ap) p3_0) ?_;rintro _ db ⟨co,rfl,dc,dd,de,df⟩;have b1:=mmr<|Blk.lt hB1
  refine E0 (fs (cur':=[vI cn.at_,vI cn.code]) H_ z z ((((h6.e h2).c G<|djs<|mmr h6.lt).c h3<|atp b1).c co<|atp b1) z (lb z) (oA z) z) ?_;rintro _ dg ⟨dh,di⟩;have cp:=di.one;refine Wn ?_;obtain rfl:=som cL;exact Wr<|rtO<|h_ hr (q_ a_f H_ z dh z) ⟨(cM (cM (cM (cM (d_ (d_ (cr [g1] w0) h1:Chg (· ∈ [g1]) w0 H) h2:Chg (· ∈ [g1]) w0 L) G (mor h1.s : ∀ k∈[H.z],k∈[g1]∨w0.z≤k):Chg (· ∈ [g1]) w0 O) h3 (io sr):Chg (· ∈ [g1]) w0 I) co (io sr):Chg (· ∈ [g1]) w0 db) cp (mor lr : ∀ k∈[w0.z],k∈[g1]∨w0.z≤k):Chg (· ∈ [g1]) w0 dg),z,dc,dd,de,df.c cp<|djs b1⟩
 have bh:=ifF bg aE;refine Ws<|R z (eql z z)<|Ra z<|Wn<|Wc z (fun aF=>?_) (fun aF=>?_)
 ·refine Ws<|Rm z<|R z (lN (vs:=vR xh ao np cq ar ns ct au nv cw ai nj ck) I_ o_ z z fid<|hb.row 0 8 z)<|Rm z ?_
  have cu : ∀ k∈[H.z],¬ B k:=or0 (b_ lr)  (j_<|zt' hBw h1.s);have cv:=(((h1.ag B).e h2).c G<|c_ cu).c h3<|c_<|b_ hBg
  have aq:=((h2.ag B).c G<|c_ cu).c h3<|c_<|b_ hBg
  obtain ⟨cx,_,dj,cN⟩:=a_c<|ifT bh aF;refine E z (fc call244 z<|dK.run (B:=B) dj ha (zt' hBw<|lt_ (lt_ (lt_ h1.s h2.s) G.s) h3.s) hBg (p1_0.g cv) (p1_1.g cv) (iA _ _) a3 a4 hz (V.g aq) (a5.g aq) (a6.g aq) (he.g aq) p3_0) ?_;rintro _ dk ⟨cy,rfl,dl,dm,dn,dp⟩;have b2:=mmr<|Blk.lt hB1
  refine E0 (fs (cur':=[vI cx.at_,vI cx.code]) H_ z z ((((h6.e h2).c G<|djs<|mmr h6.lt).c h3<|atp b2).c cy<|atp b2) z (lb z) (oA z) z) ?_;rintro _ dq ⟨dr,dt⟩;have cz:=dt.one;refine Wn ?_;obtain rfl:=som cN;exact Wr<|rtO<|h_ hr (q_ a_f H_ z dr z) ⟨(cM (cM (cM (cM (d_ (d_ (cr [g1] w0) h1:Chg (· ∈ [g1]) w0 H) h2:Chg (· ∈ [g1]) w0 L) G (mor h1.s : ∀ k∈[H.z],k∈[g1]∨w0.z≤k):Chg (· ∈ [g1]) w0 O) h3 (io sr):Chg (· ∈ [g1]) w0 I) cy (io sr):Chg (· ∈ [g1]) w0 dk) cz (mor lr : ∀ k∈[w0.z],k∈[g1]∨w0.z≤k):Chg (· ∈ [g1]) w0 dq),z,dl,dm,dn,dp.c cz<|djs b2⟩
 refine Wk<|Wq (Wd (X:=noX) 0 (.rd 0<|.rd 1<|.rd 2<|.rd 3<|.rd 4<|.rd 5<|.rd 6<|.rd 7<|.rd 8<|.ef 9<|.rd 10<|.rd 11<|.rd 12<|.rd 13<|.rd 14<|.rd 15<|.rd 16 .done) mo (by kernel_rfl) fun cA sg _=>dR z z (mv z)<|dR z z (T_ z)<|dR z z (fd d_j z) ?_)
 have b3:=ha.e sg;refine dR z z (l1 X_ z fid<|b3.at z)<|dR z z (mv z)<|dR z z (fd a_W z)<|dR z z (l1 X_ z fid<|(hb.e sg).at z) ?_
 obtain ⟨_,du,cO⟩:=bdS<|ifF bh aF;have cB : ∀ k∈[H.z],¬ B k:=or0 (b_ lr)  (j_<|zt' hBw h1.s);refine dRX z z (at_ (α:=UInt8) n_ z_5 z z z (V.g<|(((h2.ag B).c G<|c_ cB).c h3<|c_<|b_ hBg).e sg) du) ?_;rintro _ ⟨_,_,_,rfl,dv,dw,_⟩;obtain rfl:=u8 dw;refine dR z z (l1 g_5 z fid<|dv.at0 z) ?_;obtain ⟨_,cC,_,dx,bi⟩:=p_ cO;refine dE z z (fc call232 z<|W_w1l (B:=B) dx (zt' hBw<|lt_ (lt_ (lt_ (lt_ h1.s h2.s) G.s) h3.s) sg.s) (p1_1.g<|((((h1.ag B).e h2).c G<|c_ cB).c h3<|c_<|b_ hBg).e sg) p3_0) (.inr fun _ _ h=>A_<|h.1) ?_;rintro _ cD ⟨a2,_,_,_,_,rfl,_,dy,_,_⟩;refine dR z z (mv z) ?_
 iterate 3 refine dR z z (ext_ z z) ?_
 iterate 3 refine dR z z (asg z) ?_
 refine pD<|Wo<|Wq<|Ws<|Rm z<|R z (not_ z)<|Wn<|Wc z (fun aG=>?_) (fun aG=>?_)
 ·refine Ws<|Rm z<|R z (bP (parts:=[(0,.tmp 141),(1,.const<|.int .i64 1)]) (cs:=[vI x3,vI 1]) c_o z z) ?_
  have cE:=mmr<|Blk.lt hB1
  refine E0 (fs (cur':=[vI x3,vI 1]) H_ z z (((((h6.e h2).c G<|djs<|mmr h6.lt).c h3<|atp cE).e sg).e a2) z (lb z) (oA z) z) ?_;rintro _ dz ⟨dA,dB⟩;have cF:=dB.one;refine Wn ?_;obtain rfl:=som<|ifT bi aG;exact Wr<|h_ hr (q_ a_f H_ z dA z) ⟨(cM (d_ (d_ (cM (cM (d_ (d_ (cr [g1] w0) h1:Chg (· ∈ [g1]) w0 H) h2:Chg (· ∈ [g1]) w0 L) G (mor h1.s : ∀ k∈[H.z],k∈[g1]∨w0.z≤k):Chg (· ∈ [g1]) w0 O) h3 (io sr):Chg (· ∈ [g1]) w0 I) sg:Chg (· ∈ [g1]) w0 cA) a2:Chg (· ∈ [g1]) w0 cD) cF (mor lr : ∀ k∈[w0.z],k∈[g1]∨w0.z≤k):Chg (· ∈ [g1]) w0 dz),z,p3_0,ii z,iA _ _,(b3.e a2).c cF<|djs cE⟩
 refine Wk<|Ws<|Rm z<|R z (bP (parts:=[(0,.tmp 143),(1,.const<|.int .i64 0)]) (cs:=[vI cC,vI 0]) c_o z z) ?_
 have cG:=mmr<|Blk.lt hB1
 refine E0 (fs (cur':=[vI cC,vI 0]) H_ z z (((((h6.e h2).c G<|djs<|mmr h6.lt).c h3<|atp cG).e sg).e a2) z (lb z) (oA z) z) ?_;rintro _ dC ⟨dD,dF⟩;have cH:=dF.one;refine Wn ?_;obtain rfl:=som<|ifF bi aG;exact Wr<|h_ hr (q_ a_f H_ z dD z) ⟨(cM (d_ (d_ (cM (cM (d_ (d_ (cr [g1] w0) h1:Chg (· ∈ [g1]) w0 H) h2:Chg (· ∈ [g1]) w0 L) G (mor h1.s : ∀ k∈[H.z],k∈[g1]∨w0.z≤k):Chg (· ∈ [g1]) w0 O) h3 (io sr):Chg (· ∈ [g1]) w0 I) sg:Chg (· ∈ [g1]) w0 cA) a2:Chg (· ∈ [g1]) w0 cD) cH (mor lr : ∀ k∈[w0.z],k∈[g1]∨w0.z≤k):Chg (· ∈ [g1]) w0 dC),z,dy,ii z,iA _ _,(b3.e a2).c cH<|djs cG⟩
theorem T_w1m (ih:f_1 n):j_q (g_R n<|a_v n):=by
 obtain ⟨aJ,_,_,_,_⟩:=ih
 constructor
 intro A0 A5 A2 A3 A1 A4 N0 C0 N5 C5 g1 N2 C2 N3 C3 N1 C1 N4 C4 B x1 x2 x3 res w0 hm hB1 hBw hBg p1_0 p1_1 p1_2 p2_0 p2_1 p2_2 p2_4 p2_5 p2_6 p2_7 p3_0;unfold g_R at hm
 refine goF func241 z z (lb z) fun fn hr=>Ws<|E z (fb z) ?_
 rintro _ J ⟨rfl,a6⟩;have h6:=a6.below;have a7:Blk J w0.z (vR x2 A2 N2 C2 A3 N3 C3 A1 N1 C1 A4 N4 C4):=a6.blk;refine E z (fa b_u) ?_;rintro _ wr ⟨rfl,a8⟩;have he:=a8.below;have hn:Blk wr J.z [vI 0,vI 0]:=a8.blk;refine Wn<|Ws<|Rm z<|R z (fd N_ z) ?_
 have a9:=a7.e he;refine R z (l1 C_ z fid<|a9.at z) ?_;obtain ⟨_,aK,az⟩:=bdS hm;have ho:=(h6.ag B).e he;refine RX z (at_ (α:=Int) w_ z_3 z z z (p2_7.g ho) aK) ?_;rintro _ ⟨_,_,_,rfl,aL,aM,_⟩;obtain ⟨rfl,aN⟩:=Q_ aM;refine R z (l1 g_3 z fid<|aL.at0 z)<|Rm z ?_
 have hj:=lt_ h6.s he.s;obtain ⟨aa,rs,_,aO,aA⟩:=p_ az;refine E z (fc call238 z<|h_Y (B:=B) aO ((hB1.e h6).e he) (zt' hBw hj) hBg (p1_0.g ho) (p1_1.g ho) p1_2 aN p3_0) ?_;rintro _ G ⟨I,rfl,aP,aQ,aR,ab,ad⟩;refine Rm z<|R z (ext_ z z)<|R z (ext_ z z)<|E z (fa b_u) ?_
 rintro _ wu ⟨rfl,ae⟩;have O:=ae.below;refine Ra z<|E0 (fs (cur':=[vI rs.at_,vI rs.code]) H_ z z (ae.blk:Blk wu G.z [vI 0,vI 0]) z (lb z) (oA z) z) ?_
 rintro _ wg ⟨af,aS⟩;have V:=aS.one;refine Wn<|Wq<|Wq ?_
 obtain ⟨aT,a1,a2⟩:=bdS aA;refine Wt (fun a w=>∃ (xv:Bool),xv=aT∧Sat 46 [(0,pt g1),(2,vI x3),(4,pt w0.z),(6,pt J.z),(7,vI aa),(8,pt G.z),(25,vB xv)] a∧Below wg.z wg w) ?_ ?_
 ·refine Wg<|R z (fd c_V z)<|R z (l1 g_3 z fid<|af.at z)<|R z (eql z z)<|Rm z ?_
  rcases bs (rs.code==0) with L | L
  ·exact Rh z L (mv z)<|Rh z L (a_1 z z)<|R z (pT z L z)<|Wl (fun _ q=>⟨decide<|40<aa,som<|ifT a1 L,q.k<|s7 z z z z z z z,br wg⟩)
  exact Nh z L<|Nh z L<|R z (pF z L z)<|Wl (fun _ q=>⟨false,som<|ifF a1 L,q.k<|s7 z z z z z z z,br wg⟩)
 rintro aU H ⟨xv,rfl,_,s4⟩;revert aU;refine Wo<|Wc z (fun hcw=>?_) (fun hcw=>?_)
 ·refine Ws<|Rm z<|R z (bP (parts:=[(0,.tmp 26),(1,.const<|.int .i64 6)]) (cs:=[vI x3,vI 6]) c_o z z) ?_
  have ah:=mm1 (Blk.lt hB1) h6.s;refine E0 (fs (cur':=[vI x3,vI 6]) H_ z z ((((hn.c I<|atp ah).e O).c V<|djs<|mm1 hn.lt I.s).e s4) z (lb z) (oA z) z) ?_;rintro _ aV ⟨aW,aX⟩;have ai:=aX.one;refine Wn ?_;obtain rfl:=som<|ifT a2 hcw;have aj:=lt_ hj I.s;exact Wr<|h_ hr (q_ a_f H_ z aW z) ⟨(cM (d_ (cM (d_ (cM (d_ (d_ (cr [g1] w0) h6:Chg (· ∈ [g1]) w0 J) he:Chg (· ∈ [g1]) w0 wr) I (io sr):Chg (· ∈ [g1]) w0 G) O:Chg (· ∈ [g1]) w0 wu) V (mor aj : ∀ k∈[G.z],k∈[g1]∨w0.z≤k):Chg (· ∈ [g1]) w0 wg) s4:Chg (· ∈ [g1]) w0 H) ai (mor h6.s : ∀ k∈[J.z],k∈[g1]∨w0.z≤k):Chg (· ∈ [g1]) w0 aV),z,p3_0,ii z,ab,(((ad.e O).c V<|djs<|mm1 (Blk.lt hB1) aj).e s4).c ai<|djs ah⟩
 refine Wk<|Wq ?_
 obtain ⟨_,aB,a3⟩:=bdS<|ifF a2 hcw;refine b_P (σ:=Int×Int×Int×Int) (ρ:=V_×Int) (fun s a w=>un4 (fun xa xf xb x5=>Sat 46 [(0,pt g1),(4,pt w0.z),(6,pt J.z),(7,vI xa),(8,pt G.z)] a∧Chg (· ∈ ([g1]++[G.z])) H w∧inI xa∧inI xf∧inI xb∧inI x5∧Blk w g1 [sl A0 N0 C0,sl A5 N5 C5,vI xf]∧Blk w G.z [vI xb,vI x5]) s) (fun s a w=>un4 (fun xa xf xb x5=>Sat 46 [(6,pt J.z),(8,pt G.z)] a∧Chg (· ∈ ([g1]++[G.z])) H w∧inI xa∧inI xf∧inI xb∧inI x5∧Blk w g1 [sl A0 N0 C0,sl A5 N5 C5,vI xf]∧Blk w G.z [vI xb,vI x5]) s) (fun r ex a w=>ex = .ret∧L_ prog fn (Q25 w0 g1 B A0 N0 C0 A5 N5 C5 x1 r) a w) aB ?_ ?_ ?_ ?_
 ·exact fun _ q=>⟨q.k<|s5 z z z z z,cr ([g1]++[G.z]) H,aP,ab,aQ,aR,((ad.e O).c V<|djs<|mm1 (Blk.lt hB1)<|lt_ hj I.s).e s4,af.e s4⟩
 ·rintro ⟨xa,xf,xb,x5⟩ _ wh _ ⟨aC,sk,ak,hp,hq,hx,ht,hl⟩ aD;refine Wu ?_ aC;refine Wq<|Wq ?_
  obtain ⟨aY,a4,a5⟩:=bdS<|c_S aD;refine Wt (fun a w=>∃ (xy:Bool),xy=aY∧Sat 46 [(0,pt g1),(4,pt w0.z),(6,pt J.z),(7,vI xa),(8,pt G.z),(34,vB xy)] a∧Below wh.z wh w) ?_ ?_
  ·refine Wg<|Rm z<|R z (a_1 z z)<|Rm z ?_
   rcases bs (decide<|0<xa) with hcc | hcc
   ·exact Rh z hcc (fd c_V z)<|Rh z hcc (l1 g_3 z fid<|hl.at z)<|Rh z hcc (eql z z)<|R z (pT z hcc z)<|Wl (fun _ q=>⟨x5==0,som<|ifT a4 hcc,q.k<|s6 z z z z z z,br wh⟩)
   iterate 3 refine Nh z hcc ?_
   exact R z (pF z hcc z)<|Wl (fun _ q=>⟨false,som<|ifF a4 hcc,q.k<|s6 z z z z z z,br wh⟩)
  rintro aZ al ⟨xy,rfl,_,sd⟩;revert aZ;refine Wo<|Wc z (fun hcz=>?_) (fun hcz=>?_)
  ·refine Wk<|Wq<|Wb (Wd (X:=noX) 384 (.rd 0<|.rd 1<|.rd 2<|.rd 3<|.rd 4<|.rd 5<|.rd 6<|.ef 7<|.ef 8 .done) mo (by kernel_rfl) fun b0 si _=>dR z z (mv z)<|dR z z (fd N_ z) ?_)
   have am:=mmr<|Blk.lt hB1
   have an:=mm1 a7.lt<|lt_ he.s I.s
   refine dR z z (l1 C_ z fid<|(((((((a9.c I<|atp am).e O).c V<|djs an).e s4).c sk<|atp<|nmA am<|ds an).e sd).e si).at z) ?_;obtain ⟨_,b1,aE⟩:=bdS<|ifT a5 hcz;have W:=lt_ hj I.s;have ao : ∀ k∈[G.z],¬ B k:=or0 (b_ lr)  (j_<|zt' hBw W);have Y:=((((((ho.c I<|c_<|b_ hBg).e O).c V<|c_ ao).e s4).c sk<|nmA (c_<|b_ hBg)<|c_ ao).e sd).e si;refine dRX z z (at_ (α:=Int) w_ z_3 z z z (p2_7.g Y) b1) ?_;rintro _ ⟨_,_,_,rfl,b2,b3,_⟩;obtain ⟨rfl,b4⟩:=Q_ b3;refine dR z z (l1 g_3 z fid<|b2.at0 z)<|dR z z (fd c_C z) ?_
   have ap:=(hl.e sd).e si;refine dR z z (l1 g_3 z fid<|ap.at z) ?_;obtain ⟨rm,b5,b6,aF⟩:=a_c aE;refine dE z z (fc call193 z<|aJ.run (B:=B) b6 ((ht.e sd).e si) (zt' hBw<|lt_ (lt_ (lt_ (lt_ (lt_ (lt_ W O.s) V.s) s4.s) sk.s) sd.s) si.s) hBg (p1_0.g Y) (p1_1.g Y) hp b4 hq) (.inl z) ?_;rintro _ b7 ⟨aq,rfl,b8,b9,ba,bb⟩;have ar:=mm1 (Blk.lt hB1) W;refine dE0 z (fs (cur':=[vI rm.at_,vI rm.code]) H_ z z (ap.c aq<|atp ar) z (lb z) (oA z) z) (.inl z) ?_;rintro _ bc ⟨be,bf⟩;have au:=bf.one;refine pD<|Wo<|Wg<|Rm z<|R z (sb_ z z)<|Ra z<|Wl ?_
   exact fun _ q=>⟨(D_ xa 1,b5,rm.at_,rm.code),(som aF).symm,⟨q.k<|s5 z z z z z,(cM (cM (d_ (d_ (cM (cr ([g1]++[G.z]) H) sk (aa_ (io<|z_ sr)<|io<|B_ sr):Chg (· ∈ ([g1]++[G.z])) H wh) sd:Chg (· ∈ ([g1]++[G.z])) H al) si:Chg (· ∈ ([g1]++[G.z])) H b0) aq (io<|z_ sr):Chg (· ∈ ([g1]++[G.z])) H b7) au (io<|B_ sr):Chg (· ∈ ([g1]++[G.z])) H bc),iS _ _,ba,b8,b9,bb.c au<|djs ar,be⟩⟩
  exact We<|fun a' ha'=>b_t (som<|ifF a5 hcz).symm ⟨Sat.weaken ha'<|s2 z z,(d_ (cM (cr ([g1]++[G.z]) H) sk (aa_ (io<|z_ sr)<|io<|B_ sr):Chg (· ∈ ([g1]++[G.z])) H wh) sd:Chg (· ∈ ([g1]++[G.z])) H al),ak,hp,hq,hx,ht.e sd,hl.e sd⟩
 ·rintro ⟨xa,xf,xb,x5⟩ bg bh rfl ⟨_,av,ak,hp,hq,hx,ht,hl⟩;have aG:=elL a3;revert bg;refine Wo<|Ws<|R z (lN (vs:=[vI xb,vI x5]) a_f H_ z z fid<|hl.row 0 2 z) ?_
  have a0:=mm1 (Blk.lt hB1) h6.s;have aw:=mm1 hn.lt I.s;refine E0 (fs (cur':=[vI xb,vI x5]) H_ z z (((((hn.c I<|atp a0).e O).c V<|djs aw).e s4).c av<|atp<|nmA a0<|ds aw) z (lb z) (oA z) z) ?_;rintro _ bi ⟨bj,bk⟩;have ax:=bk.one;refine Wn ?_;obtain rfl:=som<|c_S aG;have ay : ∀ k∈[G.z],k∈[g1]∨w0.z≤k:=mor<|lt_ hj I.s;exact Wr<|h_ hr (q_ a_f H_ z bj z) ⟨(cM (cM (d_ (cM (d_ (cM (d_ (d_ (cr [g1] w0) h6:Chg (· ∈ [g1]) w0 J) he:Chg (· ∈ [g1]) w0 wr) I (io sr):Chg (· ∈ [g1]) w0 G) O:Chg (· ∈ [g1]) w0 wu) V ay:Chg (· ∈ [g1]) w0 wg) s4:Chg (· ∈ [g1]) w0 H) av (aa_ (io sr) ay):Chg (· ∈ [g1]) w0 bh) ax (mor h6.s : ∀ k∈[J.z],k∈[g1]∨w0.z≤k):Chg (· ∈ [g1]) w0 bi),z,hq,hx,hp,ht.c ax<|djs a0⟩
 rintro _ _ _ _ rfl ⟨rfl,aH⟩;have aI:=elR a3;obtain rfl:=som aI;exact ⟨aH,z⟩
theorem T_w1n (ih:f_1 n):j_r (g_S n<|a_v n):=by
 obtain ⟨aj,_,_,_,_⟩:=ih
 constructor
 intro A0 A5 A2 A3 A1 A4 N0 C0 N5 C5 g1 N2 C2 N3 C3 N1 C1 N4 C4 B x1 x2 x3 res w0 hm hB1 hBw hBg p1_0 p1_1 p1_2 p2_0 p2_1 p2_2 p2_4 p2_5 p2_6 p2_7 p3_0;unfold g_S at hm
 refine goF func242 z z (lb z) fun fn hr=>Ws<|E z (fb z) ?_
 rintro _ H ⟨rfl,hq⟩;have h1:=hq.below;have ht:Blk H w0.z (vR x2 A2 N2 C2 A3 N3 C3 A1 N1 C1 A4 N4 C4):=hq.blk;refine E z (fa b_u) ?_;rintro _ wc ⟨rfl,hu⟩;have h6:=hu.below;have L:Blk wc H.z [vI 0,vI 0]:=hu.blk;refine Wn<|Ws<|Rm z<|R z (fd N_ z) ?_
 have hv:=ht.e h6;refine R z (l1 C_ z fid<|hv.at z) ?_;obtain ⟨_,ak,a7⟩:=bdS hm;have he:=(h1.ag B).e h6;refine RX z (at_ (α:=Int) w_ z_3 z z z (p2_7.g he) ak) ?_;rintro _ ⟨_,_,_,rfl,al,am,_⟩;obtain ⟨rfl,an⟩:=Q_ am;refine R z (l1 g_3 z fid<|al.at0 z)<|Rm z ?_
 have hg:=lt_ h1.s h6.s;obtain ⟨ao,rb,_,ap,hmr⟩:=p_ a7;refine E z (fc call238 z<|h_Y (B:=B) ap ((hB1.e h1).e h6) (zt' hBw hg) hBg (p1_0.g he) (p1_1.g he) p1_2 an p3_0) ?_;rintro _ I ⟨G,rfl,_,hw,aq,hh,hi⟩;refine Rm z<|R z (ext_ z z)<|R z (ext_ z z)<|E z (fa b_u) ?_
 rintro _ wf ⟨rfl,hx⟩;have h2:=hx.below;refine Ra z<|E0 (fs (cur':=[vI rb.at_,vI rb.code]) H_ z z (hx.blk:Blk wf I.z [vI 0,vI 0]) z (lb z) (oA z) z) ?_
 rintro _ J ⟨hj,ar⟩;have h3:=ar.one;refine Wn<|Wq<|Ws<|R z (fd c_V z)<|R z (l1 g_3 z fid<|hj.at z)<|R z (nq z z)<|Wn<|Wc z (fun hck=>?_) (fun hck=>?_)
 ·refine Ws<|R z (lN (vs:=[vI rb.at_,vI rb.code]) a_f H_ z z fid<|hj.row 0 2 z) ?_
  have hy:=mm1 (Blk.lt hB1) h1.s;refine E0 (fs (cur':=[vI rb.at_,vI rb.code]) H_ z z (((L.c G<|atp hy).e h2).c h3<|djs<|mm1 L.lt G.s) z (lb z) (oA z) z) ?_;rintro _ au ⟨av,aw⟩;have hz:=aw.one;refine Wn ?_;obtain rfl:=som<|ifT hmr hck;have V:=lt_ hg G.s;exact Wr<|h_ hr (q_ a_f H_ z av z) ⟨(cM (cM (d_ (cM (d_ (d_ (cr [g1] w0) h1:Chg (· ∈ [g1]) w0 H) h6:Chg (· ∈ [g1]) w0 wc) G (io sr):Chg (· ∈ [g1]) w0 I) h2:Chg (· ∈ [g1]) w0 wf) h3 (mor V : ∀ k∈[I.z],k∈[g1]∨w0.z≤k):Chg (· ∈ [g1]) w0 J) hz (mor h1.s : ∀ k∈[H.z],k∈[g1]∨w0.z≤k):Chg (· ∈ [g1]) w0 au),z,hw,aq,hh,((hi.e h2).c h3<|djs<|mm1 (Blk.lt hB1) V).c hz<|djs hy⟩
 refine Wk<|Wq<|Ws<|R z (fd b_1 z) ?_
 have W:=((hv.c G<|atp<|mmr<|Blk.lt hB1).e h2).c h3<|djs<|mm1 ht.lt<|lt_ h6.s G.s
 refine R z (l1 C_ z fid<|W.at z) ?_;have hd:=lt_ hg G.s;have Y:=((he.c G<|c_<|b_ hBg).e h2).c h3<|c_ (or0 (b_ lr)  (j_<|zt' hBw hd) : ∀ k∈[I.z],¬ B k)
 refine R z (lnR w_ z<|p2_6.g Y)<|Rm z<|Wn ?_
 obtain ⟨_,a8,hms⟩:=bdS<|ifF hmr hck;refine Wf (σ:=Unit) (ρ:=V_×Int) (fun (a0:Nat) (_:Unit) a w=>Sat 49 [(0,pt g1),(2,vI x3),(4,pt w0.z),(6,pt H.z),(7,vI ao),(8,pt I.z),(26,sl A1 N1 C1),(27,vI (x2.tags.length:Int)),(28,vI ((a0:Nat):Int))] a∧Below J.z J w) (fun (_:Unit) a w=>Sat 49 [(2,vI x3),(6,pt H.z)] a∧Below J.z J w) (fun r ex a w=>ex = .ret∧L_ prog fn (Q25 w0 g1 B A0 N0 C0 A5 N5 C5 x1 r) a w) a8 ?_ ?_ ?_ ?_ ?_
 ·exact fun _ q=>⟨q.k<|s9 z z z z z z z z z,br J⟩
 ·rintro a0 _ _ ax _ hkl ⟨a9,s8⟩ aa;refine Wu ?_ a9;refine Ws<|R z (lss z z)<|Wn<|Wq<|Wc z (fun _=>?_) (fun hc=>(a_h hkl hc).elim)
  refine Wk<|Wq<|Wb<|Ws<|Rm z ?_
  obtain ⟨_,ay,O⟩:=bdS aa;have a1:=Y.e s8;refine RX z (at_ (α:=Int) w_ z_3 z z z (p2_6.g a1) ay) ?_;rintro _ ⟨_,_,_,rfl,az,aA,_⟩;obtain ⟨rfl,_⟩:=Q_ aA;refine R z (l1 g_3 z fid<|az.at0 z)<|Ra z<|Ra z<|Wn<|Ws<|Rm z<|Rm z<|R z (eql z z)<|Wn<|Wc z (fun hcm=>?_) (fun hcm=>?_)
  ·refine Wq (Wd (X:=noX) 1536 (.rd 0<|.rd 1<|.rd 2<|.rd 3<|.rd 4<|.rd 5<|.rd 6<|.rd 7<|.rd 8<|.ef 9<|.ef 10 .done) mo (by kernel_rfl) fun aB sa _=>dR z z (mv z)<|dR z z (fd N_ z)<|dR z z (l1 C_ z fid<|((W.e s8).e sa).at z)<|dR z z (mv z)<|dR z z (inc_ hkl (lt_ (repS.len p2_6) P_) z z) ?_);obtain ⟨_,aC,ab⟩:=bdS<|ifT O hcm;have hn:=a1.e sa;refine dRX z z (at_ (α:=Int) w_ z_3 z z z (p2_7.g hn) aC) ?_;rintro _ ⟨_,_,_,rfl,aD,aE,_⟩;obtain ⟨rfl,aF⟩:=Q_ aE;refine dR z z (l1 g_3 z fid<|aD.at0 z)<|dR z z (fd c_C z)<|dR z z (l1 g_3 z fid<|((hj.e s8).e sa).at z) ?_
   obtain ⟨a2,_,aG,ad⟩:=a_c ab;refine dE z z (fc call193 z<|aj.run (B:=B) aG ((((hi.e h2).c h3<|djs<|mm1 (Blk.lt hB1) hd).e s8).e sa) (zt' hBw<|lt_ (lt_ (lt_ (lt_ hd h2.s) h3.s) s8.s) sa.s) hBg (p1_0.g hn) (p1_1.g hn) hh aF hw) (.inl z) ?_;rintro _ aH ⟨a3,rfl,aI,aJ,aK,aL⟩;have ho:=mm1 (Blk.lt hB1) h1.s;refine dE0 z (fs (cur':=[vI a2.at_,vI a2.code]) H_ z z ((((((L.c G<|atp ho).e h2).c h3<|djs<|mm1 L.lt G.s).e s8).e sa).c a3<|atp ho) z (lb z) (oA z) z) (.inl z) ?_;rintro _ aM ⟨aN,aO⟩;have a4:=aO.one;refine pD<|Wo ?_
   exact Wr<|rtO<|qL (som ad).symm<|h_ hr (q_ a_f H_ z aN z) ⟨(cM (cM (d_ (d_ (cM (d_ (cM (d_ (d_ (cr [g1] w0) h1:Chg (· ∈ [g1]) w0 H) h6:Chg (· ∈ [g1]) w0 wc) G (io sr):Chg (· ∈ [g1]) w0 I) h2:Chg (· ∈ [g1]) w0 wf) h3 (mor hd : ∀ k∈[I.z],k∈[g1]∨w0.z≤k):Chg (· ∈ [g1]) w0 J) s8:Chg (· ∈ [g1]) w0 ax) sa:Chg (· ∈ [g1]) w0 aB) a3 (io sr):Chg (· ∈ [g1]) w0 aH) a4 (mor h1.s : ∀ k∈[H.z],k∈[g1]∨w0.z≤k):Chg (· ∈ [g1]) w0 aM),z,aI,aJ,aK,aL.c a4<|djs ho⟩
  exact Wk<|Wg<|R z (inc_ hkl (lt_ (repS.len p2_6) P_) z z)<|Rm z<|Wl (fun _ q=>⟨(),(som<|ifF O hcm).symm,⟨q.k<|s9 z z z z z z z z z,s8⟩⟩)
 ·rintro _ _ _ ⟨ae,aP⟩;refine Wu ?_ ae;refine Ws<|R z (lss z z)<|Wn<|Wq<|Wc z (fun hc=>(a_i hc).elim) (fun _=>?_)
  exact We<|fun a' ha'=>⟨rfl,⟨Sat.weaken ha'<|s2 z z,aP⟩⟩
 ·rintro _ aQ aR rfl ⟨_,sp⟩;have af:=elL hms;revert aQ;refine Wo<|Ws<|Rm z<|R z (bP (parts:=[(0,.tmp 47),(1,.const<|.int .i64 3)]) (cs:=[vI x3,vI 3]) c_o z z) ?_
  have a5:=mm1 (Blk.lt hB1) h1.s;refine E0 (fs (cur':=[vI x3,vI 3]) H_ z z ((((L.c G<|atp a5).e h2).c h3<|djs<|mm1 L.lt G.s).e sp) z (lb z) (oA z) z) ?_;rintro _ aS ⟨aT,aU⟩;have a6:=aU.one;refine Wn ?_;obtain rfl:=som af;exact Wr<|h_ hr (q_ a_f H_ z aT z) ⟨(cM (d_ (cM (d_ (cM (d_ (d_ (cr [g1] w0) h1:Chg (· ∈ [g1]) w0 H) h6:Chg (· ∈ [g1]) w0 wc) G (io sr):Chg (· ∈ [g1]) w0 I) h2:Chg (· ∈ [g1]) w0 wf) h3 (mor hd : ∀ k∈[I.z],k∈[g1]∨w0.z≤k):Chg (· ∈ [g1]) w0 J) sp:Chg (· ∈ [g1]) w0 aR) a6 (mor h1.s : ∀ k∈[H.z],k∈[g1]∨w0.z≤k):Chg (· ∈ [g1]) w0 aS),z,p3_0,ii z,hh,(((hi.e h2).c h3<|djs<|mm1 (Blk.lt hB1) hd).e sp).c a6<|djs a5⟩
 rintro _ _ _ _ rfl ⟨rfl,ah⟩;have ai:=elR hms;obtain rfl:=som ai;exact ⟨ah,z⟩
theorem T_w1o (ih:f_1 n):j_s (g_T n<|a_v n):=by
 obtain ⟨a8,_,_,_,_⟩:=ih
 constructor
 intro A0 A5 A2 A3 A1 A4 N0 C0 N5 C5 g1 N2 C2 N3 C3 N1 C1 N4 C4 B x1 x2 x3 res w0 hm hB1 hBw hBg p1_0 p1_1 p1_2 p2_0 p2_1 p2_2 p2_4 p2_5 p2_6 p2_7 p3_0;unfold g_T at hm
 refine goF func243 z z (lb z) fun fn hr=>Ws<|E z (fb z) ?_
 rintro _ J ⟨rfl,hq⟩;have h5:=hq.below;have ht:Blk J w0.z (vR x2 A2 N2 C2 A3 N3 C3 A1 N1 C1 A4 N4 C4):=hq.blk;refine E z (fa b_u) ?_;rintro _ we ⟨rfl,hu⟩;have L:=hu.below;have hc:Blk we J.z [vI 0,vI 0]:=hu.blk;refine Wn<|Ws<|Rm z<|Rm z ?_
 have hf:=(hB1.e h5).e L;have hg:=(h5.ag B).e L;have hh:=lt_ h5.s L.s;obtain ⟨O,a9,a4⟩:=bdS hm;refine E z (fc call240 z<|g_1 (B:=w0.z) a9 (a_V hh) (repS.mono (p1_0.g hg) hBw) (repS.mono (p1_1.g hg) hBw) p1_2 (hf.row 0 3 z) (Blk.lt hB1) p3_0<|ii z) ?_;rintro _ I ⟨G,rfl,hv,aa⟩;refine E z (fa b_u) ?_;rintro _ wi ⟨rfl,hw⟩;have h2:=hw.below;refine E0 (fs (cur':=[vI O.at_,vI O.code]) H_ z z (hw.blk:Blk wi I.z [vI 0,vI 0]) z (lb z) (oA z) z) ?_;rintro _ wa ⟨hj,ab⟩;have h3:=ab.one;refine Wn<|Wq<|Wb<|Wq ?_
 obtain ⟨ad,hur,hms⟩:=bdS a4;refine Wt (fun a w=>∃ (xk:Bool),xk=ad∧Sat 45 [(0,pt g1),(2,vI x3),(4,pt w0.z),(6,pt J.z),(7,pt I.z),(11,vB xk)] a∧Below wa.z wa w) ?_ ?_
 ·refine Wg<|R z (fd c_V z)<|R z (l1 g_3 z fid<|hj.at z)<|R z (nq z z)<|Rm z ?_
  rcases bs (O.code != 0) with H | H
  ·iterate 8 refine Nh z H ?_
   exact R z (pT z H z)<|Ra z<|Wl (fun _ q=>⟨true,som<|ifT hur H,q.k<|s6 z z z z z z,br wa⟩)
  refine Rh z H (mv z)<|Rh z H (T_ z)<|Rh z H (fd d_j z) ?_
  have hx:=lt_ hh G.s;refine Rh z H (l1 X_ z fid<|(((hf.e G).e h2).c h3<|djs<|mm1 (Blk.lt hB1) hx).at z)<|Rh z H (mv z) ?_
  obtain ⟨ae,af,a5⟩:=bdS<|ifF hur H;refine RXg z z H z (at_ (α:=UInt8) n_ z_5 z z z (p1_1.g<|((hg.e G).e h2).c h3<|c_ (or0 (b_ lr)  (j_<|zt' hBw hx) : ∀ k∈[I.z],¬ B k)) af) ?_;rintro _ ⟨_,_,_,rfl,ah,ai,_⟩;obtain rfl:=u8 ai;exact Rh z H (l1 g_5 z fid<|ah.at0 z)<|Rh z H (eql z z)<|R z (pF z H z)<|Ra z<|Wl (fun _ q=>⟨(byteI ae)==(byteI (0:UInt8)),som a5,q.k<|s6 z z z z z z,br wa⟩)
 rintro aj wl ⟨xk,rfl,_,s4⟩;revert aj;refine Wo<|Wc z (fun hcm=>?_) (fun hcm=>?_)
 ·refine Ws<|R z (lN (vs:=[vI O.at_,vI O.code]) a_f H_ z z fid<|(hj.e s4).row 0 2 z)<|E0 (fs (cur':=[vI O.at_,vI O.code]) H_ z z ((((hc.e G).e h2).c h3<|djs<|mm1 hc.lt G.s).e s4) z (lb z) (oA z) z) ?_
  rintro _ ak ⟨al,am⟩;have hy:=am.one;refine Wn ?_;obtain rfl:=som<|ifT hms hcm;have hz:=lt_ hh G.s;exact Wr<|rtO<|h_ hr (q_ a_f H_ z al z) ⟨(cM (d_ (cM (d_ (d_ (d_ (d_ (cr [g1] w0) h5:Chg (· ∈ [g1]) w0 J) L:Chg (· ∈ [g1]) w0 we) G:Chg (· ∈ [g1]) w0 I) h2:Chg (· ∈ [g1]) w0 wi) h3 (mor hz : ∀ k∈[I.z],k∈[g1]∨w0.z≤k):Chg (· ∈ [g1]) w0 wa) s4:Chg (· ∈ [g1]) w0 wl) hy (mor h5.s : ∀ k∈[J.z],k∈[g1]∨w0.z≤k):Chg (· ∈ [g1]) w0 ak),z,hv,aa,p1_2,((((hf.e G).e h2).c h3<|djs<|mm1 (Blk.lt hB1) hz).e s4).c hy<|djs<|mm1 (Blk.lt hB1) h5.s⟩
 refine Ws<|Rm z<|R z (T_ z)<|R z (fd d_j z) ?_
 have hd:=lt_ hh G.s;have hn:=(((hf.e G).e h2).c h3<|djs<|mm1 (Blk.lt hB1) hd).e s4;refine R z (l1 X_ z fid<|hn.at z)<|Rm z ?_
 obtain ⟨_,an,V⟩:=bdS<|ifF hms hcm;have W:=(((hg.e G).e h2).c h3<|c_ (or0 (b_ lr)  (j_<|zt' hBw hd) : ∀ k∈[I.z],¬ B k)).e s4;refine RX z (at_ (α:=UInt8) n_ z_5 z z z (p1_1.g W) an) ?_;rintro _ ⟨_,_,_,rfl,ao,ap,_⟩;obtain rfl:=u8 ap;refine R z (l1 g_5 z fid<|ao.at0 z)<|R z (a_1 z z)<|Ra z<|Wn<|Wc z (fun hco=>?_) (fun hco=>?_)
 ·refine Ws<|Rm z<|R z (bP (parts:=[(0,.tmp 35),(1,.const<|.int .i64 4)]) (cs:=[vI x3,vI 4]) c_o z z)<|E0 (fs (cur':=[vI x3,vI 4]) H_ z z ((((hc.e G).e h2).c h3<|djs<|mm1 hc.lt G.s).e s4) z (lb z) (oA z) z) ?_
  rintro _ aq ⟨ar,au⟩;have Y:=au.one;refine Wn ?_;obtain rfl:=som<|ifT V hco;exact Wr<|rtO<|h_ hr (q_ a_f H_ z ar z) ⟨(cM (d_ (cM (d_ (d_ (d_ (d_ (cr [g1] w0) h5:Chg (· ∈ [g1]) w0 J) L:Chg (· ∈ [g1]) w0 we) G:Chg (· ∈ [g1]) w0 I) h2:Chg (· ∈ [g1]) w0 wi) h3 (mor hd : ∀ k∈[I.z],k∈[g1]∨w0.z≤k):Chg (· ∈ [g1]) w0 wa) s4:Chg (· ∈ [g1]) w0 wl) Y (mor h5.s : ∀ k∈[J.z],k∈[g1]∨w0.z≤k):Chg (· ∈ [g1]) w0 aq),z,p3_0,ii z,p1_2,hn.c Y<|djs<|mm1 (Blk.lt hB1) h5.s⟩
 refine Wk<|Wq (Wd (X:=noX) 384 (.rd 0<|.rd 1<|.rd 2<|.rd 3<|.rd 4<|.rd 5<|.rd 6<|.ef 7<|.ef 8 .done) mo (by kernel_rfl) fun av sb _=>dR z z (mv z)<|dR z z (fd N_ z)<|dR z z (l1 C_ z fid<|((((((ht.e L).e G).e h2).c h3<|djs<|mm1 ht.lt<|lt_ L.s G.s).e s4).e sb).at z) ?_)
 obtain ⟨_,aw,a6⟩:=bdS<|ifF V hco;have hp:=W.e sb;refine dRX z z (at_ (α:=Int) w_ z_3 z z z (p2_7.g hp) aw) ?_;rintro _ ⟨_,_,_,rfl,ax,ay,_⟩;obtain ⟨rfl,az⟩:=Q_ ay;refine dR z z (l1 g_3 z fid<|ax.at0 z)<|dR z z (fd c_C z)<|dR z z (l1 g_3 z fid<|((hj.e s4).e sb).at z) ?_
 obtain ⟨a0,_,aA,a7⟩:=a_c a6;refine dE z z (fc call193 z<|a8.run (B:=B) aA (hn.e sb) (zt' hBw<|lt_ (lt_ (lt_ (lt_ hd h2.s) h3.s) s4.s) sb.s) hBg (p1_0.g hp) (p1_1.g hp) p1_2 az hv) (.inl z) ?_;rintro _ aB ⟨a1,rfl,aC,aD,aE,aF⟩;have a2:=mm1 (Blk.lt hB1) h5.s;refine dE0 z (fs (cur':=[vI a0.at_,vI a0.code]) H_ z z ((((((hc.e G).e h2).c h3<|djs<|mm1 hc.lt G.s).e s4).e sb).c a1<|atp a2) z (lb z) (oA z) z) (.inl z) ?_;rintro _ aG ⟨aH,aI⟩;have a3:=aI.one;refine pD<|Wo ?_
 obtain rfl:=som a7;exact Wr<|h_ hr (q_ a_f H_ z aH z) ⟨(cM (cM (d_ (d_ (cM (d_ (d_ (d_ (d_ (cr [g1] w0) h5:Chg (· ∈ [g1]) w0 J) L:Chg (· ∈ [g1]) w0 we) G:Chg (· ∈ [g1]) w0 I) h2:Chg (· ∈ [g1]) w0 wi) h3 (mor hd : ∀ k∈[I.z],k∈[g1]∨w0.z≤k):Chg (· ∈ [g1]) w0 wa) s4:Chg (· ∈ [g1]) w0 wl) sb:Chg (· ∈ [g1]) w0 av) a1 (io sr):Chg (· ∈ [g1]) w0 aB) a3 (mor h5.s : ∀ k∈[J.z],k∈[g1]∨w0.z≤k):Chg (· ∈ [g1]) w0 aG),z,aC,aD,aE,aF.c a3<|djs a2⟩
theorem T_w1p (ih:f_1 n):j_t (g_U n<|a_v n):=by
 obtain ⟨ao,_,_,_,_⟩:=ih
 constructor
 intro A0 A5 A2 A3 A1 A4 N0 C0 N5 C5 g1 N2 C2 N3 C3 N1 C1 N4 C4 B x1 x2 x3 res w0 hm hB1 hBw hBg p1_0 p1_1 p1_2 p2_0 p2_1 p2_2 p2_4 p2_5 p2_6 p2_7 p3_0;unfold g_U at hm
 refine goF func244 z z (lb z) fun fn hr=>Ws<|E z (fb z) ?_
 rintro _ I ⟨rfl,W⟩;have h4:=W.below;refine E z (fa b_u) ?_;rintro _ wj ⟨rfl,Y⟩;have hd:=Y.below;have ha:Blk wj I.z [vI 0,vI 0]:=Y.blk;refine Wn<|Ws<|Rm z<|R z (fd N_ z)<|R z (l1 C_ z fid<|((W.blk:Blk I w0.z (vR x2 A2 N2 C2 A3 N3 C3 A1 N1 C1 A4 N4 C4)).e hd).at z) ?_
 obtain ⟨_,ap,aj⟩:=bdS hm;have hk:=(h4.ag B).e hd;refine RX z (at_ (α:=Int) w_ z_3 z z z (p2_7.g hk) ap) ?_;rintro _ ⟨_,_,_,rfl,aq,ar,_⟩;obtain ⟨rfl,au⟩:=Q_ ar;refine R z (l1 g_3 z fid<|aq.at0 z)<|Rm z ?_
 have hq:=lt_ h4.s hd.s;obtain ⟨rb,_,av,L⟩:=a_c aj;refine E z (fc call193 z<|ao.run (B:=B) av ((hB1.e h4).e hd) (zt' hBw hq) hBg (p1_0.g hk) (p1_1.g hk) p1_2 au p3_0) ?_;rintro _ J ⟨s2,rfl,ht,aw,hl,a0⟩;refine E z (fa b_u) ?_;rintro _ wm ⟨rfl,a1⟩;have h5:=a1.below;have hu:Blk wm J.z [vI 0,vI 0]:=a1.blk;refine E0 (fs (cur':=[vI rb.at_,vI rb.code]) H_ z z hu z (lb z) (oA z) z) ?_;rintro _ wr ⟨hh,ax⟩;have h3:=ax.one;refine Wn<|Wq<|Ws<|R z (fd c_V z)<|R z (l1 g_3 z fid<|hh.at z)<|R z (nq z z)<|Wn<|Wc z (fun hcs=>?_) (fun hcs=>?_)
 ·refine Ws<|R z (lN (vs:=[vI rb.at_,vI rb.code]) a_f H_ z z fid<|hh.row 0 2 z) ?_
  have a2:=mm1 (Blk.lt hB1) h4.s;refine E0 (fs (cur':=[vI rb.at_,vI rb.code]) H_ z z (((ha.c s2<|atp a2).e h5).c h3<|djs<|mm1 ha.lt s2.s) z (lb z) (oA z) z) ?_;rintro _ ay ⟨az,aA⟩;have a3:=aA.one;refine Wn ?_;obtain rfl:=som<|ifT L hcs;have a4:=lt_ hq s2.s;exact Wr<|h_ hr (q_ a_f H_ z az z) ⟨(cM (cM (d_ (cM (d_ (d_ (cr [g1] w0) h4:Chg (· ∈ [g1]) w0 I) hd:Chg (· ∈ [g1]) w0 wj) s2 (io sr):Chg (· ∈ [g1]) w0 J) h5:Chg (· ∈ [g1]) w0 wm) h3 (mor a4 : ∀ k∈[J.z],k∈[g1]∨w0.z≤k):Chg (· ∈ [g1]) w0 wr) a3 (mor h4.s : ∀ k∈[I.z],k∈[g1]∨w0.z≤k):Chg (· ∈ [g1]) w0 ay),z,ht,aw,hl,((a0.e h5).c h3<|djs<|mm1 (Blk.lt hB1) a4).c a3<|djs a2⟩
 refine Wk<|Ws<|Rm z<|R z (fd c_C z)<|R z (l1 g_3 z fid<|hh.at z) ?_
 have hi:=lt_ hq s2.s;have hn:=(a0.e h5).c h3<|djs<|mm1 (Blk.lt hB1) hi
 have hv:=((hk.c s2<|c_<|b_ hBg).e h5).c h3<|c_ (or0 (b_ lr)  (j_<|zt' hBw hi) : ∀ k∈[J.z],¬ B k)
 have ho:=lt_ (lt_ hi h5.s) h3.s;obtain ⟨re,aB,ak⟩:=bdS<|ifF L hcs;refine E z (fc call240 z<|g_1 (B:=w0.z) aB (a_V ho) (repS.mono (p1_0.g hv) hBw) (repS.mono (p1_1.g hv) hBw) hl (hn.row 0 3 z) (Blk.lt hB1) ht<|ii z) ?_;rintro _ wf ⟨s1,rfl,aC,aD⟩;refine E z (fa b_u) ?_;rintro _ ww ⟨rfl,a5⟩;have h6:=a5.below;refine E0 (fs (cur':=[vI re.at_,vI re.code]) H_ z z (a5.blk:Blk ww wf.z [vI 0,vI 0]) z (lb z) (oA z) z) ?_;rintro _ wp ⟨a6,aE⟩;have H:=aE.one;refine Wn<|Wq<|Wq ?_
 obtain ⟨aF,O,V⟩:=bdS ak;refine Wt (fun a w=>∃ (xx:Bool),xx=aF∧Sat 52 [(6,pt I.z),(7,pt J.z),(8,pt wf.z),(47,vB xx)] a∧Below wp.z wp w) ?_ ?_
 ·refine Wd (X:=noX) 0 (.rd 0<|.rd 1<|.rd 2<|.rd 3<|.rd 4<|.rd 5<|.rd 6<|.rd 7<|.rd 8<|.rd 9<|.rd 10<|.rd 11<|.rd 12<|.rd 13<|.rd 14<|.rd 15<|.rd 16<|.rd 17<|.rd 18<|.rd 19<|.rd 20<|.ef 21<|.rd 22<|.rd 23 .done) mo (by kernel_rfl) fun aW sg _=>dR z z (fd c_V z)<|dR z z (l1 g_3 z fid<|(a6.e sg).at z)<|dR z z (eql z z)<|dR z z (mv z) ?_
  rcases bs (re.code==0) with G | G
  ·refine dRg z z z G z (mv z)<|dRg z z z G z (T_ z)<|dRg z z z G z (fd d_j z) ?_
   have hy:=lt_ ho s1.s;have a7:=(((hn.e s1).e h6).c H<|djs<|mm1 (Blk.lt hB1) hy).e sg;refine dRg z z z G z (l1 X_ z fid<|a7.at z)<|dRg z z z G z (fd c_C z) ?_
   have a8:=(((hh.e s1).e h6).c H<|djs<|mm1 hu.lt<|lt_ h3.s s1.s).e sg;refine dRg z z z G z (l1 g_3 z fid<|a8.at z) ?_;obtain ⟨aG,aH,al⟩:=bdS<|ifT O G;have a9:=p1_1.g<|(((hv.e s1).e h6).c H<|c_ (or0 (b_ lr)  (j_<|zt' hBw hy) : ∀ k∈[wf.z],¬ B k)).e sg
   refine c_1 z z z G z (at_ (α:=UInt8) n_ z_5 z z z a9 aH) ?_;rintro _ ⟨_,_,_,rfl,aI,aJ,_⟩;obtain rfl:=u8 aJ;refine dRg z z z G z (l1 g_5 z fid<|aI.at0 z)<|dRg z z z G z (b_O d_5 d_3 z)<|dRg z z z G z (mv z)<|dRg z z z G z (T_ z)<|dRg z z z G z (fd d_j z)<|dRg z z z G z (l1 X_ z fid<|a7.at z)<|dRg z z z G z (mv z)<|dRg z z z G z (fd c_C z)<|dRg z z z G z (l1 g_3 z fid<|a8.at z) ?_
   obtain ⟨_,aK,am⟩:=bdS al;refine c_1 z z z G z (rX n_ z_5 z z a9 z z aK) ?_;rintro _ ⟨_,_,_,rfl,aL⟩;obtain ⟨aM,aN,an⟩:=bdS am;refine dEg z z z G z (fc call263 z<|W_w1k (B:=B) aN (zt' hBw<|lt_ (lt_ (lt_ hy h6.s) H.s) sg.s) aL) (.inr fun _ _ h=>A_<|h.1) ?_;rintro _ _ ⟨aO,rfl,_⟩;exact dRg z z z G z (nq z z)<|dR z z (pT z G z)<|pD (fun _ q=>⟨(byteI aG) != aM,som an,q.k<|s4 z z z z,bup sg aO⟩)
  iterate 17 refine dRn z z z G z ?_
  exact dEn z z z G z<|dRn z z z G z<|dR z z (pF z G z)<|pD (fun _ q=>⟨false,som<|ifF O G,q.k<|s4 z z z z,sg⟩)
 rintro aP aa ⟨xx,rfl,_,sc⟩;revert aP;refine Wo<|Wc z (fun hcz=>?_) (fun hcz=>?_)
 ·refine Ws<|R z (fd c_C z)<|R z (l1 g_3 z fid<|((((hh.e s1).e h6).c H<|djs<|mm1 hu.lt<|lt_ h3.s s1.s).e sc).at z)<|R z (bP (parts:=[(0,.tmp 49),(1,.const<|.int .i64 5)]) (cs:=[vI rb.at_,vI 5]) c_o z z) ?_
  have ab:=mm1 (Blk.lt hB1) h4.s;refine E0 (fs (cur':=[vI rb.at_,vI 5]) H_ z z (((((((ha.c s2<|atp ab).e h5).c h3<|djs<|mm1 ha.lt s2.s).e s1).e h6).c H<|djs<|mm1 ha.lt<|lt_ (lt_ (lt_ s2.s h5.s) h3.s) s1.s).e sc) z (lb z) (oA z) z) ?_;rintro _ aQ ⟨aR,aS⟩;have ad:=aS.one;refine Wn ?_;obtain rfl:=som<|ifT V hcz;have ae:=lt_ ho s1.s;exact Wr<|h_ hr (q_ a_f H_ z aR z) ⟨(cM (d_ (cM (d_ (d_ (cM (d_ (cM (d_ (d_ (cr [g1] w0) h4:Chg (· ∈ [g1]) w0 I) hd:Chg (· ∈ [g1]) w0 wj) s2 (io sr):Chg (· ∈ [g1]) w0 J) h5:Chg (· ∈ [g1]) w0 wm) h3 (mor hi : ∀ k∈[J.z],k∈[g1]∨w0.z≤k):Chg (· ∈ [g1]) w0 wr) s1:Chg (· ∈ [g1]) w0 wf) h6:Chg (· ∈ [g1]) w0 ww) H (mor ae : ∀ k∈[wf.z],k∈[g1]∨w0.z≤k):Chg (· ∈ [g1]) w0 wp) sc:Chg (· ∈ [g1]) w0 aa) ad (mor h4.s : ∀ k∈[I.z],k∈[g1]∨w0.z≤k):Chg (· ∈ [g1]) w0 aQ),z,ht,ii z,hl,((((hn.e s1).e h6).c H<|djs<|mm1 (Blk.lt hB1) ae).e sc).c ad<|djs ab⟩
 refine Wk<|Ws<|R z (lN (vs:=[vI re.at_,vI re.code]) a_f H_ z z fid<|(a6.e sc).row 0 2 z) ?_
 have af:=mm1 (Blk.lt hB1) h4.s;refine E0 (fs (cur':=[vI re.at_,vI re.code]) H_ z z (((((((ha.c s2<|atp af).e h5).c h3<|djs<|mm1 ha.lt s2.s).e s1).e h6).c H<|djs<|mm1 ha.lt<|lt_ (lt_ (lt_ s2.s h5.s) h3.s) s1.s).e sc) z (lb z) (oA z) z) ?_;rintro _ aT ⟨aU,aV⟩;have ah:=aV.one;refine Wn ?_;obtain rfl:=som<|ifF V hcz;have ai:=lt_ ho s1.s;exact Wr<|h_ hr (q_ a_f H_ z aU z) ⟨(cM (d_ (cM (d_ (d_ (cM (d_ (cM (d_ (d_ (cr [g1] w0) h4:Chg (· ∈ [g1]) w0 I) hd:Chg (· ∈ [g1]) w0 wj) s2 (io sr):Chg (· ∈ [g1]) w0 J) h5:Chg (· ∈ [g1]) w0 wm) h3 (mor hi : ∀ k∈[J.z],k∈[g1]∨w0.z≤k):Chg (· ∈ [g1]) w0 wr) s1:Chg (· ∈ [g1]) w0 wf) h6:Chg (· ∈ [g1]) w0 ww) H (mor ai : ∀ k∈[wf.z],k∈[g1]∨w0.z≤k):Chg (· ∈ [g1]) w0 wp) sc:Chg (· ∈ [g1]) w0 aa) ah (mor h4.s : ∀ k∈[I.z],k∈[g1]∨w0.z≤k):Chg (· ∈ [g1]) w0 aT),z,aC,aD,hl,((((hn.e s1).e h6).c H<|djs<|mm1 (Blk.lt hB1) ai).e sc).c ah<|djs af⟩
theorem c_Y : ∀ n,f_1 n
  | 0=>⟨⟨fun hm=>by intros;exact nomatch (show none=some _ from hm)⟩,⟨fun hm=>by intros;exact nomatch (show none=some _ from hm)⟩,⟨fun hm=>by intros;exact nomatch (show none=some _ from hm)⟩,⟨fun hm=>by intros;exact nomatch (show none=some _ from hm)⟩,⟨fun hm=>by intros;exact nomatch (show none=some _ from hm)⟩⟩
  | n+1=>⟨T_w04<|c_Y n,T_w1m<|c_Y n,T_w1n<|c_Y n,T_w1o<|c_Y n,T_w1p<|c_Y n⟩
theorem W_w04:j_p (a_v n).impl_checker_value:=(c_Y n).1
theorem W_w1m:j_q (a_v n).impl_checker_array:=(c_Y n).2.1
theorem W_w1n:j_r (a_v n).impl_checker_choice:=(c_Y n).2.2.1
theorem W_w1o:j_s (a_v n).impl_checker_option:=(c_Y n).2.2.2.1
theorem W_w1p:j_t (a_v n).impl_checker_checked:=(c_Y n).2.2.2.2

def Q26 (w0:World) (B:Zone) (r:Int×Int) (v:Value) (w':World):Prop:=Bw w0 w'∧un2 (fun G H=>v = .tuple #[vI G,vI H]∧inI G∧inI H) r
theorem W_w2t {x1:f_} {x2:Int} {x3:List UInt8} {x4:Int} {res:Int×Int} (hm:g_V n x1 x2 x3 x4=some res) (hBw:B≤w0.z) (p1_0:repS w0 B (sl A0 N0 C0) x1.rules) (p2_0:inI x2) (p3_0:repS w0 B (sl A7 N7 C7) x3) (p4_0:inI x4):m_ prog 157 [(.agg #[sl A0 N0 C0]),vI x2,sl A7 N7 C7,vI x4] w0 (Q26 w0 B res):=by
 unfold g_V at hm
 refine goF func157 z z (lb z) fun fn hr=>Ws<|E z (fb z) ?_
 rintro _ L ⟨rfl,hb⟩;have h3:=hb.below;have hc:Blk L w0.z [sl A0 N0 C0]:=hb.blk;refine Ra z<|Ra z<|Wn<|Wq<|Wq ?_
 obtain ⟨ur,hus,hmd⟩:=bdS hm;refine Wt (fun a w=>∃ (O:Bool),O=ur∧Sat 43 [(1,vI x2),(2,sl A7 N7 C7),(3,vI x4),(4,pt w0.z),(30,vB O)] a∧Below L.z L w) ?_ ?_
 ·refine Wg<|R z (lN (vs:=[sl A0 N0 C0]) v_ s_ z z fid<|hc.row 0 1 z)<|Rm z ?_
  obtain ⟨rt,eu,hme⟩:=bdS hus;refine E z (fc call190 z<|W_w1j (B:=B) eu (zt' hBw h3.s) (p1_0.e h3) p2_0) ?_;rintro _ _ ⟨s4,rfl⟩;refine R z (not_ z)<|Rm z ?_
  rcases bs (!rt) with H | H
  ·exact Nh z H<|Nh z H<|R z (pT z H z)<|Rm z<|Nh z z<|Nh z z<|Nh z z<|Nh z z<|R z (pT z z z)<|Rm z<|Nh z z<|Nh z z<|Nh z z<|R z (pT z z z)<|Wl (fun _ q=>⟨true,som<|ifT hme H,q.k<|s5 z z z z z,s4⟩)
  have hmf:=ifF hme H;refine Rh z H (mv z)<|Rh z H (lss z z)<|R z (pF z H z)<|Rm z ?_
  rcases bs (decide<|x4<0) with G | G
  ·iterate 4 refine Nh z G ?_
   exact R z (pT z G z)<|Rm z<|Nh z z<|Nh z z<|Nh z z<|R z (pT z z z)<|Wl (fun _ q=>⟨true,som<|ifT hmf G,q.k<|s5 z z z z z,s4⟩)
  have hmg:=ifF hmf G;refine Rh z G (mv z)<|Rh z G (mv z) ?_
  have hh:=p3_0.g<|(h3.ag B).e s4
  refine Rh z G (lnR n_ z hh)<|Rh z G (a_1 z z)<|R z (pF z G z)<|Rm z ?_
  rcases bs (decide<|(x3.length:Int)<x4) with I | I
  ·iterate 3 refine Nh z I ?_
   exact R z (pT z I z)<|Wl (fun _ q=>⟨true,som<|ifT hmg I,q.k<|s5 z z z z z,s4⟩)
  exact Rh z I (mv z)<|Rh z I (lnR n_ z hh)<|Rh z I (a_1 z z)<|R z (pF z I z)<|Wl (fun _ q=>⟨decide<|400<(x3.length:Int),som<|ifF hmg I,q.k<|s5 z z z z z,s4⟩)
 rintro av wi ⟨O,rfl,_,s6⟩;revert av;refine Wo<|Wc z (fun J=>?_) (fun J=>?_)
 ·refine Ws<|Ra z<|Ra z<|Wn ?_
  obtain rfl:=som<|ifT hmd J;exact Wr<|a_5 hr z z ⟨bup h3 s6,z,ii z,ii z⟩
 refine Wk<|Ws<|R z (lN (vs:=[sl A0 N0 C0]) v_ s_ z z fid<|(hc.e s6).row 0 1 z)<|Rm z<|R z (bP (parts:=[(0,.tmp 31),(1,.tmp 32)]) (cs:=[sl A0 N0 C0,sl A7 N7 C7,vI 0]) o_4 z z)<|E z (fb z) ?_
 rintro _ ww ⟨rfl,hj⟩;have V:=hj.below;refine Ra z<|Wn<|Ws<|Rm z<|Rm z<|Rm z ?_
 have hk:=((h3.ag B).e s6).e V;have ha:=lt_ h3.s s6.s;have hl:=lt_ ha V.s;obtain ⟨rm,_,ez,W⟩:=a_c<|ifF hmd J;refine E z (fc call193 z<|W_w04.run (B:=B) ez (hj.blk:Blk ww wi.z [sl A0 N0 C0,sl A7 N7 C7,vI 0]) (zt' hBw hl) (atp (or0 (b_ lr)  (j_<|zt' hBw ha) : ∀ k∈[wi.z],¬ B k)) (p1_0.g hk) (p3_0.g hk) (ii z) p2_0 p4_0) ?_;rintro _ Y ⟨sn,rfl,a0,a1,_,_⟩;refine E z (fa b_u) ?_;rintro _ a2 ⟨rfl,ho⟩;refine E0 (fs (cur':=[vI rm.at_,vI rm.code]) H_ z z (ho.blk:Blk a2 Y.z [vI 0,vI 0]) z (lb z) (oA z) z) ?_;rintro _ _ ⟨a3,a4⟩;refine Wn<|Wq (Wd (X:=noX) 0 (.rd 0<|.rd 1<|.rd 2<|.rd 3<|.rd 4<|.rd 5 .done) mo (by kernel_rfl) fun a5 sp _=>dR z z (fd c_C z) ?_)
 have hq:=a3.e sp;refine dR z z (l1 g_3 z fid<|hq.at z)<|dR z z (fd c_V z)<|dR z z (l1 g_3 z fid<|hq.at z)<|dR z z (asg z)<|dR z z (asg z)<|pD<|Wo ?_
 obtain rfl:=som W;exact Wr<|a_5 hr z z ⟨bup (bM (bup (bM (bup (bup h3 s6) V) sn<|m1 ha) ho.below) a4.one<|m1<|lt_ hl sn.s) sp,z,a0,a1⟩
def Q27 (w0:World) (g1:Nat) (B:Zone) (A0:Option Addr) (N0 C0:Nat) (A5:Option Addr) (N5 C5:Nat) (x1:a_Z) (r:Bool×Int) (v:Value) (w':World):Prop:=Chg (· ∈ [g1]) w0 w'∧un2 (fun H G=>(vB H)=v∧inI G∧Blk w' g1 [sl A0 N0 C0,sl A5 N5 C5,vI x1.rule,vI G]) r
theorem h_Z {x1:a_Z} {g1:Nat} {x2:Int} {res:Bool×Int} (hm:c_N n x1 x2=some res) (hB1:Blk w0 g1 [sl A0 N0 C0,sl A5 N5 C5,vI x1.rule,vI x1.at_]) (hBw:B≤w0.z) (hBg : ¬ B g1) (p1_0:repS w0 B (sl A0 N0 C0) x1.d.rules) (p1_1:repS w0 B (sl A5 N5 C5) x1.b) (p1_2:inI x1.rule) (H:inI x1.at_) (p2_0:inI x2):m_ prog 118 [pt g1,vI x2] w0 (Q27 w0 g1 B A0 N0 C0 A5 N5 C5 x1 res):=by
 unfold c_N at hm
 refine goF func118 z z (lb z) fun fn hr=>Ws<|Ra z<|Wn<|Wq (Wd (X:=noX) 0 (.rd 0<|.rd 1<|.rd 2<|.rd 3<|.rd 4<|.rd 5<|.rd 6<|.rd 7<|.rd 8<|.rd 9<|.rd 10<|.rd 11<|.rd 12<|.ef 13<|.rd 14<|.rd 15<|.rd 16<|.rd 17<|.rd 18 .done) mo (by kernel_rfl) fun J G _=>dR z z (mv z)<|dR z z (T_ z)<|dR z z (fd j_3 z) ?_)
 have h1:=hB1.e G;refine dR z z (lN (vs:=[sl A0 N0 C0]) v_ s_ z z fid<|h1.row 0 1 z)<|dR z z (mv z)<|dR z z (mv z)<|dR z z (T_ z)<|dR z z (fd h_P z)<|dR z z (l1 X_ z fid<|h1.at z)<|dR z z (mv z)<|dR z z (T_ z)<|dR z z (fd c_U z)<|dR z z (l1 g_3 z fid<|h1.at z) ?_
 obtain ⟨L,_,O,I⟩:=a_c hm;refine dE z z (fc call157 z<|W_w2t (B:=B) (x1:=(⟨x1.d.rules⟩:f_)) O (zt' hBw G.s) (p1_0.e G) p2_0 (p1_1.e G) H) (.inr fun _ _ h=>A_<|h.1) ?_;rintro _ V ⟨s2,rfl,W,_⟩;refine dR z z (mv z)<|dR z z (ext_ z z)<|dR z z (ext_ z z)<|dR z z (asg z)<|dR z z (asg z)<|pD<|Wo<|Ws<|Rm z<|Rm z<|R z (T_ z)<|R z (fd c_U z)<|E0 (fs (cur':=[sl A0 N0 C0,sl A5 N5 C5,vI x1.rule,vI L]) z_3 z z (h1.e s2) z (lb z) (oA z) z) ?_
 rintro _ Y ⟨ha,sb⟩;refine Wn<|Ws<|Rm z<|R z (eql z z)<|Ra z<|Wn ?_
 obtain rfl:=som I;exact Wr<|h_ hr z ⟨(cM (d_ (d_ (cr [g1] w0) G:Chg (· ∈ [g1]) w0 J) s2:Chg (· ∈ [g1]) w0 V) sb.one (io sr):Chg (· ∈ [g1]) w0 Y),z,W,ha⟩
def Q28 (w0:World) (g1:Nat) (B:Zone) (A0:Option Addr) (N0 C0:Nat) (A5:Option Addr) (N5 C5:Nat) (x1:a_Z) (r:Int×Bool×Int) (v:Value) (w':World):Prop:=Chg (· ∈ [g1]) w0 w'∧un3 (fun G I H=>v = .tuple #[vI G,vB I]∧inI G∧inI H∧Blk w' g1 [sl A0 N0 C0,sl A5 N5 C5,vI x1.rule,vI H]) r
theorem W_w1q {x1:a_Z} {g1:Nat} {x2:Int} {res:Int×Bool×Int} (hm:f_u n x1 x2=some res) (hB1:Blk w0 g1 [sl A0 N0 C0,sl A5 N5 C5,vI x1.rule,vI x1.at_]) (hBw:B≤w0.z) (hBg : ¬ B g1) (p1_0:repS w0 B (sl A0 N0 C0) x1.d.rules) (p1_1:repS w0 B (sl A5 N5 C5) x1.b) (p1_2:inI x1.rule) (V:inI x1.at_) (p2_0:inI x2):m_ prog 201 [pt g1,vI x2] w0 (Q28 w0 g1 B A0 N0 C0 A5 N5 C5 x1 res):=by
 unfold f_u at hm
 refine goF func201 z z (lb z) fun fn hr=>Ws<|Ra z<|Ra z<|Wn<|Ws<|Rm z<|R z (T_ z)<|R z (fd c_U z)<|R z (l1 g_3 z fid<|hB1.at z)<|Ra z<|Wn<|Wq<|Ws<|Rm z<|Rm z ?_
 obtain ⟨_,_,ea,I⟩:=a_c hm;refine E z (fc call118 z<|h_Z (B:=B) ea hB1 hBw hBg p1_0 p1_1 p1_2 V p2_0) ?_;rintro _ J ⟨G,rfl,h6,L⟩;refine R z (not_ z)<|Wn<|Wc z (fun H=>?_) (fun H=>?_)
 ·refine Ws<|Ra z<|Ra z<|Wn ?_
  obtain rfl:=som<|ifT I H;exact Wr<|a_5 hr z z ⟨(cM (cr [g1] w0) G (io sr):Chg (· ∈ [g1]) w0 J),z,ii z,h6,L⟩
 refine Wk<|Wq (Wd (X:=noX) 0 (.rd 0<|.rd 1<|.rd 2<|.rd 3<|.rd 4<|.rd 5<|.rd 6<|.rd 7<|.rd 8<|.rd 9<|.rd 10<|.rd 11<|.rd 12<|.rd 13<|.rd 14<|.rd 15<|.rd 16<|.rd 17<|.rd 18<|.ef 19<|.rd 20<|.rd 21 .done) mo (by kernel_rfl) fun wc s1 _=>dR z z (mv z)<|dR z z (T_ z)<|dR z z (fd h_P z) ?_)
 have h2:=L.e s1;refine dR z z (l1 X_ z fid<|h2.at z)<|dR z z (mv z)<|dR z z (mv z)<|dR z z (T_ z)<|dR z z (fd c_U z)<|dR z z (l1 g_3 z fid<|h2.at z) ?_
 obtain ⟨_,ed,hme⟩:=bdS<|ifF I H;have O:=(G.agc B<|c_<|b_ hBg).e s1;refine dRX z z (rX n_ z_5 z z (p1_1.g O) z z ed) ?_;rintro _ ⟨_,_,_,rfl,hf⟩;refine dR z z (mv z)<|dR z z (T_ z)<|dR z z (fd j_3 z)<|dR z z (fd a_4 z)<|dR z z (l1 a_6 z fid<|h2.at z)<|dR z z (mv z) ?_
 obtain ⟨_,eg,hmh⟩:=bdS hme;refine dRX z z (at_ (α:=e_) a_7 o_ z z z (p1_0.g O) eg) ?_;rintro _ ⟨_,_,_,rfl,hi,hj,_⟩;obtain ⟨_,_,_,_,_,_,_,_,_,_,_,_,rfl,_,_,_,_,_,_,_⟩:=a_P hj;refine dR z z (fd c_D z)<|dR z z (l1 g_4 z fid<|hi.at (j:=3) z) ?_
 obtain ⟨_,ek,hml⟩:=bdS hmh;refine dE z z (fc call76 z<|j_o (B:=B) ek (zt' hBw<|lt_ G.s s1.s) hf) (.inr fun _ _ h=>A_<|h.1) ?_;rintro _ wm ⟨s9,rfl,hn⟩;refine dR z z (asg z)<|dR z z (asg z)<|pD<|Wo ?_
 obtain rfl:=som hml;exact Wr<|a_5 hr z z ⟨(d_ (d_ (cM (cr [g1] w0) G (io sr):Chg (· ∈ [g1]) w0 J) s1:Chg (· ∈ [g1]) w0 wc) s9:Chg (· ∈ [g1]) w0 wm),z,hn,h6,h2.e s9⟩
def Q29 (w0:World) (g1:Nat) (B:Zone) (A0:Option Addr) (N0 C0:Nat) (A5:Option Addr) (N5 C5:Nat) (x1:a_Z) (r:Bool×Int×Int) (v:Value) (w':World):Prop:=Chg (· ∈ [g1]) w0 w'∧un3 (fun I G H=>(vB I)=v∧inI G∧inI H∧Blk w' g1 [sl A0 N0 C0,sl A5 N5 C5,vI G,vI H]) r
theorem W_w2u {x1:a_Z} {g1:Nat} {x2:e_} {x3:Str} {res:Bool×Int×Int} (hm:g_W n x1 x2 x3=some res) (hB1:Blk w0 g1 [sl A0 N0 C0,sl A5 N5 C5,vI x1.rule,vI x1.at_]) (hBw:B≤w0.z) (hBg : ¬ B g1) (p1_0:repS w0 B (sl A0 N0 C0) x1.d.rules) (p1_1:repS w0 B (sl A5 N5 C5) x1.b) (p1_2:inI x1.rule) (a4:inI x1.at_) (p2_0:x2.name.b.length≤LEN) (p2_1:inI x2.kind) (p2_2:inI x2.size) (p2_4:repS w0 B (sl A2 N2 C2) x2.bytes) (p2_5:repS w0 B (sl A3 N3 C3) x2.names) (p2_6:repS w0 B (sl A1 N1 C1) x2.tags) (p2_7:repS w0 B (sl A4 N4 C4) x2.kids) (p3_0:x3.b.length≤LEN):m_ prog 170 [pt g1,.agg #[Str.v x2.name,vI x2.kind,vI x2.size,vB x2.little,sl A2 N2 C2,sl A3 N3 C3,sl A1 N1 C1,sl A4 N4 C4],Str.v x3] w0 (Q29 w0 g1 B A0 N0 C0 A5 N5 C5 x1 res):=by
 unfold g_W at hm
 refine goF func170 z z (lb z) fun fn hr=>Ws<|E z (fb z) ?_
 rintro _ wb ⟨rfl,hn⟩;have V:=hn.below;refine Ra z<|Wn<|n_A 0 z<|Ws<|Rm z ?_
 obtain ⟨rm,ah,ai,a5⟩:=a_c hm;refine E z (fc call198 z<|W_w1g (B:=B) ai (zt' hBw V.s) p3_0) ?_;rintro _ we ⟨s9,rfl,aj⟩;refine Rm z<|R z (ext_ z z)<|R z (ext_ z z)<|Ra z<|Ra z<|Wn<|Ws<|Rm z<|R z (fd N_ z) ?_
 have hf:=(hn.blk:Blk wb w0.z (vR x2 A2 N2 C2 A3 N3 C3 A1 N1 C1 A4 N4 C4)).e s9;refine R z (l1 C_ z fid<|hf.at z) ?_;obtain ⟨_,ak,a6⟩:=bdS a5;have ha:=(V.ag B).e s9;refine RX z (at_ (α:=Int) w_ z_3 z z z (p2_7.g ha) ak) ?_;rintro _ ⟨_,_,_,rfl,al,am,_⟩;obtain ⟨rfl,an⟩:=Q_ am;refine R z (l1 g_3 z fid<|al.at0 z) ?_;have ho:=lt_ V.s s9.s;obtain ⟨rp,ao,_,ap,a7⟩:=p_ a6;refine E z (fc call201 z<|W_w1q (B:=B) ap ((hB1.e V).e s9) (zt' hBw ho) hBg (p1_0.g ha) (p1_1.g ha) p1_2 a4 an) ?_;rintro _ L ⟨s5,rfl,_,hq,ht⟩;refine Rm z<|R z (ext_ z z)<|R z (ext_ z z)<|Ra z<|Ra z<|Wn<|Wq<|Wq ?_
 obtain ⟨aq,hur,hms⟩:=bdS a7;refine Wt (fun a w=>∃ (xg:Bool),xg=aq∧Sat 58 [(0,pt g1),(4,pt w0.z),(7,vI rm),(39,vB xg)] a∧Below L.z L w) ?_ ?_
 ·refine Wg<|Rm z<|R z (not_ z)<|Rm z ?_
  rcases bs (!ah) with H | H
  ·exact Nh z H<|Nh z H<|R z (pT z H z)<|Rm z<|Nh z z<|Nh z z<|R z (pT z z z)<|Rm z<|Nh z z<|Nh z z<|Nh z z<|R z (pT z z z)<|Wl (fun _ q=>⟨true,som<|ifT hur H,q.k<|s4 z z z z,br L⟩)
  have hmu:=ifF hur H;refine Rh z H (mv z)<|Rh z H (not_ z)<|R z (pF z H z)<|Rm z ?_
  rcases bs (!ao) with I | I
  ·exact Nh z I<|Nh z I<|R z (pT z I z)<|Rm z<|Nh z z<|Nh z z<|Nh z z<|R z (pT z z z)<|Wl (fun _ q=>⟨true,som<|ifT hmu I,q.k<|s4 z z z z,br L⟩)
  have hmv:=ifF hmu I;refine Rh z I (mv z)<|Rh z I (a_1 z z)<|R z (pF z I z)<|Rm z ?_
  rcases bs (decide<|40<rp) with J | J
  ·iterate 3 refine Nh z J ?_
   exact R z (pT z J z)<|Wl (fun _ q=>⟨true,som<|ifT hmv J,q.k<|s4 z z z z,br L⟩)
  exact Rh z J (mv z)<|Rh z J (mv z)<|Rh z J (b_e z z)<|R z (pF z J z)<|Wl (fun _ q=>⟨decide<|rp≤rm,som<|ifF hmv J,q.k<|s4 z z z z,br L⟩)
 rintro ar O ⟨xg,rfl,_,G⟩;revert ar;refine Wo<|Wc z (fun hch=>?_) (fun hch=>?_)
 ·refine Ws<|Ra z<|Wn ?_
  obtain rfl:=som<|ifT hms hch;exact j_1<|h_ hr z ⟨(d_ (cM (d_ (d_ (cr [g1] w0) V:Chg (· ∈ [g1]) w0 wb) s9:Chg (· ∈ [g1]) w0 we) s5 (io sr):Chg (· ∈ [g1]) w0 L) G:Chg (· ∈ [g1]) w0 O),z,p1_2,hq,ht.e G⟩
 refine Wk ?_;obtain ⟨_,a8,a9⟩:=gotoS<|ifF hms hch;refine n_B (σ:=Int×Int) (ρ:=Bool×Int×Int) (fun s a w=>un2 (fun xc xd=>Sat 58 [(0,pt g1),(4,pt w0.z),(7,vI xc)] a∧Chg (· ∈ [g1]) O w∧inI xc∧inI xd∧Blk w g1 [sl A0 N0 C0,sl A5 N5 C5,vI x1.rule,vI xd]) s) (fun r ex a w=>ex = .ret∧L_ prog fn (Q29 w0 g1 B A0 N0 C0 A5 N5 C5 x1 r) a w) a8 ?_ ?_ ?_
 ·exact fun _ q=>⟨q.k<|s3 z z z,cr [g1] O,aj,hq,ht.e G⟩
 ·rintro ⟨xc,xd⟩ _ wi _ ⟨aa,s7,_,hw,hx⟩ ab;have hmy:=a_F ab;refine Wu ?_ aa;refine Wq<|Ws<|Rm z<|R z (a_1 z z)<|Wn<|Wc z (fun hcj=>?_) (fun hcj=>?_)
  ·refine Wq<|Ws<|Rm z<|R z (fd N_ z) ?_
   have hz:=mmr<|Blk.lt hB1
   refine R z (l1 C_ z fid<|(((hf.c s5<|atp hz).e G).c s7<|atp hz).at z) ?_;obtain ⟨_,au,ad⟩:=bdS<|ifT hmy hcj;have hk:=((ha.c s5<|c_<|b_ hBg).e G).c s7<|c_<|b_ hBg
   refine RX z (at_ (α:=Int) w_ z_3 z z z (p2_7.g hk) au) ?_;rintro _ ⟨_,_,_,rfl,av,aw,_⟩;obtain ⟨rfl,ax⟩:=Q_ aw;refine R z (l1 g_3 z fid<|av.at0 z) ?_;obtain ⟨_,ay,az,W⟩:=a_c ad;refine E z (fc call118 z<|h_Z (B:=B) az hx (zt' hBw<|lt_ (lt_ (lt_ ho s5.s) G.s) s7.s) hBg (p1_0.g hk) (p1_1.g hk) p1_2 hw ax) ?_;rintro _ Y ⟨a0,rfl,a1,a2⟩;refine R z (not_ z)<|Wn<|Wc z (fun hcl=>?_) (fun hcl=>?_)
   ·refine Ws<|Ra z<|Wn ?_
    exact j_1<|qL (som<|ifT W hcl).symm<|h_ hr z ⟨(cM (cM (d_ (cM (d_ (d_ (cr [g1] w0) V:Chg (· ∈ [g1]) w0 wb) s9:Chg (· ∈ [g1]) w0 we) s5 (io sr):Chg (· ∈ [g1]) w0 L) G:Chg (· ∈ [g1]) w0 O) s7 (io sr):Chg (· ∈ [g1]) w0 wi) a0 (io sr):Chg (· ∈ [g1]) w0 Y),z,p1_2,a1,a2⟩
   refine Wk<|Ws<|Rm z<|R z (sb_ z z)<|Ra z<|Wn ?_
   exact n_C fun a' ha'=>⟨rfl,(D_ xc 1,ay),(som<|ifF W hcl).symm,⟨Sat.weaken ha'<|s3 z z z,(cM (cM (cr [g1] O) s7 (io sr):Chg (· ∈ [g1]) O wi) a0 (io sr):Chg (· ∈ [g1]) O Y),iS _ _,a1,a2⟩⟩
  refine Wk<|Ws<|Rm z<|R z (fd N_ z) ?_
  have a3:=mmr<|Blk.lt hB1
  refine R z (l1 C_ z fid<|(((hf.c s5<|atp a3).e G).c s7<|atp a3).at z) ?_;obtain ⟨aA,aB,ae⟩:=bdS<|ifF hmy hcj;refine RX z (at_ (α:=Int) w_ z_3 z z z (p2_7.g<|((ha.c s5<|c_<|b_ hBg).e G).c s7<|c_<|b_ hBg) aB) ?_;rintro _ ⟨_,_,_,rfl,aC,aD,_⟩;obtain ⟨rfl,aE⟩:=Q_ aD;refine R z (l1 g_3 z fid<|aC.at0 z)<|R z (T_ z)<|R z (fd e_h z)<|E0 (fs (cur':=[sl A0 N0 C0,sl A5 N5 C5,vI aA,vI xd]) z_3 z z hx z (lb z) (oA z) z) ?_
  rintro _ aF ⟨aG,aH⟩;refine Wn<|Ws<|Ra z<|Wn ?_
  exact j_1<|qL (som ae).symm<|h_ hr z ⟨(cM (cM (d_ (cM (d_ (d_ (cr [g1] w0) V:Chg (· ∈ [g1]) w0 wb) s9:Chg (· ∈ [g1]) w0 we) s5 (io sr):Chg (· ∈ [g1]) w0 L) G:Chg (· ∈ [g1]) w0 O) s7 (io sr):Chg (· ∈ [g1]) w0 wi) aH.one (io sr):Chg (· ∈ [g1]) w0 aF),z,aE,hw,aG⟩
 rintro _ _ _ ⟨rfl,af⟩;obtain rfl:=som a9;exact ⟨af,z⟩
theorem W_w2v {x1:a_Z} {g1:Nat} {x2:e_} {x3:Str} {res:Bool×Int×Int} (hm:g_X n x1 x2 x3=some res) (hB1:Blk w0 g1 [sl A0 N0 C0,sl A5 N5 C5,vI x1.rule,vI x1.at_]) (hBw:B≤w0.z) (hBg : ¬ B g1) (p1_0:repS w0 B (sl A0 N0 C0) x1.d.rules) (p1_1:repS w0 B (sl A5 N5 C5) x1.b) (p1_2:inI x1.rule) (O:inI x1.at_) (p2_0:x2.name.b.length≤LEN) (p2_1:inI x2.kind) (p2_2:inI x2.size) (p2_4:repS w0 B (sl A2 N2 C2) x2.bytes) (p2_5:repS w0 B (sl A3 N3 C3) x2.names) (p2_6:repS w0 B (sl A1 N1 C1) x2.tags) (p2_7:repS w0 B (sl A4 N4 C4) x2.kids) (p3_0:x3.b.length≤LEN):m_ prog 171 [pt g1,.agg #[Str.v x2.name,vI x2.kind,vI x2.size,vB x2.little,sl A2 N2 C2,sl A3 N3 C3,sl A1 N1 C1,sl A4 N4 C4],Str.v x3] w0 (Q29 w0 g1 B A0 N0 C0 A5 N5 C5 x1 res):=by
 unfold g_X at hm
 refine goF func171 z z (lb z) fun fn hr=>Ws<|E z (fb z) ?_
 rintro _ H ⟨rfl,hh⟩;have h3:=hh.below;have ha:Blk H w0.z (vR x2 A2 N2 C2 A3 N3 C3 A1 N1 C1 A4 N4 C4):=hh.blk;refine Ra z<|Wn<|Wq<|Ws<|R z (fd c_8 z)<|R z (l1 b_i z fid<|ha.at z)<|R z (lnR a_j z<|p2_5.e h3)<|Rm z<|Wn ?_
 obtain ⟨_,huv,hmi⟩:=bdS hm;refine Wf (σ:=Int) (ρ:=Bool×Int×Int) (fun (kb:Nat) (x4:Int) a w=>Sat 44 [(0,pt g1),(2,Str.v x3),(4,pt w0.z),(10,sl A3 N3 C3),(11,vI (x2.names.length:Int)),(12,vI ((kb:Nat):Int))] a∧Chg (· ∈ [g1]) H w∧inI x4∧Blk w g1 [sl A0 N0 C0,sl A5 N5 C5,vI x1.rule,vI x4]) (fun (x4:Int) a w=>Sat 44 [] a∧Chg (· ∈ [g1]) H w∧inI x4∧Blk w g1 [sl A0 N0 C0,sl A5 N5 C5,vI x1.rule,vI x4]) (fun r ex a w=>ex = .ret∧L_ prog fn (Q29 w0 g1 B A0 N0 C0 A5 N5 C5 x1 r) a w) huv ?_ ?_ ?_ ?_ ?_
 ·exact fun _ q=>⟨q.k<|s6 z z z z z z,cr [g1] H,O,hB1.e h3⟩
 ·rintro kb x4 _ I _ hkj ⟨hSw,s5,h6,J⟩ hmx;refine Wu ?_ hSw;refine Ws<|R z (lss z z)<|Wn<|Wq<|Wc z (fun _=>?_) (fun hc=>(a_h hkj hc).elim)
  refine Wk<|Wq<|Wb<|Ws<|Rm z ?_
  obtain ⟨_,ey,hmk⟩:=bdS hmx;have hd:=(h3.ag B).c s5<|c_<|b_ hBg
  have hl:=p2_5.g hd;refine RX z (at_ (α:=Str) a_j z_9 z z z hl ey) ?_;rintro _ ⟨_,_,_,rfl,hz,a6,_⟩;obtain ⟨rfl,_⟩:=b_I a6;refine R z (l1 g_9 z fid<|hz.at0 z)<|Ra z<|Ra z<|Wn<|Wq<|Ws<|Rm z<|Rm z<|R z (b_j z z)<|Wn<|Wc z (fun hcc=>?_) (fun hcc=>?_)
  ·refine Ws<|Rm z<|R z (fd N_ z)<|R z (l1 C_ z fid<|(ha.c s5<|atp<|mmr<|Blk.lt hB1).at z)<|Rm z ?_
   obtain ⟨a7,a8,V⟩:=bdS<|ifT hmk hcc;refine RX z (at_ (α:=Int) w_ z_3 z z z (p2_7.g hd) a8) ?_;rintro _ ⟨_,_,_,rfl,a9,aa,_⟩;obtain ⟨rfl,ab⟩:=Q_ aa;refine R z (l1 g_3 z fid<|a9.at0 z)<|R z (T_ z)<|R z (fd e_h z)<|E0 (fs (cur':=[sl A0 N0 C0,sl A5 N5 C5,vI a7,vI x4]) z_3 z z J z (lb z) (oA z) z) ?_
   rintro _ ad ⟨ae,af⟩;refine Wn<|Ws<|Ra z<|Wn ?_
   exact Wr<|rtO<|qL (som V).symm<|h_ hr z ⟨(cM (cM (d_ (cr [g1] w0) h3:Chg (· ∈ [g1]) w0 H) s5 (io sr):Chg (· ∈ [g1]) w0 I) af.one (io sr):Chg (· ∈ [g1]) w0 ad),z,ab,h6,ae⟩
  refine Wk<|Wq ?_
  obtain ⟨ah,W,Y⟩:=bdS<|ifF hmk hcc;refine Wt (fun a w=>∃ (xe:Bool) (L:Int),(xe,L)=ah∧Sat 44 [(0,pt g1),(2,Str.v x3),(4,pt w0.z),(10,sl A3 N3 C3),(11,vI (x2.names.length:Int)),(12,vI ((kb:Nat):Int)),(42,vB xe)] a∧Chg (· ∈ [g1]) I w∧inI L∧Blk w g1 [sl A0 N0 C0,sl A5 N5 C5,vI x1.rule,vI L]) ?_ ?_
  ·refine Wg<|R z (fd c_8 z) ?_
   have hn:=ha.c s5<|atp<|mmr<|Blk.lt hB1
   refine R z (l1 b_i z fid<|hn.at z)<|Rm z ?_
   have ho:=lt_ h3.s s5.s;obtain ⟨ai,aj,hmm⟩:=bdS W;refine E z (fc call202 z<|W_w1h (B:=B) aj (zt' hBw ho) hl p3_0) ?_;rintro _ wp ⟨s8,rfl⟩;refine R z (not_ z)<|Rm z ?_
   rcases bs (!ai) with G | G
   ·iterate 8 refine Nh z G ?_
    refine R z (pT z G z)<|Wl ?_
    exact fun _ q=>⟨true,x4,som<|ifT hmm G,q.k<|s7 z z z z z z z,(d_ (cr [g1] I) s8:Chg (· ∈ [g1]) I wp),h6,J.e s8⟩
   refine Rh z G (mv z)<|Rh z G (fd N_ z)<|Rh z G (l1 C_ z fid<|(hn.e s8).at z)<|Rh z G (mv z) ?_
   obtain ⟨_,ak,a0⟩:=bdS<|ifF hmm G;have hf:=hd.e s8;refine RXg z z G z (at_ (α:=Int) w_ z_3 z z z (p2_7.g hf) ak) ?_;rintro _ ⟨_,_,_,rfl,al,am,_⟩;obtain ⟨rfl,an⟩:=Q_ am;refine Rh z G (l1 g_3 z fid<|al.at0 z) ?_;obtain ⟨ao,ap,aq,a1⟩:=a_c a0;refine Eg z z G z (fc call118 z<|h_Z (B:=B) aq (J.e s8) (zt' hBw<|lt_ ho s8.s) hBg (p1_0.g hf) (p1_1.g hf) p1_2 h6 an) ?_;rintro _ ar ⟨au,rfl,av,aw⟩;refine Rh z G (not_ z)<|R z (pF z G z)<|Wl ?_
   exact fun _ q=>⟨!ao,ap,som a1,q.k<|s7 z z z z z z z,(cM (d_ (cr [g1] I) s8:Chg (· ∈ [g1]) I wp) au (io sr):Chg (· ∈ [g1]) I ar),av,aw⟩
  rintro ax wq ⟨xe,L,rfl,_,ss,ht,hu⟩;have hmr:=a_F Y;revert ax;refine Wo<|Wc z (fun hcg=>?_) (fun hcg=>?_)
  ·refine Ws<|Ra z<|Wn ?_
   exact Wr<|rtO<|qL (som<|ifT hmr hcg).symm<|h_ hr z ⟨(cM (cM (d_ (cr [g1] w0) h3:Chg (· ∈ [g1]) w0 H) s5 (io sr):Chg (· ∈ [g1]) w0 I) ss (io sr):Chg (· ∈ [g1]) w0 wq),z,p1_2,ht,hu⟩
  refine Wk<|Wg<|R z (inc_ hkj (lt_ (repS.len p2_5) P_) z z)<|Rm z<|Wl ?_
  exact fun _ q=>⟨L,(som<|ifF hmr hcg).symm,⟨q.k<|s6 z z z z z z,(cM (cM (cr [g1] H) s5 (io sr):Chg (· ∈ [g1]) H I) ss (io sr):Chg (· ∈ [g1]) H wq),ht,hu⟩⟩
 ·rintro x4 _ ay ⟨a2,az,h6,J⟩;refine Wu ?_ a2;refine Ws<|R z (lss z z)<|Wn<|Wq<|Wc z (fun hc=>(a_i hc).elim) (fun _=>?_)
  exact We<|fun a' ha'=>⟨rfl,⟨Sat.weaken ha' sn,(cM (cr [g1] H) az (io sr):Chg (· ∈ [g1]) H ay),h6,J⟩⟩
 ·rintro x4 aA aB rfl ⟨_,aC,h6,J⟩;have a3:=elL hmi;revert aA;refine Wo<|Ws<|Ra z<|Wn ?_
  obtain rfl:=som a3;exact Wr<|h_ hr z ⟨(cM (d_ (cr [g1] w0) h3:Chg (· ∈ [g1]) w0 H) aC (io sr):Chg (· ∈ [g1]) w0 aB),z,p1_2,h6,J⟩
 rintro _ _ _ _ rfl ⟨rfl,a4⟩;have a5:=elR hmi;obtain rfl:=som a5;exact ⟨a4,z⟩
theorem W_w2w {x1:Int} {x2:Int} {G H:Nat} {res:Bool} (hm:i_J x1 x2=some res) (hBw:B≤w0.z) (p1_0:inI x1) (p2_0:inI x2) (I:Z_ w0 G H [vI x2]) (J:B G):m_ prog 204 [vI x1,(.pointer<|some ⟨G,H,none⟩)] w0 (Q0 w0 B res):=by
 unfold i_J at hm
 refine goF func204 z z (lb z) fun fn hr=>Ws<|Ra z<|Wn<|Ws<|Rm z<|R z (l1 g_3 z fid<|I.at0 z)<|R z (eql z z)<|Ra z<|Wn ?_
 obtain rfl:=som hm;exact Wr<|h_ hr z ⟨br w0,z⟩
theorem W_w2x {x1:List Int} {I:Int} {H J:Nat} {res:Int} (hm:g_Y x1 I=some res) (hBw:B≤w0.z) (p1_0:repS w0 B (sl A0 N0 C0) x1) (p2c0_0:inI I) (a0:Z_ w0 H J [vI I]) (Y:B H):m_ prog 203 [sl A0 N0 C0,(.func (.func 204) #[] #[(.pointer<|some ⟨H,J,none⟩)])] w0 (Q9 w0 B res):=by
 unfold g_Y at hm
 refine goF func203 z z (lb z) fun fn hr=>Ws<|Ra z<|Wn<|Wq<|Ws<|Rm z<|R z (lnR w_ z p1_0)<|Rm z<|Wn ?_
 obtain ⟨_,a1,V⟩:=bdS hm;refine Wf (σ:=Unit) (ρ:=Int) (fun (k4:Nat) (_:Unit) a w=>Sat 19 [(1,.func (.func 204) #[] #[(.pointer<|some ⟨H,J,none⟩)]),(7,sl A0 N0 C0),(8,vI (x1.length:Int)),(9,vI ((k4:Nat):Int))] a∧Below w0.z w0 w) (fun (_:Unit) a w=>Sat 19 [] a∧Below w0.z w0 w) (fun r ex a w=>ex = .ret∧L_ prog fn (Q9 w0 B r) a w) a1 ?_ ?_ ?_ ?_ ?_
 ·exact fun _ q=>⟨q.k<|s4 z z z z,br w0⟩
 ·rintro k4 _ _ _ _ L ⟨a2,G⟩ a3;refine Wu ?_ a2;refine Ws<|R z (lss z z)<|Wn<|Wq<|Wc z (fun _=>?_) (fun hc=>(a_h L hc).elim)
  refine Wk<|Wq<|Wb<|Ws<|Rm z ?_
  obtain ⟨_,ea,hmb⟩:=bdS a3;refine RX z (at_ (α:=Int) w_ z_3 z z z (p1_0.e G) ea) ?_;rintro _ ⟨_,_,_,rfl,hd,he,_⟩;obtain ⟨rfl,hf⟩:=Q_ he;refine R z (l1 g_3 z fid<|hd.at0 z)<|Ra z<|Ra z<|Wn<|Ws<|Rm z<|Rm z ?_
  obtain ⟨_,ec,W⟩:=bdS hmb;refine E z (k_K call204 z z<|W_w2w (B:=B) ec (zt' hBw G.s) hf p2c0_0 (a0.e G) Y) ?_;rintro _ _ ⟨s6,rfl⟩;refine Wn<|Wc z (fun O=>?_) (fun O=>?_)
  ·exact Ws<|Rm z<|Ra z<|Wn<|Wr<|rtO<|qL (som<|ifT W O).symm<|h_ hr z ⟨bup G s6,z,ic (Nat.le_of_lt L)<|lt_ (repS.len p1_0) P_⟩
  exact Wk<|Wg<|R z (inc_ L (lt_ (repS.len p1_0) P_) z z)<|Rm z<|Wl (fun _ q=>⟨(),(som<|ifF W O).symm,⟨q.k<|s4 z z z z,bup G s6⟩⟩)
 ·rintro _ _ _ ⟨hSg,sh⟩;refine Wu ?_ hSg;refine Ws<|R z (lss z z)<|Wn<|Wq<|Wc z (fun hc=>(a_i hc).elim) (fun _=>?_)
  exact We<|fun a' ha'=>⟨rfl,⟨Sat.weaken ha' sn,sh⟩⟩
 ·rintro _ ai _ rfl ⟨_,sj⟩;have hmk:=elL V;revert ai;refine Wo<|Ws<|Ra z<|Wn ?_
  obtain rfl:=som hmk;exact Wr<|h_ hr z ⟨sj,z,ii z⟩
 rintro _ _ _ _ rfl ⟨rfl,hql⟩;have hmm:=elR V;obtain rfl:=som hmm;exact ⟨hql,z⟩
theorem W_w2y {x1:a_Z} {g1:Nat} {x2:e_} {res:Bool×Int×Int} (hm:g_Z n x1 x2=some res) (hB1:Blk w0 g1 [sl A0 N0 C0,sl A5 N5 C5,vI x1.rule,vI x1.at_]) (hBw:B≤w0.z) (hBg : ¬ B g1) (p1_0:repS w0 B (sl A0 N0 C0) x1.d.rules) (p1_1:repS w0 B (sl A5 N5 C5) x1.b) (p1_2:inI x1.rule) (L:inI x1.at_) (p2_0:x2.name.b.length≤LEN) (p2_1:inI x2.kind) (p2_2:inI x2.size) (p2_4:repS w0 B (sl A2 N2 C2) x2.bytes) (p2_5:repS w0 B (sl A3 N3 C3) x2.names) (p2_6:repS w0 B (sl A1 N1 C1) x2.tags) (p2_7:repS w0 B (sl A4 N4 C4) x2.kids):m_ prog 172 [pt g1,(.agg #[Str.v x2.name,vI x2.kind,vI x2.size,vB x2.little,sl A2 N2 C2,sl A3 N3 C3,sl A1 N1 C1,sl A4 N4 C4])] w0 (Q29 w0 g1 B A0 N0 C0 A5 N5 C5 x1 res):=by
 unfold g_Z at hm
 refine goF func172 z z (lb z) fun fn hr=>Ws<|E z (fb z) ?_
 rintro _ wb ⟨rfl,hf⟩;have H:=hf.below;have hc:Blk wb w0.z (vR x2 A2 N2 C2 A3 N3 C3 A1 N1 C1 A4 N4 C4):=hf.blk;refine Ra z<|Wn<|Ws<|Rm z<|R z (fd N_ z)<|R z (l1 C_ z fid<|hc.at z) ?_
 obtain ⟨_,er,hms⟩:=bdS hm;refine RX z (at_ (α:=Int) w_ z_3 z z z (p2_7.e H) er) ?_;rintro _ ⟨_,_,_,rfl,ht,hu,_⟩;obtain ⟨rfl,hv⟩:=Q_ hu;refine R z (l1 g_3 z fid<|ht.at0 z) ?_;obtain ⟨rx,ry,rz,ew,O⟩:=p_ hms;refine E z (fc call201 z<|W_w1q (B:=B) ew (hB1.e H) (zt' hBw H.s) hBg (p1_0.e H) (p1_1.e H) p1_2 L hv) ?_;rintro _ I ⟨s5,rfl,Y,hg,hh⟩;refine Rm z<|R z (ext_ z z)<|R z (ext_ z z)<|E z (fa zero_3) ?_
 rintro _ wa ⟨rfl,hi⟩;have h2:=hi.below;have hj:Blk wa I.z [vI 0]:=hi.blk;refine E0 (fs (cur':=[vI rx]) z_3 z z hj z (lb z) (oA z) z) ?_;rintro _ wk ⟨a0,a1⟩;have h3:=a1.one;refine Ra z<|Wn<|Ws<|R z (fd b_1 z) ?_
 have hl:=((hc.c s5<|atp<|mmr<|Blk.lt hB1).e h2).c h3<|djs<|mm1 hc.lt s5.s
 refine R z (l1 C_ z fid<|hl.at z)<|R z (k_J z) ?_
 have h6:=lt_ H.s s5.s;have hn:=(((H.ag B).c s5<|c_<|b_ hBg).e h2).c h3<|c_ (or0 (b_ lr)  (j_<|zt' hBw h6) : ∀ k∈[I.z],¬ B k)
 obtain ⟨rm,a2,V⟩:=bdS O;refine E z (fc call203 z<|W_w2x (B:=wa.z) a2 (a_V h3.s) (repS.mono (p2_6.g hn)<|zt' hBw<|lt_ h6 h2.s) Y (a0.row 0 1 z) hj.lt) ?_;rintro _ J ⟨s8,rfl,_⟩;refine Ra z<|Wn<|Wq<|Wq ?_
 obtain ⟨a3,huo,hmp⟩:=bdS V;refine Wt (fun a w=>∃ (xd:Bool),xd=a3∧Sat 36 [(0,pt g1),(3,pt w0.z),(7,vI rm),(26,vB xd)] a∧Below J.z J w) ?_ ?_
 ·refine Wg<|Rm z<|R z (not_ z)<|Rm z ?_
  rcases bs (!ry) with G | G
  ·exact Nh z G<|Nh z G<|R z (pT z G z)<|Wl (fun _ q=>⟨true,som<|ifT huo G,q.k<|s4 z z z z,br J⟩)
  exact Rh z G (mv z)<|Rh z G (lss z z)<|R z (pF z G z)<|Wl (fun _ q=>⟨decide<|rm<0,som<|ifF huo G,q.k<|s4 z z z z,br J⟩)
 rintro a4 wq ⟨xd,rfl,_,s9⟩;revert a4;refine Wo<|Wc z (fun hce=>?_) (fun hce=>?_)
 ·refine Ws<|Ra z<|Wn ?_
  obtain rfl:=som<|ifT hmp hce;exact Wr<|h_ hr z ⟨(d_ (d_ (cM (d_ (cM (d_ (cr [g1] w0) H:Chg (· ∈ [g1]) w0 wb) s5 (io sr):Chg (· ∈ [g1]) w0 I) h2:Chg (· ∈ [g1]) w0 wa) h3 (mor h6 : ∀ k∈[I.z],k∈[g1]∨w0.z≤k):Chg (· ∈ [g1]) w0 wk) s8:Chg (· ∈ [g1]) w0 J) s9:Chg (· ∈ [g1]) w0 wq),z,p1_2,hg,(((hh.e h2).c h3<|djs<|mm1 (Blk.lt hB1) h6).e s8).e s9⟩
 refine Wk<|Ws<|Rm z<|R z (fd N_ z)<|R z (l1 C_ z fid<|((hl.e s8).e s9).at z)<|Rm z<|R z (add_ z z) ?_
 obtain ⟨a5,a6,W⟩:=bdS<|ifF hmp hce;refine RX z (at_ (α:=Int) w_ z_3 z z z (p2_7.g<|(hn.e s8).e s9) a6) ?_;rintro _ ⟨_,_,_,rfl,a7,a8,_⟩;obtain ⟨rfl,a9⟩:=Q_ a8;refine R z (l1 g_3 z fid<|a7.at0 z)<|R z (T_ z)<|R z (fd e_h z)<|E0 (fs (cur':=[sl A0 N0 C0,sl A5 N5 C5,vI a5,vI rz]) z_3 z z ((((hh.e h2).c h3<|djs<|mm1 (Blk.lt hB1) h6).e s8).e s9) z (lb z) (oA z) z) ?_
 rintro _ aa ⟨ab,ad⟩;refine Wn<|Ws<|Ra z<|Wn ?_
 obtain rfl:=som W;exact Wr<|h_ hr z ⟨(cM (d_ (d_ (cM (d_ (cM (d_ (cr [g1] w0) H:Chg (· ∈ [g1]) w0 wb) s5 (io sr):Chg (· ∈ [g1]) w0 I) h2:Chg (· ∈ [g1]) w0 wa) h3 (mor h6 : ∀ k∈[I.z],k∈[g1]∨w0.z≤k):Chg (· ∈ [g1]) w0 wk) s8:Chg (· ∈ [g1]) w0 J) s9:Chg (· ∈ [g1]) w0 wq) ad.one (io sr):Chg (· ∈ [g1]) w0 aa),z,a9,hg,ab⟩
theorem W_w2z {x1:a_Z} {g1:Nat} {x2:Str} {res:Bool×Int×Int} (hm:f_v n x1 x2=some res) (hB1:Blk w0 g1 [sl A0 N0 C0,sl A5 N5 C5,vI x1.rule,vI x1.at_]) (hBw:B≤w0.z) (hBg : ¬ B g1) (p1_0:repS w0 B (sl A0 N0 C0) x1.d.rules) (p1_1:repS w0 B (sl A5 N5 C5) x1.b) (p1_2:inI x1.rule) (V:inI x1.at_) (p2_0:x2.b.length≤LEN):m_ prog 117 [pt g1,Str.v x2] w0 (Q29 w0 g1 B A0 N0 C0 A5 N5 C5 x1 res):=by
 unfold f_v at hm
 refine goF func117 z z (lb z) fun fn hr=>Ws<|Ra z<|Wn<|Wq (Wd (X:=noX) 4096 (.rd 0<|.rd 1<|.rd 2<|.rd 3<|.rd 4<|.rd 5<|.rd 6<|.rd 7<|.rd 8<|.rd 9<|.rd 10<|.ef 11<|.ef 12 .done) mo (by kernel_rfl) fun H G _=>dR z z (mv z)<|dR z z (T_ z)<|dR z z (fd j_3 z)<|dR z z (fd a_4 z) ?_)
 have L:=hB1.e G;refine dR z z (l1 a_6 z fid<|L.at z)<|dR z z (mv z)<|dR z z (T_ z)<|dR z z (fd e_h z)<|dR z z (l1 g_3 z fid<|L.at z) ?_
 obtain ⟨xe,aU,am⟩:=bdS hm;refine dRX z z (at_ (α:=e_) a_7 o_ z z z (p1_0.e G) aU) ?_;rintro _ ⟨_,_,_,rfl,aV,aW,_⟩;obtain ⟨ah,ni,cj,ak,nl,cm,an,no,cp,aq,nr,cs,rfl,a7,a8,a9,aa,ab,ad,hu⟩:=a_P aW;refine dR z z (lN (vs:=vR xe ah ni cj ak nl cm an no cp aq nr cs) I_ o_ z z fid aV)<|dE z z (fa b_E) (.inr fun _ _ h=>A_<|h.2.below) ?_
 rintro _ wg ⟨rfl,aA⟩;have h1:=aA.below;refine dE0 z (fs (cur':=vR xe ah ni cj ak nl cm an no cp aq nr cs) o_ z z (aA.blk:Blk wg H.z [(Str.v (⟨[]⟩:Str)),vI 0,vI 0,vB false,sl none 0 0,sl none 0 0,sl none 0 0,sl none 0 0]) z (lb z) (oA z) z) (.inl z) ?_;rintro _ O ⟨ha,aX⟩;have h2:=aX.one;refine pD<|Wo<|Wq<|Wb<|Ws<|R z (fd a_C z)<|R z (l1 g_3 z fid<|ha.at z)<|R z (eql z z)<|Ra z<|Wn<|Wc z (fun a0=>?_) (fun a0=>?_)
 ·refine Ws<|Rm z<|R z (lN (vs:=vR xe ah ni cj ak nl cm an no cp aq nr cs) I_ o_ z z fid<|ha.row 0 8 z)<|Rm z ?_
  have aB : ∀ k∈[H.z],¬ B k:=or0 (b_ lr)  (j_<|zt' hBw G.s);have aC:=((G.ag B).e h1).c h2<|c_ aB
  have hv:=(h1.ag B).c h2<|c_ aB
  obtain ⟨_,_,_,aY,aL⟩:=p_<|ifT am a0;refine E z (fc call170 z<|W_w2u (B:=B) aY ((L.e h1).c h2<|djs<|mm1 (Blk.lt hB1) G.s) (zt' hBw<|lt_ (lt_ G.s h1.s) h2.s) hBg (p1_0.g aC) (p1_1.g aC) p1_2 V a7 a8 a9 (aa.g hv) (ab.g hv) (ad.g hv) (hu.g hv) p2_0) ?_;rintro _ aZ ⟨b0,rfl,b1,b2,b3⟩;refine Ra z<|Wn ?_
  obtain rfl:=som aL;exact Wr<|rtO<|h_ hr z ⟨(cM (cM (d_ (d_ (cr [g1] w0) G:Chg (· ∈ [g1]) w0 H) h1:Chg (· ∈ [g1]) w0 wg) h2 (mor G.s : ∀ k∈[H.z],k∈[g1]∨w0.z≤k):Chg (· ∈ [g1]) w0 O) b0 (io sr):Chg (· ∈ [g1]) w0 aZ),z,b1,b2,b3⟩
 have ao:=ifF am a0;refine Ws<|R z (fd a_C z)<|R z (l1 g_3 z fid<|ha.at z)<|R z (eql z z)<|Ra z<|Wn<|Wc z (fun a1=>?_) (fun a1=>?_)
 ·refine Ws<|Rm z<|R z (lN (vs:=vR xe ah ni cj ak nl cm an no cp aq nr cs) I_ o_ z z fid<|ha.row 0 8 z)<|Rm z ?_
  have aD : ∀ k∈[H.z],¬ B k:=or0 (b_ lr)  (j_<|zt' hBw G.s);have aE:=((G.ag B).e h1).c h2<|c_ aD
  have hw:=(h1.ag B).c h2<|c_ aD
  obtain ⟨_,_,_,b4,aM⟩:=p_<|ifT ao a1;refine E z (fc call171 z<|W_w2v (B:=B) b4 ((L.e h1).c h2<|djs<|mm1 (Blk.lt hB1) G.s) (zt' hBw<|lt_ (lt_ G.s h1.s) h2.s) hBg (p1_0.g aE) (p1_1.g aE) p1_2 V a7 a8 a9 (aa.g hw) (ab.g hw) (ad.g hw) (hu.g hw) p2_0) ?_;rintro _ b5 ⟨b6,rfl,b7,b8,b9⟩;refine Ra z<|Wn ?_
  obtain rfl:=som aM;exact Wr<|rtO<|h_ hr z ⟨(cM (cM (d_ (d_ (cr [g1] w0) G:Chg (· ∈ [g1]) w0 H) h1:Chg (· ∈ [g1]) w0 wg) h2 (mor G.s : ∀ k∈[H.z],k∈[g1]∨w0.z≤k):Chg (· ∈ [g1]) w0 O) b6 (io sr):Chg (· ∈ [g1]) w0 b5),z,b7,b8,b9⟩
 refine Wq ?_;obtain ⟨ba,ap,ar⟩:=bdS<|ifF ao a1;refine Wt (fun a w=>∃ (ae:Bool),ae=ba∧Sat 97 [(0,pt g1),(1,Str.v x2),(5,pt H.z),(33,vB ae)] a∧Below O.z O w) ?_ ?_
 ·refine Wg<|R z (fd a_C z)<|R z (l1 g_3 z fid<|ha.at z)<|R z (eql z z)<|Rm z ?_
  rcases bs (xe.kind==7) with hcb | hcb
  ·exact Rh z hcb (mv z)<|Rh z hcb (b_j z z)<|R z (pT z hcb z)<|Ra z<|Wl (fun _ q=>⟨x2.b==(⟨[42]⟩:Str).b,som<|ifT ap hcb,q.k<|s4 z z z z,br O⟩)
  exact Nh z hcb<|Nh z hcb<|R z (pF z hcb z)<|Ra z<|Wl (fun _ q=>⟨false,som<|ifF ap hcb,q.k<|s4 z z z z,br O⟩)
 rintro bb wf ⟨ae,rfl,_,s5⟩;revert bb;refine Wo<|Wc z (fun a2=>?_) (fun a2=>?_)
 ·refine Ws<|Rm z<|R z (lN (vs:=vR xe ah ni cj ak nl cm an no cp aq nr cs) I_ o_ z z fid<|(ha.e s5).row 0 8 z) ?_
  have aF : ∀ k∈[H.z],¬ B k:=or0 (b_ lr)  (j_<|zt' hBw G.s);have aG:=(((G.ag B).e h1).c h2<|c_ aF).e s5;have hx:=((h1.ag B).c h2<|c_ aF).e s5;obtain ⟨_,_,_,bc,aN⟩:=p_<|ifT ar a2;refine E z (fc call172 z<|W_w2y (B:=B) bc (((L.e h1).c h2<|djs<|mm1 (Blk.lt hB1) G.s).e s5) (zt' hBw<|lt_ (lt_ (lt_ G.s h1.s) h2.s) s5.s) hBg (p1_0.g aG) (p1_1.g aG) p1_2 V a7 a8 a9 (aa.g hx) (ab.g hx) (ad.g hx)<|hu.g hx) ?_;rintro _ be ⟨bf,rfl,bg,bh,bi⟩;refine Ra z<|Wn ?_
  obtain rfl:=som aN;exact Wr<|rtO<|h_ hr z ⟨(cM (d_ (cM (d_ (d_ (cr [g1] w0) G:Chg (· ∈ [g1]) w0 H) h1:Chg (· ∈ [g1]) w0 wg) h2 (mor G.s : ∀ k∈[H.z],k∈[g1]∨w0.z≤k):Chg (· ∈ [g1]) w0 O) s5:Chg (· ∈ [g1]) w0 wf) bf (io sr):Chg (· ∈ [g1]) w0 be),z,bg,bh,bi⟩
 refine Wq ?_;obtain ⟨bj,au,aO⟩:=bdS<|ifF ar a2;refine Wt (fun a w=>∃ (af:Bool),af=bj∧Sat 97 [(0,pt g1),(1,Str.v x2),(5,pt H.z),(44,vB af)] a∧Below wf.z wf w) ?_ ?_
 ·refine Wg<|R z (fd a_C z)<|R z (l1 g_3 z fid<|(ha.e s5).at z)<|R z (eql z z)<|Rm z ?_
  rcases bs (xe.kind==8) with hcc | hcc
  ·exact Rh z hcc (mv z)<|Rh z hcc (b_j z z)<|R z (pT z hcc z)<|Ra z<|Wl (fun _ q=>⟨x2.b==(⟨[63]⟩:Str).b,som<|ifT au hcc,q.k<|s4 z z z z,br wf⟩)
  exact Nh z hcc<|Nh z hcc<|R z (pF z hcc z)<|Ra z<|Wl (fun _ q=>⟨false,som<|ifF au hcc,q.k<|s4 z z z z,br wf⟩)
 rintro bk J ⟨af,rfl,_,s7⟩;revert bk;refine Wo ?_;obtain ⟨bm,av,a3⟩:=bdS aO;refine Wt (fun a w=>∃ (xt:Int),Sum.inl xt=bm∧Sat 97 [(0,pt g1),(5,pt H.z)] a∧Chg (· ∈ [g1]) J w∧inI xt∧Blk w g1 [sl A0 N0 C0,sl A5 N5 C5,vI x1.rule,vI xt]) ?_ ?_
 ·refine Wc z (fun a4=>?_)<|fun a4=>?_
  ·refine Wq<|Wq ?_
   obtain ⟨bn,aw,ax⟩:=bdS<|ifT av a4;refine Wt (fun a w=>∃ (ai:Bool),ai=bn∧Sat 97 [(0,pt g1),(5,pt H.z),(74,vB ai)] a∧Below J.z J w) ?_ ?_
   ·refine Wd (X:=noX) 0 (.rd 0<|.rd 1<|.rd 2<|.rd 3<|.rd 4<|.rd 5<|.rd 6<|.rd 7<|.rd 8<|.rd 9<|.rd 10<|.rd 11<|.rd 12<|.rd 13<|.rd 14<|.rd 15<|.rd 16<|.rd 17<|.rd 18<|.rd 19<|.rd 20<|.rd 21<|.rd 22 .done) mo (by kernel_rfl) fun bN sy _=>dR z z (mv z)<|dR z z (T_ z)<|dR z z (fd c_U z) ?_
    have hz:=((((L.e h1).c h2<|djs<|mm1 (Blk.lt hB1) G.s).e s5).e s7).e sy;refine dR z z (l1 g_3 z fid<|hz.at z)<|dR z z (mv z)<|dR z z (T_ z)<|dR z z (fd h_P z)<|dR z z (l1 X_ z fid<|hz.at z) ?_
    have aH:=p1_1.g<|(((((G.ag B).e h1).c h2<|c_ (or0 (b_ lr)  (j_<|zt' hBw G.s) : ∀ k∈[H.z],¬ B k)).e s5).e s7).e sy
    refine dR z z (lnR n_ z aH)<|dR z z (b_e z z)<|dR z z (mv z) ?_
    rcases bs (decide<|(x1.b.length:Int)≤x1.at_) with I | I
    ·iterate 11 refine dRn z z z I z ?_
     exact dR z z (pT z I z)<|pD (fun _ q=>⟨true,som<|ifT aw I,q.k<|s3 z z z,sy⟩)
    refine dRg z z z I z (mv z)<|dRg z z z I z (T_ z)<|dRg z z z I z (fd h_P z)<|dRg z z z I z (l1 X_ z fid<|hz.at z)<|dRg z z z I z (mv z)<|dRg z z z I z (T_ z)<|dRg z z z I z (fd c_U z)<|dRg z z z I z (l1 g_3 z fid<|hz.at z) ?_
    obtain ⟨bo,bp,aP⟩:=bdS<|ifF aw I;refine c_1 z z z I z (at_ (α:=UInt8) n_ z_5 z z z aH bp) ?_;rintro _ ⟨_,_,_,rfl,bq,bt,_⟩;obtain rfl:=u8 bt;exact dRg z z z I z (l1 g_5 z fid<|bq.at0 z)<|dRg z z z I z (nq z z)<|dR z z (pF z I z)<|pD (fun _ q=>⟨(byteI bo) != (byteI (1:UInt8)),som aP,q.k<|s3 z z z,sy⟩)
   rintro bu aI ⟨ai,rfl,_,W⟩;revert bu;refine Wo<|Wc z (fun a5=>?_) (fun a5=>?_)
   ·refine Ws<|Ra z<|Wn ?_
    obtain rfl:=som<|ifT ax a5;have aQ:=elR a3;obtain rfl:=som aQ;exact Wr<|rtO<|h_ hr z ⟨(d_ (d_ (d_ (cM (d_ (d_ (cr [g1] w0) G:Chg (· ∈ [g1]) w0 H) h1:Chg (· ∈ [g1]) w0 wg) h2 (mor G.s : ∀ k∈[H.z],k∈[g1]∨w0.z≤k):Chg (· ∈ [g1]) w0 O) s5:Chg (· ∈ [g1]) w0 wf) s7:Chg (· ∈ [g1]) w0 J) W:Chg (· ∈ [g1]) w0 aI),z,p1_2,V,((((L.e h1).c h2<|djs<|mm1 (Blk.lt hB1) G.s).e s5).e s7).e W⟩
   refine Wk<|Wg<|Rm z<|R z (T_ z)<|R z (fd c_U z) ?_
   have aJ:=((((L.e h1).c h2<|djs<|mm1 (Blk.lt hB1) G.s).e s5).e s7).e W;refine R z (l1 g_3 z fid<|aJ.at z)<|R z (add_ z z)<|R z (T_ z)<|R z (fd c_U z)<|E0 (fs (cur':=[sl A0 N0 C0,sl A5 N5 C5,vI x1.rule,vI<|g_ x1.at_ 1]) z_3 z z aJ z (lb z) (oA z) z) ?_
   rintro _ bv ⟨bw,bx⟩;refine Wl ?_;exact fun _ q=>⟨g_ x1.at_ 1,som<|ifF ax a5,q.k<|s2 z z,(cM (d_ (cr [g1] J) W:Chg (· ∈ [g1]) J aI) bx.one (io sr):Chg (· ∈ [g1]) J bv),iA _ _,bw⟩
  refine Wq ?_;obtain ⟨bz,ay,az⟩:=bdS<|ifF av a4;refine Wt (fun a w=>∃ (aj:Bool),aj=bz∧Sat 97 [(0,pt g1),(5,pt H.z),(82,vB aj)] a∧Below J.z J w) ?_ ?_
  ·refine Wg<|R z (fd a_C z)<|R z (l1 g_3 z fid<|((ha.e s5).e s7).at z)<|R z (eql z z)<|Rm z ?_
   rcases bs (xe.kind==9) with hcd | hcd
   ·exact Rh z hcd (mv z)<|Rh z hcd (b_j z z)<|R z (pT z hcd z)<|Ra z<|Wl (fun _ q=>⟨x2.b==(⟨[43]⟩:Str).b,som<|ifT ay hcd,q.k<|s3 z z z,br J⟩)
   exact Nh z hcd<|Nh z hcd<|R z (pF z hcd z)<|Ra z<|Wl (fun _ q=>⟨false,som<|ifF ay hcd,q.k<|s3 z z z,br J⟩)
  rintro bA aK ⟨aj,rfl,_,Y⟩;revert bA;refine Wo<|Wc z (fun a6=>?_) (fun a6=>?_)
  ·refine a_e ?_;exact fun _ q=>⟨x1.at_,som<|ifT az a6,q.k<|s2 z z,(d_ (cr [g1] J) Y:Chg (· ∈ [g1]) J aK),V,((((L.e h1).c h2<|djs<|mm1 (Blk.lt hB1) G.s).e s5).e s7).e Y⟩
  refine Ws<|Ra z<|Wn ?_
  obtain rfl:=som<|ifF az a6;have aR:=elR a3;obtain rfl:=som aR;exact Wr<|rtO<|h_ hr z ⟨(d_ (d_ (d_ (cM (d_ (d_ (cr [g1] w0) G:Chg (· ∈ [g1]) w0 H) h1:Chg (· ∈ [g1]) w0 wg) h2 (mor G.s : ∀ k∈[H.z],k∈[g1]∨w0.z≤k):Chg (· ∈ [g1]) w0 O) s5:Chg (· ∈ [g1]) w0 wf) s7:Chg (· ∈ [g1]) w0 J) Y:Chg (· ∈ [g1]) w0 aK),z,p1_2,V,((((L.e h1).c h2<|djs<|mm1 (Blk.lt hB1) G.s).e s5).e s7).e Y⟩
 rintro bB bC ⟨xt,rfl,_,al,bD,bE⟩;have aS:=elL a3;revert bB;refine Wo<|Ws<|Rm z<|R z (fd N_ z)<|R z (l1 C_ z fid<|(((ha.e s5).e s7).c al<|atp<|mm1 (Blk.lt hB1) G.s).at z) ?_
 obtain ⟨bF,bG,aT⟩:=bdS aS;refine RX z (at_ (α:=Int) w_ z_3 z z z (hu.g<|((((h1.ag B).c h2<|c_ (or0 (b_ lr)  (j_<|zt' hBw G.s) : ∀ k∈[H.z],¬ B k)).e s5).e s7).c al<|c_<|b_ hBg) bG) ?_;rintro _ ⟨_,_,_,rfl,bH,bI,_⟩;obtain ⟨rfl,bJ⟩:=Q_ bI;refine R z (l1 g_3 z fid<|bH.at0 z)<|R z (T_ z)<|R z (fd e_h z)<|E0 (fs (cur':=[sl A0 N0 C0,sl A5 N5 C5,vI bF,vI xt]) z_3 z z bE z (lb z) (oA z) z) ?_
 rintro _ bK ⟨bL,bM⟩;refine Wn<|Ws<|Ra z<|Wn ?_
 obtain rfl:=som aT;exact Wr<|h_ hr z ⟨(cM (cM (d_ (d_ (cM (d_ (d_ (cr [g1] w0) G:Chg (· ∈ [g1]) w0 H) h1:Chg (· ∈ [g1]) w0 wg) h2 (mor G.s : ∀ k∈[H.z],k∈[g1]∨w0.z≤k):Chg (· ∈ [g1]) w0 O) s5:Chg (· ∈ [g1]) w0 wf) s7:Chg (· ∈ [g1]) w0 J) al (io sr):Chg (· ∈ [g1]) w0 bC) bM.one (io sr):Chg (· ∈ [g1]) w0 bK),z,bJ,bD,bL⟩
theorem W_w1r {x1:f_} {x2:List UInt8} {x3:Str} {res:K_×Bool} (hm:f_w n x1 x2 x3=some res) (hBw:B≤w0.z) (p1_0:repS w0 B (sl A0 N0 C0) x1.rules) (p2_0:repS w0 B (sl A6 N6 C6) x2) (p3_0:x3.b.length≤LEN):m_ prog 59 [(.agg #[sl A0 N0 C0]),sl A6 N6 C6,Str.v x3] w0 (Q19 w0 B res):=by
 unfold f_w at hm
 refine goF func59 z z (lb z) fun fn hr=>Ws<|E z (fb z) ?_
 rintro _ wj ⟨rfl,hz⟩;have h3:=hz.below;have a3:Blk wj w0.z [sl A0 N0 C0]:=hz.blk;refine E z (fa d_l) ?_;rintro _ aE ⟨rfl,a4⟩;have L:=a4.below;have hd:Blk aE wj.z [(Str.v (⟨[]⟩:Str)),vI 0,vI 0,vI 0]:=a4.blk;refine Ra z<|Wn<|Ws<|Rm z ?_
 have hn:=lt_ h3.s L.s;obtain ⟨aF,aG,aH,au⟩:=a_c hm;refine E z (fc call115 z<|W_w2n (B:=B) aH (zt' hBw hn) p3_0) ?_;rintro _ wo ⟨G,a5,a6,a7,_,rfl,hk,_,_⟩;refine Rm z<|R z (ext_ z z)<|R z (ext_ z z)<|Ra z<|Ra z<|Wn<|Wq<|Wq ?_
 obtain ⟨aI,O,V⟩:=bdS au;refine Wt (fun a w=>∃ (xp:Bool),xp=aI∧Sat 73 [(1,sl A6 N6 C6),(2,Str.v x3),(3,pt w0.z),(6,pt wj.z),(8,sl a5 a6 a7),(30,vB xp)] a∧Below wo.z wo w) ?_ ?_
 ·refine Wg<|Rm z<|R z (not_ z)<|Rm z ?_
  rcases bs (!aG) with hca | hca
  ·iterate 3 refine Nh z hca ?_
   exact R z (pT z hca z)<|Rm z<|Nh z z<|Nh z z<|Nh z z<|R z (pT z z z)<|Wl (fun _ q=>⟨true,som<|ifT O hca,q.k<|s6 z z z z z z,br wo⟩)
  refine Rh z hca (lN (vs:=[sl A0 N0 C0]) v_ s_ z z fid<|((a3.e L).e G).row 0 1 z) ?_;have a8:=((h3.ag B).e L).e G;obtain ⟨aJ,aK,W⟩:=bdS<|ifF O hca;refine Eg z z hca z (fc call116 z<|W_w1i (B:=B) aK (zt' hBw<|lt_ hn G.s)<|p1_0.g a8) ?_;rintro _ _ ⟨sq,rfl⟩;refine Rh z hca (not_ z)<|R z (pF z hca z)<|Rm z ?_
  rcases bs (!aJ) with hcb | hcb
  ·iterate 3 refine Nh z hcb ?_
   exact R z (pT z hcb z)<|Wl (fun _ q=>⟨true,som<|ifT W hcb,q.k<|s6 z z z z z z,sq⟩)
  exact Rh z hcb (mv z)<|Rh z hcb (lnR n_ z<|p2_0.g<|a8.e sq)<|Rh z hcb (a_1 z z)<|R z (pF z hcb z)<|Wl (fun _ q=>⟨decide<|400<(x2.length:Int),som<|ifF W hcb,q.k<|s6 z z z z z z,sq⟩)
 rintro aL _ ⟨xp,rfl,_,s1⟩;revert aL;refine Wo<|Wc z (fun hcr=>?_) (fun hcr=>?_)
 ·refine Ws<|R z (bP (parts:=[]) (cs:=[(Str.v (⟨[]⟩:Str)),vI 0,vI 0,vI 0]) d_i z z)<|E0 (fs (cur':=[(Str.v (⟨[]⟩:Str)),vI 0,vI 0,vI 0]) a_L z z ((hd.e G).e s1) z (lb z) (oA z) z) ?_
  rintro _ _ ⟨aM,aN⟩;refine Ra z<|Wn ?_
  obtain rfl:=som<|ifT V hcr;exact Wr<|a_5 hr (q_ c_T a_L z aM z) z ⟨bM (bup (bup (bup h3 L) G) s1) aN.one<|m1 h3.s,z,lb z,ii z,ii z,ii z⟩
 refine Wk<|Wq (Wd (X:=noX) 0 (.rd 0<|.rd 1<|.rd 2<|.ef 3<|.rd 4<|.ef 5<|.rd 6 .done) mo (by kernel_rfl) fun bf s5 _=>?_)
 have a9:=(((a3.e L).e G).e s1).e s5;refine dR z z (lN (vs:=[sl A0 N0 C0]) v_ s_ z z fid<|a9.row 0 1 z)<|dR z z (mv z)<|dR z z (lN (vs:=[sl A0 N0 C0]) v_ s_ z z fid<|a9.row 0 1 z) ?_
 have ht:=((((h3.ag B).e L).e G).e s1).e s5;have hu:=lt_ (lt_ (lt_ hn G.s) s1.s) s5.s;obtain ⟨aa,aO,av⟩:=bdS<|ifF V hcr;refine dE z z (fc call96 z<|j_n (B:=B) aO (zt' hBw hu)<|p1_0.g ht) (.inr fun _ _ h=>A_<|h.1) ?_;rintro _ H ⟨s4,rfl,aP⟩;refine dR z z (bP (parts:=[(0,.tmp 32),(1,.tmp 33),(2,.tmp 35)]) (cs:=[sl A0 N0 C0,sl A6 N6 C6,vI aa,vI 0]) o_1 z z)<|dE z z (fb z) (.inr fun _ _ h=>A_<|h.2.below) ?_
 rintro _ wc ⟨rfl,ab⟩;have h6:=ab.below;refine dR z z (asg z)<|pD<|Wo<|Wq<|Ws<|Rm z ?_
 have ad:=(((hk.e s1).e s5).e s4).e h6;refine R z (lnR a_j z<|or_ ad<|a_.lt hk)<|Rm z<|Wn ?_
 obtain ⟨_,aw,Y⟩:=bdS av;refine Wf (σ:=Int×Int) (ρ:=K_×Bool) (fun (ae:Nat) s a w=>un2 (fun I J=>Sat 73 [(2,Str.v x3),(6,pt wj.z),(10,pt H.z),(38,sl a5 a6 a7),(39,vI (aF.length:Int)),(40,vI ((ae:Nat):Int))] a∧Chg (· ∈ [H.z]) wc w∧inI I∧inI J∧Blk w H.z [sl A0 N0 C0,sl A6 N6 C6,vI I,vI J]) s) (fun s a w=>un2 (fun I J=>Sat 73 [(2,Str.v x3),(6,pt wj.z),(10,pt H.z)] a∧Chg (· ∈ [H.z]) wc w∧inI I∧inI J∧Blk w H.z [sl A0 N0 C0,sl A6 N6 C6,vI I,vI J]) s) (fun r ex a w=>ex = .ret∧L_ prog fn (Q19 w0 B r) a w) aw ?_ ?_ ?_ ?_ ?_
 ·exact fun _ q=>⟨q.k<|s6 z z z z z z,cr [H.z] wc,aP,ii z,(ab.blk:Blk wc H.z [sl A0 N0 C0,sl A6 N6 C6,vI aa,vI 0])⟩
 ·rintro ae ⟨I,J⟩ _ aQ _ a0 ⟨ax,sg,he,hh,hf⟩ ay;refine Wu ?_ ax;refine Ws<|R z (lss z z)<|Wn<|Wq<|Wc z (fun _=>?_) (fun hc=>(a_h a0 hc).elim)
  refine Wk<|Wq<|Wb<|Ws ?_
  obtain ⟨_,aR,az⟩:=bdS<|a_F ay;refine RX z (at_ (α:=Str) a_j z_9 z z z (or_ (ad.c sg<|ds<|mno (a_.lt hk)<|lt_ (lt_ s1.s s5.s) s4.s)<|a_.lt hk) aR) ?_;rintro _ ⟨_,_,_,rfl,aS,aT,_⟩;obtain ⟨rfl,aU⟩:=b_I aT;refine R z (l1 g_9 z fid<|aS.at0 z)<|Ra z<|Wn<|Ws<|Rm z<|Rm z ?_
  have hv:=lt_ hu s4.s;have af : ∀ k∈[H.z],¬ B k:=or0 (b_ lr)  (j_<|zt' hBw hv);have ah:=((ht.e s4).e h6).c sg<|c_ af
  obtain ⟨_,aV,aW,aX,a1⟩:=p_ az;refine E z (fc call117 z<|W_w2z (B:=B) aX hf (zt' hBw<|lt_ (lt_ hv h6.s) sg.s) (atp af) (p1_0.g ah) (p2_0.g ah) he hh aU) ?_;rintro _ aY ⟨ss,rfl,aZ,b0,b1⟩;refine R z (not_ z)<|Wn<|Wc z (fun hcw=>?_) (fun hcw=>?_)
  ·refine Ws<|R z (bP (parts:=[]) (cs:=[(Str.v (⟨[]⟩:Str)),vI 0,vI 0,vI 0]) d_i z z) ?_
   have ai:=mm1 hd.lt<|lt_ (lt_ (lt_ G.s s1.s) s5.s) s4.s
   refine E0 (fs (cur':=[(Str.v (⟨[]⟩:Str)),vI 0,vI 0,vI 0]) a_L z z (((((((hd.e G).e s1).e s5).e s4).e h6).c sg<|djs ai).c ss<|djs ai) z (lb z) (oA z) z) ?_;rintro _ _ ⟨b2,b3⟩;refine Ra z<|Wn ?_
   have aj:=m1 hv;exact Wr<|rtO<|qL (som<|ifT a1 hcw).symm<|a_5 hr (q_ c_T a_L z b2 z) z ⟨bM (bM (bM (bup (bup (bup (bup (bup (bup h3 L) G) s1) s5) s4) h6) sg aj) ss aj) b3.one<|m1 h3.s,z,lb z,ii z,ii z,ii z⟩
  refine Wk<|Wg<|R z (inc_ a0 (lt_ (a_.len hk) P_) z z)<|Rm z<|Wl ?_
  exact fun _ q=>⟨(aV,aW),(som<|ifF a1 hcw).symm,⟨q.k<|s6 z z z z z z,(cM (cM (cr [H.z] wc) sg (io sr):Chg (· ∈ [H.z]) wc aQ) ss (io sr):Chg (· ∈ [H.z]) wc aY),aZ,b0,b1⟩⟩
 ·rintro ⟨I,J⟩ _ b4 ⟨aA,b5,he,hh,hf⟩;refine Wu ?_ aA;refine Ws<|R z (lss z z)<|Wn<|Wq<|Wc z (fun hc=>(a_i hc).elim) (fun _=>?_)
  exact We<|fun a' ha'=>⟨rfl,⟨Sat.weaken ha'<|s3 z z z,(cM (cr [H.z] wc) b5 (io sr):Chg (· ∈ [H.z]) wc b4),he,hh,hf⟩⟩
 ·rintro ⟨I,J⟩ b6 _ rfl ⟨_,si,he,hh,hf⟩;have aB:=elL Y;revert b6;refine Wo<|Ws<|Rm z<|R z (T_ z)<|R z (fd c_U z)<|R z (l1 g_3 z fid<|hf.at z)<|Ra z<|Wn<|Wq<|Ws<|Rm z<|Rm z<|R z (T_ z)<|R z (fd e_h z)<|R z (l1 g_3 z fid<|hf.at z) ?_
  have hl:=lt_ hu s4.s;have ak : ∀ k∈[H.z],¬ B k:=or0 (b_ lr)  (j_<|zt' hBw hl);have al:=((ht.e s4).e h6).c si<|c_ ak
  obtain ⟨_,am,b7,a2⟩:=a_c<|a_F aB;refine E z (fc call118 z<|h_Z (B:=B) b7 hf (zt' hBw<|lt_ (lt_ hl h6.s) si.s) (atp ak) (p1_0.g al) (p2_0.g al) he hh he) ?_;rintro _ _ ⟨sm,rfl,b8,b9⟩;refine R z (not_ z)<|Wn<|Wc z (fun hcx=>?_) (fun hcx=>?_)
  ·refine Ws<|R z (bP (parts:=[]) (cs:=[(Str.v (⟨[]⟩:Str)),vI 0,vI 0,vI 0]) d_i z z) ?_
   have an:=mm1 hd.lt<|lt_ (lt_ (lt_ G.s s1.s) s5.s) s4.s
   refine E0 (fs (cur':=[(Str.v (⟨[]⟩:Str)),vI 0,vI 0,vI 0]) a_L z z (((((((hd.e G).e s1).e s5).e s4).e h6).c si<|djs an).c sm<|djs an) z (lb z) (oA z) z) ?_;rintro _ _ ⟨ba,bb⟩;refine Ra z<|Wn ?_
   obtain rfl:=som<|ifT a2 hcx;have ao:=m1 hl;exact Wr<|a_5 hr (q_ c_T a_L z ba z) z ⟨bM (bM (bM (bup (bup (bup (bup (bup (bup h3 L) G) s1) s5) s4) h6) si ao) sm ao) bb.one<|m1 h3.s,z,lb z,ii z,ii z,ii z⟩
  refine Wk<|Wq (Wd (X:=noX) 2048 (.rd 0<|.rd 1<|.rd 2<|.rd 3<|.rd 4<|.rd 5<|.rd 6<|.rd 7<|.rd 8<|.rd 9<|.rd 10<|.ef 11<|.rd 12 .done) mo (by kernel_rfl) fun bg sy _=>dR z z (mv z)<|dR z z (mv z)<|dR z z (T_ z)<|dR z z (fd e_h z) ?_)
  have ap:=b9.e sy;refine dR z z (l1 g_3 z fid<|ap.at z)<|dR z z (mv z)<|dR z z (mv z)<|dR z z (T_ z)<|dR z z (fd c_U z)<|dR z z (l1 g_3 z fid<|ap.at z)<|dR z z (bP (parts:=[(0,.tmp 62),(1,.tmp 66),(2,.tmp 67),(3,.tmp 71)]) (cs:=[Str.v x3,vI I,vI J,vI am]) d_i z z) ?_
  have aq:=mm1 hd.lt<|lt_ (lt_ (lt_ G.s s1.s) s5.s) s4.s
  refine dE0 z (fs (cur':=[Str.v x3,vI I,vI J,vI am]) a_L z z ((((((((hd.e G).e s1).e s5).e s4).e h6).c si<|djs aq).c sm<|djs aq).e sy) z (lb z) (oA z) z) (.inl z) ?_;rintro _ _ ⟨bc,be⟩;refine dR z z (asg z)<|pD<|Wo ?_
  obtain rfl:=som<|ifF a2 hcx;have ar:=m1 hl;exact Wr<|a_5 hr (q_ c_T a_L z bc z) z ⟨bM (bup (bM (bM (bup (bup (bup (bup (bup (bup h3 L) G) s1) s5) s4) h6) si ar) sm ar) sy) be.one<|m1 h3.s,z,p3_0,he,hh,b8⟩
 rintro _ _ _ _ rfl ⟨rfl,aC⟩;have aD:=elR Y;obtain rfl:=som aD;exact ⟨aC,z⟩
def Q30 (w0:World) (B:Zone) (r:(List UInt8)×Bool) (v:Value) (w':World):Prop:=Bw w0 w'∧un2 (fun J L=>∃ G H I S1,v = .tuple #[sl G H I,vB L]∧a_ w' S1 (sl G H I) J∧S1.Nodup∧(∀ k∈S1,w0.z≤k)) r
theorem W_w30 {x1:List UInt8} {x2:Int} {x3:Int} {x4:List UInt8} {res:(List UInt8)×Bool} (hm:h_0 x1 x2 x3 x4=some res) (hBw:B≤w0.z) (p1_0:repS w0 B (sl A0 N0 C0) x1) (p2_0:inI x2) (p3_0:inI x3) (p4_0:repS w0 B (sl AF NF CF) x4):m_ prog 60 [sl A0 N0 C0,vI x2,vI x3,sl AF NF CF] w0 (Q30 w0 B res):=by
 unfold h_0 at hm
 refine goF func60 z z (lb z) fun fn hr=>Ws<|Ra z<|Ra z<|Wn<|Wq<|Wq ?_
 obtain ⟨um,huc,hmd⟩:=bdS hm;refine Wt (fun a w=>∃ (x5:Bool),x5=um∧Sat 54 [(0,sl A0 N0 C0),(1,vI x2),(2,vI x3),(3,sl AF NF CF),(30,vB x5)] a∧Below w0.z w0 w) ?_ ?_
 ·refine Wg<|Rm z<|R z (lss z z)<|Rm z ?_
  rcases bs (decide<|x2<0) with I | I
  ·exact Nh z I<|Nh z I<|R z (pT z I z)<|Rm z<|Nh z z<|Nh z z<|Nh z z<|Nh z z<|R z (pT z z z)<|Rm z<|Nh z z<|Nh z z<|Nh z z<|Nh z z<|Nh z z<|Nh z z<|R z (pT z z z)<|Wl (fun _ q=>⟨true,som<|ifT huc I,q.k<|s5 z z z z z,br w0⟩)
  have hme:=ifF huc I;refine Rh z I (mv z)<|Rh z I (lss z z)<|R z (pF z I z)<|Rm z ?_
  rcases bs (decide<|x3<0) with H | H
  ·iterate 4 refine Nh z H ?_
   exact R z (pT z H z)<|Rm z<|Nh z z<|Nh z z<|Nh z z<|Nh z z<|Nh z z<|Nh z z<|R z (pT z z z)<|Wl (fun _ q=>⟨true,som<|ifT hme H,q.k<|s5 z z z z z,br w0⟩)
  have hmf:=ifF hme H;refine Rh z H (mv z)<|Rh z H (mv z)<|Rh z H (lnR n_ z p1_0)<|Rh z H (a_1 z z)<|R z (pF z H z)<|Rm z ?_
  rcases bs (decide<|(x1.length:Int)<x2) with G | G
  ·iterate 6 refine Nh z G ?_
   exact R z (pT z G z)<|Wl (fun _ q=>⟨true,som<|ifT hmf G,q.k<|s5 z z z z z,br w0⟩)
  exact Rh z G (mv z)<|Rh z G (mv z)<|Rh z G (lnR n_ z p1_0)<|Rh z G (mv z)<|Rh z G (sb_ z z)<|Rh z G (a_1 z z)<|R z (pF z G z)<|Wl (fun _ q=>⟨decide<|(D_ (x1.length:Int) x2)<x3,som<|ifF hmf G,q.k<|s5 z z z z z,br w0⟩)
 rintro aq wr ⟨x5,rfl,_,s3⟩;revert aq;refine Wo<|Wc z (fun J=>?_) (fun J=>?_)
 ·refine Ws<|E z (f0 (α:=UInt8) R_) ?_
  rintro _ _ ⟨_,_,_,rfl,s6,ht⟩;refine Rm z ?_;obtain ⟨_,es,hmu⟩:=bdS<|ifT hmd J;refine E z (fN (α:=UInt8) R_ es z z ht a_o<|p1_0.g<|(s3.ag B).e s6) ?_;rintro _ _ ⟨Sv,aw,nx,cy,rfl,sz,a0,a1,a2⟩;refine Ra z<|Ra z<|Wn ?_
  obtain rfl:=som hmu;have hg:=m1 s3.s;exact Wr<|a_5 hr z z ⟨bM (bup s3 s6) sz hg,aw,nx,cy,Sv,z,a0,a1,a_8 a2 hg<|lt_ s3.s s6.s⟩
 refine Wk<|Ws<|E z (f0 (α:=UInt8) R_) ?_
 rintro _ _ ⟨_,_,_,rfl,s7,a3⟩;refine Rm z<|Rm z<|Rm z ?_
 obtain ⟨_,a4,L⟩:=bdS<|ifF hmd J;have hh:=(s3.ag B).e s7;refine RX z (k_S n_ z_5 z z (p1_0.g hh) z z z a4) ?_;rintro _ ⟨_,_,_,rfl,a5⟩;obtain ⟨_,a6,O⟩:=bdS L;refine E z (fN (α:=UInt8) R_ a6 z z a3 a_o a5) ?_;rintro _ _ ⟨a7,_,_,_,rfl,s8,a8,a9,hi⟩;refine Ra z<|Wn<|Ws<|Rm z<|Rm z ?_
 obtain ⟨_,aa,V⟩:=bdS O;have hj : ∀ k∈[wr.z],¬ B k:=or0 (b_ lr)  (j_<|zt' hBw s3.s);have hk:=hh.c s8<|c_ hj
 refine E z (fN (α:=UInt8) R_ aa z z a8 a9<|p4_0.g hk) ?_;rintro _ _ ⟨_,_,_,_,rfl,s9,ab,ad,ae⟩;refine Ra z<|Wn<|Ws<|Rm z<|Rm z<|Rm z<|Rm z<|R z (add_ z z)<|Rm z ?_
 have ha:=lt_ s3.s s7.s;have hb:=p1_0.g<|hk.c s9<|c_ (or1 hi hj (j_<|zt' hBw ha) : ∀ k∈a7,¬ B k)
 refine R z (lnR n_ z hb)<|Rm z<|R z (lnR n_ z hb) ?_
 obtain ⟨_,af,W⟩:=bdS V;refine RX z (k_S n_ z_5 z z hb z z z af) ?_;rintro _ ⟨_,_,_,rfl,ah⟩;obtain ⟨_,ai,Y⟩:=bdS W;refine E z (fN (α:=UInt8) R_ ai z z ab ad ah) ?_;rintro _ _ ⟨aj,ak,al,am,rfl,an,ao,ap,ar⟩;refine Ra z<|Ra z<|Wn ?_
 obtain rfl:=som Y;have hl:=m1 s3.s;have hn:=a_8 hi hl ha;have ho:=lt_ ha s8.s;have hp:=a_8 ae hn ho;exact Wr<|a_5 hr z z ⟨bM (bM (bM (bup s3 s7) s8 hl) s9 hn) an hp,ak,al,am,aj,z,ao,ap,a_8 ar hp<|lt_ ho s9.s⟩
def Q31 (w0:World) (B:Zone) (r:(Option<|Int×Int)) (v:Value) (w':World):Prop:=Bw w0 w'∧(fun G=>∃ (v1:Value) (S1:List Nat),v1=v∧a_A 226 w' S1 v1 G∧(∀ k∈S1,w0.z≤k)) r
theorem d_P {x1:Int} {x2:Int} {res:(Option<|Int×Int)} (hm:b_M x1 x2=some res) (hBw:B≤w0.z) (p1_0:inI x1) (p2_0:inI x2):m_ prog 233 [vI x1,vI x2] w0 (Q31 w0 B res):=by
 unfold b_M at hm
 refine goF func233 z z (lb z) fun fn hr=>Ws<|Ra z<|Wn<|Ws<|Rm z<|Rm z<|R z (bP (parts:=[(0,.tmp 5),(1,.tmp 6)]) (cs:=[vI x1,vI x2]) o_3 z z)<|E z (fb z) ?_
 rintro _ H ⟨rfl,G⟩;refine R z (l_e d_226 (fun _ h=>by cases h) z)<|Ra z<|Wn ?_
 obtain rfl:=som hm;exact Wr<|h_ hr z ⟨G.below,.iface 226<|pt w0.z,[w0.z],z,n_u (G.blk:Blk H w0.z [vI x1,vI x2]) p1_0 p2_0 z,b_ lr⟩
def Q32 (w0:World) (B:Zone) (r:(List UInt8)×(Option<|Int×Int)) (v:Value) (w':World):Prop:=Bw w0 w'∧un2 (fun J L=>∃ (G:Option Addr) (H I:Nat) (v2:Value) (S2:List Nat),v = .tuple #[sl G H I,v2]∧repS w' w'.z (sl G H I) J∧a_A 226 w' S2 v2 L∧(∀ k∈S2,w0.z≤k)) r
theorem i_0 {x1:a_t} {b1 o1:Nat} {x2:Int} {x3:Int} {res:(List UInt8)×(Option<|Int×Int)} (hm:e_7 x1 x2 x3=some res) (hBw:B≤w0.z) (p1_0:repS w0 B (sl A0 N0 C0) x1.d.rules) (p1_1:repS w0 B (sl A5 N5 C5) x1.b) (hC1:Z_ w0 b1 o1 [sl A0 N0 C0,sl A5 N5 C5]) (hC1b:B b1) (p2_0:inI x2) (p3_0:inI x3):m_ prog 262 [(.pointer<|some ⟨b1,o1,none⟩),vI x2,vI x3] w0 (Q32 w0 B res):=by
 unfold e_7 at hm
 refine goF func262 z z (lb z) fun fn hr=>Ws<|Ra z<|Ra z<|Wn<|Wq<|Ws<|Rm z<|Rm z<|R z (T_ z)<|R z (fd e_X z)<|R z (l1 X_ z fid<|hC1.at (j:=1) z)<|R z (lnR n_ z p1_1)<|Rm z<|R z (sb_ z z)<|R z (a_1 z z)<|Wn<|Wc z (fun G=>?_) (fun G=>?_)
 ·refine Ws<|Rm z ?_
  obtain ⟨_,J,H⟩:=bdS<|ifT hm G;refine E z (fc call233 z<|d_P (B:=B) J hBw p2_0<|ii z) ?_;rintro _ _ ⟨s1,v4,L,rfl,h6,O⟩;refine Ra z<|Ra z<|Wn ?_
  obtain rfl:=som H;exact Wr<|a_5 hr z z ⟨s1,none,0,0,v4,L,z,repS.mono (or_ onL an_)<|a_V s1.s,h6,O⟩
 refine Wk<|Ws<|Rm z<|R z (T_ z)<|R z (fd e_X z)<|R z (l1 X_ z fid<|hC1.at (j:=1) z)<|Rm z<|Rm z<|Rm z<|R z (add_ z z) ?_
 obtain ⟨_,V,I⟩:=bdS<|ifF hm G;refine RX z (rX n_ z_5 z z p1_1 z z V) ?_;rintro _ ⟨aa,nb,cc,rfl,hd⟩;refine Ra z<|Ra z<|Wn ?_
 obtain rfl:=som I;exact Wr<|a_5 hr z z ⟨br w0,aa,nb,cc,.nilIface,([]:List Nat),z,repS.mono hd hBw,d_L,an_⟩
def Q33 (w0:World) (B:Zone) (r:Int×Int×(Option<|Int×Int)) (v:Value) (w':World):Prop:=Bw w0 w'∧un3 (fun G H I=>∃ (v1:Value) (S1:List Nat),v = .tuple #[vI G,vI H,v1]∧inI G∧inI H∧a_A 226 w' S1 v1 I∧(∀ k∈S1,w0.z≤k)) r
theorem i_1 {x1:a_t} {b1 o1:Nat} {x2:Int} {x3:Int} {res:Int×Int×(Option<|Int×Int)} (hm:e_8 x1 x2 x3=some res) (hBw:B≤w0.z) (p1_0:repS w0 B (sl A0 N0 C0) x1.d.rules) (p1_1:repS w0 B (sl A5 N5 C5) x1.b) (hC1:Z_ w0 b1 o1 [sl A0 N0 C0,sl A5 N5 C5]) (hC1b:B b1) (p2_0:inI x2) (p3_0:inI x3):m_ prog 224 [(.pointer<|some ⟨b1,o1,none⟩),vI x2,vI x3] w0 (Q33 w0 B res):=by
 unfold e_8 at hm
 refine goF func224 z z (lb z) fun fn hr=>Ws<|Ra z<|Ra z<|Ra z<|Wn<|Ws<|Rm z<|R z (T_ z)<|R z (fd k_W z)<|R z (fd a_4 z)<|R z (l1 a_6 z fid<|hC1.at (j:=0) z)<|Rm z ?_
 obtain ⟨x5,eq,hmr⟩:=bdS hm;refine RX z (at_ (α:=e_) a_7 o_ z z z p1_0 eq) ?_;rintro _ ⟨_,_,_,rfl,ht,hu,_⟩;obtain ⟨I,J,L,O,na,cb,ac,nd,ce,af,ng,ch,rfl,_,_,hv,_,_,_,_⟩:=a_P hu;refine R z (lN (vs:=vR x5 I J L O na cb ac nd ce af ng ch) I_ o_ z z fid ht)<|E z (fa b_E) ?_
 rintro _ ws ⟨rfl,hi⟩;have G:=hi.below;refine E0 (fs (cur':=vR x5 I J L O na cb ac nd ce af ng ch) o_ z z (hi.blk:Blk ws w0.z [(Str.v (⟨[]⟩:Str)),vI 0,vI 0,vB false,sl none 0 0,sl none 0 0,sl none 0 0,sl none 0 0]) z (lb z) (oA z) z) ?_;rintro _ _ ⟨hj,sx⟩;have h1:=sx.one;refine Wn<|Ws<|Rm z<|Rm z<|R z (fd a_K z)<|R z (l1 g_3 z fid<|hj.at z) ?_
 have hk : ∀ k∈[w0.z],¬ B k:=or0 (b_ lr)  (j_ hBw);have hl:=(G.ag B).c h1<|c_ hk
 have hn:=lt_ G.s h1.s;obtain ⟨_,_,ey,hmm⟩:=a_c hmr;refine E z (fc call262 z<|i_0 (B:=B) ey (zt' hBw hn) (p1_0.g hl) (p1_1.g hl) ((hC1.e G).c h1<|(c_ hk) _ hC1b) hC1b p3_0 hv) ?_;rintro _ wz ⟨s3,_,_,_,W,Y,rfl,a0,ho,a1⟩;refine Rm z<|R z (ext_ z z)<|R z (ext_ z z)<|Ra z<|Ra z<|Wn<|Wq<|Ws<|Rm z<|R z (d_h d_k z z ho)<|Wn<|Wc z (fun H=>?_) (fun H=>?_)
 ·refine Ws<|Rm z<|Rm z<|Ra z<|Ra z<|Ra z<|Wn ?_
  obtain rfl:=som<|ifT hmm H;exact Wr<|y_ hr z z z ⟨bup (bM G h1<|b_ lr) s3,W,Y,z,ii z,p3_0,ho,l_ a1 hn⟩
 refine Wk<|Wq (Wd (X:=noX) 0 (.rd 0<|.rd 1<|.rd 2<|.rd 4<|.rd 5<|.rd 6<|.rd 7<|.ef 3<|.rd 8<|.rd 9<|.rd 10 .done) mo (by kernel_rfl) fun a5 s2 _=>dR z z (mv z)<|dR z z (fd c_D z) ?_)
 have hp:=(hj.e s3).e s2;refine dR z z (l1 g_4 z fid<|hp.at z)<|dR z z (mv z)<|dR z z (fd a_K z)<|dR z z (l1 g_3 z fid<|hp.at z)<|dR z z (add_ z z) ?_
 obtain ⟨_,a2,V⟩:=bdS<|ifF hmm H;refine dE z z (fc call76 z<|j_o (B:=wz.z) a2 (a_V s2.s)<|a0.e s2) (.inr fun _ _ h=>A_<|h.1) ?_;rintro _ _ ⟨a3,rfl,a4⟩
 iterate 3 refine dR z z (asg z) ?_
 refine pD<|Wo ?_
 obtain rfl:=som V;exact Wr<|y_ hr z z z ⟨bup (bup (bup (bM G h1<|b_ lr) s3) s2) a3,.nilIface,([]:List Nat),z,a4,iA _ _,d_L,an_⟩
def Q34 (w0:World) (B:Zone) (r:Int×(Option<|Int×Int)) (v:Value) (w':World):Prop:=Bw w0 w'∧un2 (fun G H=>∃ (v1:Value) (S1:List Nat),v = .tuple #[vI G,v1]∧inI G∧a_A 226 w' S1 v1 H∧(∀ k∈S1,w0.z≤k)) r
theorem W_w31 {x1:a_t} {b1 o1:Nat} {x2:e_} {x3:Int} {res:Int×(Option<|Int×Int)} (hm:h_1 x1 x2 x3=some res) (hBw:B≤w0.z) (p1_0:repS w0 B (sl A0 N0 C0) x1.d.rules) (p1_1:repS w0 B (sl A5 N5 C5) x1.b) (hC1:Z_ w0 b1 o1 [sl A0 N0 C0,sl A5 N5 C5]) (hC1b:B b1) (p2_0:x2.name.b.length≤LEN) (p2_1:inI x2.kind) (p2_2:inI x2.size) (p2_4:repS w0 B (sl A2 N2 C2) x2.bytes) (p2_5:repS w0 B (sl A3 N3 C3) x2.names) (p2_6:repS w0 B (sl A1 N1 C1) x2.tags) (p2_7:repS w0 B (sl A4 N4 C4) x2.kids) (p3_0:inI x3):m_ prog 225 [(.pointer<|some ⟨b1,o1,none⟩),.agg #[Str.v x2.name,vI x2.kind,vI x2.size,vB x2.little,sl A2 N2 C2,sl A3 N3 C3,sl A1 N1 C1,sl A4 N4 C4],vI x3] w0 (Q34 w0 B res):=by
 unfold h_1 at hm
 refine goF func225 z z (lb z) fun fn hr=>Ws<|E z (fb z) ?_
 rintro _ H ⟨rfl,h6⟩;have G:=h6.below;have O:Blk H w0.z (vR x2 A2 N2 C2 A3 N3 C3 A1 N1 C1 A4 N4 C4):=h6.blk;refine Ra z<|Ra z<|Wn<|Wq<|Ws<|R z (fd a_W z)<|R z (l1 X_ z fid<|O.at z)<|R z (lnR n_ z<|p2_4.e G)<|Rm z<|Wn ?_
 obtain ⟨_,hui,L⟩:=bdS hm;refine Wf (σ:=Unit) (ρ:=Int×(Option<|Int×Int)) (fun (k9:Nat) (_:Unit) a w=>Sat 52 [(0,.pointer<|some ⟨b1,o1,none⟩),(2,vI x3),(4,pt w0.z),(11,sl A2 N2 C2),(12,vI (x2.bytes.length:Int)),(13,vI ((k9:Nat):Int))] a∧Below H.z H w) (fun (_:Unit) a w=>Sat 52 [(2,vI x3),(4,pt w0.z)] a∧Below H.z H w) (fun r ex a w=>ex = .ret∧L_ prog fn (Q34 w0 B r) a w) hui ?_ ?_ ?_ ?_ ?_
 ·exact fun _ q=>⟨q.k<|s6 z z z z z z,br H⟩
 ·rintro k9 _ _ _ _ hka ⟨hSj,s1⟩ hmk;refine Wu ?_ hSj;refine Ws<|R z (lss z z)<|Wn<|Wq<|Wc z (fun _=>?_) (fun hc=>(a_h hka hc).elim)
  refine Wk<|Wq<|Wb<|Ws<|Rm z ?_
  obtain ⟨_,el,hmb⟩:=bdS hmk;have hd:=(G.ag B).e s1;refine RX z (at_ (α:=UInt8) n_ z_5 z z z (p2_4.g hd) el) ?_;rintro _ ⟨_,_,_,rfl,hn,ho,_⟩;obtain rfl:=u8 ho;refine R z (l1 g_5 z fid<|hn.at0 z)<|Ra z<|Ra z<|Wn<|Wq<|Ws<|Rm z<|Rm z<|R z (add_ z z)<|Rm z<|R z (T_ z)<|R z (fd e_X z) ?_
  have he:=(hC1.e G).e s1;refine R z (l1 X_ z fid<|he.at (j:=1) z) ?_;have hf:=p1_1.g hd;refine R z (lnR n_ z hf)<|R z (b_e z z)<|Wn<|Wc z (fun I=>?_) (fun I=>?_)
  ·refine Ws<|Rm z<|Rm z ?_
   have hg:=lt_ G.s s1.s;obtain ⟨_,em,hmp⟩:=bdS<|ifT hmb I;refine E z (fc call233 z<|d_P (B:=B) em (zt' hBw hg) p3_0<|ii z) ?_;rintro _ _ ⟨sq,vr,Ss,rfl,ht,hu⟩;exact Ra z<|Ra z<|Wn<|Wr<|rtO<|qL (som hmp).symm<|a_5 hr z z ⟨bup (bup G s1) sq,vr,Ss,z,p3_0,ht,l_ hu hg⟩
  refine Wk<|Ws<|Rm z<|R z (T_ z)<|R z (fd e_X z)<|R z (l1 X_ z fid<|he.at (j:=1) z)<|Rm z<|Rm z<|R z (add_ z z) ?_
  obtain ⟨_,ev,hmc⟩:=bdS<|ifF hmb I;refine RX z (at_ (α:=UInt8) n_ z_5 z z z hf ev) ?_;rintro _ ⟨_,_,_,rfl,hw,hx,_⟩;obtain rfl:=u8 hx;refine R z (l1 g_5 z fid<|hw.at0 z)<|Rm z<|R z (nq z z)<|Wn<|Wc z (fun J=>?_) (fun J=>?_)
  ·refine Ws<|Rm z<|Rm z<|Rm z<|R z (add_ z z) ?_
   have hh:=lt_ G.s s1.s;obtain ⟨_,ey,hmz⟩:=bdS<|ifT hmc J;refine E z (fc call233 z<|d_P (B:=B) ey (zt' hBw hh) (iA _ _)<|ii z) ?_;rintro _ _ ⟨a1,a2,a3,rfl,a4,a5⟩;exact Ra z<|Ra z<|Wn<|Wr<|rtO<|qL (som hmz).symm<|a_5 hr z z ⟨bup (bup G s1) a1,a2,a3,z,p3_0,a4,l_ a5 hh⟩
  exact Wk<|Wg<|R z (inc_ hka (lt_ (repS.len p2_4) P_) z z)<|Rm z<|Wl (fun _ q=>⟨(),(som<|ifF hmc J).symm,⟨q.k<|s6 z z z z z z,s1⟩⟩)
 ·rintro _ _ _ ⟨V,a6⟩;refine Wu ?_ V;refine Ws<|R z (lss z z)<|Wn<|Wq<|Wc z (fun hc=>(a_i hc).elim) (fun _=>?_)
  exact We<|fun a' ha'=>⟨rfl,⟨Sat.weaken ha'<|s2 z z,a6⟩⟩
 ·rintro _ a7 _ rfl ⟨_,s5⟩;have W:=elL L;revert a7;refine Wo<|Ws<|Rm z<|R z (fd a_W z)<|R z (l1 X_ z fid<|(O.e s5).at z)<|R z (lnR n_ z<|p2_4.g<|(G.ag B).e s5)<|R z (add_ z z)<|Ra z<|Ra z<|Wn ?_
  obtain rfl:=som W;exact Wr<|a_5 hr z z ⟨bup G s5,.nilIface,([]:List Nat),z,iA _ _,d_L,an_⟩
 rintro _ _ _ _ rfl ⟨rfl,Y⟩;have a0:=elR L;obtain rfl:=som a0;exact ⟨Y,z⟩
def Q35 (w0:World) (B:Zone) (r:Val×Int×(Option<|Int×Int)) (v:Value) (w':World):Prop:=Bw w0 w'∧un3 (fun G H W=>∃ (I:Option Addr) (J L:Nat) (S1:List Nat) (a2:Option Addr) (O V:Nat) (S2:List Nat) (v3:Value) (S3:List Nat),v = .tuple #[(.agg #[vI G.number,sl I J L,sl a2 O V]),vI H,v3]∧inI G.number∧a_ w' S1 (sl I J L) G.bytes∧a_ w' S2 (sl a2 O V) G.items∧inI H∧a_A 226 w' S3 v3 W∧(∀ k∈S3,w0.z≤k)∧(S1++S2).Nodup∧(∀ k∈(S1++S2),w0.z≤k)) r
theorem W_w1s {x1:a_t} {b1 o1:Nat} {x2:Int} {x3:Int} {res:Val×Int×(Option<|Int×Int)} (hm:f_x x1 x2 x3=some res) (hBw:B≤w0.z) (p1_0:repS w0 B (sl A0 N0 C0) x1.d.rules) (p1_1:repS w0 B (sl A5 N5 C5) x1.b) (hC1:Z_ w0 b1 o1 [sl A0 N0 C0,sl A5 N5 C5]) (hC1b:B b1) (p2_0:inI x2) (p3_0:inI x3):m_ prog 226 [(.pointer<|some ⟨b1,o1,none⟩),vI x2,vI x3] w0 (Q35 w0 B res):=by
 unfold f_x at hm
 refine goF func226 z z (lb z) fun fn hr=>Ws<|E z (fa a_d) ?_
 rintro _ wk ⟨rfl,V⟩;have G:=V.below;have h2:Blk wk w0.z [vI 0,sl none 0 0,sl none 0 0]:=V.blk;refine Ra z<|Ra z<|Wn<|Ws<|Rm z<|Rm z<|Rm z ?_
 obtain ⟨_,_,el,O⟩:=a_c hm;refine E z (fc call262 z<|i_0 (B:=B) el (zt' hBw G.s) (p1_0.e G) (p1_1.e G) (hC1.e G) hC1b p2_0 p3_0) ?_;rintro _ _ ⟨s1,_,_,_,vm,Sn,rfl,ho,ha,hb⟩;refine Rm z<|R z (ext_ z z)<|R z (ext_ z z)<|Ra z<|Ra z<|Wn<|Wq<|Ws<|Rm z<|R z (d_h d_k z z ha)<|Wn<|Wc z (fun H=>?_) (fun H=>?_)
 ·refine Ws<|R z (bP (parts:=[]) (cs:=[vI 0,sl none 0 0,sl none 0 0]) a_3 z z)<|Rm z<|Rm z<|E0 (fs (cur':=[vI 0,sl none 0 0,sl none 0 0]) i_ z z (h2.e s1) z (lb z) (oA z) z) ?_
  rintro _ _ ⟨hp,sq⟩;have hc:=sq.one;refine Ra z<|Ra z<|Wn ?_
  obtain rfl:=som<|ifT O H;exact Wr<|y_ hr (q_ x_ i_ z hp z) z z ⟨bM (bup G s1) hc<|b_ lr,none,0,0,[],none,0,0,[],vm,Sn,z,ii z,onL,onL,p2_0,ha.c hc<|k_ hb h2.lt lr,l_ hb G.s,nd0,al0⟩
 refine Wk<|Ws<|E z (f0 (α:=UInt8) R_) ?_
 rintro _ _ ⟨_,_,_,rfl,s3,ht⟩;refine Rm z ?_;obtain ⟨_,er,hms⟩:=bdS<|ifF O H;refine E z (fN (α:=UInt8) R_ er z z ht a_o<|ho.e s3) ?_;rintro _ _ ⟨Sd,I,J,L,rfl,se,hu,hv,hf⟩;refine R z (bP (parts:=[(1,.tmp 25)]) (cs:=[vI 0,sl I J L,sl none 0 0]) a_3 z z)<|Rm z<|Rm z<|R z (add_ z z) ?_
 have hg:=mm1 h2.lt s1.s;refine E0 (fs (cur':=[vI 0,sl I J L,sl none 0 0]) i_ z z (((h2.e s1).e s3).c se<|djs hg) z (lb z) (oA z) z) ?_;rintro _ _ ⟨hw,sx⟩;have hh:=sx.one;refine Ra z<|Ra z<|Wn ?_
 obtain rfl:=som hms;have hi:=lt_ G.s s1.s;have hj:=m1 hi;exact Wr<|y_ hr (q_ x_ i_ z hw z) z z ⟨bM (bM (bup (bup G s1) s3) se hj) hh<|b_ lr,I,J,L,Sd,none,0,0,[],.nilIface,([]:List Nat),z,ii z,hu.c hh (or1 hf hg (W_ (b_ h2.lt)<|lt_ s1.s s3.s) : ∀ k∈Sd,k∉[w0.z]),onL,iA _ _,d_L,an_,na_ hv J_<|nmN _,aa_ (a_8 hf hj<|lt_ hi s3.s) an_⟩
def Q36 (w0:World) (B:Zone) (S2_1:List Nat) (S2_2:List Nat) (r:Val×Int×(Option<|Int×Int)) (v:Value) (w':World):Prop:=Chg (· ∈ (S2_1++S2_2)) w0 w'∧un3 (fun G H W=>∃ (I:Option Addr) (J L:Nat) (S1:List Nat) (a2:Option Addr) (O V:Nat) (S2:List Nat) (v3:Value) (S3:List Nat),v = .tuple #[(.agg #[vI G.number,sl I J L,sl a2 O V]),vI H,v3]∧inI G.number∧a_ w' S1 (sl I J L) G.bytes∧a_ w' S2 (sl a2 O V) G.items∧inI H∧a_A 226 w' S3 v3 W∧(∀ k∈S3,w0.z≤k)∧(S1++S2).Nodup∧(∀ k∈(S1++S2),k∈(S2_1++S2_2)∨w0.z≤k)) r
structure j_u (f:a_t→Int→Int→Option (Val×Int×(Option<|Int×Int))):Prop where
  run : ∀ {A0 A5:Option Addr} {N0 C0 N5 C5 b1 o1:Nat} {B:Zone} {x1:a_t} {x2:Int} {x3:Int} {res:Val×Int×(Option<|Int×Int)} {w0:World} (hm:f x1 x2 x3=some res) (hBw:B≤w0.z) (p1_0:repS w0 B (sl A0 N0 C0) x1.d.rules) (p1_1:repS w0 B (sl A5 N5 C5) x1.b) (hC1:Z_ w0 b1 o1 [sl A0 N0 C0,sl A5 N5 C5]) (hC1b:B b1) (p2_0:inI x2) (p3_0:inI x3),m_ prog 191 [(.pointer<|some ⟨b1,o1,none⟩),vI x2,vI x3] w0<|Q35 w0 B res
structure j_v (f:a_t→e_→Int→Option (Val×Int×(Option<|Int×Int))):Prop where
  run : ∀ {A0 A5 A2 A3 A1 A4:Option Addr} {N0 C0 N5 C5 b1 o1 N2 C2 N3 C3 N1 C1 N4 C4:Nat} {B:Zone} {x1:a_t} {x2:e_} {x3:Int} {res:Val×Int×(Option<|Int×Int)} {w0:World} (hm:f x1 x2 x3=some res) (hBw:B≤w0.z) (p1_0:repS w0 B (sl A0 N0 C0) x1.d.rules) (p1_1:repS w0 B (sl A5 N5 C5) x1.b) (hC1:Z_ w0 b1 o1 [sl A0 N0 C0,sl A5 N5 C5]) (hC1b:B b1) (p2_0:x2.name.b.length≤LEN) (p2_1:inI x2.kind) (p2_2:inI x2.size) (p2_4:repS w0 B (sl A2 N2 C2) x2.bytes) (p2_5:repS w0 B (sl A3 N3 C3) x2.names) (p2_6:repS w0 B (sl A1 N1 C1) x2.tags) (p2_7:repS w0 B (sl A4 N4 C4) x2.kids) (p3_0:inI x3),m_ prog 227 [(.pointer<|some ⟨b1,o1,none⟩),.agg #[Str.v x2.name,vI x2.kind,vI x2.size,vB x2.little,sl A2 N2 C2,sl A3 N3 C3,sl A1 N1 C1,sl A4 N4 C4],vI x3] w0<|Q35 w0 B res
structure j_w (f:a_t→Val→(List Int)→Int→Option (Val×Int×(Option<|Int×Int))):Prop where
  run : ∀ {A0 A5 AE AH A7:Option Addr} {N0 C0 N5 C5 b1 o1 NE CE NH CH N7 C7:Nat} {S2_1 S2_2:List Nat} {B:Zone} {x1:a_t} {x2:Val} {x3:List Int} {x4:Int} {res:Val×Int×(Option<|Int×Int)} {w0:World} (hm:f x1 x2 x3 x4=some res) (hBw:B≤w0.z) (p1_0:repS w0 B (sl A0 N0 C0) x1.d.rules) (p1_1:repS w0 B (sl A5 N5 C5) x1.b) (hC1:Z_ w0 b1 o1 [sl A0 N0 C0,sl A5 N5 C5]) (hC1b:B b1) (p2_0:inI x2.number) (p2_1:a_ w0 S2_1 (sl AE NE CE) x2.bytes) (p2_1n:S2_1.Nodup) (p2_1g : ∀ k∈S2_1,¬ B k) (p2_2:a_ w0 S2_2 (sl AH NH CH) x2.items) (p2_2n:S2_2.Nodup) (p2_2g : ∀ k∈S2_2,¬ B k) (p2_2d1 : ∀ k∈S2_2,k∉S2_1) (p3_0:repS w0 B (sl A7 N7 C7) x3) (p4_0:inI x4),m_ prog 228 [(.pointer<|some ⟨b1,o1,none⟩),.agg #[vI x2.number,sl AE NE CE,sl AH NH CH],sl A7 N7 C7,vI x4] w0<|Q36 w0 B S2_1 S2_2 res
structure j_x (f:a_t→e_→Int→Option (Val×Int×(Option<|Int×Int))):Prop where
  run : ∀ {A0 A5 A2 A3 A1 A4:Option Addr} {N0 C0 N5 C5 b1 o1 N2 C2 N3 C3 N1 C1 N4 C4:Nat} {B:Zone} {x1:a_t} {x2:e_} {x3:Int} {res:Val×Int×(Option<|Int×Int)} {w0:World} (hm:f x1 x2 x3=some res) (hBw:B≤w0.z) (p1_0:repS w0 B (sl A0 N0 C0) x1.d.rules) (p1_1:repS w0 B (sl A5 N5 C5) x1.b) (hC1:Z_ w0 b1 o1 [sl A0 N0 C0,sl A5 N5 C5]) (hC1b:B b1) (p2_0:x2.name.b.length≤LEN) (p2_1:inI x2.kind) (p2_2:inI x2.size) (p2_4:repS w0 B (sl A2 N2 C2) x2.bytes) (p2_5:repS w0 B (sl A3 N3 C3) x2.names) (p2_6:repS w0 B (sl A1 N1 C1) x2.tags) (p2_7:repS w0 B (sl A4 N4 C4) x2.kids) (p3_0:inI x3),m_ prog 229 [(.pointer<|some ⟨b1,o1,none⟩),.agg #[Str.v x2.name,vI x2.kind,vI x2.size,vB x2.little,sl A2 N2 C2,sl A3 N3 C3,sl A1 N1 C1,sl A4 N4 C4],vI x3] w0<|Q35 w0 B res
structure j_y (f:a_t→e_→Int→Option (Val×Int×(Option<|Int×Int))):Prop where
  run : ∀ {A0 A5 A2 A3 A1 A4:Option Addr} {N0 C0 N5 C5 b1 o1 N2 C2 N3 C3 N1 C1 N4 C4:Nat} {B:Zone} {x1:a_t} {x2:e_} {x3:Int} {res:Val×Int×(Option<|Int×Int)} {w0:World} (hm:f x1 x2 x3=some res) (hBw:B≤w0.z) (p1_0:repS w0 B (sl A0 N0 C0) x1.d.rules) (p1_1:repS w0 B (sl A5 N5 C5) x1.b) (hC1:Z_ w0 b1 o1 [sl A0 N0 C0,sl A5 N5 C5]) (hC1b:B b1) (p2_0:x2.name.b.length≤LEN) (p2_1:inI x2.kind) (p2_2:inI x2.size) (p2_4:repS w0 B (sl A2 N2 C2) x2.bytes) (p2_5:repS w0 B (sl A3 N3 C3) x2.names) (p2_6:repS w0 B (sl A1 N1 C1) x2.tags) (p2_7:repS w0 B (sl A4 N4 C4) x2.kids) (p3_0:inI x3),m_ prog 230 [(.pointer<|some ⟨b1,o1,none⟩),.agg #[Str.v x2.name,vI x2.kind,vI x2.size,vB x2.little,sl A2 N2 C2,sl A3 N3 C3,sl A1 N1 C1,sl A4 N4 C4],vI x3] w0<|Q35 w0 B res
structure j_z (f:a_t→e_→Int→Option (Val×Int×(Option<|Int×Int))):Prop where
  run : ∀ {A0 A5 A2 A3 A1 A4:Option Addr} {N0 C0 N5 C5 b1 o1 N2 C2 N3 C3 N1 C1 N4 C4:Nat} {B:Zone} {x1:a_t} {x2:e_} {x3:Int} {res:Val×Int×(Option<|Int×Int)} {w0:World} (hm:f x1 x2 x3=some res) (hBw:B≤w0.z) (p1_0:repS w0 B (sl A0 N0 C0) x1.d.rules) (p1_1:repS w0 B (sl A5 N5 C5) x1.b) (hC1:Z_ w0 b1 o1 [sl A0 N0 C0,sl A5 N5 C5]) (hC1b:B b1) (p2_0:x2.name.b.length≤LEN) (p2_1:inI x2.kind) (p2_2:inI x2.size) (p2_4:repS w0 B (sl A2 N2 C2) x2.bytes) (p2_5:repS w0 B (sl A3 N3 C3) x2.names) (p2_6:repS w0 B (sl A1 N1 C1) x2.tags) (p2_7:repS w0 B (sl A4 N4 C4) x2.kids) (p3_0:inI x3),m_ prog 231 [(.pointer<|some ⟨b1,o1,none⟩),.agg #[Str.v x2.name,vI x2.kind,vI x2.size,vB x2.little,sl A2 N2 C2,sl A3 N3 C3,sl A1 N1 C1,sl A4 N4 C4],vI x3] w0<|Q35 w0 B res
abbrev e_l (n:Nat):Prop:=j_u (a_a n).impl_fileReader_value∧j_v (a_a n).impl_fileReader_array∧j_w (a_a n).impl_fileReader_items∧j_x (a_a n).impl_fileReader_choice∧j_y (a_a n).impl_fileReader_option∧j_z (a_a n).impl_fileReader_checked
theorem T_w03 (ih:e_l n):j_u (h_2 n<|a_a n):=by
 obtain ⟨_,d0,d1,d2,d3,d4⟩:=ih
 constructor
 intro A0 A5 N0 C0 N5 C5 b1 o1 B x1 x2 x3 res w0 hm hBw p1_0 p1_1 hC1 hC1b p2_0 p3_0;unfold h_2 at hm
 refine goF func191 z z (lb z) fun fn hr=>Ws<|E z (fa a_d) ?_
 rintro _ H ⟨rfl,bc⟩;have h2:=bc.below;have h3:Blk H w0.z [vI 0,sl none 0 0,sl none 0 0]:=bc.blk;refine Ra z<|Ra z<|Wn<|Ws<|Rm z<|R z (T_ z)<|R z (fd k_W z)<|R z (fd a_4 z) ?_
 have h5:=hC1.e h2;refine R z (l1 a_6 z fid<|h5.at (j:=0) z)<|Rm z ?_
 obtain ⟨J,d5,b0⟩:=bdS hm;refine RX z (at_ (α:=e_) a_7 o_ z z z (p1_0.e h2) d5) ?_;rintro _ ⟨_,_,_,rfl,d6,d7,_⟩;obtain ⟨aa,nb,cc,ad,ne,cf,ah,ng,ci,aj,nk,cl,rfl,hq,ht,ho,hp,hu,hv,hn⟩:=a_P d7;refine R z (lN (vs:=vR J aa nb cc ad ne cf ah ng ci aj nk cl) I_ o_ z z fid d6)<|E z (fa b_E) ?_
 rintro _ d8 ⟨rfl,be⟩;have G:=be.below;refine E0 (fs (cur':=vR J aa nb cc ad ne cf ah ng ci aj nk cl) o_ z z (be.blk:Blk d8 H.z [(Str.v (⟨[]⟩:Str)),vI 0,vI 0,vB false,sl none 0 0,sl none 0 0,sl none 0 0,sl none 0 0]) z (lb z) (oA z) z) ?_;rintro _ _ ⟨I,d9⟩;have h1:=d9.one;refine Wn<|Wq<|Ws<|R z (fd a_C z)<|R z (l1 g_3 z fid<|I.at z)<|Wn<|Wb<|Ws<|R z (eql z z)<|Ra z<|Wn<|Wc z (fun hcr=>?_) (fun hcr=>?_)
 ·refine Ws<|Rm z<|Rm z<|Rm z ?_
  have bf : ∀ k∈[H.z],¬ B k:=or0 (b_ lr)  (j_<|zt' hBw h2.s);have bg:=((h2.ag B).e G).c h1<|c_ bf
  have bh:=lt_ (lt_ h2.s G.s) h1.s;obtain ⟨bi,_,_,da,cO⟩:=p_<|ifT b0 hcr;refine E z (fc call224 z<|i_1 (B:=B) da (zt' hBw bh) (p1_0.g bg) (p1_1.g bg) ((h5.e G).c h1<|(c_ bf) _ hC1b) hC1b p2_0 p3_0) ?_;rintro _ _ ⟨bj,db,dc,rfl,dd,de,df,bk⟩;refine Rm z ?_
  iterate 3 refine R z (ext_ z z) ?_
  refine Ra z<|Ra z<|Ra z<|Wn<|Ws<|Rm z<|R z (bP (parts:=[(0,.tmp 41)]) (cs:=[vI bi,sl none 0 0,sl none 0 0]) a_3 z z)<|Rm z<|Rm z<|E0 (fs (cur':=[vI bi,sl none 0 0,sl none 0 0]) i_ z z (((h3.e G).c h1<|djs<|mmr h3.lt).e bj) z (lb z) (oA z) z) ?_
  rintro _ _ ⟨dg,dh⟩;have bm:=dh.one;refine Ra z<|Ra z<|Wn ?_
  obtain rfl:=som cO;exact Wr<|rtO<|y_ hr (q_ x_ i_ z dg z) z z ⟨bM (bup (bM (bup h2 G) h1<|m1 h2.s) bj) bm<|b_ lr,none,0,0,[],none,0,0,[],db,dc,z,dd,onL,onL,de,df.c bm<|k_ bk h3.lt<|lt_ G.s h1.s,l_ bk bh,nd0,al0⟩
 have b2:=ifF b0 hcr;refine Ws<|R z (eql z z)<|Ra z<|Wn<|Wc z (fun hcs=>?_) (fun hcs=>?_)
 ·refine Ws<|Rm z<|R z (lN (vs:=vR J aa nb cc ad ne cf ah ng ci aj nk cl) I_ o_ z z fid<|I.row 0 8 z)<|Rm z ?_
  have ay : ∀ k∈[H.z],¬ B k:=or0 (b_ lr)  (j_<|zt' hBw h2.s);have bn:=((h2.ag B).e G).c h1<|c_ ay
  have hw:=(G.ag B).c h1<|c_ ay
  have bo:=lt_ (lt_ h2.s G.s) h1.s;obtain ⟨_,_,di,cP⟩:=a_c<|ifT b2 hcs;refine E z (fc call225 z<|W_w31 (B:=B) di (zt' hBw bo) (p1_0.g bn) (p1_1.g bn) ((h5.e G).c h1<|(c_ ay) _ hC1b) hC1b hq ht ho (hp.g hw) (hu.g hw) (hv.g hw) (hn.g hw) p3_0) ?_;rintro _ _ ⟨bp,dj,dk,rfl,dl,dm,bq⟩;refine Rm z<|R z (ext_ z z)<|R z (ext_ z z)<|Ra z<|Ra z<|Wn<|Ws<|R z (bP (parts:=[]) (cs:=[vI 0,sl none 0 0,sl none 0 0]) a_3 z z)<|Rm z<|Rm z<|E0 (fs (cur':=[vI 0,sl none 0 0,sl none 0 0]) i_ z z (((h3.e G).c h1<|djs<|mmr h3.lt).e bp) z (lb z) (oA z) z) ?_
  rintro _ _ ⟨dn,dp⟩;have br:=dp.one;refine Ra z<|Ra z<|Wn ?_
  obtain rfl:=som cP;exact Wr<|rtO<|y_ hr (q_ x_ i_ z dn z) z z ⟨bM (bup (bM (bup h2 G) h1<|m1 h2.s) bp) br<|b_ lr,none,0,0,[],none,0,0,[],dj,dk,z,ii z,onL,onL,dl,dm.c br<|k_ bq h3.lt<|lt_ G.s h1.s,l_ bq bo,nd0,al0⟩
 have b3:=ifF b2 hcs;refine Ws<|R z (eql z z)<|Ra z<|Wn<|Wc z (fun an=>?_) (fun an=>?_)
 ·refine Ws<|Rm z<|Rm z<|R z (fd a_K z)<|R z (l1 g_3 z fid<|I.at z) ?_
  have bs : ∀ k∈[H.z],¬ B k:=or0 (b_ lr)  (j_<|zt' hBw h2.s);have bt:=((h2.ag B).e G).c h1<|c_ bs
  have hx:=lt_ (lt_ h2.s G.s) h1.s;obtain ⟨dq,_,_,dr,cQ⟩:=p_<|ifT b3 an;refine E z (fc call226 z<|W_w1s (B:=B) dr (zt' hBw hx) (p1_0.g bt) (p1_1.g bt) ((h5.e G).c h1<|(c_ bs) _ hC1b) hC1b p3_0 ho) ?_;rintro _ _ ⟨bu,bv,bw,bx,ds,bz,bA,bB,dt,du,dv,rfl,dw,dx,dy,dz,dA,bC,az,hy⟩
  iterate 3 refine R z (ext_ z z) ?_
  refine E0 (fs (cur':=[vI dq.number,sl bv bw bx,sl bz bA bB]) i_ z z (((h3.e G).c h1<|djs<|mmr h3.lt).e bu) z (lb z) (oA z) z) ?_;rintro _ _ ⟨dB,dC⟩;have hz:=dC.one;refine Ra z<|Ra z<|Wn ?_
  obtain rfl:=som cQ;have aA:=lt_ G.s h1.s;exact Wr<|rtO<|y_ hr (q_ x_ i_ z dB z) z z ⟨bM (bup (bM (bup h2 G) h1<|m1 h2.s) bu) hz<|b_ lr,bv,bw,bx,ds,bz,bA,bB,dt,du,dv,z,dw,dx.c hz<|k_ (al_ hy) h3.lt aA,dy.c hz<|k_ (ar_ hy) h3.lt aA,dz,dA.c hz<|k_ bC h3.lt aA,l_ bC hx,na_ (nl_ az) (nr_ az)<|nj az,aa_ (l_ (al_ hy) hx)<|l_ (ar_ hy) hx⟩
 have b4:=ifF b3 an;refine Ws<|R z (eql z z)<|Ra z<|Wn<|Wc z (fun ao=>?_) (fun ao=>?_)
 ·refine Ws<|Rm z<|R z (fd N_ z)<|R z (l1 C_ z fid<|I.at z) ?_
  obtain ⟨_,dD,cR⟩:=bdS<|ifT b4 ao;have aB : ∀ k∈[H.z],¬ B k:=or0 (b_ lr)  (j_<|zt' hBw h2.s);refine RX z (at_ (α:=Int) w_ z_3 z z z (hn.g<|(G.ag B).c h1<|c_ aB) dD) ?_;rintro _ ⟨_,_,_,rfl,dF,dG,_⟩;obtain ⟨rfl,dH⟩:=Q_ dG;refine R z (l1 g_3 z fid<|dF.at0 z)<|Rm z ?_
  have bD:=(h5.e G).c h1<|(c_ aB) _ hC1b
  have aC:=((h2.ag B).e G).c h1<|c_ aB
  have aD:=lt_ (lt_ h2.s G.s) h1.s;obtain ⟨_,_,_,dI,b5⟩:=p_ cR;refine E z (fc call224 z<|i_1 (B:=B) dI (zt' hBw aD) (p1_0.g aC) (p1_1.g aC) bD hC1b dH p3_0) ?_;rintro _ _ ⟨s8,dJ,dK,rfl,dL,dN,bE,bF⟩;refine Rm z ?_
  iterate 3 refine R z (ext_ z z) ?_
  refine Ra z<|Ra z<|Ra z<|Wn<|Wq<|Ws<|Rm z<|R z (d_h d_k z z bE)<|Wn<|Wc z (fun ap=>?_) (fun ap=>?_)
  ·refine Ws<|R z (bP (parts:=[]) (cs:=[vI 0,sl none 0 0,sl none 0 0]) a_3 z z)<|Rm z<|Rm z<|E0 (fs (cur':=[vI 0,sl none 0 0,sl none 0 0]) i_ z z (((h3.e G).c h1<|djs<|mmr h3.lt).e s8) z (lb z) (oA z) z) ?_
   rintro _ _ ⟨dO,dP⟩;have bG:=dP.one;refine Ra z<|Ra z<|Wn ?_
   obtain rfl:=som<|ifT b5 ap;exact Wr<|rtO<|y_ hr (q_ x_ i_ z dO z) z z ⟨bM (bup (bM (bup h2 G) h1<|m1 h2.s) s8) bG<|b_ lr,none,0,0,[],none,0,0,[],dJ,dK,z,ii z,onL,onL,p3_0,bE.c bG<|k_ bF h3.lt<|lt_ G.s h1.s,l_ bF aD,nd0,al0⟩
  refine Wk<|Ws<|Rm z<|Rm z<|Rm z ?_
  have bH:=aC.e s8;have L:=lt_ aD s8.s;obtain ⟨dS,_,_,dT,cS⟩:=p_<|ifF b5 ap;refine E z (fc call226 z<|W_w1s (B:=B) dT (zt' hBw L) (p1_0.g bH) (p1_1.g bH) (bD.e s8) hC1b dN dL) ?_;rintro _ _ ⟨bI,bJ,bK,bL,dU,bN,bO,bQ,dV,dW,dX,rfl,dY,dZ,e0,e1,e2,bR,aE,O⟩
  iterate 3 refine R z (ext_ z z) ?_
  refine E0 (fs (cur':=[vI dS.number,sl bJ bK bL,sl bN bO bQ]) i_ z z ((((h3.e G).c h1<|djs<|mmr h3.lt).e s8).e bI) z (lb z) (oA z) z) ?_;rintro _ _ ⟨e3,e4⟩;have V:=e4.one;refine Ra z<|Ra z<|Wn ?_
  obtain rfl:=som cS;have aF:=lt_ (lt_ G.s h1.s) s8.s;exact Wr<|rtO<|y_ hr (q_ x_ i_ z e3 z) z z ⟨bM (bup (bup (bM (bup h2 G) h1<|m1 h2.s) s8) bI) V<|b_ lr,bJ,bK,bL,dU,bN,bO,bQ,dV,dW,dX,z,dY,dZ.c V<|k_ (al_ O) h3.lt aF,e0.c V<|k_ (ar_ O) h3.lt aF,e1,e2.c V<|k_ bR h3.lt aF,l_ bR L,na_ (nl_ aE) (nr_ aE)<|nj aE,aa_ (l_ (al_ O) L)<|l_ (ar_ O) L⟩
 have b6:=ifF b4 ao;refine Ws<|R z (eql z z)<|Ra z<|Wn<|Wc z (fun aq=>?_) (fun aq=>?_)
 ·refine Ws<|Rm z<|R z (lN (vs:=vR J aa nb cc ad ne cf ah ng ci aj nk cl) I_ o_ z z fid<|I.row 0 8 z)<|Rm z ?_
  have aG : ∀ k∈[H.z],¬ B k:=or0 (b_ lr)  (j_<|zt' hBw h2.s);have bS:=((h2.ag B).e G).c h1<|c_ aG
  have W:=(G.ag B).c h1<|c_ aG
  have Y:=lt_ (lt_ h2.s G.s) h1.s;obtain ⟨e5,_,_,e6,cT⟩:=p_<|ifT b6 aq;refine E z (fc call227 z<|d0.run (B:=B) e6 (zt' hBw Y) (p1_0.g bS) (p1_1.g bS) ((h5.e G).c h1<|(c_ aG) _ hC1b) hC1b hq ht ho (hp.g W) (hu.g W) (hv.g W) (hn.g W) p3_0) ?_;rintro _ _ ⟨bT,bU,bV,bW,e7,bX,bY,bZ,e8,e9,ea,rfl,eb,ec,ed,ee,eg,c0,aH,a0⟩
  iterate 3 refine R z (ext_ z z) ?_
  refine E0 (fs (cur':=[vI e5.number,sl bU bV bW,sl bX bY bZ]) i_ z z (((h3.e G).c h1<|djs<|mmr h3.lt).e bT) z (lb z) (oA z) z) ?_;rintro _ _ ⟨eh,ei⟩;have a1:=ei.one;refine Ra z<|Ra z<|Wn ?_
  obtain rfl:=som cT;have aI:=lt_ G.s h1.s;exact Wr<|rtO<|y_ hr (q_ x_ i_ z eh z) z z ⟨bM (bup (bM (bup h2 G) h1<|m1 h2.s) bT) a1<|b_ lr,bU,bV,bW,e7,bX,bY,bZ,e8,e9,ea,z,eb,ec.c a1<|k_ (al_ a0) h3.lt aI,ed.c a1<|k_ (ar_ a0) h3.lt aI,ee,eg.c a1<|k_ c0 h3.lt aI,l_ c0 Y,na_ (nl_ aH) (nr_ aH)<|nj aH,aa_ (l_ (al_ a0) Y)<|l_ (ar_ a0) Y⟩
 have b7:=ifF b6 aq;refine Ws<|R z (eql z z)<|Ra z<|Wn<|Wc z (fun ar=>?_) (fun ar=>?_)
 ·refine Ws<|Rm z<|R z (bP (parts:=[]) (cs:=[vI 0,sl none 0 0,sl none 0 0]) a_3 z z)<|R z (fd N_ z)<|R z (l1 C_ z fid<|I.at z)<|Rm z ?_
  have aJ : ∀ k∈[H.z],¬ B k:=or0 (b_ lr)  (j_<|zt' hBw h2.s);have c1:=((h2.ag B).e G).c h1<|c_ aJ
  have a2:=lt_ (lt_ h2.s G.s) h1.s;obtain ⟨ej,_,_,ek,cU⟩:=p_<|ifT b7 ar;refine E z (fc call228 z<|d1.run (B:=B) (x2:=(⟨0,([]:List UInt8),([]:List Val)⟩:Val)) ek (zt' hBw a2) (p1_0.g c1) (p1_1.g c1) ((h5.e G).c h1<|(c_ aJ) _ hC1b) hC1b (ii z) onL J_ an_ onL J_ an_ an_ (hn.g<|(G.ag B).c h1<|c_ aJ) p3_0) ?_;rintro _ _ ⟨c2,c3,c4,c5,c6,c7,c8,c9,ca,em,en,rfl,eo,ep,er,es,eu,cb,aK,a3⟩
  iterate 3 refine R z (ext_ z z) ?_
  refine E0 (fs (cur':=[vI ej.number,sl c3 c4 c5,sl c7 c8 c9]) i_ z z (((h3.e G).c h1<|djs<|mmr h3.lt).c c2<|atp<|nmA (nmN _)<|nmN _) z (lb z) (oA z) z) ?_;rintro _ _ ⟨ew,ex⟩;have a4:=ex.one;refine Ra z<|Ra z<|Wn ?_
  obtain rfl:=som cU;have aL:=lt_ G.s h1.s;exact Wr<|rtO<|y_ hr (q_ x_ i_ z ew z) z z ⟨bM (bM (bM (bup h2 G) h1<|m1 h2.s) c2 al0) a4<|b_ lr,c3,c4,c5,c6,c7,c8,c9,ca,em,en,z,eo,ep.c a4 (or1 (al_ a3) al0 (W_ (b_ h3.lt) aL) : ∀ k∈c6,k∉[w0.z]),er.c a4 (or1 (ar_ a3) al0 (W_ (b_ h3.lt) aL) : ∀ k∈ca,k∉[w0.z]),es,eu.c a4<|k_ cb h3.lt aL,l_ cb a2,na_ (nl_ aK) (nr_ aK)<|nj aK,aa_ (a_8 (al_ a3) al0 a2)<|a_8 (ar_ a3) al0 a2⟩
 have b8:=ifF b7 ar;refine Ws<|R z (eql z z)<|Ra z<|Wn<|Wc z (fun au=>?_) (fun au=>?_)
 ·refine Ws<|Rm z<|R z (lN (vs:=vR J aa nb cc ad ne cf ah ng ci aj nk cl) I_ o_ z z fid<|I.row 0 8 z)<|Rm z ?_
  have aM : ∀ k∈[H.z],¬ B k:=or0 (b_ lr)  (j_<|zt' hBw h2.s);have cd:=((h2.ag B).e G).c h1<|c_ aM
  have a5:=(G.ag B).c h1<|c_ aM
  have a6:=lt_ (lt_ h2.s G.s) h1.s;obtain ⟨ey,_,_,ez,cV⟩:=p_<|ifT b8 au;refine E z (fc call229 z<|d2.run (B:=B) ez (zt' hBw a6) (p1_0.g cd) (p1_1.g cd) ((h5.e G).c h1<|(c_ aM) _ hC1b) hC1b hq ht ho (hp.g a5) (hu.g a5) (hv.g a5) (hn.g a5) p3_0) ?_;rintro _ _ ⟨ce,cg,ch,cj,eA,ck,cm,cn,eB,eC,eD,rfl,eE,eF,eG,eH,eI,co,aN,a7⟩
  iterate 3 refine R z (ext_ z z) ?_
  refine E0 (fs (cur':=[vI ey.number,sl cg ch cj,sl ck cm cn]) i_ z z (((h3.e G).c h1<|djs<|mmr h3.lt).e ce) z (lb z) (oA z) z) ?_;rintro _ _ ⟨eJ,eK⟩;have a8:=eK.one;refine Ra z<|Ra z<|Wn ?_
  obtain rfl:=som cV;have aO:=lt_ G.s h1.s;exact Wr<|rtO<|y_ hr (q_ x_ i_ z eJ z) z z ⟨bM (bup (bM (bup h2 G) h1<|m1 h2.s) ce) a8<|b_ lr,cg,ch,cj,eA,ck,cm,cn,eB,eC,eD,z,eE,eF.c a8<|k_ (al_ a7) h3.lt aO,eG.c a8<|k_ (ar_ a7) h3.lt aO,eH,eI.c a8<|k_ co h3.lt aO,l_ co a6,na_ (nl_ aN) (nr_ aN)<|nj aN,aa_ (l_ (al_ a7) a6)<|l_ (ar_ a7) a6⟩
 have b9:=ifF b8 au;refine Ws<|R z (eql z z)<|Ra z<|Wn<|Wc z (fun av=>?_) (fun av=>?_)
 ·refine Ws<|Rm z<|R z (lN (vs:=vR J aa nb cc ad ne cf ah ng ci aj nk cl) I_ o_ z z fid<|I.row 0 8 z)<|Rm z ?_
  have aP : ∀ k∈[H.z],¬ B k:=or0 (b_ lr)  (j_<|zt' hBw h2.s);have cp:=((h2.ag B).e G).c h1<|c_ aP
  have a9:=(G.ag B).c h1<|c_ aP
  have ab:=lt_ (lt_ h2.s G.s) h1.s;obtain ⟨eL,_,_,eM,cW⟩:=p_<|ifT b9 av;refine E z (fc call230 z<|d3.run (B:=B) eM (zt' hBw ab) (p1_0.g cp) (p1_1.g cp) ((h5.e G).c h1<|(c_ aP) _ hC1b) hC1b hq ht ho (hp.g a9) (hu.g a9) (hv.g a9) (hn.g a9) p3_0) ?_;rintro _ _ ⟨cq,cr,ct,cu,eN,cv,cw,cx,eO,eP,eQ,rfl,eR,eS,eT,eU,eV,cy,aQ,ae⟩
  iterate 3 refine R z (ext_ z z) ?_
  refine E0 (fs (cur':=[vI eL.number,sl cr ct cu,sl cv cw cx]) i_ z z (((h3.e G).c h1<|djs<|mmr h3.lt).e cq) z (lb z) (oA z) z) ?_;rintro _ _ ⟨eW,eX⟩;have af:=eX.one;refine Ra z<|Ra z<|Wn ?_
  obtain rfl:=som cW;have aR:=lt_ G.s h1.s;exact Wr<|rtO<|y_ hr (q_ x_ i_ z eW z) z z ⟨bM (bup (bM (bup h2 G) h1<|m1 h2.s) cq) af<|b_ lr,cr,ct,cu,eN,cv,cw,cx,eO,eP,eQ,z,eR,eS.c af<|k_ (al_ ae) h3.lt aR,eT.c af<|k_ (ar_ ae) h3.lt aR,eU,eV.c af<|k_ cy h3.lt aR,l_ cy ab,na_ (nl_ aQ) (nr_ aQ)<|nj aQ,aa_ (l_ (al_ ae) ab)<|l_ (ar_ ae) ab⟩
 have ba:=ifF b9 av;refine Ws<|R z (eql z z)<|Ra z<|Wn<|Wc z (fun aw=>?_) (fun aw=>?_)
 ·refine Ws<|Rm z<|R z (lN (vs:=vR J aa nb cc ad ne cf ah ng ci aj nk cl) I_ o_ z z fid<|I.row 0 8 z)<|Rm z ?_
  have aS : ∀ k∈[H.z],¬ B k:=or0 (b_ lr)  (j_<|zt' hBw h2.s);have cz:=((h2.ag B).e G).c h1<|c_ aS
  have ai:=(G.ag B).c h1<|c_ aS
  have ak:=lt_ (lt_ h2.s G.s) h1.s;obtain ⟨eY,_,_,eZ,cX⟩:=p_<|ifT ba aw;refine E z (fc call231 z<|d4.run (B:=B) eZ (zt' hBw ak) (p1_0.g cz) (p1_1.g cz) ((h5.e G).c h1<|(c_ aS) _ hC1b) hC1b hq ht ho (hp.g ai) (hu.g ai) (hv.g ai) (hn.g ai) p3_0) ?_;rintro _ _ ⟨cA,cB,cC,cD,f0,cE,cF,cG,f1,f2,f3,rfl,f4,f5,f6,f7,f8,cH,aT,al⟩
  iterate 3 refine R z (ext_ z z) ?_
  refine E0 (fs (cur':=[vI eY.number,sl cB cC cD,sl cE cF cG]) i_ z z (((h3.e G).c h1<|djs<|mmr h3.lt).e cA) z (lb z) (oA z) z) ?_;rintro _ _ ⟨f9,fb⟩;have am:=fb.one;refine Ra z<|Ra z<|Wn ?_
  obtain rfl:=som cX;have aU:=lt_ G.s h1.s;exact Wr<|rtO<|y_ hr (q_ x_ i_ z f9 z) z z ⟨bM (bup (bM (bup h2 G) h1<|m1 h2.s) cA) am<|b_ lr,cB,cC,cD,f0,cE,cF,cG,f1,f2,f3,z,f4,f5.c am<|k_ (al_ al) h3.lt aU,f6.c am<|k_ (ar_ al) h3.lt aU,f7,f8.c am<|k_ cH h3.lt aU,l_ cH ak,na_ (nl_ aT) (nr_ aT)<|nj aT,aa_ (l_ (al_ al) ak)<|l_ (ar_ al) ak⟩
 refine Wk<|Wq (Wd (X:=noX) 0 (.rd 0<|.rd 1<|.rd 2<|.rd 3<|.rd 4<|.rd 5<|.rd 6<|.rd 7<|.rd 8<|.ef 9<|.rd 10<|.rd 11<|.rd 12<|.rd 13<|.rd 14<|.rd 15<|.rd 16 .done) mo (by kernel_rfl) fun fw s6 _=>dR z z (mv z)<|dR z z (T_ z)<|dR z z (fd e_X z) ?_)
 have aV : ∀ k∈[H.z],¬ B k:=or0 (b_ lr)  (j_<|zt' hBw h2.s);refine dR z z (l1 X_ z fid<|(((h5.e G).c h1<|(c_ aV) _ hC1b).e s6).at (j:=1) z)<|dR z z (mv z)<|dR z z (fd a_W z)<|dR z z (l1 X_ z fid<|(I.e s6).at z) ?_
 obtain ⟨_,fe,cY⟩:=bdS<|ifF ba aw;refine dRX z z (at_ (α:=UInt8) n_ z_5 z z z (hp.g<|((G.ag B).c h1<|c_ aV).e s6) fe) ?_;rintro _ ⟨_,_,_,rfl,ff,fg,_⟩;obtain rfl:=u8 fg;refine dR z z (l1 g_5 z fid<|ff.at0 z) ?_;have aW:=lt_ (lt_ (lt_ h2.s G.s) h1.s) s6.s;obtain ⟨_,_,_,fh,bb⟩:=p_ cY;refine dE z z (fc call232 z<|W_w1l (B:=B) fh (zt' hBw aW) (p1_1.g<|(((h2.ag B).e G).c h1<|c_ aV).e s6) p3_0) (.inr fun _ _ h=>A_<|h.1) ?_;rintro _ _ ⟨sm,aX,aY,aZ,fi,rfl,fj,fk,fl,cI⟩;refine dR z z (mv z) ?_
 iterate 3 refine dR z z (ext_ z z) ?_
 iterate 3 refine dR z z (asg z) ?_
 refine pD<|Wo<|Wq<|Ws<|Rm z<|R z (not_ z)<|Wn<|Wc z (fun ax=>?_) (fun ax=>?_)
 ·refine Ws<|R z (bP (parts:=[]) (cs:=[vI 0,sl none 0 0,sl none 0 0]) a_3 z z)<|Rm z<|Rm z ?_
  have cJ:=lt_ aW sm.s;obtain ⟨_,fm,cZ⟩:=bdS<|ifT bb ax;refine E z (fc call233 z<|d_P (B:=B) fm (zt' hBw cJ) p3_0<|ii z) ?_;rintro _ _ ⟨cK,fo,fp,rfl,fq,cL⟩;refine E0 (fs (cur':=[vI 0,sl none 0 0,sl none 0 0]) i_ z z (((((h3.e G).c h1<|djs<|mmr h3.lt).e s6).e sm).e cK) z (lb z) (oA z) z) ?_;rintro _ _ ⟨fr,ft⟩;have cM:=ft.one;refine Ra z<|Ra z<|Wn ?_
  obtain rfl:=som cZ;exact Wr<|y_ hr (q_ x_ i_ z fr z) z z ⟨bM (bup (bup (bup (bM (bup h2 G) h1<|m1 h2.s) s6) sm) cK) cM<|b_ lr,none,0,0,[],none,0,0,[],fo,fp,z,ii z,onL,onL,p3_0,fq.c cM<|k_ cL h3.lt<|lt_ (lt_ (lt_ G.s h1.s) s6.s) sm.s,l_ cL cJ,nd0,al0⟩
 refine Wk<|Ws<|Rm z<|R z (bP (parts:=[(1,.tmp 159)]) (cs:=[vI 0,sl aX aY aZ,sl none 0 0]) a_3 z z)<|Rm z<|E0 (fs (cur':=[vI 0,sl aX aY aZ,sl none 0 0]) i_ z z ((((h3.e G).c h1<|djs<|mmr h3.lt).e s6).e sm) z (lb z) (oA z) z) ?_
 rintro _ _ ⟨fu,fv⟩;have cN:=fv.one;refine Ra z<|Ra z<|Wn ?_
 obtain rfl:=som<|ifF bb ax;exact Wr<|y_ hr (q_ x_ i_ z fu z) z z ⟨bM (bup (bup (bM (bup h2 G) h1<|m1 h2.s) s6) sm) cN<|b_ lr,aX,aY,aZ,fi,none,0,0,[],.nilIface,([]:List Nat),z,ii z,fj.c cN<|k_ cI h3.lt<|lt_ (lt_ G.s h1.s) s6.s,onL,fk,d_L,an_,na_ fl J_<|nmN _,aa_ (l_ cI aW) an_⟩
theorem T_w1t (ih:e_l n):j_v (h_3 n<|a_a n):=by
 obtain ⟨_,_,aE,_,_,_⟩:=ih
 constructor
 intro A0 A5 A2 A3 A1 A4 N0 C0 N5 C5 b1 o1 N2 C2 N3 C3 N1 C1 N4 C4 B x1 x2 x3 res w0 hm hBw p1_0 p1_1 hC1 hC1b p2_0 p2_1 p2_2 p2_4 p2_5 p2_6 p2_7 p3_0;unfold h_3 at hm
 refine goF func227 z z (lb z) fun fn hr=>Ws<|E z (fb z) ?_
 rintro _ J ⟨rfl,hw⟩;have h4:=hw.below;have hx:Blk J w0.z (vR x2 A2 N2 C2 A3 N3 C3 A1 N1 C1 A4 N4 C4):=hw.blk;refine E z (fa a_d) ?_;rintro _ aF ⟨rfl,hy⟩;have h6:=hy.below;have h5:Blk aF J.z [vI 0,sl none 0 0,sl none 0 0]:=hy.blk;refine Ra z<|Ra z<|Wn<|Ws<|Rm z<|R z (fd N_ z) ?_
 have hz:=hx.e h6;refine R z (l1 C_ z fid<|hz.at z) ?_;obtain ⟨_,aG,ap⟩:=bdS hm;have hd:=(h4.ag B).e h6;refine RX z (at_ (α:=Int) w_ z_3 z z z (p2_7.g hd) aG) ?_;rintro _ ⟨_,_,_,rfl,aH,aI,_⟩;obtain ⟨rfl,aJ⟩:=Q_ aI;refine R z (l1 g_3 z fid<|aH.at0 z)<|Rm z ?_
 have Y:=(hC1.e h4).e h6;have he:=lt_ h4.s h6.s;obtain ⟨_,rr,_,aK,hms⟩:=p_ ap;refine E z (fc call224 z<|i_1 (B:=B) aK (zt' hBw he) (p1_0.g hd) (p1_1.g hd) Y hC1b aJ p3_0) ?_;rintro _ H ⟨G,aL,aM,rfl,_,aN,a0,a1⟩;refine Rm z ?_
 iterate 3 refine R z (ext_ z z) ?_
 refine Ra z<|Ra z<|Ra z<|Wn<|Wq<|Ws<|Rm z<|R z (d_h d_k z z a0)<|Wn<|Wc z (fun hcm=>?_) (fun hcm=>?_)
 ·refine Ws<|R z (bP (parts:=[]) (cs:=[vI 0,sl none 0 0,sl none 0 0]) a_3 z z)<|Rm z<|Rm z<|E0 (fs (cur':=[vI 0,sl none 0 0,sl none 0 0]) i_ z z (h5.e G) z (lb z) (oA z) z) ?_
  rintro _ _ ⟨aO,aP⟩;have a2:=aP.one;refine Ra z<|Ra z<|Wn ?_
  obtain rfl:=som<|ifT hms hcm;exact Wr<|y_ hr (q_ x_ i_ z aO z) z z ⟨bM (bup (bup h4 h6) G) a2<|m1 h4.s,none,0,0,[],none,0,0,[],aL,aM,z,ii z,onL,onL,p3_0,a0.c a2<|k_ a1 h5.lt lr,l_ a1 he,nd0,al0⟩
 have O:=ifF hms hcm;refine Wk<|Wq<|Ws<|Rm z<|R z (a_1 z z)<|Wn<|Wc z (fun hco=>?_) (fun hco=>?_)
 ·refine Ws<|R z (bP (parts:=[]) (cs:=[vI 0,sl none 0 0,sl none 0 0]) a_3 z z)<|Rm z<|Rm z ?_
  have a3:=lt_ he G.s;obtain ⟨_,aQ,aq⟩:=bdS<|ifT O hco;refine E z (fc call233 z<|d_P (B:=B) aQ (zt' hBw a3) p3_0<|ii z) ?_;rintro _ _ ⟨a4,aR,aS,rfl,aT,a5⟩;refine E0 (fs (cur':=[vI 0,sl none 0 0,sl none 0 0]) i_ z z ((h5.e G).e a4) z (lb z) (oA z) z) ?_;rintro _ _ ⟨aU,aV⟩;have a6:=aV.one;refine Ra z<|Ra z<|Wn ?_
  obtain rfl:=som aq;exact Wr<|y_ hr (q_ x_ i_ z aU z) z z ⟨bM (bup (bup (bup h4 h6) G) a4) a6<|m1 h4.s,none,0,0,[],none,0,0,[],aR,aS,z,ii z,onL,onL,p3_0,aT.c a6<|k_ a5 h5.lt G.s,l_ a5 a3,nd0,al0⟩
 refine Wk<|Ws<|Rm z ?_
 obtain ⟨aW,aX,ar⟩:=bdS<|ifF O hco;refine E z (n_r (α:=Int) b_J (fun _=>b_s<|ii z) aX z z) ?_;rintro _ I ⟨ac,nf,cg,rfl,s8,hp⟩;refine Ra z<|Wn<|Wq<|Ws<|Rm z<|R z (lnR w_ z<|a_.rep hp)<|Rm z<|Wn ?_
 obtain ⟨_,au,V⟩:=bdS ar;refine Wf (σ:=List Int) (ρ:=Val×Int×(Option<|Int×Int)) (fun (a7:Nat) (L:List Int) a w=>∃  (S3:List Nat),Sat 59 [(0,.pointer<|some ⟨b1,o1,none⟩),(4,pt w0.z),(6,pt J.z),(10,vI rr),(12,sl ac nf cg),(39,vI (aW.length:Int)),(40,vI ((a7:Nat):Int))] a∧Chg (· ∈ [H.z]) I w∧a_ w S3 (sl ac nf cg) L∧S3.Nodup∧(∀ k∈S3,k∈[H.z]∨I.z≤k)) (fun (L:List Int) a w=>∃  (S3:List Nat),Sat 59 [(0,.pointer<|some ⟨b1,o1,none⟩),(6,pt J.z),(10,vI rr),(12,sl ac nf cg)] a∧Chg (· ∈ [H.z]) I w∧a_ w S3 (sl ac nf cg) L∧S3.Nodup∧(∀ k∈S3,k∈[H.z]∨I.z≤k)) (fun r ex a w=>ex = .ret∧L_ prog fn (Q35 w0 B r) a w) au ?_ ?_ ?_ ?_ ?_
 ·exact fun _ q=>⟨[H.z],q.k<|s7 z z z z z z z,cr [H.z] I,hp,a_o,io sr⟩
 ·rintro a7 L _ aY _ W ⟨S3,av,sh,ha,hi,hj⟩ aw;refine Wu ?_ av;refine Ws<|R z (lss z z)<|Wn<|Wq<|Wc z (fun _=>?_) (fun hc=>(a_h W hc).elim)
  refine Wk<|Wq<|Wb<|Ws<|Rm z<|Ra z<|Wn<|Wg<|Rm z<|Rm z<|R z (fd N_ z)<|R z (l1 C_ z fid<|(((hz.e G).e s8).c sh<|djs<|mm1 hx.lt<|lt_ h6.s G.s).at z) ?_
  obtain ⟨_,aZ,ax⟩:=bdS aw;refine RX z (at_ (α:=Int) w_ z_3 z z z (p2_7.g<|((hd.e G).e s8).c sh<|c_ (or0 (b_ lr)  (j_<|zt' hBw<|lt_ he G.s) : ∀ k∈[H.z],¬ B k)) aZ) ?_;rintro _ ⟨_,_,_,rfl,b0,b2,_⟩;obtain ⟨rfl,b3⟩:=Q_ b2;refine R z (l1 g_3 z fid<|b0.at0 z) ?_;obtain ⟨b4,a8,ay⟩:=bdS ax;refine RX z (k_O (α:=Int) w_ z_3 z z ha a8) ?_;rintro _ ⟨_,b5,rfl⟩;refine E0 (k_P (α:=Int) z_3 z b5 z z z a8 ha hi (b_s b3) an_ J_) ?_;rintro _ b6 ⟨a9,b7,b8,b9,ba⟩;refine Wn<|Wg<|R z (inc_ W (lt_ (a_.len hp) P_) z z)<|Rm z<|Wl ?_
  have aa : ∀ k∈S3,k∈[H.z]∨I.z≤k:=or1 hj (io sr)<|G_ lr;exact fun _ q=>⟨b4,(som ay).symm,⟨a9,q.k<|s7 z z z z z z z,(cM (cM (cr [H.z] I) sh (io sr):Chg (· ∈ [H.z]) I aY) b7 aa:Chg (· ∈ [H.z]) I b6),b8,b9,(or2 ba aa an_ (G_ sh.s) : ∀ k∈a9,k∈[H.z]∨I.z≤k)⟩⟩
 ·rintro L _ bb ⟨S3,az,bc,ha,hi,hj⟩;refine Wu ?_ az;refine Ws<|R z (lss z z)<|Wn<|Wq<|Wc z (fun hc=>(a_i hc).elim) (fun _=>?_)
  exact We<|fun a' ha'=>⟨rfl,⟨S3,Sat.weaken ha'<|s4 z z z z,(cM (cr [H.z] I) bc (io sr):Chg (· ∈ [H.z]) I bb),ha,hi,(or1 hj (io sr) (G_ lr) : ∀ k∈S3,k∈[H.z]∨I.z≤k)⟩⟩
 ·rintro L be bf rfl ⟨S3,_,sb,ha,hi,hj⟩;have aA:=elL V;revert be;refine Wo<|Ws<|Rm z<|R z (bP (parts:=[]) (cs:=[vI 0,sl none 0 0,sl none 0 0]) a_3 z z)<|Rm z<|Rm z ?_
  have hq:=lt_ he G.s;have ab : ∀ k∈[H.z],¬ B k:=or0 (b_ lr)  (j_<|zt' hBw hq);have ad:=((hd.e G).e s8).c sb<|c_ ab
  have hk:=lt_ (lt_ hq s8.s) sb.s;have ht:=zt' hBw hk;obtain ⟨bg,_,_,bh,aB⟩:=p_ aA;refine E z (fc call228 z<|aE.run (B:=bf.z) (x2:=(⟨0,([]:List UInt8),([]:List Val)⟩:Val)) bh zr (repS.mono (p1_0.g ad) ht) (repS.mono (p1_1.g ad) ht) (((Y.e G).e s8).c sb<|(c_ ab) _ hC1b) (zap' ht hC1b) (ii z) onL J_ (nbl an_) onL J_ (nbl an_) an_ (a_.rep ha) aN) ?_;rintro _ _ ⟨ae,af,ah,ai,aj,ak,al,am,an,bi,bj,rfl,bk,bm,bn,bo,bp,ao,hu,hl⟩
  iterate 3 refine R z (ext_ z z) ?_
  refine E0 (fs (cur':=[vI bg.number,sl af ah ai,sl ak al am]) i_ z z ((((h5.e G).e s8).c sb<|djs<|mm1 h5.lt G.s).c ae<|atp<|nmA (nmN _)<|nmN _) z (lb z) (oA z) z) ?_;rintro _ _ ⟨bq,br⟩;have hn:=br.one;refine Ra z<|Ra z<|Wn ?_
  obtain rfl:=som aB;have hv:=lt_ (lt_ G.s s8.s) sb.s;exact Wr<|y_ hr (q_ x_ i_ z bq z) z z ⟨bM (bM (bM (bup (bup (bup h4 h6) G) s8) sb<|m1 hq) ae al0) hn<|m1 h4.s,af,ah,ai,aj,ak,al,am,an,bi,bj,z,bk,bm.c hn (or1 (al_ hl) al0 (W_ (b_ h5.lt) hv) : ∀ k∈aj,k∉[J.z]),bn.c hn (or1 (ar_ hl) al0 (W_ (b_ h5.lt) hv) : ∀ k∈an,k∉[J.z]),bo,bp.c hn<|k_ ao h5.lt hv,l_ ao hk,na_ (nl_ hu) (nr_ hu)<|nj hu,aa_ (a_8 (al_ hl) al0 hk)<|a_8 (ar_ hl) al0 hk⟩
 rintro _ _ _ _ rfl ⟨rfl,aC⟩;have aD:=elR V;obtain rfl:=som aD;exact ⟨aC,z⟩
theorem T_w1u (ih:e_l n):j_w (h_4 n<|a_a n):=by
 obtain ⟨aQ,_,_,_,_,_⟩:=ih
 constructor
 intro A0 A5 AE AH A7 N0 C0 N5 C5 b1 o1 NE CE NH CH N7 C7 S2_1 S2_2 B x1 x2 x3 x4 res w0 hm hBw p1_0 p1_1 hC1 hC1b p2_0 p2_1 p2_1n p2_1g p2_2 p2_2n p2_2g p2_2d1 p3_0 p4_0;unfold h_4 at hm
 refine goF func228 z z (lb z) fun fn hr=>Ws<|E z (fb z) ?_
 rintro _ wb ⟨rfl,aa⟩;have h2:=aa.below;have he:Blk wb w0.z [vI x2.number,sl AE NE CE,sl AH NH CH]:=aa.blk;refine E z (fa a_d) ?_;rintro _ G ⟨rfl,ab⟩;have W:=ab.below;have hk:Blk G wb.z [vI 0,sl none 0 0,sl none 0 0]:=ab.blk;refine Ra z<|Ra z<|Wn<|Wq<|Ws<|Rm z ?_
 have ad:=(h2.ag B).e W;refine R z (lnR w_ z<|p3_0.g ad)<|Rm z<|Wn ?_
 obtain ⟨_,aH,a7⟩:=bdS hm;refine Wf (σ:=Int×(List Val)) (ρ:=Val×Int×(Option<|Int×Int)) (fun (ae:Nat) s a w=>un2 (fun xc xh=>∃ I J L H,Sat 45 [(0,.pointer<|some ⟨b1,o1,none⟩),(3,vI xc),(5,pt w0.z),(8,pt wb.z),(16,sl A7 N7 C7),(17,vI (x3.length:Int)),(18,vI ((ae:Nat):Int))] a∧Chg (· ∈ (S2_2++[w0.z])) G w∧inI xc∧a_ w H (sl I J L) xh∧H.Nodup∧(∀ k∈H,k∈S2_2∨G.z≤k)∧Blk w w0.z [vI x2.number,sl AE NE CE,sl I J L]) s) (fun s a w=>un2 (fun xc xh=>∃ I J L H,Sat 45 [(3,vI xc),(5,pt w0.z),(8,pt wb.z)] a∧Chg (· ∈ (S2_2++[w0.z])) G w∧inI xc∧a_ w H (sl I J L) xh∧H.Nodup∧(∀ k∈H,k∈S2_2∨G.z≤k)∧Blk w w0.z [vI x2.number,sl AE NE CE,sl I J L]) s) (fun r ex a w=>ex = .ret∧L_ prog fn (Q36 w0 B S2_1 S2_2 r) a w) aH ?_ ?_ ?_ ?_ ?_
 ·exact fun _ q=>⟨AH,NH,CH,S2_2,q.k<|s7 z z z z z z z,cr (S2_2++[w0.z]) G,p4_0,(p2_2.e h2).e W,p2_2n,io sr,he.e W⟩
 ·rintro ae ⟨xc,xh⟩ _ af _ a8 ⟨I,J,L,H,aI,s6,hi,hf,hl,hd,hn⟩ aJ;refine Wu ?_ aI;refine Ws<|R z (lss z z)<|Wn<|Wq<|Wc z (fun _=>?_) (fun hc=>(a_h a8 hc).elim)
  refine Wk<|Wq<|Wb<|Ws ?_
  obtain ⟨_,aR,aK⟩:=bdS<|a_F aJ;have ah : ∀ k∈[w0.z],¬ B k:=or0 (b_ lr)  (j_ hBw);have ht:=ad.c s6<|nmA (c_ p2_2g)<|c_ ah
  refine RX z (at_ (α:=Int) w_ z_3 z z z (p3_0.g ht) aR) ?_;rintro _ ⟨_,_,_,rfl,aS,aT,_⟩;obtain ⟨rfl,aU⟩:=Q_ aT;refine R z (l1 g_3 z fid<|aS.at0 z)<|Ra z<|Wn<|Ws<|Rm z<|Rm z<|Rm z ?_
  have hu:=lt_ (lt_ h2.s W.s) s6.s;obtain ⟨ro,aV,_,aW,a9⟩:=p_ aK;refine E z (fc call191 z<|aQ.run (B:=B) aW (zt' hBw hu) (p1_0.g ht) (p1_1.g ht) (((hC1.e h2).e W).c s6<|(nmA (c_ p2_2g)<|c_ ah) _ hC1b) hC1b aU hi) ?_;rintro _ wm ⟨sa,ar,ns,cv,ai,aw,nx,cy,aj,aX,aY,rfl,aZ,hp,hq,b0,ak,al,hz,hj⟩;refine Rm z ?_
  iterate 3 refine R z (ext_ z z) ?_
  refine E z (fa a_d) ?_;rintro _ a0 ⟨rfl,am⟩;have O:=am.below;refine E0 (fs (cur':=[vI ro.number,sl ar ns cv,sl aw nx cy]) i_ z z (am.blk:Blk a0 wm.z [vI 0,sl none 0 0,sl none 0 0]) z (lb z) (oA z) z) ?_;rintro _ a1 ⟨b2,b3⟩;have V:=b3.one;refine Ra z<|Ra z<|Wn<|Wq<|Ws<|Rm z ?_
  have an:=(ak.e O).c V<|ds<|mnr<|a_A.lt ak
  refine R z (d_h d_k z z an)<|Wn<|Wc z (fun Y=>?_) (fun Y=>?_)
  ·refine Ws<|R z (bP (parts:=[]) (cs:=[vI 0,sl none 0 0,sl none 0 0]) a_3 z z)<|Rm z<|Rm z ?_
   refine E0 (fs (cur':=[vI 0,sl none 0 0,sl none 0 0]) i_ z z ((((hk.c s6<|atp<|nmA (mno (a_.lt p2_2) h2.s)<|mmr he.lt).e sa).e O).c V<|djs<|mm1 hk.lt<|lt_ s6.s sa.s) z (lb z) (oA z) z) ?_;rintro _ b4 ⟨b5,b6⟩;have ao:=b6.one;refine Ra z<|Ra z<|Wn ?_
   exact Wr<|rtO<|qL (som<|ifT a9 Y).symm<|y_ hr (q_ x_ i_ z b5 z) z z ⟨(cM (cM (d_ (d_ (cM (d_ (d_ (cr (S2_1++S2_2) w0) h2:Chg (· ∈ (S2_1++S2_2)) w0 wb) W:Chg (· ∈ (S2_1++S2_2)) w0 G) s6 (aa_ (io<|B_ sr) (mor lr : ∀ k∈[w0.z],k∈(S2_1++S2_2)∨w0.z≤k)):Chg (· ∈ (S2_1++S2_2)) w0 af) sa:Chg (· ∈ (S2_1++S2_2)) w0 wm) O:Chg (· ∈ (S2_1++S2_2)) w0 a0) V (mor (lt_ hu sa.s) : ∀ k∈[wm.z],k∈(S2_1++S2_2)∨w0.z≤k):Chg (· ∈ (S2_1++S2_2)) w0 a1) ao (mor h2.s : ∀ k∈[wb.z],k∈(S2_1++S2_2)∨w0.z≤k):Chg (· ∈ (S2_1++S2_2)) w0 b4),none,0,0,[],none,0,0,[],aX,aY,z,ii z,onL,onL,hi,an.c ao<|k_ al hk.lt s6.s,l_ al hu,nd0,al0⟩
  refine Wk<|Ws<|R z (fd b_d z) ?_
  have a2:=lt_ W.s s6.s;have ap:=lt_ a2 sa.s;have aq:=((hn.e sa).e O).c V<|djs<|mm1 he.lt ap
  refine R z (l1 c_2 z fid<|aq.at z)<|R z (lN (vs:=[vI ro.number,sl ar ns cv,sl aw nx cy]) x_ i_ z z fid<|b2.row 0 3 z)<|E z (fS [(.tmp 37)] c_B z z z (a_b z) (lb z)<|lb z) ?_
  rintro _ au ⟨rfl,av⟩;have hg:=av.below;have bo:=(hp.e O).c V<|ds<|mnr<|a_.lt hp
  have bp:=(hq.e O).c V<|ds<|mnr<|a_.lt hq
  obtain ⟨b7,b8,aL⟩:=bdS<|ifF a9 Y;refine E z (b_0 (α:=Val) c_B b8 z z ((((hf.e sa).e O).c V<|ds<|mno (a_.lt hf) sa.s).e hg) hl (av.blk:Blk au a1.z [vI ro.number,sl ar ns cv,sl aw nx cy]) (e_L (x:=ro) (S1:=ai) (S2:=aj) aZ (((hp.e O).c V<|ds<|mnr<|a_.lt hp).e hg)<|((hq.e O).c V<|ds<|mnr<|a_.lt hq).e hg) (aa_ (b_X (al_ hj) (a_.lt hf) lr)<|b_X (ar_ hj) (a_.lt hf) lr)<|na_ (nl_ hz) (nr_ hz)<|nj hz) ?_;rintro _ b9 ⟨a4,ax,ay,az,rfl,aA,ba,bb,aB⟩;refine R z (fd b_d z) ?_;have aC : ∀ k∈H,k∉[w0.z]:=or1 hd (ds<|mnr<|a_.lt p2_2)<|W_ (b_ he.lt) W.s;refine E0 (fs (cur':=[vI x2.number,sl AE NE CE,sl ax ay az]) e_i z z ((aq.e hg).c aA<|djs aC) z (lb z) (oA z) z) ?_;rintro _ bc ⟨be,bf⟩;have aD:=bf.one;refine Wn<|Wg<|Rm z<|Ra z<|Wn<|Wg<|R z (inc_ a8 (lt_ (repS.len p3_0) P_) z z)<|Rm z<|Wl ?_
  have aE:=lt_ s6.s sa.s;exact fun _ q=>⟨(aV,b7),(som aL).symm,⟨ax,ay,az,a4,q.k<|s7 z z z z z z z,(cM (cM (d_ (cM (d_ (d_ (cM (cr (S2_2++[w0.z]) G) s6 (aa_ (io<|z_ sr)<|io<|B_ sr):Chg (· ∈ (S2_2++[w0.z])) G af) sa:Chg (· ∈ (S2_2++[w0.z])) G wm) O:Chg (· ∈ (S2_2++[w0.z])) G a0) V (mor aE : ∀ k∈[wm.z],k∈(S2_2++[w0.z])∨G.z≤k):Chg (· ∈ (S2_2++[w0.z])) G a1) hg:Chg (· ∈ (S2_2++[w0.z])) G au) aA (or1 hd (io<|z_ sr) (G_ lr) : ∀ k∈H,k∈(S2_2++[w0.z])∨G.z≤k):Chg (· ∈ (S2_2++[w0.z])) G b9) aD (io<|B_ sr):Chg (· ∈ (S2_2++[w0.z])) G bc),b0,ba.c aD (or2 aB aC (aa_ (k_ (al_ hj) he.lt a2)<|k_ (ar_ hj) he.lt a2) (W_ (b_ he.lt)<|lt_ (lt_ (lt_ ap O.s) V.s) hg.s) : ∀ k∈a4,k∉[w0.z]),bb,(or2 aB (or1 hd (io sr) (G_ lr) : ∀ k∈H,k∈S2_2∨G.z≤k) (aa_ (or0 (al_ hj)  (G_ s6.s) : ∀ k∈ai,k∈S2_2∨G.z≤k) (or0 (ar_ hj)  (G_ s6.s) : ∀ k∈aj,k∈S2_2∨G.z≤k)) (G_<|lt_ (lt_ (lt_ aE O.s) V.s) hg.s) : ∀ k∈a4,k∈S2_2∨G.z≤k),be⟩⟩
 ·rintro ⟨xc,xh⟩ _ bg ⟨I,J,L,H,aM,bh,hi,hf,hl,hd,hn⟩;refine Wu ?_ aM;refine Ws<|R z (lss z z)<|Wn<|Wq<|Wc z (fun hc=>(a_i hc).elim) (fun _=>?_)
  exact We<|fun a' ha'=>⟨rfl,⟨I,J,L,H,Sat.weaken ha'<|s3 z z z,(cM (cr (S2_2++[w0.z]) G) bh (aa_ (io<|z_ sr)<|io<|B_ sr):Chg (· ∈ (S2_2++[w0.z])) G bg),hi,hf,hl,(or1 hd (io sr) (G_ lr) : ∀ k∈H,k∈S2_2∨G.z≤k),hn⟩⟩
 ·rintro ⟨xc,xh⟩ bi bj rfl ⟨I,J,L,H,_,a5,hi,hf,hl,hd,hn⟩;have aN:=elL a7;revert bi;refine Wo<|Ws<|R z (lN (vs:=[vI x2.number,sl AE NE CE,sl I J L]) x_ i_ z z fid<|hn.row 0 3 z)<|Rm z ?_
  have aF:=mno (a_.lt p2_2) h2.s;refine E0 (fs (cur':=[vI x2.number,sl AE NE CE,sl I J L]) i_ z z (hk.c a5<|atp<|nmA aF<|mmr he.lt) z (lb z) (oA z) z) ?_;rintro _ bk ⟨bm,bn⟩;have a6:=bn.one;refine Ra z<|Ra z<|Wn ?_
  obtain rfl:=som<|a_F aN;have aG:=lt_ h2.s W.s;exact Wr<|y_ hr (q_ x_ i_ z bm z) z z ⟨(cM (cM (d_ (d_ (cr (S2_1++S2_2) w0) h2:Chg (· ∈ (S2_1++S2_2)) w0 wb) W:Chg (· ∈ (S2_1++S2_2)) w0 G) a5 (aa_ (io<|B_ sr) (mor lr : ∀ k∈[w0.z],k∈(S2_1++S2_2)∨w0.z≤k)):Chg (· ∈ (S2_1++S2_2)) w0 bj) a6 (mor h2.s : ∀ k∈[wb.z],k∈(S2_1++S2_2)∨w0.z≤k):Chg (· ∈ (S2_1++S2_2)) w0 bk),AE,NE,CE,S2_1,I,J,L,H,.nilIface,([]:List Nat),z,p2_0,(((p2_1.e h2).e W).c a5<|nmA (ds p2_2d1)<|ds<|mnr<|a_.lt p2_1).c a6<|ds<|mno (a_.lt p2_1) h2.s,hf.c a6 (or1 hd (ds aF) (W_ (b_ hk.lt) lr) : ∀ k∈H,k∉[wb.z]),hi,d_L,an_,na_ p2_1n hl<|ds<|o1no hd p2_2d1 (a_.lt p2_1) aG,aa_ (io<|z_ sr) (or1 hd (io<|B_ sr) (G_ aG) : ∀ k∈H,k∈(S2_1++S2_2)∨w0.z≤k)⟩
 rintro _ _ _ _ rfl ⟨rfl,aO⟩;have aP:=elR a7;obtain rfl:=som aP;exact ⟨aO,z⟩
theorem T_w1v (ih:e_l n):j_x (h_5 n<|a_a n):=by
 obtain ⟨_,_,al,_,_,_⟩:=ih
 constructor
 intro A0 A5 A2 A3 A1 A4 N0 C0 N5 C5 b1 o1 N2 C2 N3 C3 N1 C1 N4 C4 B x1 x2 x3 res w0 hm hBw p1_0 p1_1 hC1 hC1b p2_0 p2_1 p2_2 p2_4 p2_5 p2_6 p2_7 p3_0;unfold h_5 at hm
 refine goF func229 z z (lb z) fun fn hr=>Ws<|E z (fb z) ?_
 rintro _ H ⟨rfl,hk⟩;have h1:=hk.below;refine E z (fa a_d) ?_;rintro _ am ⟨rfl,hl⟩;have h4:=hl.below;have h2:Blk am H.z [vI 0,sl none 0 0,sl none 0 0]:=hl.blk;refine Ra z<|Ra z<|Wn<|Ws<|Rm z<|R z (fd N_ z) ?_
 have hn:=(hk.blk:Blk H w0.z (vR x2 A2 N2 C2 A3 N3 C3 A1 N1 C1 A4 N4 C4)).e h4;refine R z (l1 C_ z fid<|hn.at z) ?_;obtain ⟨_,an,a8⟩:=bdS hm;have J:=(h1.ag B).e h4;refine RX z (at_ (α:=Int) w_ z_3 z z z (p2_7.g J) an) ?_;rintro _ ⟨_,_,_,rfl,ao,ap,_⟩;obtain ⟨rfl,aq⟩:=Q_ ap;refine R z (l1 g_3 z fid<|ao.at0 z)<|Rm z ?_
 have ho:=(hC1.e h1).e h4;have L:=lt_ h1.s h4.s;obtain ⟨re,ar,_,au,hmm⟩:=p_ a8;refine E z (fc call224 z<|i_1 (B:=B) au (zt' hBw L) (p1_0.g J) (p1_1.g J) ho hC1b aq p3_0) ?_;rintro _ I ⟨G,av,aw,rfl,ax,az,hp,hq⟩;refine Rm z ?_
 iterate 3 refine R z (ext_ z z) ?_
 refine Ra z<|Ra z<|Ra z<|Wn<|Wq<|Ws<|Rm z<|R z (d_h d_k z z hp)<|Wn<|Wc z (fun hcf=>?_) (fun hcf=>?_)
 ·refine Ws<|R z (bP (parts:=[]) (cs:=[vI 0,sl none 0 0,sl none 0 0]) a_3 z z)<|Rm z<|Rm z<|E0 (fs (cur':=[vI 0,sl none 0 0,sl none 0 0]) i_ z z (h2.e G) z (lb z) (oA z) z) ?_
  rintro _ _ ⟨aA,aB⟩;have ht:=aB.one;refine Ra z<|Ra z<|Wn ?_
  obtain rfl:=som<|ifT hmm hcf;exact Wr<|y_ hr (q_ x_ i_ z aA z) z z ⟨bM (bup (bup h1 h4) G) ht<|m1 h1.s,none,0,0,[],none,0,0,[],av,aw,z,ii z,onL,onL,p3_0,hp.c ht<|k_ hq h2.lt lr,l_ hq L,nd0,al0⟩
 refine Wk<|Wq<|Ws<|R z (fd b_1 z) ?_
 have hu:=hn.e G;refine R z (l1 C_ z fid<|hu.at z) ?_;have hv:=J.e G;refine R z (lnR w_ z<|p2_6.g hv)<|Rm z<|Wn ?_
 obtain ⟨_,a9,hmr⟩:=bdS<|ifF hmm hcf;refine Wf (σ:=Unit) (ρ:=Val×Int×(Option<|Int×Int)) (fun (ks:Nat) (_:Unit) a w=>Sat 61 [(0,.pointer<|some ⟨b1,o1,none⟩),(2,vI x3),(4,pt w0.z),(6,pt H.z),(9,vI re),(10,vI ar),(31,sl A1 N1 C1),(32,vI (x2.tags.length:Int)),(33,vI ((ks:Nat):Int))] a∧Below I.z I w) (fun (_:Unit) a w=>Sat 61 [(2,vI x3),(6,pt H.z)] a∧Below I.z I w) (fun r ex a w=>ex = .ret∧L_ prog fn (Q35 w0 B r) a w) a9 ?_ ?_ ?_ ?_ ?_
 ·exact fun _ q=>⟨q.k<|s9 z z z z z z z z z,br I⟩
 ·rintro ks _ _ _ _ hkg ⟨aa,s3⟩ ab;refine Wu ?_ aa;refine Ws<|R z (lss z z)<|Wn<|Wq<|Wc z (fun _=>?_) (fun hc=>(a_h hkg hc).elim)
  refine Wk<|Wq<|Wb<|Ws<|Rm z ?_
  obtain ⟨_,aC,hmw⟩:=bdS ab;have O:=hv.e s3;refine RX z (at_ (α:=Int) w_ z_3 z z z (p2_6.g O) aC) ?_;rintro _ ⟨_,_,_,rfl,aD,aE,_⟩;obtain ⟨rfl,_⟩:=Q_ aE;refine R z (l1 g_3 z fid<|aD.at0 z)<|Ra z<|Ra z<|Wn<|Ws<|Rm z<|Rm z<|R z (eql z z)<|Wn<|Wc z (fun hch=>?_) (fun hch=>?_)
  ·refine Ws<|Rm z<|Rm z<|R z (bP (parts:=[(0,.tmp 42)]) (cs:=[vI re,sl none 0 0,sl none 0 0]) a_3 z z)<|R z (fd N_ z)<|R z (l1 C_ z fid<|(hu.e s3).at z)<|Rm z<|R z (inc_ hkg (lt_ (repS.len p2_6) P_) z z)<|Rm z<|R z (add_ z z) ?_
   obtain ⟨_,aF,ad⟩:=bdS<|ifT hmw hch;refine RX z (rX w_ z_3 z z (p2_7.g O) z z aF) ?_;rintro _ ⟨_,_,_,rfl,aG⟩;refine Rm z ?_;have ha:=lt_ (lt_ L G.s) s3.s;obtain ⟨aH,_,_,aI,ae⟩:=p_ ad;refine E z (fc call228 z<|al.run (B:=B) (x2:=(⟨re,([]:List UInt8),([]:List Val)⟩:Val)) aI (zt' hBw ha) (p1_0.g O) (p1_1.g O) ((ho.e G).e s3) hC1b ax onL J_ an_ onL J_ an_ an_ aG az) ?_;rintro _ _ ⟨sx,ay,nz,V,W,Y,a0,a1,a2,aJ,aK,rfl,aL,aM,aN,aO,aP,a3,hi,hb⟩
   iterate 3 refine R z (ext_ z z) ?_
   refine E0 (fs (cur':=[vI aH.number,sl ay nz V,sl Y a0 a1]) i_ z z (((h2.e G).e s3).c sx<|atp<|nmA (nmN _)<|nmN _) z (lb z) (oA z) z) ?_;rintro _ _ ⟨aQ,aR⟩;have hd:=aR.one;refine Ra z<|Ra z<|Wn ?_
   have hj:=lt_ G.s s3.s;exact Wr<|rtO<|qL (som ae).symm<|y_ hr (q_ x_ i_ z aQ z) z z ⟨bM (bM (bup (bup (bup h1 h4) G) s3) sx al0) hd<|m1 h1.s,ay,nz,V,W,Y,a0,a1,a2,aJ,aK,z,aL,aM.c hd (or1 (al_ hb) al0 (W_ (b_ h2.lt) hj) : ∀ k∈W,k∉[H.z]),aN.c hd (or1 (ar_ hb) al0 (W_ (b_ h2.lt) hj) : ∀ k∈a2,k∉[H.z]),aO,aP.c hd<|k_ a3 h2.lt hj,l_ a3 ha,na_ (nl_ hi) (nr_ hi)<|nj hi,aa_ (a_8 (al_ hb) al0 ha)<|a_8 (ar_ hb) al0 ha⟩
  exact Wk<|Wg<|R z (inc_ hkg (lt_ (repS.len p2_6) P_) z z)<|Rm z<|Wl (fun _ q=>⟨(),(som<|ifF hmw hch).symm,⟨q.k<|s9 z z z z z z z z z,s3⟩⟩)
 ·rintro _ _ _ ⟨af,aS⟩;refine Wu ?_ af;refine Ws<|R z (lss z z)<|Wn<|Wq<|Wc z (fun hc=>(a_i hc).elim) (fun _=>?_)
  exact We<|fun a' ha'=>⟨rfl,⟨Sat.weaken ha'<|s2 z z,aS⟩⟩
 ·rintro _ aT _ rfl ⟨_,sc⟩;have ah:=elL hmr;revert aT;refine Wo<|Ws<|R z (bP (parts:=[]) (cs:=[vI 0,sl none 0 0,sl none 0 0]) a_3 z z)<|Rm z<|Rm z ?_
  have a4:=lt_ (lt_ L G.s) sc.s;obtain ⟨_,aU,ai⟩:=bdS ah;refine E z (fc call233 z<|d_P (B:=B) aU (zt' hBw a4) p3_0<|ii z) ?_;rintro _ _ ⟨a5,aV,aW,rfl,aX,a6⟩;refine E0 (fs (cur':=[vI 0,sl none 0 0,sl none 0 0]) i_ z z (((h2.e G).e sc).e a5) z (lb z) (oA z) z) ?_;rintro _ _ ⟨aY,aZ⟩;have a7:=aZ.one;refine Ra z<|Ra z<|Wn ?_
  obtain rfl:=som ai;exact Wr<|y_ hr (q_ x_ i_ z aY z) z z ⟨bM (bup (bup (bup (bup h1 h4) G) sc) a5) a7<|m1 h1.s,none,0,0,[],none,0,0,[],aV,aW,z,ii z,onL,onL,p3_0,aX.c a7<|k_ a6 h2.lt<|lt_ G.s sc.s,l_ a6 a4,nd0,al0⟩
 rintro _ _ _ _ rfl ⟨rfl,aj⟩;have ak:=elR hmr;obtain rfl:=som ak;exact ⟨aj,z⟩
theorem T_w1w (ih:e_l n):j_y (h_6 n<|a_a n):=by
 obtain ⟨_,_,a1,_,_,_⟩:=ih
 constructor
 intro A0 A5 A2 A3 A1 A4 N0 C0 N5 C5 b1 o1 N2 C2 N3 C3 N1 C1 N4 C4 B x1 x2 x3 res w0 hm hBw p1_0 p1_1 hC1 hC1b p2_0 p2_1 p2_2 p2_4 p2_5 p2_6 p2_7 p3_0;unfold h_6 at hm
 refine goF func230 z z (lb z) fun fn hr=>Ws<|E z (fb z) ?_
 rintro _ H ⟨rfl,hf⟩;have h1:=hf.below;refine E z (fa a_d) ?_;rintro _ a2 ⟨rfl,hg⟩;have h3:=hg.below;have h2:Blk a2 H.z [vI 0,sl none 0 0,sl none 0 0]:=hg.blk;refine Ra z<|Ra z<|Wn<|Ws<|Rm z<|Rm z ?_
 have hh:=(hC1.e h1).e h3;have L:=(h1.ag B).e h3;have h5:=lt_ h1.s h3.s;obtain ⟨_,_,a3,hmi⟩:=a_c hm;refine E z (fc call262 z<|i_0 (B:=B) a3 (zt' hBw h5) (p1_0.g L) (p1_1.g L) hh hC1b p3_0<|ii z) ?_;rintro _ _ ⟨G,_,_,_,a4,a5,rfl,hj,hk,hl⟩;refine Rm z<|R z (ext_ z z)<|R z (ext_ z z)<|Ra z<|Ra z<|Wn<|Wq<|Wb<|Ws<|Rm z<|R z (d_h d_k z z hk)<|Ra z<|Wn<|Wc z (fun hca=>?_) (fun hca=>?_)
 ·refine Ws<|R z (bP (parts:=[]) (cs:=[vI 0,sl none 0 0,sl none 0 0]) a_3 z z)<|Rm z<|Rm z<|E0 (fs (cur':=[vI 0,sl none 0 0,sl none 0 0]) i_ z z (h2.e G) z (lb z) (oA z) z) ?_
  rintro _ _ ⟨a6,a7⟩;have hn:=a7.one;refine Ra z<|Ra z<|Wn ?_
  obtain rfl:=som<|ifT hmi hca;exact Wr<|rtO<|y_ hr (q_ x_ i_ z a6 z) z z ⟨bM (bup (bup h1 h3) G) hn<|m1 h1.s,none,0,0,[],none,0,0,[],a4,a5,z,ii z,onL,onL,p3_0,hk.c hn<|k_ hl h2.lt lr,l_ hl h5,nd0,al0⟩
 refine Ws<|Rm z ?_
 obtain ⟨_,a8,hmm⟩:=bdS<|ifF hmi hca;refine RX z (at_ (α:=UInt8) n_ z_5 z z z hj a8) ?_;rintro _ ⟨_,_,_,rfl,a9,aa,_⟩;obtain rfl:=u8 aa;refine R z (l1 g_5 z fid<|a9.at0 z)<|R z (a_1 z z)<|Ra z<|Wn<|Wc z (fun hcb=>?_) (fun hcb=>?_)
 ·refine Ws<|R z (bP (parts:=[]) (cs:=[vI 0,sl none 0 0,sl none 0 0]) a_3 z z)<|Rm z<|Rm z ?_
  have ho:=lt_ h5 G.s;obtain ⟨_,ab,Y⟩:=bdS<|ifT hmm hcb;refine E z (fc call233 z<|d_P (B:=B) ab (zt' hBw ho) p3_0<|ii z) ?_;rintro _ _ ⟨sp,ad,ae,rfl,af,hq⟩;refine E0 (fs (cur':=[vI 0,sl none 0 0,sl none 0 0]) i_ z z ((h2.e G).e sp) z (lb z) (oA z) z) ?_;rintro _ _ ⟨ah,ai⟩;have ht:=ai.one;refine Ra z<|Ra z<|Wn ?_
  obtain rfl:=som Y;exact Wr<|rtO<|y_ hr (q_ x_ i_ z ah z) z z ⟨bM (bup (bup (bup h1 h3) G) sp) ht<|m1 h1.s,none,0,0,[],none,0,0,[],ad,ae,z,ii z,onL,onL,p3_0,af.c ht<|k_ hq h2.lt G.s,l_ hq ho,nd0,al0⟩
 refine Ws<|Rm z ?_
 obtain ⟨_,aj,hmr⟩:=bdS<|ifF hmm hcb;refine RX z (at_ (α:=UInt8) n_ z_5 z z z hj aj) ?_;rintro _ ⟨_,_,_,rfl,ak,al,_⟩;obtain rfl:=u8 al;refine R z (l1 g_5 z fid<|ak.at0 z)<|R z (eql z z)<|Ra z<|Wn<|Wc z (fun hcc=>?_) (fun hcc=>?_)
 ·refine Ws<|R z (bP (parts:=[]) (cs:=[vI 0,sl none 0 0,sl none 0 0]) a_3 z z)<|Rm z<|R z (add_ z z)<|E0 (fs (cur':=[vI 0,sl none 0 0,sl none 0 0]) i_ z z (h2.e G) z (lb z) (oA z) z) ?_
  rintro _ _ ⟨am,an⟩;refine Ra z<|Ra z<|Wn ?_
  obtain rfl:=som<|ifT hmr hcc;exact Wr<|rtO<|y_ hr (q_ x_ i_ z am z) z z ⟨bM (bup (bup h1 h3) G) an.one<|m1 h1.s,none,0,0,[],none,0,0,[],.nilIface,([]:List Nat),z,ii z,onL,onL,iA _ _,d_L,an_,nd0,al0⟩
 refine Wk<|Ws<|Rm z<|R z (bP (parts:=[]) (cs:=[vI 0,sl none 0 0,sl none 0 0]) a_3 z z)<|R z (fd N_ z)<|R z (l1 C_ z fid<|(((hf.blk:Blk H w0.z (vR x2 A2 N2 C2 A3 N3 C3 A1 N1 C1 A4 N4 C4)).e h3).e G).at z)<|Rm z<|R z (add_ z z) ?_
 have hd:=L.e G;have h6:=lt_ h5 G.s;obtain ⟨ao,_,_,ap,a0⟩:=p_<|ifF hmr hcc;refine E z (fc call228 z<|a1.run (B:=B) (x2:=(⟨0,([]:List UInt8),([]:List Val)⟩:Val)) ap (zt' hBw h6) (p1_0.g hd) (p1_1.g hd) (hh.e G) hC1b (ii z) onL J_ an_ onL J_ an_ an_ (p2_7.g hd)<|iA _ _) ?_;rintro _ _ ⟨ss,au,nv,cw,Sx,ay,nz,O,V,aq,ar,rfl,av,aw,ax,az,aA,W,he,I⟩
 iterate 3 refine R z (ext_ z z) ?_
 refine E0 (fs (cur':=[vI ao.number,sl au nv cw,sl ay nz O]) i_ z z ((h2.e G).c ss<|atp<|nmA (nmN _)<|nmN _) z (lb z) (oA z) z) ?_;rintro _ _ ⟨aB,aC⟩;have J:=aC.one;refine Ra z<|Ra z<|Wn ?_
 obtain rfl:=som a0;exact Wr<|y_ hr (q_ x_ i_ z aB z) z z ⟨bM (bM (bup (bup h1 h3) G) ss al0) J<|m1 h1.s,au,nv,cw,Sx,ay,nz,O,V,aq,ar,z,av,aw.c J (or1 (al_ I) al0 (W_ (b_ h2.lt) G.s) : ∀ k∈Sx,k∉[H.z]),ax.c J (or1 (ar_ I) al0 (W_ (b_ h2.lt) G.s) : ∀ k∈V,k∉[H.z]),az,aA.c J<|k_ W h2.lt G.s,l_ W h6,na_ (nl_ he) (nr_ he)<|nj he,aa_ (a_8 (al_ I) al0 h6)<|a_8 (ar_ I) al0 h6⟩
theorem T_w1x (ih:e_l n):j_z (h_7 n<|a_a n):=by
 obtain ⟨_,_,ak,_,_,_⟩:=ih
 constructor
 intro A0 A5 A2 A3 A1 A4 N0 C0 N5 C5 b1 o1 N2 C2 N3 C3 N1 C1 N4 C4 B x1 x2 x3 res w0 hm hBw p1_0 p1_1 hC1 hC1b p2_0 p2_1 p2_2 p2_4 p2_5 p2_6 p2_7 p3_0;unfold h_7 at hm
 refine goF func231 z z (lb z) fun fn hr=>Ws<|E z (fb z) ?_
 rintro _ wb ⟨rfl,hu⟩;have h6:=hu.below;refine E z (fa a_d) ?_;rintro _ al ⟨rfl,hv⟩;have H:=hv.below;have h3:Blk al wb.z [vI 0,sl none 0 0,sl none 0 0]:=hv.blk;refine Ra z<|Ra z<|Wn<|Ws<|Rm z<|R z (bP (parts:=[]) (cs:=[vI 0,sl none 0 0,sl none 0 0]) a_3 z z)<|R z (fd N_ z)<|R z (l1 C_ z fid<|((hu.blk:Blk wb w0.z (vR x2 A2 N2 C2 A3 N3 C3 A1 N1 C1 A4 N4 C4)).e H).at z)<|Rm z ?_
 have hw:=(hC1.e h6).e H;have hc:=(h6.ag B).e H;have I:=lt_ h6.s H.s;obtain ⟨rk,_,_,am,hmr⟩:=p_ hm;refine E z (fc call228 z<|ak.run (B:=B) (x2:=(⟨0,([]:List UInt8),([]:List Val)⟩:Val)) am (zt' hBw I) (p1_0.g hc) (p1_1.g hc) hw hC1b (ii z) onL J_ an_ onL J_ an_ an_ (p2_7.g hc) p3_0) ?_;rintro _ ws ⟨G,ad,ne,cf,Sx,ah,ng,ci,Sy,an,ao,rfl,ap,hz,O,V,W,Y,hl,hj⟩;refine Rm z ?_
 iterate 3 refine R z (ext_ z z) ?_
 refine E z (fa a_d) ?_;rintro _ aq ⟨rfl,a0⟩;have h1:=a0.below;refine E0 (fs (cur':=[vI rk.number,sl ad ne cf,sl ah ng ci]) i_ z z (a0.blk:Blk aq ws.z [vI 0,sl none 0 0,sl none 0 0]) z (lb z) (oA z) z) ?_;rintro _ _ ⟨ar,au⟩;have h2:=au.one;refine Ra z<|Ra z<|Wn<|Wq<|Ws<|Rm z ?_
 have a1:=(W.e h1).c h2<|ds<|mnr<|a_A.lt W
 refine R z (d_h d_k z z a1)<|Wn<|Wc z (fun hcm=>?_) (fun hcm=>?_)
 ·refine Ws<|R z (bP (parts:=[]) (cs:=[vI 0,sl none 0 0,sl none 0 0]) a_3 z z)<|Rm z<|Rm z<|E0 (fs (cur':=[vI 0,sl none 0 0,sl none 0 0]) i_ z z (((h3.c G<|atp<|nmA (nmN _)<|nmN _).e h1).c h2<|djs<|mm1 h3.lt G.s) z (lb z) (oA z) z) ?_
  rintro _ _ ⟨av,aw⟩;have a2:=aw.one;refine Ra z<|Ra z<|Wn ?_
  obtain rfl:=som<|ifT hmr hcm;exact Wr<|y_ hr (q_ x_ i_ z av z) z z ⟨bM (bM (bup (bM (bup h6 H) G al0) h1) h2<|m1<|lt_ I G.s) a2<|m1 h6.s,none,0,0,[],none,0,0,[],an,ao,z,ii z,onL,onL,p3_0,a1.c a2<|k_ Y h3.lt lr,l_ Y I,nd0,al0⟩
 refine Wk<|Ws<|Rm z<|Rm z ?_
 have ha:=lt_ I G.s;have a3 : ∀ k∈[ws.z],¬ B k:=or0 (b_ lr)  (j_<|zt' hBw ha);have a4:=((hw.c G<|(nmA (c_ an_)<|c_ an_) _ hC1b).e h1).c h2<|(c_ a3) _ hC1b
 have hn:=((hc.c G<|nmA (c_ an_)<|c_ an_).e h1).c h2<|c_ a3
 have ho:=lt_ (lt_ ha h1.s) h2.s;obtain ⟨_,_,ax,J⟩:=a_c<|ifF hmr hcm;refine E z (fc call262 z<|i_0 (B:=B) ax (zt' hBw ho) (p1_0.g hn) (p1_1.g hn) a4 hC1b V<|ii z) ?_;rintro _ _ ⟨s4,_,_,_,ay,az,rfl,aA,a5,a6⟩;refine Rm z<|R z (ext_ z z)<|R z (ext_ z z)<|Ra z<|Ra z<|Wn<|Wq<|Ws<|Rm z<|R z (d_h d_k z z a5)<|Wn<|Wc z (fun hcp=>?_) (fun hcp=>?_)
 ·refine Ws<|R z (bP (parts:=[]) (cs:=[vI 0,sl none 0 0,sl none 0 0]) a_3 z z)<|Rm z<|Rm z<|E0 (fs (cur':=[vI 0,sl none 0 0,sl none 0 0]) i_ z z ((((h3.c G<|atp<|nmA (nmN _)<|nmN _).e h1).c h2<|djs<|mm1 h3.lt G.s).e s4) z (lb z) (oA z) z) ?_
  rintro _ _ ⟨aB,aC⟩;have a7:=aC.one;refine Ra z<|Ra z<|Wn ?_
  obtain rfl:=som<|ifT J hcp;exact Wr<|y_ hr (q_ x_ i_ z aB z) z z ⟨bM (bup (bM (bup (bM (bup h6 H) G al0) h1) h2<|m1 ha) s4) a7<|m1 h6.s,none,0,0,[],none,0,0,[],ay,az,z,ii z,onL,onL,p3_0,a5.c a7<|k_ a6 h3.lt<|lt_ (lt_ G.s h1.s) h2.s,l_ a6 ho,nd0,al0⟩
 refine Wk<|Wq<|Wq (Wd (X:=noX) 0 (.rd 0<|.rd 1<|.rd 2<|.rd 3<|.rd 4<|.rd 5<|.rd 6<|.rd 7<|.rd 8<|.rd 9<|.rd 10<|.ef 11<|.rd 12 .done) mo (by kernel_rfl) fun aR s5 _=>dR z z (mv z) ?_)
 obtain ⟨_,aD,af⟩:=bdS<|ifF J hcp;refine dRX z z (at_ (α:=UInt8) n_ z_5 z z z (aA.e s5) aD) ?_;rintro _ ⟨_,_,_,rfl,aE,aF,_⟩;obtain rfl:=u8 aF;refine dR z z (l1 g_5 z fid<|aE.at0 z)<|dR z z (b_O d_5 d_3 z)<|dR z z (mv z)<|dR z z (T_ z)<|dR z z (fd e_X z)<|dR z z (l1 X_ z fid<|((a4.e s4).e s5).at (j:=1) z)<|dR z z (mv z)<|dR z z (mv z) ?_
 obtain ⟨_,aG,ai⟩:=bdS af;refine dRX z z (rX n_ z_5 z z (p1_1.g<|(hn.e s4).e s5) z z aG) ?_;rintro _ ⟨_,_,_,rfl,aH⟩;have a8:=lt_ (lt_ ho s4.s) s5.s;obtain ⟨_,aI,L⟩:=bdS ai;refine dE z z (fc call263 z<|W_w1k (B:=B) aI (zt' hBw a8) aH) (.inr fun _ _ h=>A_<|h.1) ?_;rintro _ _ ⟨s7,rfl,_⟩;refine dR z z (nq z z)<|pD<|Wo<|Wc z (fun hcq=>?_) (fun hcq=>?_)
 ·refine Ws<|R z (bP (parts:=[]) (cs:=[vI 0,sl none 0 0,sl none 0 0]) a_3 z z)<|Rm z<|Rm z ?_
  have a9:=lt_ a8 s7.s;obtain ⟨_,aJ,aj⟩:=bdS<|ifT L hcq;refine E z (fc call233 z<|d_P (B:=B) aJ (zt' hBw a9) V<|ii z) ?_;rintro _ _ ⟨aa,aK,aL,rfl,aM,ab⟩;refine E0 (fs (cur':=[vI 0,sl none 0 0,sl none 0 0]) i_ z z (((((((h3.c G<|atp<|nmA (nmN _)<|nmN _).e h1).c h2<|djs<|mm1 h3.lt G.s).e s4).e s5).e s7).e aa) z (lb z) (oA z) z) ?_;rintro _ _ ⟨aN,aO⟩;have ae:=aO.one;refine Ra z<|Ra z<|Wn ?_
  obtain rfl:=som aj;exact Wr<|y_ hr (q_ x_ i_ z aN z) z z ⟨bM (bup (bup (bup (bup (bM (bup (bM (bup h6 H) G al0) h1) h2<|m1 ha) s4) s5) s7) aa) ae<|m1 h6.s,none,0,0,[],none,0,0,[],aK,aL,z,ii z,onL,onL,p3_0,aM.c ae<|k_ ab h3.lt<|lt_ (lt_ (lt_ (lt_ (lt_ G.s h1.s) h2.s) s4.s) s5.s) s7.s,l_ ab a9,nd0,al0⟩
 refine Wk<|Ws<|R z (lN (vs:=[vI rk.number,sl ad ne cf,sl ah ng ci]) x_ i_ z z fid<|(((ar.e s4).e s5).e s7).row 0 3 z)<|Rm z<|R z (add_ z z)<|E0 (fs (cur':=[vI rk.number,sl ad ne cf,sl ah ng ci]) i_ z z ((((((h3.c G<|atp<|nmA (nmN _)<|nmN _).e h1).c h2<|djs<|mm1 h3.lt G.s).e s4).e s5).e s7) z (lb z) (oA z) z) ?_
 rintro _ _ ⟨aP,aQ⟩;have ht:=aQ.one;refine Ra z<|Ra z<|Wn ?_
 obtain rfl:=som<|ifF L hcq;exact Wr<|y_ hr (q_ x_ i_ z aP z) z z ⟨bM (bup (bup (bup (bM (bup (bM (bup h6 H) G al0) h1) h2<|m1 ha) s4) s5) s7) ht<|m1 h6.s,ad,ne,cf,Sx,ah,ng,ci,Sy,.nilIface,([]:List Nat),z,ap,(((((hz.e h1).c h2<|ds<|mnr<|a_.lt hz).e s4).e s5).e s7).c ht (or1 (al_ hj) al0 (W_ (b_ h3.lt) lr) : ∀ k∈Sx,k∉[wb.z]),(((((O.e h1).c h2<|ds<|mnr<|a_.lt O).e s4).e s5).e s7).c ht (or1 (ar_ hj) al0 (W_ (b_ h3.lt) lr) : ∀ k∈Sy,k∉[wb.z]),iA _ _,d_L,an_,na_ (nl_ hl) (nr_ hl)<|nj hl,aa_ (a_8 (al_ hj) al0 I)<|a_8 (ar_ hj) al0 I⟩
theorem c_r : ∀ n,e_l n
  | 0=>⟨⟨fun hm=>by intros;exact nomatch (show none=some _ from hm)⟩,⟨fun hm=>by intros;exact nomatch (show none=some _ from hm)⟩,⟨fun hm=>by intros;exact nomatch (show none=some _ from hm)⟩,⟨fun hm=>by intros;exact nomatch (show none=some _ from hm)⟩,⟨fun hm=>by intros;exact nomatch (show none=some _ from hm)⟩,⟨fun hm=>by intros;exact nomatch (show none=some _ from hm)⟩⟩
  | n+1=>⟨T_w03<|c_r n,T_w1t<|c_r n,T_w1u<|c_r n,T_w1v<|c_r n,T_w1w<|c_r n,T_w1x<|c_r n⟩
theorem W_w03:j_u (a_a n).impl_fileReader_value:=(c_r n).1
theorem W_w1t:j_v (a_a n).impl_fileReader_array:=(c_r n).2.1
theorem W_w1u:j_w (a_a n).impl_fileReader_items:=(c_r n).2.2.1
theorem W_w1v:j_x (a_a n).impl_fileReader_choice:=(c_r n).2.2.2.1
theorem W_w1w:j_y (a_a n).impl_fileReader_option:=(c_r n).2.2.2.2.1
theorem W_w1x:j_z (a_a n).impl_fileReader_checked:=(c_r n).2.2.2.2.2

theorem j_A {x1:f_} {x2:Int} {x3:List UInt8} {x4:Int} {res:Val×Int×Int} (hm:h_8 n x1 x2 x3 x4=some res) (hBw:B≤w0.z) (hG:Gl w0 B) (p1_0:repS w0 B (sl A0 N0 C0) x1.rules) (p2_0:inI x2) (p3_0:repS w0 B (sl A7 N7 C7) x3) (p4_0:inI x4):m_ prog 156 [(.agg #[sl A0 N0 C0]),vI x2,sl A7 N7 C7,vI x4] w0 (Q17 w0 B res):=by
 unfold h_8 at hm
 refine goF func156 z z (lb z) fun fn hr=>Ws<|E z (fb z) ?_
 rintro _ wc ⟨rfl,a1⟩;have h1:=a1.below;have a2:Blk wc w0.z [sl A0 N0 C0]:=a1.blk;refine E z (fa a_d) ?_;rintro _ wp ⟨rfl,a3⟩;have h4:=a3.below;have h5:Blk wp wc.z [vI 0,sl none 0 0,sl none 0 0]:=a3.blk;refine Ra z<|Ra z<|Wn<|Wq<|Wq ?_
 obtain ⟨az,ax,O⟩:=bdS hm;refine Wt (fun a w=>∃ (xq:Bool),xq=az∧Sat 62 [(1,vI x2),(2,sl A7 N7 C7),(3,vI x4),(4,pt w0.z),(8,pt wc.z),(34,vB xq)] a∧Below wp.z wp w) ?_ ?_
 ·refine Wg<|R z (lN (vs:=[sl A0 N0 C0]) v_ s_ z z fid<|(a2.e h4).row 0 1 z)<|Rm z ?_
  have a4:=(h1.ag B).e h4;obtain ⟨aA,aB,V⟩:=bdS ax;refine E z (fc call190 z<|W_w1j (B:=B) aB (zt' hBw<|lt_ h1.s h4.s) (p1_0.g a4) p2_0) ?_;rintro _ _ ⟨sd,rfl⟩;refine R z (not_ z)<|Rm z ?_
  rcases bs (!aA) with J | J
  ·exact Nh z J<|Nh z J<|R z (pT z J z)<|Rm z<|Nh z z<|Nh z z<|Nh z z<|Nh z z<|R z (pT z z z)<|Rm z<|Nh z z<|Nh z z<|Nh z z<|R z (pT z z z)<|Wl (fun _ q=>⟨true,som<|ifT V J,q.k<|s6 z z z z z z,sd⟩)
  have W:=ifF V J;refine Rh z J (mv z)<|Rh z J (lss z z)<|R z (pF z J z)<|Rm z ?_
  rcases bs (decide<|x4<0) with H | H
  ·iterate 4 refine Nh z H ?_
   exact R z (pT z H z)<|Rm z<|Nh z z<|Nh z z<|Nh z z<|R z (pT z z z)<|Wl (fun _ q=>⟨true,som<|ifT W H,q.k<|s6 z z z z z z,sd⟩)
  have Y:=ifF W H;refine Rh z H (mv z)<|Rh z H (mv z) ?_
  have a5:=p3_0.g<|a4.e sd
  refine Rh z H (lnR n_ z a5)<|Rh z H (a_1 z z)<|R z (pF z H z)<|Rm z ?_
  rcases bs (decide<|(x3.length:Int)<x4) with L | L
  ·iterate 3 refine Nh z L ?_
   exact R z (pT z L z)<|Wl (fun _ q=>⟨true,som<|ifT Y L,q.k<|s6 z z z z z z,sd⟩)
  exact Rh z L (mv z)<|Rh z L (lnR n_ z a5)<|Rh z L (a_1 z z)<|R z (pF z L z)<|Wl (fun _ q=>⟨decide<|400<(x3.length:Int),som<|ifF Y L,q.k<|s6 z z z z z z,sd⟩)
 rintro aC aD ⟨xq,rfl,_,G⟩;revert aC;refine Wo<|Wc z (fun hcr=>?_) (fun hcr=>?_)
 ·refine Ws<|R z (bP (parts:=[]) (cs:=[vI 0,sl none 0 0,sl none 0 0]) a_3 z z)<|E0 (fs (cur':=[vI 0,sl none 0 0,sl none 0 0]) i_ z z (h5.e G) z (lb z) (oA z) z) ?_
  rintro _ _ ⟨aE,aF⟩;refine Ra z<|Ra z<|Wn ?_
  obtain rfl:=som<|ifT O hcr;exact Wr<|y_ hr (q_ x_ i_ z aE z) z z ⟨bM (bup (bup h1 h4) G) aF.one<|m1 h1.s,none,0,0,[],none,0,0,[],z,ii z,onL,onL,ii z,ii z,nd0,al0⟩
 refine Wk<|Ws<|R z (lN (vs:=[sl A0 N0 C0]) v_ s_ z z fid<|((a2.e h4).e G).row 0 1 z)<|Rm z<|R z (bP (parts:=[(0,.tmp 36),(1,.tmp 37)]) (cs:=[sl A0 N0 C0,sl A7 N7 C7]) o_2 z z)<|E z (fb z) ?_
 rintro _ a6 ⟨rfl,a7⟩;have ha:=a7.below;have a8:Blk a6 aD.z [sl A0 N0 C0,sl A7 N7 C7]:=a7.blk;refine Ra z<|Wn<|Ws<|Rm z<|Rm z<|Rm z ?_
 have a9:=(((h1.ag B).e h4).e G).e ha;have he:=lt_ (lt_ (lt_ h1.s h4.s) G.s) ha.s;have aa:=zt' hBw he;obtain ⟨rs,_,aG,aH,a0⟩:=p_<|ifF O hcr;refine E z (fc call191 z<|W_w03.run (B:=a6.z) aH zr (repS.mono (p1_0.g a9) aa) (repS.mono (p3_0.g a9) aa) (a8.row 0 2 z) a8.lt p2_0 p4_0) ?_;rintro _ ab ⟨sb,ah,ng,ci,aI,aj,nk,cl,aJ,_,_,rfl,aK,ad,ae,aL,ht,aM,hu,hn⟩;refine Rm z ?_
 iterate 3 refine R z (ext_ z z) ?_
 refine E z (fa a_d) ?_;rintro _ aN ⟨rfl,af⟩;have h2:=af.below;refine E0 (fs (cur':=[vI rs.number,sl ah ng ci,sl aj nk cl]) i_ z z (af.blk:Blk aN ab.z [vI 0,sl none 0 0,sl none 0 0]) z (lb z) (oA z) z) ?_;rintro _ ai ⟨aO,aP⟩;have h3:=aP.one;refine Ra z<|Ra z<|Wn<|Ws<|E z (fa o_9) ?_
 rintro _ aQ ⟨rfl,ak⟩;have I:=ak.below;have al:Blk aQ ai.z [(.pointer none)]:=ak.blk;refine Wn<|Wq<|Ws<|Rm z<|R z (l_e d_228 (fun _ h=>by cases h) z) ?_
 have am:=((ht.e h2).c h3<|ds<|mnr<|a_A.lt ht).e I
 rcases bs (aG.isSome) with hcm | hcm
 ·obtain ⟨_,_,aR,ay⟩:=a_c<|ifT a0 hcm;have hv:=lt_ he sb.s;refine E z (fc call192 z<|n_Z ((((((((hG.e h1).e h4).e G).e ha).e sb).e h2).c h3<|c_ (or0 (b_ lr)  (j_<|zt' hBw hv) : ∀ k∈[ab.z],¬ B k)).e I) am aR al) ?_;rintro _ _ ⟨an,rfl,aS,aT,aU,ao,aV,aW⟩;have hw:=aS.one;refine Wn<|Wc z (fun _=>?_) (fun hc=>(bcon z hc).elim)
  refine Wq<|Wd (X:=(· ∈ [wc.z])) 0 (.rd 0<|.rd 1<|.rd 2<|.rd 3<|.rd 4<|.rd 5<|.rd 6<|.rd 7<|.rd 8<|.ef 9<|.rd 10<|.rd 11 .done) mo (by kernel_rfl) fun b1 so _=>dR z z (bP (parts:=[]) (cs:=[vI 0,sl none 0 0,sl none 0 0]) a_3 z z) ?_;have ap:=aT.e so;have aq:=lt_ G.s ha.s;have ar:=lt_ aq sb.s;have au:=lt_ (lt_ ar h2.s) h3.s;have hx:=mm1 h5.lt au;refine dR z z (l1 g_226 z (atp hx)<|ap.at z)<|dR z z (T_ z)<|dR z z (fd o_7 z) ?_
  have av:=(aU.c hw<|atp (or1 (b_<|.inl ao) (ds<|mno (a_A.lt ht)<|lt_ h2.s h3.s) (W_ (b_ al.lt) lr) : ∀ k∈[an],k∉[ai.z])).e so;have aw : ∀ k∈[an],k∉[wc.z]:=or1 (b_<|.inl ao) (k_ aM h5.lt aq)<|W_ (b_ h5.lt)<|lt_ au I.s;refine dR z z (l1 g_3 z (atp aw)<|av.at z)<|dR z z (l1 g_226 z (atp hx)<|ap.at z)<|dR z z (T_ z)<|dR z z (fd o_8 z)<|dR z z (l1 g_3 z (atp aw)<|av.at z)<|dE0 z (fs (cur':=[vI 0,sl none 0 0,sl none 0 0]) i_ z z ((((((((h5.e G).e ha).e sb).e h2).c h3<|djs<|mm1 h5.lt ar).e I).c hw<|djs hx).e so) z (lb z) (oA z) z) (.inr fun _ _ h=>chgIn (List.mem_singleton.2 z) h.2) ?_
  rintro _ _ ⟨aX,aY⟩;refine dR z z (asg z)<|dR z z (asg z)<|pD<|Wo ?_
  obtain rfl:=som ay;exact Wr<|y_ hr (q_ x_ i_ z aX z) z z ⟨bM (bup (bM (bup (bM (bup (bup (bup (bup (bup h1 h4) G) ha) sb) h2) h3<|m1 hv) I) hw<|m1<|lt_ (lt_ hv h2.s) h3.s) so) aY.one<|m1 h1.s,none,0,0,[],none,0,0,[],z,ii z,onL,onL,aV,aW,nd0,al0⟩
 refine E z (fc call192 z<|n_Y am hcm) ?_;rintro _ _ ⟨rfl,sf⟩;refine Wn<|Wc z (fun hc=>(bcon hc z).elim) (fun _=>?_)
 refine Wk<|Ws<|R z (lN (vs:=[vI rs.number,sl ah ng ci,sl aj nk cl]) x_ i_ z z fid<|((aO.e I).e sf).row 0 3 z)<|Rm z ?_
 have hy:=lt_ G.s ha.s;refine E0 (fs (cur':=[vI rs.number,sl ah ng ci,sl aj nk cl]) i_ z z (((((((h5.e G).e ha).e sb).e h2).c h3<|djs<|mm1 h5.lt<|lt_ hy sb.s).e I).e sf) z (lb z) (oA z) z) ?_;rintro _ _ ⟨aZ,b0⟩;have hz:=b0.one;refine Ra z<|Ra z<|Wn ?_
 obtain rfl:=som<|ifF a0 hcm;exact Wr<|y_ hr (q_ x_ i_ z aZ z) z z ⟨bM (bup (bup (bM (bup (bup (bup (bup (bup h1 h4) G) ha) sb) h2) h3<|m1<|lt_ he sb.s) I) sf) hz<|m1 h1.s,ah,ng,ci,aI,aj,nk,cl,aJ,z,aK,((((ad.e h2).c h3<|ds<|mnr<|a_.lt ad).e I).e sf).c hz<|k_ (al_ hn) h5.lt hy,((((ae.e h2).c h3<|ds<|mnr<|a_.lt ae).e I).e sf).c hz<|k_ (ar_ hn) h5.lt hy,aL,ii z,na_ (nl_ hu) (nr_ hu)<|nj hu,aa_ (l_ (al_ hn) he)<|l_ (ar_ hn) he⟩
theorem W_w32 {x1:f_} {x2:List UInt8} {res:Val×Int×Int} (hm:h_9 n x1 x2=some res) (hBw:B≤w0.z) (hG:Gl w0 B) (p1_0:repS w0 B (sl A0 N0 C0) x1.rules) (p2_0:repS w0 B (sl A6 N6 C6) x2):m_ prog 94 [(.agg #[sl A0 N0 C0]),sl A6 N6 C6] w0 (Q17 w0 B res):=by
 unfold h_9 at hm
 refine goF func94 z z (lb z) fun fn hr=>Ws<|E z (fb z) ?_
 rintro _ wn ⟨rfl,al⟩;have h2:=al.below;have hv:Blk wn w0.z [sl A0 N0 C0]:=al.blk;refine E z (fa a_d) ?_;rintro _ I ⟨rfl,am⟩;have h1:=am.below;have ho:Blk I wn.z [vI 0,sl none 0 0,sl none 0 0]:=am.blk;refine Ra z<|Ra z<|Wn<|Wq ?_
 obtain ⟨bj,af,be⟩:=bdS hm;refine Wt (fun a w=>∃ (xb:Int) (xw:List UInt8) (xx:List Val) (xc:Int) (xd:Int),(xb,xw,xx,xc,xd)=bj ∧ ∃ ae nf cg J ah ni cj L O,Sat 32 [(1,sl A6 N6 C6),(4,pt wn.z),(7,pt O),(8,vI xc),(9,vI xd)] a∧Below I.z I w∧inI xb∧a_ w J (sl ae nf cg) xw∧J.Nodup∧(∀ k∈J,I.z≤k)∧a_ w L (sl ah ni cj) xx∧L.Nodup∧(∀ k∈L,I.z≤k)∧(∀ k∈L,k∉J)∧inI xc∧inI xd∧Blk w O [vI xb,sl ae nf cg,sl ah ni cj]∧I.z≤O∧(∀ k∈J,k∉[O])∧(∀ k∈L,k∉[O])) ?_ ?_
 ·refine Wd (X:=fun k=>k∈([]:List Nat)∨I.z≤k) 0 (.rd 0<|.rd 1<|.rd 3<|.br 2 (.br 4 (.rd 5<|.rd 6<|.rd 7<|.rd 8<|.ef 9<|.ef 10<|.rd 11<|.rd 12 .done) 9<|.ef 4<|.rd 5<|.rd 6<|.rd 7<|.rd 8<|.ef 10<|.rd 11<|.rd 12 .done) 9<|.ef 2<|.ef 4<|.rd 5<|.rd 6<|.rd 7<|.rd 8<|.ef 10<|.rd 11<|.rd 12 .done) mo (by kernel_rfl) fun an G _=>?_
  have ao:=(hv.e h1).e G;refine dR z z (lN (vs:=[sl A0 N0 C0]) v_ s_ z z (a_B nm0<|Nat.lt_of_lt_of_le hv.lt h1.s)<|ao.row 0 1 z)<|dR z z (lN (vs:=[sl A0 N0 C0]) v_ s_ z z (a_B nm0<|Nat.lt_of_lt_of_le hv.lt h1.s)<|ao.row 0 1 z)<|dR z z (mv z)<|e_M ?_ ?_
  ·have hy:=((h2.ag B).e h1).e G;have hz:=lt_ (lt_ h2.s h1.s) G.s;obtain ⟨_,bk,ai⟩:=bdS af;refine dE z z (fc call96 z<|j_n (B:=B) bk (zt' hBw hz)<|p1_0.g hy) (.inr fun _ _ h=>A_<|h.1) ?_;rintro _ ap ⟨s3,rfl,aq⟩;refine e_M ?_ ?_
   ·have ar:=hy.e s3;obtain ⟨rp,bm,bn,bo,bf⟩:=p_ ai;refine dE z z (fc call156 z<|j_A (B:=B) bo (zt' hBw<|lt_ hz s3.s) ((((hG.e h2).e h1).e G).e s3) (p1_0.g ar) aq (p2_0.g ar)<|ii z) (.inr fun _ _ h=>A_<|h.1) ?_;rintro _ au ⟨av,aw,ax,ay,bp,az,aA,aB,bq,rfl,bt,aC,aD,bu,bv,W,aE⟩;refine dR z z (mv z) ?_
    iterate 3 refine dR z z (ext_ z z) ?_
    refine dE z z (fa a_d) (.inr fun _ _ h=>A_<|h.2.below) ?_;rintro _ bw ⟨rfl,aF⟩;have Y:=aF.below;have a0:=lt_ G.s s3.s;have a1:=m1<|lt_ a0 av.s
    refine dE0 z (fs (cur':=[vI rp.number,sl aw ax ay,sl az aA aB]) i_ z z (aF.blk:Blk bw au.z [vI 0,sl none 0 0,sl none 0 0]) z (lb z) (oA z) z) (.inr fun _ _ h=>d_g (atp a1) h.2) ?_;rintro _ _ ⟨bx,bz⟩;have a2:=bz.one;refine dR z z (asg z)<|dR z z (asg z)<|pD ?_
    have aG:=mnr<|a_.lt aC
    have aH:=mnr<|a_.lt aD
    exact fun _ q=>⟨rp.number,rp.bytes,rp.items,bm,bn,som bf,aw,ax,ay,bp,az,aA,aB,bq,au.z,q.k<|s5 z z z z z,bM (bup (bup (bup G s3) av) Y) a2 a1,bt,(aC.e Y).c a2<|ds aG,nl_ W,l_ (al_ aE) a0,(aD.e Y).c a2<|ds aH,nr_ W,l_ (ar_ aE) a0,ds<|nj W,bu,bv,bx,atp a1,ds aG,ds aH⟩
   refine dE z z (fa a_d) (.inr fun _ _ h=>A_<|h.2.below) ?_;rintro _ bA ⟨rfl,aI⟩;have hk:=aI.below;have a3:Blk bA ap.z [vI 0,sl none 0 0,sl none 0 0]:=aI.blk;have aJ:=(hy.e s3).e hk;obtain ⟨rq,bB,bC,bD,bg⟩:=p_ ai;refine dE z z (fc call156 z<|j_A (B:=B) bD (zt' hBw<|lt_ (lt_ hz s3.s) hk.s) (((((hG.e h2).e h1).e G).e s3).e hk) (p1_0.g aJ) aq (p2_0.g aJ)<|ii z) (.inr fun _ _ h=>A_<|h.1) ?_;rintro _ _ ⟨aK,aL,aM,aN,bE,aO,aP,aQ,bF,rfl,bG,bH,bI,bJ,bK,a4,ht⟩;refine dR z z (mv z) ?_
   iterate 3 refine dR z z (ext_ z z) ?_
   have aR:=lt_ G.s s3.s;have a5:=m1 aR;refine dE0 z (fs (cur':=[vI rq.number,sl aL aM aN,sl aO aP aQ]) i_ z z (a3.e aK) z (lb z) (oA z) z) (.inr fun _ _ h=>d_g (atp a5) h.2) ?_;rintro _ _ ⟨bL,bN⟩;have a6:=bN.one;refine dR z z (asg z)<|dR z z (asg z)<|pD ?_
   have aS:=k_ (al_ ht) a3.lt lr;have aT:=lt_ aR hk.s;have aU:=k_ (ar_ ht) a3.lt lr;exact fun _ q=>⟨rq.number,rq.bytes,rq.items,bB,bC,som bg,aL,aM,aN,bE,aO,aP,aQ,bF,ap.z,q.k<|s5 z z z z z,bM (bup (bup (bup G s3) hk) aK) a6 a5,bG,bH.c a6 aS,nl_ a4,l_ (al_ ht) aT,bI.c a6 aU,nr_ a4,l_ (ar_ ht) aT,ds<|nj a4,bJ,bK,bL,atp a5,aS,aU⟩
  refine dE z z (fa a_d) (.inr fun _ _ h=>A_<|h.2.below) ?_;rintro _ bO ⟨rfl,aV⟩;have hl:=aV.below;have a7:Blk bO an.z [vI 0,sl none 0 0,sl none 0 0]:=aV.blk;have aW:=(((h2.ag B).e h1).e G).e hl;have aX:=lt_ (lt_ (lt_ h2.s h1.s) G.s) hl.s;obtain ⟨_,bQ,bh⟩:=bdS af;refine dE z z (fc call96 z<|j_n (B:=B) bQ (zt' hBw aX)<|p1_0.g aW) (.inr fun _ _ h=>A_<|h.1) ?_;rintro _ _ ⟨s6,rfl,bR⟩;have aY:=aW.e s6;obtain ⟨rr,bS,bT,bU,bi⟩:=p_ bh;refine dE z z (fc call156 z<|j_A (B:=B) bU (zt' hBw<|lt_ aX s6.s) (((((hG.e h2).e h1).e G).e hl).e s6) (p1_0.g aY) bR (p2_0.g aY)<|ii z) (.inr fun _ _ h=>A_<|h.1) ?_;rintro _ _ ⟨aZ,b0,b1,b2,bV,b3,b4,b5,bW,rfl,bX,bY,bZ,c0,c1,a8,hu⟩;refine dR z z (mv z) ?_
  iterate 3 refine dR z z (ext_ z z) ?_
  have a9:=m1 G.s;refine dE0 z (fs (cur':=[vI rr.number,sl b0 b1 b2,sl b3 b4 b5]) i_ z z ((a7.e s6).e aZ) z (lb z) (oA z) z) (.inr fun _ _ h=>d_g (atp a9) h.2) ?_;rintro _ _ ⟨c2,c3⟩;have aa:=c3.one;refine dR z z (asg z)<|dR z z (asg z)<|pD ?_
  have b6:=k_ (al_ hu) a7.lt s6.s;have b7:=lt_ (lt_ G.s hl.s) s6.s;have b8:=k_ (ar_ hu) a7.lt s6.s;exact fun _ q=>⟨rr.number,rr.bytes,rr.items,bS,bT,som bi,b0,b1,b2,bV,b3,b4,b5,bW,an.z,q.k<|s5 z z z z z,bM (bup (bup (bup G hl) s6) aZ) aa a9,bX,bY.c aa b6,nl_ a8,l_ (al_ hu) b7,bZ.c aa b8,nr_ a8,l_ (ar_ hu) b7,ds<|nj a8,c0,c1,c2,atp a9,b6,b8⟩
 rintro c4 ws ⟨xb,xw,xx,xc,xd,rfl,ae,nf,cg,J,ah,ni,cj,L,O,_,sm,c5,c6,c7,b9,c8,c9,ba,ca,bb,cb,cc,_,_,_⟩;revert c4;refine Wo<|Wq<|Wq ?_
 obtain ⟨cd,aj,ak⟩:=bdS<|c_z be;refine Wt (fun a w=>∃ (ab:Bool),ab=cd∧Sat 32 [(4,pt wn.z),(7,pt O),(8,vI xc),(9,vI xd),(26,vB ab)] a∧Below ws.z ws w) ?_ ?_
 ·refine Wg<|Rm z<|R z (eql z z)<|Rm z ?_
  rcases bs (xd==0) with H | H
  ·exact Rh z H (mv z)<|Rh z H (mv z)<|Rh z H (lnR n_ z<|p2_0.g<|((h2.ag B).e h1).e sm)<|Rh z H (lss z z)<|R z (pT z H z)<|Wl (fun _ q=>⟨decide<|xc<(x2.length:Int),som<|ifT aj H,q.k<|s5 z z z z z,br ws⟩)
  iterate 4 refine Nh z H ?_
  exact R z (pF z H z)<|Wl (fun _ q=>⟨false,som<|ifF aj H,q.k<|s5 z z z z z,br ws⟩)
 rintro ce _ ⟨ab,rfl,_,sa⟩;revert ce;refine Wo<|Wc z (fun V=>?_) (fun V=>?_)
 ·refine Ws<|R z (bP (parts:=[]) (cs:=[vI 0,sl none 0 0,sl none 0 0]) a_3 z z)<|Rm z<|E0 (fs (cur':=[vI 0,sl none 0 0,sl none 0 0]) i_ z z ((ho.e sm).e sa) z (lb z) (oA z) z) ?_
  rintro _ _ ⟨cf,ch⟩;refine Ra z<|Ra z<|Wn ?_
  obtain rfl:=som<|ifT ak V;exact Wr<|y_ hr (q_ x_ i_ z cf z) z z ⟨bM (bup (bup (bup h2 h1) sm) sa) ch.one<|m1 h2.s,none,0,0,[],none,0,0,[],z,ii z,onL,onL,bb,ii z,nd0,al0⟩
 refine Wk<|Ws<|R z (lN (vs:=[vI xb,sl ae nf cg,sl ah ni cj]) x_ i_ z z fid<|(cc.e sa).row 0 3 z)<|Rm z<|Rm z<|E0 (fs (cur':=[vI xb,sl ae nf cg,sl ah ni cj]) i_ z z ((ho.e sm).e sa) z (lb z) (oA z) z) ?_
 rintro _ _ ⟨ci,ck⟩;have ad:=ck.one;refine Ra z<|Ra z<|Wn ?_
 obtain rfl:=som<|ifF ak V;have bc:=lt_ h2.s h1.s;exact Wr<|y_ hr (q_ x_ i_ z ci z) z z ⟨bM (bup (bup (bup h2 h1) sm) sa) ad<|m1 h2.s,ae,nf,cg,J,ah,ni,cj,L,z,c5,(c6.e sa).c ad<|k_ b9 ho.lt lr,(c8.e sa).c ad<|k_ ba ho.lt lr,bb,cb,na_ c7 c9<|ds ca,aa_ (l_ b9 bc)<|l_ ba bc⟩
theorem W_w33 {x1:f_} {x2:List UInt8} {res:Bool} (hm:h_a n x1 x2=some res) (hBw:B≤w0.z) (hG:Gl w0 B) (p1_0:repS w0 B (sl A0 N0 C0) x1.rules) (p2_0:repS w0 B (sl A6 N6 C6) x2):m_ prog 61 [(.agg #[sl A0 N0 C0]),sl A6 N6 C6] w0 (Q0 w0 B res):=by
 unfold h_a at hm
 refine goF func61 z z (lb z) fun fn hr=>Ws<|E z (fb z) ?_
 rintro _ I ⟨rfl,h1⟩;have G:=h1.below;refine Ra z<|Wn<|Ws<|R z (lN (vs:=[sl A0 N0 C0]) v_ s_ z z fid<|(h1.blk:Blk I w0.z [sl A0 N0 C0]).row 0 1 z)<|Rm z ?_
 obtain ⟨J,_,_,L,H⟩:=p_ hm;refine E z (fc call94 z<|W_w32 (B:=B) L (zt' hBw G.s) (hG.e G) (p1_0.e G)<|p2_0.e G) ?_;rintro _ O ⟨s2,aa,nb,cc,_,ad,ne,cf,_,rfl,_,_,_,_,_,_,_⟩;refine Rm z ?_
 iterate 3 refine R z (ext_ z z) ?_
 refine E z (fa a_d) ?_;rintro _ wg ⟨rfl,h3⟩;refine E0 (fs (cur':=[vI J.number,sl aa nb cc,sl ad ne cf]) i_ z z (h3.blk:Blk wg O.z [vI 0,sl none 0 0,sl none 0 0]) z (lb z) (oA z) z) ?_;rintro _ _ ⟨_,si⟩;refine Ra z<|Ra z<|Wn<|Ws<|Rm z<|R z (eql z z)<|Ra z<|Wn ?_
 obtain rfl:=som H;exact Wr<|h_ hr z ⟨bM (bup (bup G s2) h3.below) si.one<|m1<|lt_ G.s s2.s,z⟩
theorem W_w34 {x1:List UInt8} {x2:K_} {res:(List UInt8)} (hm:h_b x1 x2=some res) (hBw:B≤w0.z) (p1_0:repS w0 B (sl A0 N0 C0) x1) (p2_0:x2.path.b.length≤LEN) (p2_1:inI x2.rule) (p2_2:inI x2.start) (Y:inI x2.end_):m_ prog 42 [sl A0 N0 C0,(.agg #[Str.v x2.path,vI x2.rule,vI x2.start,vI x2.end_])] w0 (Q11 w0 B res):=by
 unfold h_b at hm
 refine goF func42 z z (lb z) fun fn hr=>Ws<|E z (fb z) ?_
 rintro _ I ⟨rfl,O⟩;have h3:=O.below;have h5:Blk I w0.z [Str.v x2.path,vI x2.rule,vI x2.start,vI x2.end_]:=O.blk;refine Ra z<|Wn<|Wq<|Wq ?_
 obtain ⟨ug,hua,hmb⟩:=bdS hm;refine Wt (fun a w=>∃ (L:Bool),L=ug∧Sat 31 [(0,sl A0 N0 C0),(3,pt w0.z),(21,vB L)] a∧Below I.z I w) ?_ ?_
 ·refine Wg<|R z (fd b_D z)<|R z (l1 g_3 z fid<|h5.at z)<|R z (lss z z)<|Rm z ?_
  rcases bs (decide<|x2.start<0) with G | G
  ·iterate 5 refine Nh z G ?_
   exact R z (pT z G z)<|Rm z<|Nh z z<|Nh z z<|Nh z z<|Nh z z<|Nh z z<|R z (pT z z z)<|Wl (fun _ q=>⟨true,som<|ifT hua G,q.k<|s3 z z z,br I⟩)
  have hmc:=ifF hua G;refine Rh z G (fd b_D z)<|Rh z G (l1 g_3 z fid<|h5.at z)<|Rh z G (fd c_p z)<|Rh z G (l1 g_3 z fid<|h5.at z)<|Rh z G (a_1 z z)<|R z (pF z G z)<|Rm z ?_
  rcases bs (decide<|x2.end_<x2.start) with H | H
  ·iterate 5 refine Nh z H ?_
   exact R z (pT z H z)<|Wl (fun _ q=>⟨true,som<|ifT hmc H,q.k<|s3 z z z,br I⟩)
  exact Rh z H (fd c_p z)<|Rh z H (l1 g_3 z fid<|h5.at z)<|Rh z H (mv z)<|Rh z H (lnR n_ z<|p1_0.e h3)<|Rh z H (a_1 z z)<|R z (pF z H z)<|Wl (fun _ q=>⟨decide<|(x1.length:Int)<x2.end_,som<|ifF hmc H,q.k<|s3 z z z,br I⟩)
 rintro ah wi ⟨L,rfl,_,s4⟩;revert ah;refine Wo<|Wc z (fun J=>?_) (fun J=>?_)
 ·refine Ws<|E z (f0 (α:=UInt8) R_) ?_
  rintro _ _ ⟨aj,nk,cl,rfl,sm,hn⟩;refine Ra z<|Wn ?_
  obtain rfl:=som<|ifT hmb J;exact Wr<|h_ hr z ⟨bup (bup h3 s4) sm,aj,nk,cl,[wi.z],z,hn,a_o,m1<|lt_ h3.s s4.s⟩
 refine Wk<|Ws<|E z (f0 (α:=UInt8) R_) ?_
 rintro _ _ ⟨_,_,_,rfl,s6,ho⟩;refine Rm z<|R z (fd b_D z) ?_
 have hd:=(h5.e s4).e s6;refine R z (l1 g_3 z fid<|hd.at z)<|R z (fd c_p z)<|R z (l1 g_3 z fid<|hd.at z) ?_
 obtain ⟨_,ep,hmq⟩:=bdS<|ifF hmb J;refine RX z (rX n_ z_5 z z (p1_0.g<|((h3.ag B).e s4).e s6) z z ep) ?_;rintro _ ⟨_,_,_,rfl,ht⟩;obtain ⟨_,er,hms⟩:=bdS hmq;refine E z (fN (α:=UInt8) R_ er z z ho a_o ht) ?_;rintro _ _ ⟨Su,av,nw,cx,rfl,sy,hz,V,W⟩;refine Ra z<|Wn ?_
 obtain rfl:=som hms;have he:=lt_ h3.s s4.s;have hf:=m1 he;exact Wr<|h_ hr z ⟨bM (bup (bup h3 s4) s6) sy hf,av,nw,cx,Su,z,hz,V,a_8 W hf<|lt_ he s6.s⟩
theorem W_w35 {x1:List UInt8} {x2:List UInt8} {res:Bool} (hm:k_p x1 x2=some res) (hBw:B≤w0.z) (p1_0:repS w0 B (sl A0 N0 C0) x1) (p2_0:repS w0 B (sl A6 N6 C6) x2):m_ prog 119 [sl A0 N0 C0,sl A6 N6 C6] w0 (Q0 w0 B res):=by
 unfold k_p at hm
 refine goF func119 z z (lb z) fun fn hr=>Ws<|Ra z<|Wn<|Ws<|Rm z<|R z (i_X n_ d_9 d_5 z_5 z p1_0)<|Rm z<|R z (i_X n_ d_9 d_5 z_5 z p2_0)<|R z (b_j z z)<|Ra z<|Wn ?_
 obtain rfl:=som hm;exact Wr<|h_ hr z ⟨br w0,z⟩
theorem W_w36 {x1:List UInt8} {x2:List UInt8} {res:Bool} (hm:i_L x1 x2=some res) (hBw:B≤w0.z) (p1_0:repS w0 B (sl A0 N0 C0) x1) (p2_0:repS w0 B (sl A6 N6 C6) x2):m_ prog 62 [sl A0 N0 C0,sl A6 N6 C6] w0 (Q0 w0 B res):=by
 unfold i_L at hm
 refine goF func62 z z (lb z) fun fn hr=>Ws<|Ra z<|Wn<|Ws<|Rm z<|Rm z ?_
 obtain ⟨_,H,G⟩:=bdS hm;refine E z (fc call119 z<|W_w35 (B:=B) H hBw p1_0 p2_0) ?_;rintro _ _ ⟨s2,rfl⟩;refine Ra z<|Wn ?_
 obtain rfl:=som G;exact Wr<|h_ hr z ⟨s2,z⟩
theorem W_w37 {x1:f_} {x2:List UInt8} {x3:Str} {x4:List UInt8} {res:(List UInt8)×Bool} (hm:h_c n x1 x2 x3 x4=some res) (hBw:B≤w0.z) (hG:Gl w0 B) (p1_0:repS w0 B (sl A0 N0 C0) x1.rules) (p2_0:repS w0 B (sl A6 N6 C6) x2) (p3_0:x3.b.length≤LEN) (p4_0:repS w0 B (sl AF NF CF) x4):m_ prog 11 [(.agg #[sl A0 N0 C0]),sl A6 N6 C6,Str.v x3,sl AF NF CF] w0 (Q30 w0 B res):=by
 unfold h_c at hm
 refine goF func11 z z (lb z) fun fn hr=>Ws<|E z (fb z) ?_
 rintro _ ao ⟨rfl,hx⟩;have h2:=hx.below;have hd:Blk ao w0.z [sl A0 N0 C0]:=hx.blk;refine Ra z<|Ra z<|Wn<|Wq<|Ws<|R z (lN (vs:=[sl A0 N0 C0]) v_ s_ z z fid<|hd.row 0 1 z)<|Rm z<|Rm z ?_
 obtain ⟨re,_,ap,af⟩:=a_c hm;refine E z (fc call59 z<|W_w1r (B:=B) ap (zt' hBw h2.s) (p1_0.e h2) (p2_0.e h2) p3_0) ?_;rintro _ wf ⟨s4,rfl,_,_,aq,_⟩;refine Rm z<|R z (ext_ z z)<|R z (ext_ z z)<|E z (fa d_l) ?_
 rintro _ ar ⟨rfl,hy⟩;have h3:=hy.below;refine E0 (fs (cur':=[Str.v re.path,vI re.rule,vI re.start,vI re.end_]) a_L z z (hy.blk:Blk ar wf.z [(Str.v (⟨[]⟩:Str)),vI 0,vI 0,vI 0]) z (lb z) (oA z) z) ?_;rintro _ wg ⟨hh,au⟩;have h5:=au.one;refine Ra z<|Wn<|Ws<|Rm z<|Wn ?_
 obtain ⟨av,huz,L⟩:=bdS af;refine Wt (fun a w=>Sum.inl ()=av∧Sat 61 [(1,sl A6 N6 C6)] a∧Below wg.z wg w) ?_ ?_
 ·refine Wc z (fun hci=>?_)<|fun hci=>?_
  ·refine Ws<|Rm z<|R z (fd b_D z)<|R z (l1 g_3 z fid<|hh.at z)<|R z (fd c_p z)<|R z (l1 g_3 z fid<|hh.at z)<|R z (fd b_D z)<|R z (l1 g_3 z fid<|hh.at z)<|R z (sb_ z z)<|Rm z ?_
   have hj:=lt_ h2.s s4.s;have Y : ∀ k∈[wf.z],¬ B k:=or0 (b_ lr)  (j_<|zt' hBw hj);have hk:=(((h2.ag B).e s4).e h3).c h5<|c_ Y
   have hl:=lt_ (lt_ hj h3.s) h5.s;obtain ⟨_,_,aw,ah⟩:=a_c<|ifT huz hci;refine E z (fc call60 z<|W_w30 (B:=B) aw (zt' hBw hl) (p2_0.g hk) aq (iS _ _)<|p4_0.g hk) ?_;rintro _ wm ⟨s9,a0,a1,a2,ax,rfl,hb,ay,az⟩;refine Rm z<|R z (ext_ z z)<|R z (ext_ z z)<|Ra z<|Ra z<|Wn<|Ws ?_
   have a3:=(((hd.e s4).e h3).c h5<|djs<|mm1 hd.lt s4.s).e s9;refine R z (lN (vs:=[sl A0 N0 C0]) v_ s_ z z fid<|a3.row 0 1 z)<|Rm z<|Rm z ?_
   have a4:=hk.e s9;have hn:=lt_ hl s9.s;have ho:=zt' hBw hn;obtain ⟨ra,aA,aB,ai⟩:=a_c ah;refine E z (fc call59 z<|W_w1r (B:=wm.z) aB zr (repS.mono (p1_0.g a4) ho) (a_.rep hb) p3_0) ?_;rintro _ a5 ⟨G,rfl,aC,aD,aE,aF⟩;refine Rm z<|R z (ext_ z z)<|R z (ext_ z z)<|E z (fa d_l) ?_
   rintro _ aG ⟨rfl,a6⟩;have h6:=a6.below;refine E0 (fs (cur':=[Str.v ra.path,vI ra.rule,vI ra.start,vI ra.end_]) a_L z z (a6.blk:Blk aG a5.z [(Str.v (⟨[]⟩:Str)),vI 0,vI 0,vI 0]) z (lb z) (oA z) z) ?_;rintro _ wp ⟨aH,aI⟩;have J:=aI.one;refine Ra z<|Wn<|Wq ?_
   obtain ⟨aJ,O,V⟩:=bdS ai;refine Wt (fun a w=>∃ (xq:Bool),xq=aJ∧Sat 61 [(1,sl A6 N6 C6),(12,sl a0 a1 a2),(56,vB xq)] a∧Below wp.z wp w) ?_ ?_
   ·refine Wg<|Rm z<|Rm z ?_
    rcases bs aA with I | I
    ·refine Rh z I (lN (vs:=[sl A0 N0 C0]) v_ s_ z z fid<|(((a3.e G).e h6).c J<|djs<|mm1 hd.lt<|lt_ (lt_ (lt_ (lt_ s4.s h3.s) h5.s) s9.s) G.s).row 0 1 z)<|Rh z I (mv z) ?_
     have a7:=lt_ hn G.s;have a8 : ∀ k∈[a5.z],¬ B k:=or0 (b_ lr)  (j_<|zt' hBw a7);have a9:=((a4.e G).e h6).c J<|c_ a8
     have aa:=((hb.e G).e h6).c J<|ds<|mno (a_.lt hb) G.s
     have ab:=lt_ (lt_ G.s h6.s) J.s;obtain ⟨aK,aL,W⟩:=bdS<|ifT O I;refine Eg z z I z (fc call61 z<|W_w33 (B:=wm.z) aL (a_V ab) (((((((((hG.e h2).e s4).e h3).c h5<|c_ Y).e s9).e G).e h6).c J<|c_ a8).mono ho) (repS.mono (p1_0.g a9) ho)<|or_ aa<|a_.lt hb) ?_;rintro _ _ ⟨sc,rfl⟩;refine R z (pT z I z)<|Rm z ?_
     rcases bs aK with H | H
     ·refine Rh z H (mv z)<|Rh z H (lN (vs:=[Str.v ra.path,vI ra.rule,vI ra.start,vI ra.end_]) c_T a_L z z fid<|(aH.e sc).row 0 4 z) ?_
      obtain ⟨_,aM,aj⟩:=bdS<|ifT W H;refine Eg z z H z (fc call42 z<|W_w34 (B:=wm.z) aM (a_V<|lt_ ab sc.s) (or_ (aa.e sc)<|a_.lt hb) aC aD aE aF) ?_;rintro _ aN ⟨sr,_,_,_,_,rfl,aO,_,_⟩;refine Rh z H (mv z) ?_;obtain ⟨aP,aQ,ak⟩:=bdS aj;refine Eg z z H z (fc call62 z<|W_w36 (B:=aN.z) aQ zr (a_.rep aO)<|repS.mono (p4_0.g<|(a9.e sc).e sr)<|zt' hBw<|lt_ (lt_ (lt_ (lt_ a7 h6.s) J.s) sc.s) sr.s) ?_;rintro _ _ ⟨aR,rfl⟩;exact R z (pT z H z)<|Wl (fun _ q=>⟨aP,som ak,q.k<|s3 z z z,bup (bup sc sr) aR⟩)
     iterate 5 refine Nh z H ?_
     exact R z (pF z H z)<|Wl (fun _ q=>⟨false,som<|ifF W H,q.k<|s3 z z z,sc⟩)
    iterate 3 refine Nh z I ?_
    exact R z (pF z I z)<|Rm z<|Nh z z<|Nh z z<|Nh z z<|Nh z z<|Nh z z<|R z (pF z z z)<|Wl (fun _ q=>⟨false,som<|ifF O I,q.k<|s3 z z z,br wp⟩)
   rintro aS _ ⟨xq,rfl,_,ss⟩;revert aS;refine Wo<|Wc z (fun hct=>?_) (fun hct=>?_)
   ·refine Ws<|Rm z<|Ra z<|Ra z<|Wn ?_
    obtain rfl:=som<|ifT V hct;have al:=elR L;obtain rfl:=som al;exact Wr<|a_5 hr z z ⟨bup (bM (bup (bup (bup (bM (bup (bup h2 s4) h3) h5<|m1 hj) s9) G) h6) J<|m1<|lt_ hn G.s) ss,a0,a1,a2,ax,z,(((hb.e G).e h6).c J<|ds<|mno (a_.lt hb) G.s).e ss,ay,l_ az hl⟩
   exact a_e<|fun _ q=>⟨som<|ifF V hct,q.k<|s1 z,bup (bM (bup (bup s9 G) h6) J<|m1<|lt_ s9.s G.s) ss⟩
  exact a_e<|fun _ q=>⟨som<|ifF huz hci,q.k<|s1 z,br wg⟩
 rintro aT _ ⟨rfl,_,su⟩;have am:=elL L;revert aT;refine Wo<|Ws<|E z (f0 (α:=UInt8) R_) ?_
 rintro _ _ ⟨_,_,_,rfl,sv,aU⟩;refine Rm z ?_;obtain ⟨_,aV,an⟩:=bdS am;have hw:=lt_ h2.s s4.s;refine E z (fN (α:=UInt8) R_ aV z z aU a_o<|p2_0.g<|(((((h2.ag B).e s4).e h3).c h5<|c_ (or0 (b_ lr)  (j_<|zt' hBw hw) : ∀ k∈[wf.z],¬ B k)).e su).e sv) ?_;rintro _ _ ⟨aW,aX,aY,aZ,rfl,b0,b1,b2,b3⟩;refine Ra z<|Ra z<|Wn ?_
 obtain rfl:=som an;have ad:=lt_ (lt_ (lt_ hw h3.s) h5.s) su.s;have ae:=m1 ad;exact Wr<|a_5 hr z z ⟨bM (bup (bup (bM (bup (bup h2 s4) h3) h5<|m1 hw) su) sv) b0 ae,aX,aY,aZ,aW,z,b1,b2,a_8 b3 ae<|lt_ ad sv.s⟩
theorem W_w1y {x1:List UInt8} {x2:Int} {x3:Int} {x4:List UInt8} {res:(List UInt8)×Bool} (hm:f_l x1 x2 x3 x4=some res) (hBw:B≤w0.z) (p1_0:repS w0 B (sl A0 N0 C0) x1) (p2_0:inI x2) (p3_0:inI x3) (p4_0:repS w0 B (sl AF NF CF) x4):m_ prog 17 [sl A0 N0 C0,vI x2,vI x3,sl AF NF CF] w0 (Q30 w0 B res):=by
 unfold f_l at hm
 refine goF func17 z z (lb z) fun fn hr=>Ws<|Ra z<|Ra z<|Wn<|Wq<|Wq ?_
 obtain ⟨ur,hug,hmh⟩:=bdS hm;refine Wt (fun a w=>∃ (O:Bool),O=ur∧Sat 46 [(0,sl A0 N0 C0),(1,vI x2),(2,vI x3),(3,sl AF NF CF),(29,vB O)] a∧Below w0.z w0 w) ?_ ?_
 ·refine Wg<|Rm z<|R z (lss z z)<|Rm z ?_
  rcases bs (decide<|x2<0) with I | I
  ·exact Nh z I<|Nh z I<|R z (pT z I z)<|Rm z<|Nh z z<|Nh z z<|Nh z z<|Nh z z<|R z (pT z z z)<|Rm z<|Nh z z<|Nh z z<|Nh z z<|Nh z z<|Nh z z<|Nh z z<|R z (pT z z z)<|Wl (fun _ q=>⟨true,som<|ifT hug I,q.k<|s5 z z z z z,br w0⟩)
  have hmi:=ifF hug I;refine Rh z I (mv z)<|Rh z I (lss z z)<|R z (pF z I z)<|Rm z ?_
  rcases bs (decide<|x3<0) with H | H
  ·iterate 4 refine Nh z H ?_
   exact R z (pT z H z)<|Rm z<|Nh z z<|Nh z z<|Nh z z<|Nh z z<|Nh z z<|Nh z z<|R z (pT z z z)<|Wl (fun _ q=>⟨true,som<|ifT hmi H,q.k<|s5 z z z z z,br w0⟩)
  have hmj:=ifF hmi H;refine Rh z H (mv z)<|Rh z H (mv z)<|Rh z H (lnR n_ z p1_0)<|Rh z H (a_1 z z)<|R z (pF z H z)<|Rm z ?_
  rcases bs (decide<|(x1.length:Int)<x3) with G | G
  ·iterate 6 refine Nh z G ?_
   exact R z (pT z G z)<|Wl (fun _ q=>⟨true,som<|ifT hmj G,q.k<|s5 z z z z z,br w0⟩)
  exact Rh z G (mv z)<|Rh z G (mv z)<|Rh z G (lnR n_ z p1_0)<|Rh z G (mv z)<|Rh z G (sb_ z z)<|Rh z G (a_1 z z)<|R z (pF z G z)<|Wl (fun _ q=>⟨decide<|(D_ (x1.length:Int) x3)<x2,som<|ifF hmj G,q.k<|s5 z z z z z,br w0⟩)
 rintro az J ⟨O,rfl,_,s3⟩;revert az;refine Wo<|Wc z (fun L=>?_) (fun L=>?_)
 ·refine Ws<|E z (f0 (α:=UInt8) R_) ?_
  rintro _ _ ⟨_,_,_,rfl,sa,a3⟩;refine Rm z ?_;obtain ⟨_,es,V⟩:=bdS<|ifT hmh L;refine E z (fN (α:=UInt8) R_ es z z a3 a_o<|p1_0.g<|(s3.ag B).e sa) ?_;rintro _ _ ⟨a4,a5,a6,a7,rfl,a8,a9,aa,ab⟩;refine Ra z<|Ra z<|Wn ?_
  obtain rfl:=som V;have hl:=m1 s3.s;exact Wr<|a_5 hr z z ⟨bM (bup s3 sa) a8 hl,a5,a6,a7,a4,z,a9,aa,a_8 ab hl<|lt_ s3.s sa.s⟩
 refine Wk<|Wq (Wd (X:=fun k=>k∈([]:List Nat)∨J.z≤k) 0 (.rd 1<|.rd 2<|.rd 3<|.rd 5<|.rd 7<|.rd 8<|.rd 9<|.rd 10<|.rd 11<|.ef 0<|.ef 4<|.ef 6<|.ef 12<|.rd 13<|.rd 14 .done) mo (by kernel_rfl) fun wk s6 _=>dR z z (mv z)<|dR z z (mv z) ?_)
 obtain ⟨_,ad,W⟩:=bdS<|ifF hmh L;have hn:=(s3.ag B).e s6;have ho:=p1_0.g hn;refine dRX z z (rX n_ z_5 z z ho z z ad) ?_;rintro _ ⟨_,_,_,rfl,ae⟩
 iterate 4 refine dR z z (mv z) ?_
 refine dR z z (add_ z z) ?_;obtain ⟨_,af,Y⟩:=bdS W;refine dRX z z (rX n_ z_5 z z ho z z af) ?_;rintro _ ⟨_,_,_,rfl,ah⟩;refine dE z z (f0 (α:=UInt8) R_) (.inr fun _ _ h=>A_ (by obtain ⟨_,_,_,_,h,_⟩:=h;exact h)) ?_;rintro _ _ ⟨_,_,_,rfl,s4,ai⟩;obtain ⟨_,aj,a0⟩:=bdS Y;have hp : ∀ k∈[wk.z],k∈([]:List Nat)∨J.z≤k:=mor s6.s;refine dE z z (fN (α:=UInt8) R_ aj z z ai a_o<|ae.e s4) (.inr fun _ _ h=>by obtain ⟨_,_,_,_,_,h,_⟩:=h;exact h.mono fun k _ hk=>hp k hk) ?_;rintro _ _ ⟨Sm,_,_,_,rfl,s7,ak,al,hb⟩;obtain ⟨_,am,a1⟩:=bdS a0;have hc:=lt_ s3.s s6.s;have hd : ∀ k∈[wk.z],¬ B k:=or0 (b_ lr)  (j_<|zt' hBw hc);have hq:=lt_ s6.s s4.s;have ht : ∀ k∈Sm,k∈([]:List Nat)∨J.z≤k:=or1 hb hp<|G_ hq;refine dE z z (fN (α:=UInt8) R_ am z z ak al<|p4_0.g<|(hn.e s4).c s7<|c_ hd) (.inr fun _ _ h=>by obtain ⟨_,_,_,_,_,h,_⟩:=h;exact h.mono fun k _ hk=>ht k hk) ?_;rintro _ _ ⟨an,_,_,_,rfl,se,ao,ap,hu⟩;obtain ⟨_,aq,a2⟩:=bdS a1;have hf:=lt_ hc s4.s;refine dE z z (fN (α:=UInt8) R_ aq z z ao ap<|ah.g<|((s4.ag B).c s7<|c_ hd).c se<|c_ (or1 hb hd (j_<|zt' hBw hf) : ∀ k∈Sm,¬ B k)) (.inr fun _ _ h=>by obtain ⟨_,_,_,_,_,h,_⟩:=h;exact h.mono fun k _ hk=>(or1 hu ht (G_<|lt_ hq s7.s) : ∀ k∈an,k∈([]:List Nat)∨J.z≤k) k hk) ?_;rintro _ _ ⟨ar,au,av,aw,rfl,ax,ay,aA,aB⟩;refine dR z z (asg z)<|dR z z (asg z)<|pD<|Wo ?_
 obtain rfl:=som a2;have hv:=m1 hc;have hw:=a_8 hb hv hf;have hx:=lt_ hf s7.s;have hy:=a_8 hu hw hx;exact Wr<|a_5 hr z z ⟨bM (bM (bM (bup (bup s3 s6) s4) s7 hv) se hw) ax hy,au,av,aw,ar,z,ay,aA,a_8 aB hy<|lt_ hx se.s⟩
theorem W_w38 {x1:f_} {x2:Int} {res:Bool} (hm:g_G x1 x2=some res) (hBw:B≤w0.z) (p1_0:repS w0 B (sl A0 N0 C0) x1.rules) (p2_0:inI x2):m_ prog 160 [(.agg #[sl A0 N0 C0]),vI x2] w0 (Q0 w0 B res):=by
 unfold g_G at hm
 refine goF func160 z z (lb z) fun fn hr=>Ws<|E z (fb z) ?_
 rintro _ H ⟨rfl,h5⟩;have h1:=h5.below;have h6:Blk H w0.z [sl A0 N0 C0]:=h5.blk;refine Ra z<|Wn<|Wq ?_
 obtain ⟨u8,J,hma⟩:=bdS hm;refine Wt (fun a w=>∃ (x4:Bool),x4=u8∧Sat 15 [(4,vB x4)] a∧Below H.z H w) ?_ ?_
 ·refine Wg<|Rm z<|R z (fd a_4 z)<|R z (l1 a_6 z fid<|h6.at z)<|R z (lnR a_7 z<|p1_0.e h1)<|R z (sb_ z z) ?_
  obtain ⟨rb,ec,I⟩:=bdS J;refine E z (fc call103 z<|b_m (B:=B) ec (zt' hBw h1.s) p2_0 (ii z)<|iS _ _) ?_;rintro _ _ ⟨s2,rfl⟩;refine Rm z ?_
  rcases bs rb with G | G
  ·refine Rh z G (lN (vs:=[sl A0 N0 C0]) v_ s_ z z fid<|(h6.e s2).row 0 1 z) ?_;obtain ⟨rd,ee,hmf⟩:=bdS<|ifT I G;refine Eg z z G z (fc call64 z<|W_w1a (B:=B) ee (zt' hBw<|lt_ h1.s s2.s)<|p1_0.g<|(h1.ag B).e s2) ?_;rintro _ _ ⟨sg,rfl⟩;exact R z (pT z G z)<|Ra z<|Wl (fun _ q=>⟨rd,som hmf,q.k<|s1 z,bup s2 sg⟩)
  exact Nh z G<|Nh z G<|R z (pF z G z)<|Ra z<|Wl (fun _ q=>⟨false,som<|ifF I G,q.k<|s1 z,s2⟩)
 rintro ah _ ⟨x4,rfl,_,si⟩;revert ah;refine Wo ?_;obtain rfl:=som hma;exact Wr<|h_ hr z ⟨bup h1 si,z⟩
theorem j_B {x1:f_} {x2:Int} {x3:List UInt8} {x4:Int} {res:Val×Int×Int} (hm:g_H n x1 x2 x3 x4=some res) (hBw:B≤w0.z) (p1_0:repS w0 B (sl A0 N0 C0) x1.rules) (p2_0:inI x2) (p3_0:repS w0 B (sl A7 N7 C7) x3) (p4_0:inI x4):m_ prog 98 [(.agg #[sl A0 N0 C0]),vI x2,sl A7 N7 C7,vI x4] w0 (Q17 w0 B res):=by
 unfold g_H at hm
 refine goF func98 z z (lb z) fun fn hr=>Ws<|E z (fb z) ?_
 rintro _ J ⟨rfl,hg⟩;have h3:=hg.below;have hh:Blk J w0.z [sl A0 N0 C0]:=hg.blk;refine E z (fa a_d) ?_;rintro _ L ⟨rfl,hi⟩;have h4:=hi.below;have h6:Blk L J.z [vI 0,sl none 0 0,sl none 0 0]:=hi.blk;refine Ra z<|Ra z<|Wn<|Wq<|Wq ?_
 obtain ⟨uy,huz,hmj⟩:=bdS hm;refine Wt (fun a w=>∃ (xa:Bool),xa=uy∧Sat 36 [(1,vI x2),(2,sl A7 N7 C7),(3,vI x4),(4,pt w0.z),(8,pt J.z),(26,vB xa)] a∧Below L.z L w) ?_ ?_
 ·refine Wg<|R z (lN (vs:=[sl A0 N0 C0]) v_ s_ z z fid<|(hh.e h4).row 0 1 z)<|Rm z ?_
  have hk:=(h3.ag B).e h4;have hl:=lt_ h3.s h4.s;obtain ⟨V,W,hmm⟩:=bdS huz;refine E z (fc call160 z<|W_w38 (B:=B) W (zt' hBw hl) (p1_0.g hk) p2_0) ?_;rintro _ _ ⟨s5,rfl⟩;refine R z (not_ z)<|Rm z ?_
  rcases bs (!V) with G | G
  ·iterate 5 refine Nh z G ?_
   exact R z (pT z G z)<|Rm z<|Nh z z<|Nh z z<|Nh z z<|R z (pT z z z)<|Wl (fun _ q=>⟨true,som<|ifT hmm G,q.k<|s6 z z z z z z,s5⟩)
  refine Rh z G (mv z)<|Rh z G (mv z) ?_
  have hn:=hk.e s5;have ho:=p3_0.g hn;refine Rh z G (lnR n_ z ho) ?_;obtain ⟨Y,a0,hmp⟩:=bdS<|ifF hmm G;refine Eg z z G z (fc call103 z<|b_m (B:=B) a0 (zt' hBw<|lt_ hl s5.s) p4_0 (ii z)<|a_U<|repS.len ho) ?_;rintro _ _ ⟨sb,rfl⟩;refine Rh z G (not_ z)<|R z (pF z G z)<|Rm z ?_
  rcases bs (!Y) with H | H
  ·iterate 3 refine Nh z H ?_
   exact R z (pT z H z)<|Wl (fun _ q=>⟨true,som<|ifT hmp H,q.k<|s6 z z z z z z,bup s5 sb⟩)
  exact Rh z H (mv z)<|Rh z H (lnR n_ z<|p3_0.g<|hn.e sb)<|Rh z H (a_1 z z)<|R z (pF z H z)<|Wl (fun _ q=>⟨decide<|400<(x3.length:Int),som<|ifF hmp H,q.k<|s6 z z z z z z,bup s5 sb⟩)
 rintro a1 _ ⟨xa,rfl,_,s2⟩;revert a1;refine Wo<|Wc z (fun hcc=>?_) (fun hcc=>?_)
 ·refine Ws<|R z (bP (parts:=[]) (cs:=[vI 0,sl none 0 0,sl none 0 0]) a_3 z z)<|E0 (fs (cur':=[vI 0,sl none 0 0,sl none 0 0]) i_ z z (h6.e s2) z (lb z) (oA z) z) ?_
  rintro _ _ ⟨a2,a3⟩;refine Ra z<|Ra z<|Wn ?_
  obtain rfl:=som<|ifT hmj hcc;exact Wr<|y_ hr (q_ x_ i_ z a2 z) z z ⟨bM (bup (bup h3 h4) s2) a3.one<|m1 h3.s,none,0,0,[],none,0,0,[],z,ii z,onL,onL,ii z,ii z,nd0,al0⟩
 refine Wk<|Ws<|R z (lN (vs:=[sl A0 N0 C0]) v_ s_ z z fid<|((hh.e h4).e s2).row 0 1 z)<|Rm z<|Rm z<|Rm z ?_
 have hq:=((h3.ag B).e h4).e s2;have hd:=lt_ (lt_ h3.s h4.s) s2.s;obtain ⟨a4,_,_,a5,O⟩:=p_<|ifF hmj hcc;refine E z (fc call67 z<|h_W.run (B:=B) a5 (zt' hBw hd) (p1_0.g hq) p2_0 (p3_0.g hq) p4_0) ?_;rintro _ _ ⟨sr,au,ns,ct,a6,av,nw,cx,a7,rfl,a8,a9,aa,ab,ad,he,I⟩
 iterate 3 refine R z (ext_ z z) ?_
 refine E0 (fs (cur':=[vI a4.number,sl au ns ct,sl av nw cx]) i_ z z ((h6.e s2).e sr) z (lb z) (oA z) z) ?_;rintro _ _ ⟨ae,af⟩;have hf:=af.one;refine Ra z<|Ra z<|Wn ?_
 obtain rfl:=som O;exact Wr<|y_ hr (q_ x_ i_ z ae z) z z ⟨bM (bup (bup (bup h3 h4) s2) sr) hf<|m1 h3.s,au,ns,ct,a6,av,nw,cx,a7,z,a8,a9.c hf<|k_ (al_ I) h6.lt s2.s,aa.c hf<|k_ (ar_ I) h6.lt s2.s,ab,ad,na_ (nl_ he) (nr_ he)<|nj he,aa_ (l_ (al_ I) hd)<|l_ (ar_ I) hd⟩
theorem W_w39 {x1:f_} {x2:List UInt8} {res:Val×Int×Int} (hm:g_I n x1 x2=some res) (hBw:B≤w0.z) (p1_0:repS w0 B (sl A0 N0 C0) x1.rules) (p2_0:repS w0 B (sl A6 N6 C6) x2):m_ prog 38 [(.agg #[sl A0 N0 C0]),sl A6 N6 C6] w0 (Q17 w0 B res):=by
 unfold g_I at hm
 refine goF func38 z z (lb z) fun fn hr=>Ws<|E z (fb z) ?_
 rintro _ wl ⟨rfl,al⟩;have h2:=al.below;have hv:Blk wl w0.z [sl A0 N0 C0]:=al.blk;refine E z (fa a_d) ?_;rintro _ I ⟨rfl,am⟩;have h1:=am.below;have hn:Blk I wl.z [vI 0,sl none 0 0,sl none 0 0]:=am.blk;refine Ra z<|Ra z<|Wn<|Wq ?_
 obtain ⟨bj,af,be⟩:=bdS hm;refine Wt (fun a w=>∃ (xb:Int) (xw:List UInt8) (xx:List Val) (xc:Int) (xd:Int),(xb,xw,xx,xc,xd)=bj ∧ ∃ ae nf cg J ah ni cj L O,Sat 32 [(1,sl A6 N6 C6),(4,pt wl.z),(7,pt O),(8,vI xc),(9,vI xd)] a∧Below I.z I w∧inI xb∧a_ w J (sl ae nf cg) xw∧J.Nodup∧(∀ k∈J,I.z≤k)∧a_ w L (sl ah ni cj) xx∧L.Nodup∧(∀ k∈L,I.z≤k)∧(∀ k∈L,k∉J)∧inI xc∧inI xd∧Blk w O [vI xb,sl ae nf cg,sl ah ni cj]∧I.z≤O∧(∀ k∈J,k∉[O])∧(∀ k∈L,k∉[O])) ?_ ?_
 ·refine Wd (X:=fun k=>k∈([]:List Nat)∨I.z≤k) 0 (.rd 0<|.rd 1<|.rd 3<|.br 2 (.br 4 (.rd 5<|.rd 6<|.rd 7<|.rd 8<|.ef 9<|.ef 10<|.rd 11<|.rd 12 .done) 9<|.ef 4<|.rd 5<|.rd 6<|.rd 7<|.rd 8<|.ef 10<|.rd 11<|.rd 12 .done) 9<|.ef 2<|.ef 4<|.rd 5<|.rd 6<|.rd 7<|.rd 8<|.ef 10<|.rd 11<|.rd 12 .done) mo (by kernel_rfl) fun an G _=>?_
  have ao:=(hv.e h1).e G;refine dR z z (lN (vs:=[sl A0 N0 C0]) v_ s_ z z (a_B nm0<|Nat.lt_of_lt_of_le hv.lt h1.s)<|ao.row 0 1 z)<|dR z z (lN (vs:=[sl A0 N0 C0]) v_ s_ z z (a_B nm0<|Nat.lt_of_lt_of_le hv.lt h1.s)<|ao.row 0 1 z)<|dR z z (mv z)<|e_M ?_ ?_
  ·have hy:=((h2.ag B).e h1).e G;have hz:=lt_ (lt_ h2.s h1.s) G.s;obtain ⟨_,bk,ai⟩:=bdS af;refine dE z z (fc call65 z<|h_V (B:=B) bk (zt' hBw hz)<|p1_0.g hy) (.inr fun _ _ h=>A_<|h.1) ?_;rintro _ ap ⟨s4,rfl,aq⟩;refine e_M ?_ ?_
   ·have ar:=hy.e s4;obtain ⟨rm,bm,bn,bo,bf⟩:=p_ ai;refine dE z z (fc call98 z<|j_B (B:=B) bo (zt' hBw<|lt_ hz s4.s) (p1_0.g ar) aq (p2_0.g ar)<|ii z) (.inr fun _ _ h=>A_<|h.1) ?_;rintro _ au ⟨av,aw,ax,ay,bp,az,aA,aB,bq,rfl,bt,aC,aD,bu,bv,W,aE⟩;refine dR z z (mv z) ?_
    iterate 3 refine dR z z (ext_ z z) ?_
    refine dE z z (fa a_d) (.inr fun _ _ h=>A_<|h.2.below) ?_;rintro _ bw ⟨rfl,aF⟩;have Y:=aF.below;have a0:=lt_ G.s s4.s;have a1:=m1<|lt_ a0 av.s
    refine dE0 z (fs (cur':=[vI rm.number,sl aw ax ay,sl az aA aB]) i_ z z (aF.blk:Blk bw au.z [vI 0,sl none 0 0,sl none 0 0]) z (lb z) (oA z) z) (.inr fun _ _ h=>d_g (atp a1) h.2) ?_;rintro _ _ ⟨bx,bz⟩;have a2:=bz.one;refine dR z z (asg z)<|dR z z (asg z)<|pD ?_
    have aG:=mnr<|a_.lt aC
    have aH:=mnr<|a_.lt aD
    exact fun _ q=>⟨rm.number,rm.bytes,rm.items,bm,bn,som bf,aw,ax,ay,bp,az,aA,aB,bq,au.z,q.k<|s5 z z z z z,bM (bup (bup (bup G s4) av) Y) a2 a1,bt,(aC.e Y).c a2<|ds aG,nl_ W,l_ (al_ aE) a0,(aD.e Y).c a2<|ds aH,nr_ W,l_ (ar_ aE) a0,ds<|nj W,bu,bv,bx,atp a1,ds aG,ds aH⟩
   refine dE z z (fa a_d) (.inr fun _ _ h=>A_<|h.2.below) ?_;rintro _ bA ⟨rfl,aI⟩;have ho:=aI.below;have a3:Blk bA ap.z [vI 0,sl none 0 0,sl none 0 0]:=aI.blk;have aJ:=(hy.e s4).e ho;obtain ⟨rp,bB,bC,bD,bg⟩:=p_ ai;refine dE z z (fc call98 z<|j_B (B:=B) bD (zt' hBw<|lt_ (lt_ hz s4.s) ho.s) (p1_0.g aJ) aq (p2_0.g aJ)<|ii z) (.inr fun _ _ h=>A_<|h.1) ?_;rintro _ _ ⟨aK,aL,aM,aN,bE,aO,aP,aQ,bF,rfl,bG,bH,bI,bJ,bK,a4,hq⟩;refine dR z z (mv z) ?_
   iterate 3 refine dR z z (ext_ z z) ?_
   have aR:=lt_ G.s s4.s;have a5:=m1 aR;refine dE0 z (fs (cur':=[vI rp.number,sl aL aM aN,sl aO aP aQ]) i_ z z (a3.e aK) z (lb z) (oA z) z) (.inr fun _ _ h=>d_g (atp a5) h.2) ?_;rintro _ _ ⟨bL,bN⟩;have a6:=bN.one;refine dR z z (asg z)<|dR z z (asg z)<|pD ?_
   have aS:=k_ (al_ hq) a3.lt lr;have aT:=lt_ aR ho.s;have aU:=k_ (ar_ hq) a3.lt lr;exact fun _ q=>⟨rp.number,rp.bytes,rp.items,bB,bC,som bg,aL,aM,aN,bE,aO,aP,aQ,bF,ap.z,q.k<|s5 z z z z z,bM (bup (bup (bup G s4) ho) aK) a6 a5,bG,bH.c a6 aS,nl_ a4,l_ (al_ hq) aT,bI.c a6 aU,nr_ a4,l_ (ar_ hq) aT,ds<|nj a4,bJ,bK,bL,atp a5,aS,aU⟩
  refine dE z z (fa a_d) (.inr fun _ _ h=>A_<|h.2.below) ?_;rintro _ bO ⟨rfl,aV⟩;have ht:=aV.below;have a7:Blk bO an.z [vI 0,sl none 0 0,sl none 0 0]:=aV.blk;have aW:=(((h2.ag B).e h1).e G).e ht;have aX:=lt_ (lt_ (lt_ h2.s h1.s) G.s) ht.s;obtain ⟨_,bQ,bh⟩:=bdS af;refine dE z z (fc call65 z<|h_V (B:=B) bQ (zt' hBw aX)<|p1_0.g aW) (.inr fun _ _ h=>A_<|h.1) ?_;rintro _ _ ⟨s9,rfl,bR⟩;have aY:=aW.e s9;obtain ⟨rr,bS,bT,bU,bi⟩:=p_ bh;refine dE z z (fc call98 z<|j_B (B:=B) bU (zt' hBw<|lt_ aX s9.s) (p1_0.g aY) bR (p2_0.g aY)<|ii z) (.inr fun _ _ h=>A_<|h.1) ?_;rintro _ _ ⟨aZ,b0,b1,b2,bV,b3,b4,b5,bW,rfl,bX,bY,bZ,c0,c1,a8,hu⟩;refine dR z z (mv z) ?_
  iterate 3 refine dR z z (ext_ z z) ?_
  have a9:=m1 G.s;refine dE0 z (fs (cur':=[vI rr.number,sl b0 b1 b2,sl b3 b4 b5]) i_ z z ((a7.e s9).e aZ) z (lb z) (oA z) z) (.inr fun _ _ h=>d_g (atp a9) h.2) ?_;rintro _ _ ⟨c2,c3⟩;have aa:=c3.one;refine dR z z (asg z)<|dR z z (asg z)<|pD ?_
  have b6:=k_ (al_ hu) a7.lt s9.s;have b7:=lt_ (lt_ G.s ht.s) s9.s;have b8:=k_ (ar_ hu) a7.lt s9.s;exact fun _ q=>⟨rr.number,rr.bytes,rr.items,bS,bT,som bi,b0,b1,b2,bV,b3,b4,b5,bW,an.z,q.k<|s5 z z z z z,bM (bup (bup (bup G ht) s9) aZ) aa a9,bX,bY.c aa b6,nl_ a8,l_ (al_ hu) b7,bZ.c aa b8,nr_ a8,l_ (ar_ hu) b7,ds<|nj a8,c0,c1,c2,atp a9,b6,b8⟩
 rintro c4 ws ⟨xb,xw,xx,xc,xd,rfl,ae,nf,cg,J,ah,ni,cj,L,O,_,sk,c5,c6,c7,b9,c8,c9,ba,ca,bb,cb,cc,_,_,_⟩;revert c4;refine Wo<|Wq<|Wq ?_
 obtain ⟨cd,aj,ak⟩:=bdS<|c_z be;refine Wt (fun a w=>∃ (ab:Bool),ab=cd∧Sat 32 [(4,pt wl.z),(7,pt O),(8,vI xc),(9,vI xd),(26,vB ab)] a∧Below ws.z ws w) ?_ ?_
 ·refine Wg<|Rm z<|R z (eql z z)<|Rm z ?_
  rcases bs (xd==0) with H | H
  ·exact Rh z H (mv z)<|Rh z H (mv z)<|Rh z H (lnR n_ z<|p2_0.g<|((h2.ag B).e h1).e sk)<|Rh z H (lss z z)<|R z (pT z H z)<|Wl (fun _ q=>⟨decide<|xc<(x2.length:Int),som<|ifT aj H,q.k<|s5 z z z z z,br ws⟩)
  iterate 4 refine Nh z H ?_
  exact R z (pF z H z)<|Wl (fun _ q=>⟨false,som<|ifF aj H,q.k<|s5 z z z z z,br ws⟩)
 rintro ce _ ⟨ab,rfl,_,sa⟩;revert ce;refine Wo<|Wc z (fun V=>?_) (fun V=>?_)
 ·refine Ws<|R z (bP (parts:=[]) (cs:=[vI 0,sl none 0 0,sl none 0 0]) a_3 z z)<|Rm z<|E0 (fs (cur':=[vI 0,sl none 0 0,sl none 0 0]) i_ z z ((hn.e sk).e sa) z (lb z) (oA z) z) ?_
  rintro _ _ ⟨cf,ch⟩;refine Ra z<|Ra z<|Wn ?_
  obtain rfl:=som<|ifT ak V;exact Wr<|y_ hr (q_ x_ i_ z cf z) z z ⟨bM (bup (bup (bup h2 h1) sk) sa) ch.one<|m1 h2.s,none,0,0,[],none,0,0,[],z,ii z,onL,onL,bb,ii z,nd0,al0⟩
 refine Wk<|Ws<|R z (lN (vs:=[vI xb,sl ae nf cg,sl ah ni cj]) x_ i_ z z fid<|(cc.e sa).row 0 3 z)<|Rm z<|Rm z<|E0 (fs (cur':=[vI xb,sl ae nf cg,sl ah ni cj]) i_ z z ((hn.e sk).e sa) z (lb z) (oA z) z) ?_
 rintro _ _ ⟨ci,ck⟩;have ad:=ck.one;refine Ra z<|Ra z<|Wn ?_
 obtain rfl:=som<|ifF ak V;have bc:=lt_ h2.s h1.s;exact Wr<|y_ hr (q_ x_ i_ z ci z) z z ⟨bM (bup (bup (bup h2 h1) sk) sa) ad<|m1 h2.s,ae,nf,cg,J,ah,ni,cj,L,z,c5,(c6.e sa).c ad<|k_ b9 hn.lt lr,(c8.e sa).c ad<|k_ ba hn.lt lr,bb,cb,na_ c7 c9<|ds ca,aa_ (l_ b9 bc)<|l_ ba bc⟩
theorem j_C {x1:f_} {x2:List UInt8} {res:Bool} (hm:e_C n x1 x2=some res) (hBw:B≤w0.z) (p1_0:repS w0 B (sl A0 N0 C0) x1.rules) (p2_0:repS w0 B (sl A6 N6 C6) x2):m_ prog 18 [(.agg #[sl A0 N0 C0]),sl A6 N6 C6] w0 (Q0 w0 B res):=by
 unfold e_C at hm
 refine goF func18 z z (lb z) fun fn hr=>Ws<|E z (fb z) ?_
 rintro _ I ⟨rfl,h1⟩;have G:=h1.below;refine Ra z<|Wn<|Ws<|R z (lN (vs:=[sl A0 N0 C0]) v_ s_ z z fid<|(h1.blk:Blk I w0.z [sl A0 N0 C0]).row 0 1 z)<|Rm z ?_
 obtain ⟨J,_,_,L,H⟩:=p_ hm;refine E z (fc call38 z<|W_w39 (B:=B) L (zt' hBw G.s) (p1_0.e G)<|p2_0.e G) ?_;rintro _ O ⟨s2,aa,nb,cc,_,ad,ne,cf,_,rfl,_,_,_,_,_,_,_⟩;refine Rm z ?_
 iterate 3 refine R z (ext_ z z) ?_
 refine E z (fa a_d) ?_;rintro _ wg ⟨rfl,h3⟩;refine E0 (fs (cur':=[vI J.number,sl aa nb cc,sl ad ne cf]) i_ z z (h3.blk:Blk wg O.z [vI 0,sl none 0 0,sl none 0 0]) z (lb z) (oA z) z) ?_;rintro _ _ ⟨_,si⟩;refine Ra z<|Ra z<|Wn<|Ws<|Rm z<|R z (eql z z)<|Ra z<|Wn ?_
 obtain rfl:=som H;exact Wr<|h_ hr z ⟨bM (bup (bup G s2) h3.below) si.one<|m1<|lt_ G.s s2.s,z⟩
theorem W_w3a {x1:f_} {x2:List UInt8} {x3:Str} {x4:List UInt8} {res:(List UInt8)×Bool} (hm:g_J n x1 x2 x3 x4=some res) (hBw:B≤w0.z) (p1_0:repS w0 B (sl A0 N0 C0) x1.rules) (p2_0:repS w0 B (sl A6 N6 C6) x2) (p3_0:x3.b.length≤LEN) (p4_0:repS w0 B (sl AF NF CF) x4):m_ prog 12 [(.agg #[sl A0 N0 C0]),sl A6 N6 C6,Str.v x3,sl AF NF CF] w0 (Q30 w0 B res):=by
 unfold g_J at hm
 refine goF func12 z z (lb z) fun fn hr=>Ws<|E z (fb z) ?_
 rintro _ wz ⟨rfl,a2⟩;have L:=a2.below;have hi:Blk wz w0.z [sl A0 N0 C0]:=a2.blk;refine Ra z<|Ra z<|Wn<|Ws<|E z (f0 (α:=UInt8) R_) ?_
 rintro _ _ ⟨_,_,_,rfl,sb,ay⟩;refine Rm z ?_;obtain ⟨_,az,av⟩:=bdS hm;have a3:=(L.ag B).e sb;refine E z (fN (α:=UInt8) R_ az z z ay a_o<|p2_0.g a3) ?_;rintro _ _ ⟨a4,an,no,cp,rfl,sc,hh,a5,a6⟩;refine Ra z<|Wn<|Ws ?_
 have a7:=(hi.e sb).c sc<|djs<|mmr hi.lt
 refine R z (lN (vs:=[sl A0 N0 C0]) v_ s_ z z fid<|a7.row 0 1 z)<|Rm z<|Rm z ?_
 have hq:=a3.c sc<|c_ (or0 (b_ lr)  (j_<|zt' hBw L.s) : ∀ k∈[wz.z],¬ B k)
 have ht:=lt_ L.s sb.s;have hu:=lt_ ht sc.s;obtain ⟨rd,_,aA,V⟩:=a_c av;refine E z (fc call14 z<|h_X (B:=B) aA (zt' hBw hu) (p1_0.g hq) (p2_0.g hq) p3_0) ?_;rintro _ a8 ⟨s2,rfl,_,_,aB,_⟩;refine Rm z<|R z (ext_ z z)<|R z (ext_ z z)<|E z (fa d_l) ?_
 rintro _ aC ⟨rfl,a9⟩;have h5:=a9.below;have aa:Blk aC a8.z [(Str.v (⟨[]⟩:Str)),vI 0,vI 0,vI 0]:=a9.blk;refine E0 (fs (cur':=[Str.v rd.path,vI rd.rule,vI rd.start,vI rd.end_]) a_L z z aa z (lb z) (oA z) z) ?_;rintro _ _ ⟨hj,aD⟩;have h3:=aD.one;refine Ra z<|Wn<|Wq<|Ws<|Rm z<|R z (not_ z)<|Wn<|Wc z (fun hcr=>?_) (fun hcr=>?_)
 ·refine Ws<|Rm z<|Ra z<|Ra z<|Wn ?_
  obtain rfl:=som<|ifT V hcr;have ab:=m1 L.s;exact Wr<|a_5 hr z z ⟨bM (bup (bup (bM (bup L sb) sc ab) s2) h5) h3<|m1<|lt_ hu s2.s,an,no,cp,a4,z,((hh.e s2).e h5).c h3<|ds<|mno (a_.lt hh) s2.s,a5,a_8 a6 ab ht⟩
 refine Wk<|Ws<|Rm z<|R z (fd b_D z)<|R z (l1 g_3 z fid<|hj.at z)<|R z (fd c_p z)<|R z (l1 g_3 z fid<|hj.at z)<|R z (fd b_D z)<|R z (l1 g_3 z fid<|hj.at z)<|R z (sb_ z z)<|Rm z ?_
 have hk:=lt_ hu s2.s;have hv:=((hq.e s2).e h5).c h3<|c_ (or0 (b_ lr)  (j_<|zt' hBw hk) : ∀ k∈[a8.z],¬ B k)
 have hw:=lt_ (lt_ hk h5.s) h3.s;obtain ⟨_,_,aE,aw⟩:=a_c<|ifF V hcr;refine E z (fc call17 z<|W_w1y (B:=B) aE (zt' hBw hw) (p2_0.g hv) aB (iS _ _)<|p4_0.g hv) ?_;rintro _ ad ⟨s6,ae,af,ah,aF,rfl,he,aG,aH⟩;refine Rm z<|R z (ext_ z z)<|R z (ext_ z z)<|Ra z<|Ra z<|Wn<|Ws ?_
 have ai:=lt_ (lt_ sb.s sc.s) s2.s;have aj:=(((a7.e s2).e h5).c h3<|djs<|mm1 hi.lt ai).e s6;refine R z (lN (vs:=[sl A0 N0 C0]) v_ s_ z z fid<|aj.row 0 1 z)<|Rm z<|Rm z ?_
 have ak:=hv.e s6;have hl:=lt_ hw s6.s;have al:=zt' hBw hl;obtain ⟨rf,aI,aJ,ax⟩:=a_c aw;refine E z (fc call14 z<|h_X (B:=ad.z) aJ zr (repS.mono (p1_0.g ak) al) (a_.rep he) p3_0) ?_;rintro _ am ⟨G,rfl,_,_,_,_⟩;refine Rm z<|R z (ext_ z z)<|R z (ext_ z z)<|E z (fa d_l) ?_
 rintro _ aK ⟨rfl,ao⟩;have O:=ao.below;refine E0 (fs (cur':=[Str.v rf.path,vI rf.rule,vI rf.start,vI rf.end_]) a_L z z (ao.blk:Blk aK am.z [(Str.v (⟨[]⟩:Str)),vI 0,vI 0,vI 0]) z (lb z) (oA z) z) ?_;rintro _ ws ⟨aL,aM⟩;have ha:=aM.one;refine Ra z<|Wn<|Wq<|Wq ?_
 obtain ⟨aN,W,Y⟩:=bdS ax;refine Wt (fun a w=>∃ (xx:Bool),xx=aN∧Sat 77 [(10,sl an no cp),(13,sl ae af ah),(74,vB xx)] a∧Below ws.z ws w) ?_ ?_
 ·refine Wg<|Rm z<|R z (not_ z)<|Rm z ?_
  rcases bs (!aI) with J | J
  ·iterate 4 refine Nh z J ?_
   exact R z (pT z J z)<|Rm z<|Nh z z<|Nh z z<|Nh z z<|Nh z z<|Nh z z<|R z (pT z z z)<|Rm z<|Nh z z<|Nh z z<|Nh z z<|Nh z z<|Nh z z<|Nh z z<|Nh z z<|Nh z z<|R z (pT z z z)<|Wl (fun _ q=>⟨true,som<|ifT W J,q.k<|s3 z z z,br ws⟩)
  refine Rh z J (lN (vs:=[sl A0 N0 C0]) v_ s_ z z fid<|(((aj.e G).e O).c ha<|djs<|mm1 hi.lt<|lt_ (lt_ (lt_ (lt_ ai h5.s) h3.s) s6.s) G.s).row 0 1 z)<|Rh z J (mv z) ?_
  have ap:=((ak.e G).e O).c ha<|c_ (or0 (b_ lr)  (j_<|zt' hBw<|lt_ hl G.s) : ∀ k∈[am.z],¬ B k)
  obtain ⟨aO,aP,a0⟩:=bdS<|ifF W J;refine Eg z z J z (fc call18 z<|j_C (B:=ad.z) aP (a_V<|lt_ (lt_ G.s O.s) ha.s) (repS.mono (p1_0.g ap) al)<|or_ (((he.e G).e O).c ha<|ds<|mno (a_.lt he) G.s)<|a_.lt he) ?_;rintro _ _ ⟨sg,rfl⟩;refine Rh z J (not_ z)<|R z (pF z J z)<|Rm z ?_
  rcases bs (!aO) with I | I
  ·iterate 5 refine Nh z I ?_
   exact R z (pT z I z)<|Rm z<|Nh z z<|Nh z z<|Nh z z<|Nh z z<|Nh z z<|Nh z z<|Nh z z<|Nh z z<|R z (pT z z z)<|Wl (fun _ q=>⟨true,som<|ifT a0 I,q.k<|s3 z z z,sg⟩)
  have a1:=ifF a0 I;refine Rh z I (fd b_D z) ?_;have aq:=aL.e sg;refine Rh z I (l1 g_3 z fid<|aq.at z)<|Rh z I (fd b_D z) ?_
  have ar:=((((hj.e s6).e G).e O).c ha<|djs<|mm1 aa.lt<|lt_ (lt_ h3.s s6.s) G.s).e sg;refine Rh z I (l1 g_3 z fid<|ar.at z)<|Rh z I (nq z z)<|R z (pF z I z)<|Rm z ?_
  rcases bs (rf.start != rd.start) with H | H
  ·iterate 8 refine Nh z H ?_
   exact R z (pT z H z)<|Wl (fun _ q=>⟨true,som<|ifT a1 H,q.k<|s3 z z z,sg⟩)
  exact Rh z H (fd c_p z)<|Rh z H (l1 g_3 z fid<|aq.at z)<|Rh z H (fd b_D z)<|Rh z H (l1 g_3 z fid<|ar.at z)<|Rh z H (mv z)<|Rh z H (lnR n_ z<|p4_0.g<|ap.e sg)<|Rh z H (add_ z z)<|Rh z H (nq z z)<|R z (pF z H z)<|Wl (fun _ q=>⟨rf.end_ != (g_ rd.start (x4.length:Int)),som<|ifF a1 H,q.k<|s3 z z z,sg⟩)
 rintro aQ _ ⟨xx,rfl,_,sm⟩;revert aQ;refine Wo<|Wc z (fun hcy=>?_) (fun hcy=>?_)
 ·refine Ws<|Rm z<|Ra z<|Ra z<|Wn ?_
  obtain rfl:=som<|ifT Y hcy;have au:=m1 L.s;exact Wr<|a_5 hr z z ⟨bup (bM (bup (bup (bup (bM (bup (bup (bM (bup L sb) sc au) s2) h5) h3<|m1 hk) s6) G) O) ha<|m1<|lt_ hl G.s) sm,an,no,cp,a4,z,(((((((hh.e s2).e h5).c h3<|ds<|mno (a_.lt hh) s2.s).e s6).e G).e O).c ha<|ds<|mno (a_.lt hh)<|lt_ (lt_ (lt_ (lt_ s2.s h5.s) h3.s) s6.s) G.s).e sm,a5,a_8 a6 au ht⟩
 refine Wk<|Ws<|Rm z<|Ra z<|Ra z<|Wn ?_
 obtain rfl:=som<|ifF Y hcy;exact Wr<|a_5 hr z z ⟨bup (bM (bup (bup (bup (bM (bup (bup (bM (bup L sb) sc<|m1 L.s) s2) h5) h3<|m1 hk) s6) G) O) ha<|m1<|lt_ hl G.s) sm,ae,af,ah,aF,z,(((he.e G).e O).c ha<|ds<|mno (a_.lt he) G.s).e sm,aG,l_ aH hw⟩
theorem W_w1z {x1:List UInt8} {x2:List UInt8} {res:Bool} (hm:e_N x1 x2=some res) (hBw:B≤w0.z) (p1_0:repS w0 B (sl A0 N0 C0) x1) (p2_0:repS w0 B (sl A6 N6 C6) x2):m_ prog 13 [sl A0 N0 C0,sl A6 N6 C6] w0 (Q0 w0 B res):=by
 unfold e_N at hm
 refine goF func13 z z (lb z) fun fn hr=>Ws<|Ra z<|Wn<|Wq<|Ws<|Rm z<|R z (lnR n_ z p1_0)<|Rm z<|R z (lnR n_ z p2_0)<|R z (nq z z)<|Wn<|Wc z (fun H=>?_) (fun H=>?_)
 ·refine Ws<|Ra z<|Wn ?_
  obtain rfl:=som<|ifT hm H;exact Wr<|h_ hr z ⟨br w0,z⟩
 refine Wk<|Wq<|Ws<|Ra z<|Wn ?_
 obtain ⟨_,hua,J⟩:=bdS<|ifF hm H;refine Wf (σ:=Unit) (ρ:=Bool) (fun (k5:Nat) (_:Unit) a w=>Sat 26 [(0,sl A0 N0 C0),(1,sl A6 N6 C6),(5,vI ((k5:Nat):Int))] a∧Below w0.z w0 w) (fun (_:Unit) a w=>Sat 26 [] a∧Below w0.z w0 w) (fun r ex a w=>ex = .ret∧L_ prog fn (Q0 w0 B r) a w) hua ?_ ?_ ?_ ?_ ?_
 ·exact fun _ q=>⟨q.k<|s3 z z z,br w0⟩
 ·rintro k5 _ _ _ _ L ⟨hSb,G⟩ hmc;refine Wu ?_ hSb;refine Wq<|Ws<|Rm z<|Rm z<|R z (lnR n_ z<|p1_0.e G)<|R z (lss z z)<|Wn<|Wc z (fun _=>?_) (fun hc=>(a_h L hc).elim)
  refine Wk<|Wq<|Wb<|Wq (Wd (X:=noX) 0 (.rd 0<|.rd 1<|.rd 2<|.rd 3<|.rd 4<|.rd 5<|.rd 6<|.rd 7<|.rd 8 .done) mo (by kernel_rfl) fun wu s2 _=>dR z z (mv z)<|dR z z (mv z) ?_)
  obtain ⟨_,ed,hme⟩:=bdS hmc;have V:=(G.ag B).e s2;refine dRX z z (at_ (α:=UInt8) n_ z_5 z z z (p1_0.g V) ed) ?_;rintro _ ⟨_,_,_,rfl,hf,hg,_⟩;obtain rfl:=u8 hg;refine dR z z (l1 g_5 z fid<|hf.at0 z)<|dR z z (mv z)<|dR z z (mv z) ?_
  obtain ⟨_,eh,O⟩:=bdS hme;refine dRX z z (at_ (α:=UInt8) n_ z_5 z z z (p2_0.g V) eh) ?_;rintro _ ⟨_,_,_,rfl,hi,hj,_⟩;obtain rfl:=u8 hj;refine dR z z (l1 g_5 z fid<|hi.at0 z)<|dR z z (nq z z)<|pD<|Wo<|Wc z (fun I=>?_) (fun I=>?_)
  ·exact Ws<|Ra z<|Wn<|Wr<|rtO<|qL (som<|ifT O I).symm<|h_ hr z ⟨bup G s2,z⟩
  exact Wk<|Wg<|Rm z<|R z (inc_ L (lt_ (repS.len p1_0) P_) z z)<|Ra z<|Wl (fun _ q=>⟨(),(som<|ifF O I).symm,⟨q.k<|s3 z z z,bup G s2⟩⟩)
 ·rintro _ _ _ ⟨hSk,s9⟩;refine Wu ?_ hSk;refine Wq<|Ws<|Rm z<|Rm z<|R z (lnR n_ z<|p1_0.e s9)<|R z (lss z z)<|Wn<|Wc z (fun hc=>(a_i hc).elim) (fun _=>?_)
  exact We<|fun a' ha'=>⟨rfl,⟨Sat.weaken ha' sn,s9⟩⟩
 ·rintro _ al _ rfl ⟨_,sm⟩;have hmn:=elL J;revert al;refine Wo<|Ws<|Ra z<|Wn ?_
  obtain rfl:=som hmn;exact Wr<|h_ hr z ⟨sm,z⟩
 rintro _ _ _ _ rfl ⟨rfl,hqo⟩;have hmp:=elR J;obtain rfl:=som hmp;exact ⟨hqo,z⟩
def Q37 (w0:World) (B:Zone) (r:(List K_)×Int) (v:Value) (w':World):Prop:=Bw w0 w'∧un2 (fun L G=>∃ H I J S1,v = .tuple #[sl H I J,vI G]∧a_ w' S1 (sl H I J) L∧inI G∧S1.Nodup∧(∀ k∈S1,w0.z≤k)) r
structure j_D (f:f_→Int→(List UInt8)→Int→Str→Option ((List K_)×Int)):Prop where
  run : ∀ {A0 A7:Option Addr} {N0 C0 N7 C7:Nat} {B:Zone} {x1:f_} {x2:Int} {x3:List UInt8} {x4:Int} {x5:Str} {res:(List K_)×Int} {w0:World} (hm:f x1 x2 x3 x4 x5=some res) (hBw:B≤w0.z) (p1_0:repS w0 B (sl A0 N0 C0) x1.rules) (p2_0:inI x2) (p3_0:repS w0 B (sl A7 N7 C7) x3) (p4_0:inI x4) (p5_0:x5.b.length≤LEN),m_ prog 68 [(.agg #[sl A0 N0 C0]),vI x2,sl A7 N7 C7,vI x4,Str.v x5] w0<|Q37 w0 B res
abbrev l_4 (n:Nat):Prop:=j_D (e_9 n).spec_l19Build
theorem T_w0d (bu:l_4 n):j_D (h_d n<|e_9 n):=by
 constructor
 intro A0 A7 N0 C0 N7 C7 B x1 x2 x3 x4 x5 res w0 hm hBw p1_0 p2_0 p3_0 p4_0 p5_0;unfold h_d at hm
 refine goF func68 z z (lb z) fun fn hr=>Ws<|E z (fb z) ?_
 rintro _ wi ⟨rfl,aB⟩;have hn:=aB.below;have ho:Blk wi w0.z [sl A0 N0 C0]:=aB.blk;refine Ra z<|Ra z<|Wn<|Ws<|R z (fd a_4 z)<|R z (l1 a_6 z fid<|ho.at z)<|Rm z ?_
 obtain ⟨xj,bv,b7⟩:=bdS hm;refine RX z (at_ (α:=e_) a_7 o_ z z z (p1_0.e hn) bv) ?_;rintro _ ⟨_,_,_,rfl,bw,bx,_⟩;obtain ⟨az,W,Y,a0,a1,a2,a3,a4,a5,a6,a7,a8,rfl,aC,aD,aE,aF,aG,aH,ak⟩:=a_P bx;refine R z (lN (vs:=vR xj az W Y a0 a1 a2 a3 a4 a5 a6 a7 a8) I_ o_ z z fid bw)<|E z (fa b_E) ?_
 rintro _ bz ⟨rfl,aI⟩;have hg:=aI.below;have al:Blk bz wi.z [(Str.v (⟨[]⟩:Str)),vI 0,vI 0,vB false,sl none 0 0,sl none 0 0,sl none 0 0,sl none 0 0]:=aI.blk;refine E0 (fs (cur':=vR xj az W Y a0 a1 a2 a3 a4 a5 a6 a7 a8) o_ z z al z (lb z) (oA z) z) ?_;rintro _ _ ⟨bA,bB⟩;have hd:=bB.one;refine Wn<|Ws ?_
 have am:=(ho.e hg).c hd<|djs<|mmr ho.lt
 refine R z (lN (vs:=[sl A0 N0 C0]) v_ s_ z z fid<|am.row 0 1 z)<|Rm z<|Rm z<|Rm z ?_
 have an : ∀ k∈[wi.z],¬ B k:=or0 (b_ lr)  (j_<|zt' hBw hn.s);have aa:=((hn.ag B).e hg).c hd<|c_ an
 have ab:=lt_ (lt_ hn.s hg.s) hd.s;obtain ⟨bC,rh,_,bD,b8⟩:=p_ b7;refine E z (fc call67 z<|h_W.run (B:=B) bD (zt' hBw ab) (p1_0.g aa) p2_0 (p3_0.g aa) p4_0) ?_;rintro _ wk ⟨s6,bE,bF,bG,_,bH,bI,bJ,_,rfl,bK,_,L,aJ,_,_,_⟩;refine Rm z ?_
 iterate 3 refine R z (ext_ z z) ?_
 refine E z (fa a_d) ?_;rintro _ bL ⟨rfl,aK⟩;have h2:=aK.below;have ao:Blk bL wk.z [vI 0,sl none 0 0,sl none 0 0]:=aK.blk;refine E0 (fs (cur':=[vI bC.number,sl bE bF bG,sl bH bI bJ]) i_ z z ao z (lb z) (oA z) z) ?_;rintro _ G ⟨aL,bN⟩;have H:=bN.one;refine Ra z<|Ra z<|Wn<|Ws<|Rm z<|Rm z<|Rm z<|Rm z<|R z (bP (parts:=[(0,.tmp 38),(1,.tmp 39),(2,.tmp 40),(3,.tmp 41)]) (cs:=[Str.v x5,vI x2,vI x4,vI rh]) d_i z z)<|E z (fS [(.tmp 42)] j_2 z z z (a_b z) (lb z)<|lb z) ?_
 rintro _ wr ⟨rfl,ap⟩;have h5:=ap.below;have cz:Blk wr G.z [Str.v x5,vI x2,vI x4,vI rh]:=ap.blk;refine Ra z<|Wn<|Ws<|Rm z<|Ra z<|Wn<|Wq<|Ws<|R z (fd a_C z) ?_
 have aM:=lt_ hd.s s6.s;have aq:=(((bA.e s6).e h2).c H<|djs<|mm1 al.lt aM).e h5;refine R z (l1 g_3 z fid<|aq.at z)<|Wn<|Wb<|Wq<|Ws<|R z (eql z z)<|Ra z<|Wn ?_
 obtain ⟨bO,aw,b9⟩:=bdS b8;refine Wt (fun a w=>∃ (ar:Bool),ar=bO∧Sat 98 [(2,sl A7 N7 C7),(3,vI x4),(4,Str.v x5),(5,pt w0.z),(12,pt wi.z),(13,pt wk.z),(14,vI rh),(16,sl (some ⟨G.z,0,none⟩) 1 1),(17,vI x4),(46,vI xj.kind),(47,vB ar)] a∧Below wr.z wr w) ?_ ?_
 ·refine Wc z (fun ah=>?_)<|fun ah=>?_
  ·exact a_e<|fun _ q=>⟨xj.kind==5,som<|ifT aw ah,q.k<|sc z<|sc z<|sc z<|sc z<|sc z<|sc z<|sc z<|sc z<|sc z<|sc z<|sc z sn,br wr⟩
  exact Wg<|R z (eql z z)<|Ra z<|Wl (fun _ q=>⟨xj.kind==7,som<|ifF aw ah,q.k<|sc z<|sc z<|sc z<|sc z<|sc z<|sc z<|sc z<|sc z<|sc z<|sc z<|sc z sn,br wr⟩)
 rintro bQ wm ⟨ar,rfl,_,s3⟩;revert bQ;refine Wo ?_;obtain ⟨bR,ax,ba⟩:=bdS b9;refine Wt (fun a w=>∃ (ad:Int),ad=bR∧Sat 98 [(2,sl A7 N7 C7),(4,Str.v x5),(5,pt w0.z),(12,pt wi.z),(13,pt wk.z),(14,vI rh),(16,sl (some ⟨G.z,0,none⟩) 1 1),(17,vI ad)] a∧Below wm.z wm w∧inI ad) ?_ ?_
 ·refine Wc z (fun ai=>?_)<|fun ai=>?_
  ·refine Wq (Wd (X:=noX) 0 (.rd 0<|.rd 1<|.rd 2<|.rd 3<|.rd 4<|.rd 5<|.rd 6<|.ef 7<|.rd 8<|.rd 9<|.rd 10<|.rd 11<|.rd 12<|.rd 13<|.rd 14 .done) mo (by kernel_rfl) fun cA sp _=>dR z z (lN (vs:=[sl A0 N0 C0]) v_ s_ z z fid<|((((((am.e s6).e h2).c H<|djs<|mm1 ho.lt<|lt_ (lt_ hg.s hd.s) s6.s).e h5).e s3).e sp).row 0 1 z)<|dR z z (fd N_ z)<|dR z z (l1 C_ z fid<|((aq.e s3).e sp).at z) ?_);obtain ⟨_,bS,bb⟩:=bdS<|ifT ax ai;have aN:=lt_ ab s6.s;have aO : ∀ k∈[wk.z],¬ B k:=or0 (b_ lr)  (j_<|zt' hBw aN);refine dRX z z (at_ (α:=Int) w_ z_3 z z z (ak.g<|(((((((hg.ag B).c hd<|c_ an).e s6).e h2).c H<|c_ aO).e h5).e s3).e sp) bS) ?_;rintro _ ⟨_,_,_,rfl,bT,bU,_⟩;obtain ⟨rfl,bV⟩:=Q_ bU;refine dR z z (l1 g_3 z fid<|bT.at0 z)<|dR z z (mv z)<|dR z z (mv z) ?_
   have aP:=(((((aa.e s6).e h2).c H<|c_ aO).e h5).e s3).e sp;obtain ⟨_,bW,_,bX,bc⟩:=p_ bb;refine dE z z (fc call125 z<|g_0 (B:=B) bX (zt' hBw<|lt_ (lt_ (lt_ (lt_ (lt_ aN h2.s) H.s) h5.s) s3.s) sp.s) (p1_0.g aP) bV (p3_0.g aP) p4_0) (.inr fun _ _ h=>A_<|h.1) ?_;rintro _ _ ⟨bY,rfl,_,bZ⟩;refine dR z z (mv z) ?_
   iterate 3 refine dR z z (ext_ z z) ?_
   iterate 3 refine dR z z (asg z) ?_
   exact pD<|Wo<|Wg<|Rm z<|Ra z<|Wl (fun _ q=>⟨bW,som bc,q.k<|s8 z z z z z z z z,bup sp bY,bZ⟩)
  refine Ws<|R z (eql z z)<|Ra z<|Wn ?_
  obtain ⟨c0,ay,be⟩:=bdS<|ifF ax ai;refine Wt (fun a w=>∃ (xt:Int),xt=c0∧Sat 98 [(2,sl A7 N7 C7),(4,Str.v x5),(5,pt w0.z),(12,pt wi.z),(13,pt wk.z),(14,vI rh),(16,sl (some ⟨G.z,0,none⟩) 1 1),(17,vI xt)] a∧Below wm.z wm w∧inI xt) ?_ ?_
  ·refine Wc z (fun aj=>?_)<|fun aj=>?_
   ·exact Wg<|Rm z<|R z (add_ z z)<|Ra z<|Wl (fun _ q=>⟨g_ x4 1,som<|ifT ay aj,q.k<|s8 z z z z z z z z,br wm,iA _ _⟩)
   exact a_e<|fun _ q=>⟨x4,som<|ifF ay aj,q.k<|s8 z z z z z z z z,br wm,p4_0⟩
  rintro c1 _ ⟨xt,rfl,_,c2,c3⟩;revert c1;exact fun _ q=>⟨xt,som be,q.k<|s8 z z z z z z z z,c2,c3⟩
 rintro c4 I ⟨ad,rfl,_,sa,c5⟩;revert c4;refine Wo<|Wq<|Ws<|Ra z<|Wn ?_
 obtain ⟨_,bf,aA⟩:=bdS ba;refine Wf (σ:=(List K_)×Int) (ρ:=(List K_)×Int) (fun (aQ:Nat) s a w=>un2 (fun xq xl=>∃ O nb cc J,Sat 98 [(2,sl A7 N7 C7),(4,Str.v x5),(5,pt w0.z),(12,pt wi.z),(13,pt wk.z),(14,vI rh),(16,sl O nb cc),(17,vI xl),(21,vI ((aQ:Nat):Int))] a∧Chg (· ∈ [G.z]) I w∧a_ w J (sl O nb cc) xq∧J.Nodup∧(∀ k∈J,k∈[G.z]∨I.z≤k)∧inI xl) s) (fun s a w=>un2 (fun xq xl=>∃ O nb cc J,Sat 98 [(14,vI rh),(16,sl O nb cc)] a∧Chg (· ∈ [G.z]) I w∧a_ w J (sl O nb cc) xq∧J.Nodup∧(∀ k∈J,k∈[G.z]∨I.z≤k)∧inI xl) s) (fun r ex a w=>ex = .ret∧L_ prog fn (Q37 w0 B r) a w) bf ?_ ?_ ?_ ?_ ?_
 ·exact fun _ q=>⟨some ⟨G.z,0,none⟩,1,1,[G.z],q.k<|s9 z z z z z z z z z,cr [G.z] I,((a_J ap<|n_3 (x:=(⟨x5,x2,x4,rh⟩:K_))  p5_0 p2_0 p4_0 aJ).e s3).e sa,a_o,io sr,c5⟩
 ·rintro aQ ⟨xq,xl⟩ _ c6 _ V ⟨O,nb,cc,J,bg,se,hu,hv,hw,ae⟩ bh;refine Wu ?_ bg;refine Wq<|Ws<|Rm z<|R z (fd b_d z) ?_
  have aR:=(((aL.e h5).e s3).e sa).c se<|djs<|mm1 ao.lt H.s
  refine R z (l1 c_2 z fid<|aR.at z)<|R z (lnR c_W z<|or_ ((((((L.e h2).c H<|ds<|mnr<|a_.lt L).e h5).e s3).e sa).c se<|ds<|mno (a_.lt L)<|lt_ h2.s H.s)<|a_.lt L)<|R z (lss z z)<|Wn<|Wc z (fun _=>?_) (fun hc=>(a_h V hc).elim)
  refine Wk<|Wq<|Wb<|Wq (Wd (X:=noX) 0 (.rd 0<|.rd 1<|.rd 2<|.rd 3<|.rd 4<|.rd 6<|.rd 7<|.rd 8<|.rd 9<|.rd 10<|.rd 11<|.ef 5<|.ef 12<|.rd 13<|.ef 14<|.rd 15<|.rd 16<|.rd 17<|.rd 18<|.rd 19 .done) mo (by kernel_rfl) fun c7 sf _=>?_)
  have aS:=lt_ (lt_ hg.s hd.s) s6.s;refine dR z z (lN (vs:=[sl A0 N0 C0]) v_ s_ z z fid<|((((((((am.e s6).e h2).c H<|djs<|mm1 ho.lt aS).e h5).e s3).e sa).c se<|djs<|mm1 ho.lt<|lt_ (lt_ aS h2.s) H.s).e sf).row 0 1 z) ?_;have aT:=(((aq.e s3).e sa).c se<|djs<|mm1 al.lt<|lt_ (lt_ aM h2.s) H.s).e sf;refine dR z z (lN (vs:=vR xj az W Y a0 a1 a2 a3 a4 a5 a6 a7 a8) I_ o_ z z fid<|aT.row 0 8 z)<|dR z z (fd d_M z)<|dR z z (l1 g_3 z fid<|(aR.e sf).at z) ?_
  iterate 4 refine dR z z (mv z) ?_
  obtain ⟨_,c8,bi⟩:=bdS<|a_F bh;refine dR z z (d_f z z c8)<|dR z z (lN (vs:=vR xj az W Y a0 a1 a2 a3 a4 a5 a6 a7 a8) I_ o_ z z fid<|aT.row 0 8 z)<|dR z z (mv z) ?_
  have aU:=lt_ ab s6.s;have aV : ∀ k∈[wk.z],¬ B k:=or0 (b_ lr)  (j_<|zt' hBw aU);have aW:=lt_ (lt_ aU h2.s) H.s;have aX : ∀ k∈[G.z],¬ B k:=or0 (b_ lr)  (j_<|zt' hBw aW);have hx:=(((((((((hg.ag B).c hd<|c_ an).e s6).e h2).c H<|c_ aV).e h5).e s3).e sa).c se<|c_ aX).e sf;have aY:=lt_ (lt_ (lt_ (lt_ (lt_ aW h5.s) s3.s) sa.s) se.s) sf.s;obtain ⟨_,c9,bj⟩:=bdS bi;refine dE z z (fc call109 z<|d_N (B:=B) c9 (zt' hBw aY) aC aD aE (aF.g hx) (aG.g hx) (aH.g hx) (ak.g hx) bK<|ic (Nat.le_of_lt V)<|lt_ (a_.len L) P_) (.inr fun _ _ h=>A_<|h.1) ?_;rintro _ ca ⟨ss,rfl,cb⟩;have af:=hx.e ss;have aZ:=lt_ aY ss.s;obtain ⟨_,cd,bk⟩:=bdS bj;refine dE z z (fc call124 z<|j_b (B:=B) cd (zt' hBw aZ) aC aD aE (aF.g af) (aG.g af) (aH.g af) (ak.g af)<|ic (Nat.le_of_lt V)<|lt_ (a_.len L) P_) (.inr fun _ _ h=>A_<|h.1) ?_;rintro _ ce ⟨sy,rfl,_⟩;obtain ⟨_,b0,bm⟩:=bdS bk;refine dR z z (d_f z z b0) ?_;have b1:=(((((((((aa.e s6).e h2).c H<|c_ aV).e h5).e s3).e sa).c se<|c_ aX).e sf).e ss).e sy;obtain ⟨_,cf,cg,bn⟩:=a_c bm;refine dE z z (fc call68 z<|bu.run (B:=B) cg (zt' hBw<|lt_ aZ sy.s) (p1_0.g b1) cb (p3_0.g b1) ae<|d_J b0) (.inr fun _ _ h=>A_<|h.1) ?_;rintro _ ch ⟨au,_,_,_,_,rfl,ci,cj,_,_⟩;refine dR z z (mv z)<|dR z z (ext_ z z)<|dR z z (ext_ z z)<|dR z z (asg z)<|dR z z (asg z)<|pD<|Wo<|Ws<|Rm z<|Rm z ?_
  obtain ⟨ck,cl,bo⟩:=bdS bn;refine E z (fN (α:=K_) j_2 cl z z ((((hu.e sf).e ss).e sy).e au) hv<|a_.rep ci) ?_;rintro _ cm ⟨b2,cn,co,cp,rfl,cq,ct,cu,cv⟩;refine Ra z<|Wn<|Wg<|Rm z<|Ra z<|Wn<|Wg<|Rm z<|R z (inc_ V (lt_ (a_.len L) P_) z z)<|Ra z<|Wl ?_
  have b3 : ∀ k∈J,k∈[G.z]∨I.z≤k:=or1 hw (io sr)<|G_ lr;exact fun _ q=>⟨(ck,cf),(som bo).symm,⟨cn,co,cp,b2,q.k<|s9 z z z z z z z z z,(cM (d_ (d_ (d_ (d_ (cM (cr [G.z] I) se (io sr):Chg (· ∈ [G.z]) I c6) sf:Chg (· ∈ [G.z]) I c7) ss:Chg (· ∈ [G.z]) I ca) sy:Chg (· ∈ [G.z]) I ce) au:Chg (· ∈ [G.z]) I ch) cq b3:Chg (· ∈ [G.z]) I cm),ct,cu,(or1 cv b3 (G_<|lt_ (lt_ (lt_ (lt_ se.s sf.s) ss.s) sy.s) au.s) : ∀ k∈b2,k∈[G.z]∨I.z≤k),cj⟩⟩
 ·rintro ⟨xq,xl⟩ _ cw ⟨O,nb,cc,J,bp,av,hu,hv,hw,ae⟩;refine Wu ?_ bp;refine Wq<|Ws<|Rm z<|R z (fd b_d z)<|R z (l1 c_2 z fid<|((((aL.e h5).e s3).e sa).c av<|djs<|mm1 ao.lt H.s).at z)<|R z (lnR c_W z<|or_ ((((((L.e h2).c H<|ds<|mnr<|a_.lt L).e h5).e s3).e sa).c av<|ds<|mno (a_.lt L)<|lt_ h2.s H.s)<|a_.lt L)<|R z (lss z z)<|Wn<|Wc z (fun hc=>(a_i hc).elim) (fun _=>?_)
  exact We<|fun a' ha'=>⟨rfl,⟨O,nb,cc,J,Sat.weaken ha'<|s2 z z,(cM (cr [G.z] I) av (io sr):Chg (· ∈ [G.z]) I cw),hu,hv,(or1 hw (io sr) (G_ lr) : ∀ k∈J,k∈[G.z]∨I.z≤k),ae⟩⟩
 ·rintro ⟨xq,xl⟩ cx _ rfl ⟨O,nb,cc,J,_,cy,hu,hv,hw,ae⟩;have bq:=elL aA;revert cx;refine Wo<|Ws<|Rm z<|Rm z<|Ra z<|Ra z<|Wn ?_
  obtain rfl:=som<|a_F bq;have b4:=lt_ ab s6.s;have b5:=lt_ (lt_ b4 h2.s) H.s;have b6:=m1 b5;exact Wr<|a_5 hr z z ⟨bM (bup (bup (bup (bM (bup (bup (bM (bup hn hg) hd<|m1 hn.s) s6) h2) H<|m1 b4) h5) s3) sa) cy b6,O,nb,cc,J,z,hu,aJ,hv,a_8 hw b6<|lt_ (lt_ (lt_ b5 h5.s) s3.s) sa.s⟩
 rintro _ _ _ _ rfl ⟨rfl,bs⟩;have bt:=elR aA;obtain rfl:=som bt;exact ⟨bs,z⟩
theorem A_w0d : ∀ n,l_4 n
  | 0=>⟨fun hm=>by intros;exact nomatch (show none=some _ from hm)⟩
  | n+1=>T_w0d<|A_w0d n
theorem W_w0d:j_D (e_9 n).spec_l19Build:=A_w0d n

def Q38 (w0:World) (B:Zone) (r:(List K_)×Bool) (v:Value) (w':World):Prop:=Bw w0 w'∧un2 (fun J L=>∃ G H I S1,v = .tuple #[sl G H I,vB L]∧a_ w' S1 (sl G H I) J∧S1.Nodup∧(∀ k∈S1,w0.z≤k)) r
theorem W_w3b {x1:f_} {x2:List UInt8} {res:(List K_)×Bool} (hm:h_e n x1 x2=some res) (hBw:B≤w0.z) (p1_0:repS w0 B (sl A0 N0 C0) x1.rules) (p2_0:repS w0 B (sl A6 N6 C6) x2):m_ prog 15 [(.agg #[sl A0 N0 C0]),sl A6 N6 C6] w0 (Q38 w0 B res):=by
 unfold h_e at hm
 refine goF func15 z z (lb z) fun fn hr=>Ws<|E z (fb z) ?_
 rintro _ wd ⟨rfl,h5⟩;have G:=h5.below;have h6:Blk wd w0.z [sl A0 N0 C0]:=h5.blk;refine Ra z<|Ra z<|Wn<|Wq<|Ws<|R z (lN (vs:=[sl A0 N0 C0]) v_ s_ z z fid<|h6.row 0 1 z)<|Rm z ?_
 obtain ⟨_,ee,I⟩:=bdS hm;refine E z (fc call18 z<|j_C (B:=B) ee (zt' hBw G.s) (p1_0.e G)<|p2_0.e G) ?_;rintro _ wf ⟨s1,rfl⟩;refine R z (not_ z)<|Wn<|Wc z (fun H=>?_) (fun H=>?_)
 ·refine Ws<|E z (f0 (α:=K_) j_2) ?_
  rintro _ _ ⟨ah,ng,ci,rfl,sj,hk⟩;refine Ra z<|Ra z<|Wn ?_
  obtain rfl:=som<|ifT I H;exact Wr<|a_5 hr z z ⟨bup (bup G s1) sj,ah,ng,ci,[wf.z],z,hk,a_o,m1<|lt_ G.s s1.s⟩
 refine Wk<|Wq (Wd (X:=noX) 0 (.rd 0<|.rd 1<|.rd 3<|.ef 2<|.ef 4<|.rd 5<|.rd 6<|.rd 7<|.rd 8<|.rd 9 .done) mo (by kernel_rfl) fun O s2 _=>?_)
 have J:=(h6.e s1).e s2;refine dR z z (lN (vs:=[sl A0 N0 C0]) v_ s_ z z fid<|J.row 0 1 z)<|dR z z (lN (vs:=[sl A0 N0 C0]) v_ s_ z z fid<|J.row 0 1 z)<|dR z z (mv z) ?_
 have L:=((G.ag B).e s1).e s2;have ha:=lt_ (lt_ G.s s1.s) s2.s;obtain ⟨_,el,hmm⟩:=bdS<|ifF I H;refine dE z z (fc call65 z<|h_V (B:=B) el (zt' hBw ha)<|p1_0.g L) (.inr fun _ _ h=>A_<|h.1) ?_;rintro _ _ ⟨s4,rfl,hn⟩;have hb:=L.e s4;have hc:=lt_ ha s4.s;obtain ⟨_,_,eo,hmp⟩:=a_c hmm;refine dE z z (fc call68 z<|W_w0d.run (B:=B) eo (zt' hBw hc) (p1_0.g hb) hn (p2_0.g hb) (ii z)<|lb z) (.inr fun _ _ h=>A_<|h.1) ?_;rintro _ _ ⟨sq,ar,ns,ct,Su,rfl,hv,_,hw,hx⟩;refine dR z z (mv z)<|dR z z (ext_ z z)<|dR z z (ext_ z z)<|dR z z (asg z)<|dR z z (asg z)<|pD<|Wo<|Ws<|Rm z<|Ra z<|Ra z<|Wn ?_
 obtain rfl:=som hmp;exact Wr<|a_5 hr z z ⟨bup (bup (bup (bup G s1) s2) s4) sq,ar,ns,ct,Su,z,hv,hw,l_ hx hc⟩
theorem W_w3c {x1:List K_} {x2:Int} {x3:Int} {res:Int} (hm:e_e n x1 x2 x3=some res) (hBw:B≤w0.z) (p1_0:repS w0 B (sl A0 N0 C0) x1) (p2_0:inI x2) (p3_0:inI x3):m_ prog 16 [sl A0 N0 C0,vI x2,vI x3] w0 (Q9 w0 B res):=by
 unfold e_e at hm
 refine goF func16 z z (lb z) fun fn hr=>Ws<|Ra z<|Wn<|Wq<|Wq ?_
 obtain ⟨ur,hug,hmh⟩:=bdS hm;refine Wt (fun a w=>∃ (O:Bool),O=ur∧Sat 45 [(0,sl A0 N0 C0),(1,vI x2),(2,vI x3),(14,vB O)] a∧Below w0.z w0 w) ?_ ?_
 ·refine Wg<|Rm z<|R z (lss z z)<|Rm z ?_
  rcases bs (decide<|x2<0) with I | I
  ·exact Nh z I<|Nh z I<|R z (pT z I z)<|Wl (fun _ q=>⟨true,som<|ifT hug I,q.k<|s4 z z z z,br w0⟩)
  exact Rh z I (mv z)<|Rh z I (lss z z)<|R z (pF z I z)<|Wl (fun _ q=>⟨decide<|x3<0,som<|ifF hug I,q.k<|s4 z z z z,br w0⟩)
 rintro au J ⟨O,rfl,_,s3⟩;revert au;refine Wo<|Wc z (fun hca=>?_) (fun hca=>?_)
 ·refine Ws<|Ra z<|Wn ?_
  obtain rfl:=som<|ifT hmh hca;exact Wr<|h_ hr z ⟨s3,z,ii z⟩
 refine Wk<|Wq<|Ws<|Rm z<|R z (lnR e_Z z<|p1_0.e s3)<|R z (sb_ z z)<|Ra z<|Wn ?_
 obtain ⟨_,hus,hmi⟩:=bdS<|ifF hmh hca;refine b_P (σ:=Int) (ρ:=Int) (fun (x5:Int) a w=>Sat 45 [(0,sl A0 N0 C0),(1,vI x2),(2,vI x3),(7,vI x5)] a∧Below J.z J w∧inI x5) (fun (x5:Int) a w=>Sat 45 [] a∧Below J.z J w∧inI x5) (fun r ex a w=>ex = .ret∧L_ prog fn (Q9 w0 B r) a w) hus ?_ ?_ ?_ ?_
 ·exact fun _ q=>⟨q.k<|s4 z z z z,br J,iS _ _⟩
 ·rintro x5 _ wt _ ⟨hSv,s6,hb⟩ hmj;refine Wu ?_ hSv;refine Wq<|Ws<|Rm z<|R z (b_e z z)<|Wn<|Wc z (fun hcc=>?_) (fun hcc=>?_)
  ·refine Wk<|Wq<|Wb<|Ws<|Rm z<|Rm z ?_
   obtain ⟨x4,ew,hmx⟩:=bdS<|ifT hmj hcc;refine RX z (at_ (α:=K_) e_Z a_L z z z (p1_0.g<|(s3.ag B).e s6) ew) ?_;rintro _ ⟨_,_,_,rfl,hy,hz,_⟩;obtain ⟨rfl,_,_,_,_⟩:=i_S hz;refine R z (lN (vs:=[Str.v x4.path,vI x4.rule,vI x4.start,vI x4.end_]) c_T a_L z z fid hy)<|E z (fa d_l) ?_
   rintro _ a0 ⟨rfl,hk⟩;have hl:=hk.below;refine E0 (fs (cur':=[Str.v x4.path,vI x4.rule,vI x4.start,vI x4.end_]) a_L z z (hk.blk:Blk a0 wt.z [(Str.v (⟨[]⟩:Str)),vI 0,vI 0,vI 0]) z (lb z) (oA z) z) ?_;rintro _ L ⟨hd,a1⟩;have hn:=a1.one;refine Wn<|Wq ?_
   obtain ⟨a2,hum,hmo⟩:=bdS hmx;refine Wt (fun a w=>∃ (xe:Bool),xe=a2∧Sat 45 [(0,sl A0 N0 C0),(1,vI x2),(2,vI x3),(7,vI x5),(43,vB xe)] a∧Below L.z L w) ?_ ?_
   ·refine Wg<|R z (fd b_D z)<|R z (l1 g_3 z fid<|hd.at z)<|Rm z<|R z (b_S z z)<|Rm z ?_
    rcases bs (decide<|x4.start≤x2) with H | H
    ·have hmp:=ifT hum H;refine Rh z H (mv z)<|Rh z H (fd c_p z)<|Rh z H (l1 g_3 z fid<|hd.at z)<|Rh z H (b_S z z)<|R z (pT z H z)<|Rm z ?_
     rcases bs (decide<|x2≤x4.end_) with G | G
     ·exact Rh z G (mv z)<|Rh z G (fd c_p z)<|Rh z G (l1 g_3 z fid<|hd.at z)<|Rh z G (mv z)<|Rh z G (sb_ z z)<|Rh z G (b_S z z)<|R z (pT z G z)<|Wl (fun _ q=>⟨decide<|x3≤(D_ x4.end_ x2),som<|ifT hmp G,q.k<|s5 z z z z z,br L⟩)
     iterate 6 refine Nh z G ?_
     exact R z (pF z G z)<|Wl (fun _ q=>⟨false,som<|ifF hmp G,q.k<|s5 z z z z z,br L⟩)
    iterate 4 refine Nh z H ?_
    exact R z (pF z H z)<|Rm z<|Nh z z<|Nh z z<|Nh z z<|Nh z z<|Nh z z<|Nh z z<|R z (pF z z z)<|Wl (fun _ q=>⟨false,som<|ifF hum H,q.k<|s5 z z z z z,br L⟩)
   rintro a3 _ ⟨xe,rfl,_,sq⟩;revert a3;refine Wo<|Wc z (fun hcf=>?_) (fun hcf=>?_)
   ·exact Ws<|Rm z<|Ra z<|Wn<|Wr<|rtO<|qL (som<|ifT hmo hcf).symm<|h_ hr z ⟨bup (bM (bup (bup s3 s6) hl) hn<|m1<|lt_ s3.s s6.s) sq,z,hb⟩
   exact Wk<|Wg<|Rm z<|R z (sb_ z z)<|Ra z<|Wl (fun _ q=>⟨D_ x5 1,(som<|ifF hmo hcf).symm,⟨q.k<|s4 z z z z,bup (bM (bup s6 hl) hn<|m1 s6.s) sq,iS _ _⟩⟩)
  exact We<|fun a' ha'=>b_t (som<|ifF hmj hcc).symm ⟨Sat.weaken ha' sn,s6,hb⟩
 ·rintro x5 a4 _ rfl ⟨_,a5,hb⟩;have V:=elL hmi;revert a4;refine Wo<|Ws<|Ra z<|Wn ?_
  obtain rfl:=som V;exact Wr<|h_ hr z ⟨bup s3 a5,z,ii z⟩
 rintro _ _ _ _ rfl ⟨rfl,W⟩;have Y:=elR hmi;obtain rfl:=som Y;exact ⟨W,z⟩
def o_i (w0:World) (B:Zone) (r:Bool) (v:Value) (w':World):Prop:=Bw w0 w'∧(fun G=>(vB G)=v) r
end Go.Vw
