
import Derived.Test.YtajhmimbhplkfaaGreatDoorVwNW2
set_option linter.unusedVariables false
namespace Go.Vw
open Go.RowKit Dat Go.Proofs
open Go.Proofs.Tryz
open Go.Vw renaming g_g→Wq,g_i→Wg,WC.of_KC→Wo,e_G→Wl,g_h→Wc,h_n→Wr,i_a→Wu,h_S→pT,h_T→pF,g_J→fd,g_K→l1,i_L→lN,f_0→mv,f_1→asg,h_U→lnR,g_Q→lss,g_P→eql,g_M→ext_,h_X→bP,g_N→add_,h_E→inc_,i_S→not_,h_V→at_,h_y→fc,e_O→fs,h_x→fb,h_w→fa,h_L→sr,h_Q→cr,h_R→cM,h_P→bM,h_B→iS,h_A→iA,h_D→br,h_F→oA,h_H→bs,ltge→lg,inor→io,i_R→nq,i_N→lnT,i_O→sb_,h_J→ar_,h_I→al_,h_K→ds,j_o→m1,h_N→nr_,h_M→nl_,g_o→aa_,d_v→an_,e_F→Wb,g_m→u8,h_t→pD,h_o→We,h_C→Wt,h_z→fS,e_E→or_,i_b→Wf,i_4→qL,h_s→Wd,h_Y→fN,g_p→na_,h_O→nj,h_Z→f0,h_W→rX,i_0→tl_,i_1→ic
variable {A0:Option Addr} {N0 C0:Nat} {B:Zone} {w0:World} {n:Nat} {A6:Option Addr} {N6 C6:Nat} {AB:Option Addr} {A8:Option Addr} {AC:Option Addr} {AD:Option Addr} {NB CB:Nat} {N8 C8:Nat} {NC CC:Nat} {ND CD:Nat} {A2:Option Addr} {A3:Option Addr} {A1:Option Addr} {A4:Option Addr} {N2 C2:Nat} {N3 C3:Nat} {N1 C1:Nat} {N4 C4:Nat} {A9:Option Addr} {AA:Option Addr} {N9 C9:Nat} {NA CA:Nat} {AE:Option Addr} {AF:Option Addr} {NE CE:Nat} {NF CF:Nat} {A7:Option Addr} {N7 C7:Nat} {AI:Option Addr} {NI CI:Nat} {A5:Option Addr} {N5 C5:Nat} {AL:Option Addr} {NL CL:Nat}
theorem T_w02 (ih:d_B n):i_y (g_0 n<|a_8 n):=by
 obtain ⟨_,d0,d1,d2,d3,d4⟩:=ih
 constructor
 intro A0 A5 N0 C0 N5 C5 b1 o1 B x1 x2 x3 res w0 hm hBw p1_0 p1_1 hC1 hC1b p2_0 p3_0;unfold g_0 at hm
 refine goF func191 z z (lb z) fun fn hr=>Ws<|E z (fa a_b) ?_
 rintro _ H ⟨rfl,bc⟩;have h2:=bc.below;have h3:Blk H w0.z [vI 0,sl none 0 0,sl none 0 0]:=bc.blk;refine Ra z<|Ra z<|Wn<|Ws<|Rm z<|R z (V_ z)<|R z (fd k_7 z)<|R z (fd X_ z) ?_
 have h5:=hC1.e h2;refine R z (l1 a_0 z fid<|h5.at (j:=0) z)<|Rm z ?_
 obtain ⟨J,d5,b0⟩:=bdS hm;refine RX z (at_ (α:=g_) a_1 p_ z z z (p1_0.e h2) d5) ?_;rintro _ ⟨_,_,_,rfl,d6,d7,_⟩;obtain ⟨aa,nb,cc,ad,ne,cf,ah,ng,ci,aj,nk,cl,rfl,hq,ht,ho,hp,hu,hv,hn⟩:=a_z d7;refine R z (lN (vs:=vR J aa nb cc ad ne cf ah ng ci aj nk cl) J_ p_ z z fid d6)<|E z (fa b_i) ?_
 rintro _ d8 ⟨rfl,be⟩;have G:=be.below;refine E0 (fs (cur':=vR J aa nb cc ad ne cf ah ng ci aj nk cl) p_ z z (be.blk:Blk d8 H.z [(Str.v (⟨[]⟩:Str)),vI 0,vI 0,vB false,sl none 0 0,sl none 0 0,sl none 0 0,sl none 0 0]) z (lb z) (oA z) z) ?_;rintro _ _ ⟨I,d9⟩;have h1:=d9.one;refine Wn<|Wq<|Ws<|R z (fd a_x z)<|R z (l1 g_3 z fid<|I.at z)<|Wn<|Wb<|Ws<|R z (eql z z)<|Ra z<|Wn<|Wc z (fun hcr=>?_) (fun hcr=>?_)
 ·refine Ws<|Rm z<|Rm z<|Rm z ?_
  have bf : ∀ k∈[H.z],¬ B k:=or0 (b_ lr)  (m_<|zt' hBw h2.s);have bg:=((h2.ag B).e G).c h1<|c_ bf
  have bh:=lt_ (lt_ h2.s G.s) h1.s;obtain ⟨bi,_,_,da,cO⟩:=r_<|ifT b0 hcr;refine E z (fc call224 z<|g_H (B:=B) da (zt' hBw bh) (p1_0.g bg) (p1_1.g bg) ((h5.e G).c h1<|(c_ bf) _ hC1b) hC1b p2_0 p3_0) ?_;rintro _ _ ⟨bj,db,dc,rfl,dd,de,df,bk⟩;refine Rm z ?_
  iterate 3 refine R z (ext_ z z) ?_
  refine Ra z<|Ra z<|Ra z<|Wn<|Ws<|Rm z<|R z (bP (parts:=[(0,.tmp 41)]) (cs:=[vI bi,sl none 0 0,sl none 0 0]) W_ z z)<|Rm z<|Rm z<|E0 (fs (cur':=[vI bi,sl none 0 0,sl none 0 0]) i_ z z (((h3.e G).c h1<|djs<|mmr h3.lt).e bj) z (lb z) (oA z) z) ?_
  rintro _ _ ⟨dg,dh⟩;have bm:=dh.one;refine Ra z<|Ra z<|Wn ?_
  obtain rfl:=som cO;exact Wr<|rtO<|F_ hr (q_ u_ i_ z dg z) z z ⟨bM (bup (bM (bup h2 G) h1<|m1 h2.s) bj) bm<|b_ lr,none,0,0,[],none,0,0,[],db,dc,z,dd,onL,onL,de,df.c bm<|k_ bk h3.lt<|lt_ G.s h1.s,l_ bk bh,nd0,al0⟩
 have b2:=ifF b0 hcr;refine Ws<|R z (eql z z)<|Ra z<|Wn<|Wc z (fun hcs=>?_) (fun hcs=>?_)
 ·refine Ws<|Rm z<|R z (lN (vs:=vR J aa nb cc ad ne cf ah ng ci aj nk cl) J_ p_ z z fid<|I.row 0 8 z)<|Rm z ?_
  have ay : ∀ k∈[H.z],¬ B k:=or0 (b_ lr)  (m_<|zt' hBw h2.s);have bn:=((h2.ag B).e G).c h1<|c_ ay
  have hw:=(G.ag B).c h1<|c_ ay
  have bo:=lt_ (lt_ h2.s G.s) h1.s;obtain ⟨_,_,di,cP⟩:=a_A<|ifT b2 hcs;refine E z (fc call225 z<|W_w2r (B:=B) di (zt' hBw bo) (p1_0.g bn) (p1_1.g bn) ((h5.e G).c h1<|(c_ ay) _ hC1b) hC1b hq ht ho (hp.g hw) (hu.g hw) (hv.g hw) (hn.g hw) p3_0) ?_;rintro _ _ ⟨bp,dj,dk,rfl,dl,dm,bq⟩;refine Rm z<|R z (ext_ z z)<|R z (ext_ z z)<|Ra z<|Ra z<|Wn<|Ws<|R z (bP (parts:=[]) (cs:=[vI 0,sl none 0 0,sl none 0 0]) W_ z z)<|Rm z<|Rm z<|E0 (fs (cur':=[vI 0,sl none 0 0,sl none 0 0]) i_ z z (((h3.e G).c h1<|djs<|mmr h3.lt).e bp) z (lb z) (oA z) z) ?_
  rintro _ _ ⟨dn,dp⟩;have br:=dp.one;refine Ra z<|Ra z<|Wn ?_
  obtain rfl:=som cP;exact Wr<|rtO<|F_ hr (q_ u_ i_ z dn z) z z ⟨bM (bup (bM (bup h2 G) h1<|m1 h2.s) bp) br<|b_ lr,none,0,0,[],none,0,0,[],dj,dk,z,ii z,onL,onL,dl,dm.c br<|k_ bq h3.lt<|lt_ G.s h1.s,l_ bq bo,nd0,al0⟩
 have b3:=ifF b2 hcs;refine Ws<|R z (eql z z)<|Ra z<|Wn<|Wc z (fun an=>?_) (fun an=>?_)
 ·refine Ws<|Rm z<|Rm z<|R z (fd a_t z)<|R z (l1 g_3 z fid<|I.at z) ?_
  have bs : ∀ k∈[H.z],¬ B k:=or0 (b_ lr)  (m_<|zt' hBw h2.s);have bt:=((h2.ag B).e G).c h1<|c_ bs
  have hx:=lt_ (lt_ h2.s G.s) h1.s;obtain ⟨dq,_,_,dr,cQ⟩:=r_<|ifT b3 an;refine E z (fc call226 z<|W_w1h (B:=B) dr (zt' hBw hx) (p1_0.g bt) (p1_1.g bt) ((h5.e G).c h1<|(c_ bs) _ hC1b) hC1b p3_0 ho) ?_;rintro _ _ ⟨bu,bv,bw,bx,ds,bz,bA,bB,dt,du,dv,rfl,dw,dx,dy,dz,dA,bC,az,hy⟩
  iterate 3 refine R z (ext_ z z) ?_
  refine E0 (fs (cur':=[vI dq.number,sl bv bw bx,sl bz bA bB]) i_ z z (((h3.e G).c h1<|djs<|mmr h3.lt).e bu) z (lb z) (oA z) z) ?_;rintro _ _ ⟨dB,dC⟩;have hz:=dC.one;refine Ra z<|Ra z<|Wn ?_
  obtain rfl:=som cQ;have aA:=lt_ G.s h1.s;exact Wr<|rtO<|F_ hr (q_ u_ i_ z dB z) z z ⟨bM (bup (bM (bup h2 G) h1<|m1 h2.s) bu) hz<|b_ lr,bv,bw,bx,ds,bz,bA,bB,dt,du,dv,z,dw,dx.c hz<|k_ (al_ hy) h3.lt aA,dy.c hz<|k_ (ar_ hy) h3.lt aA,dz,dA.c hz<|k_ bC h3.lt aA,l_ bC hx,na_ (nl_ az) (nr_ az)<|nj az,aa_ (l_ (al_ hy) hx)<|l_ (ar_ hy) hx⟩
 have b4:=ifF b3 an;refine Ws<|R z (eql z z)<|Ra z<|Wn<|Wc z (fun ao=>?_) (fun ao=>?_)
 ·refine Ws<|Rm z<|R z (fd K_ z)<|R z (l1 B_ z fid<|I.at z) ?_
  obtain ⟨_,dD,cR⟩:=bdS<|ifT b4 ao;have aB : ∀ k∈[H.z],¬ B k:=or0 (b_ lr)  (m_<|zt' hBw h2.s);refine RX z (at_ (α:=Int) w_ z_3 z z z (hn.g<|(G.ag B).c h1<|c_ aB) dD) ?_;rintro _ ⟨_,_,_,rfl,dF,dG,_⟩;obtain ⟨rfl,dH⟩:=O_ dG;refine R z (l1 g_3 z fid<|dF.at0 z)<|Rm z ?_
  have bD:=(h5.e G).c h1<|(c_ aB) _ hC1b
  have aC:=((h2.ag B).e G).c h1<|c_ aB
  have aD:=lt_ (lt_ h2.s G.s) h1.s;obtain ⟨_,_,_,dI,b5⟩:=r_ cR;refine E z (fc call224 z<|g_H (B:=B) dI (zt' hBw aD) (p1_0.g aC) (p1_1.g aC) bD hC1b dH p3_0) ?_;rintro _ _ ⟨s8,dJ,dK,rfl,dL,dN,bE,bF⟩;refine Rm z ?_
  iterate 3 refine R z (ext_ z z) ?_
  refine Ra z<|Ra z<|Ra z<|Wn<|Wq<|Ws<|Rm z<|R z (c_E c_H z z bE)<|Wn<|Wc z (fun ap=>?_) (fun ap=>?_)
  ·refine Ws<|R z (bP (parts:=[]) (cs:=[vI 0,sl none 0 0,sl none 0 0]) W_ z z)<|Rm z<|Rm z<|E0 (fs (cur':=[vI 0,sl none 0 0,sl none 0 0]) i_ z z (((h3.e G).c h1<|djs<|mmr h3.lt).e s8) z (lb z) (oA z) z) ?_
   rintro _ _ ⟨dO,dP⟩;have bG:=dP.one;refine Ra z<|Ra z<|Wn ?_
   obtain rfl:=som<|ifT b5 ap;exact Wr<|rtO<|F_ hr (q_ u_ i_ z dO z) z z ⟨bM (bup (bM (bup h2 G) h1<|m1 h2.s) s8) bG<|b_ lr,none,0,0,[],none,0,0,[],dJ,dK,z,ii z,onL,onL,p3_0,bE.c bG<|k_ bF h3.lt<|lt_ G.s h1.s,l_ bF aD,nd0,al0⟩
  refine Wk<|Ws<|Rm z<|Rm z<|Rm z ?_
  have bH:=aC.e s8;have L:=lt_ aD s8.s;obtain ⟨dS,_,_,dT,cS⟩:=r_<|ifF b5 ap;refine E z (fc call226 z<|W_w1h (B:=B) dT (zt' hBw L) (p1_0.g bH) (p1_1.g bH) (bD.e s8) hC1b dN dL) ?_;rintro _ _ ⟨bI,bJ,bK,bL,dU,bN,bO,bQ,dV,dW,dX,rfl,dY,dZ,e0,e1,e2,bR,aE,O⟩
  iterate 3 refine R z (ext_ z z) ?_
  refine E0 (fs (cur':=[vI dS.number,sl bJ bK bL,sl bN bO bQ]) i_ z z ((((h3.e G).c h1<|djs<|mmr h3.lt).e s8).e bI) z (lb z) (oA z) z) ?_;rintro _ _ ⟨e3,e4⟩;have V:=e4.one;refine Ra z<|Ra z<|Wn ?_
  obtain rfl:=som cS;have aF:=lt_ (lt_ G.s h1.s) s8.s;exact Wr<|rtO<|F_ hr (q_ u_ i_ z e3 z) z z ⟨bM (bup (bup (bM (bup h2 G) h1<|m1 h2.s) s8) bI) V<|b_ lr,bJ,bK,bL,dU,bN,bO,bQ,dV,dW,dX,z,dY,dZ.c V<|k_ (al_ O) h3.lt aF,e0.c V<|k_ (ar_ O) h3.lt aF,e1,e2.c V<|k_ bR h3.lt aF,l_ bR L,na_ (nl_ aE) (nr_ aE)<|nj aE,aa_ (l_ (al_ O) L)<|l_ (ar_ O) L⟩
 have b6:=ifF b4 ao;refine Ws<|R z (eql z z)<|Ra z<|Wn<|Wc z (fun aq=>?_) (fun aq=>?_)
 ·refine Ws<|Rm z<|R z (lN (vs:=vR J aa nb cc ad ne cf ah ng ci aj nk cl) J_ p_ z z fid<|I.row 0 8 z)<|Rm z ?_
  have aG : ∀ k∈[H.z],¬ B k:=or0 (b_ lr)  (m_<|zt' hBw h2.s);have bS:=((h2.ag B).e G).c h1<|c_ aG
  have W:=(G.ag B).c h1<|c_ aG
  have Y:=lt_ (lt_ h2.s G.s) h1.s;obtain ⟨e5,_,_,e6,cT⟩:=r_<|ifT b6 aq;refine E z (fc call227 z<|d0.run (B:=B) e6 (zt' hBw Y) (p1_0.g bS) (p1_1.g bS) ((h5.e G).c h1<|(c_ aG) _ hC1b) hC1b hq ht ho (hp.g W) (hu.g W) (hv.g W) (hn.g W) p3_0) ?_;rintro _ _ ⟨bT,bU,bV,bW,e7,bX,bY,bZ,e8,e9,ea,rfl,eb,ec,ed,ee,eg,c0,aH,a0⟩
  iterate 3 refine R z (ext_ z z) ?_
  refine E0 (fs (cur':=[vI e5.number,sl bU bV bW,sl bX bY bZ]) i_ z z (((h3.e G).c h1<|djs<|mmr h3.lt).e bT) z (lb z) (oA z) z) ?_;rintro _ _ ⟨eh,ei⟩;have a1:=ei.one;refine Ra z<|Ra z<|Wn ?_
  obtain rfl:=som cT;have aI:=lt_ G.s h1.s;exact Wr<|rtO<|F_ hr (q_ u_ i_ z eh z) z z ⟨bM (bup (bM (bup h2 G) h1<|m1 h2.s) bT) a1<|b_ lr,bU,bV,bW,e7,bX,bY,bZ,e8,e9,ea,z,eb,ec.c a1<|k_ (al_ a0) h3.lt aI,ed.c a1<|k_ (ar_ a0) h3.lt aI,ee,eg.c a1<|k_ c0 h3.lt aI,l_ c0 Y,na_ (nl_ aH) (nr_ aH)<|nj aH,aa_ (l_ (al_ a0) Y)<|l_ (ar_ a0) Y⟩
 have b7:=ifF b6 aq;refine Ws<|R z (eql z z)<|Ra z<|Wn<|Wc z (fun ar=>?_) (fun ar=>?_)
 ·refine Ws<|Rm z<|R z (bP (parts:=[]) (cs:=[vI 0,sl none 0 0,sl none 0 0]) W_ z z)<|R z (fd K_ z)<|R z (l1 B_ z fid<|I.at z)<|Rm z ?_
  have aJ : ∀ k∈[H.z],¬ B k:=or0 (b_ lr)  (m_<|zt' hBw h2.s);have c1:=((h2.ag B).e G).c h1<|c_ aJ
  have a2:=lt_ (lt_ h2.s G.s) h1.s;obtain ⟨ej,_,_,ek,cU⟩:=r_<|ifT b7 ar;refine E z (fc call228 z<|d1.run (B:=B) (x2:=(⟨0,([]:List UInt8),([]:List Val)⟩:Val)) ek (zt' hBw a2) (p1_0.g c1) (p1_1.g c1) ((h5.e G).c h1<|(c_ aJ) _ hC1b) hC1b (ii z) onL H_ an_ onL H_ an_ an_ (hn.g<|(G.ag B).c h1<|c_ aJ) p3_0) ?_;rintro _ _ ⟨c2,c3,c4,c5,c6,c7,c8,c9,ca,em,en,rfl,eo,ep,er,es,eu,cb,aK,a3⟩
  iterate 3 refine R z (ext_ z z) ?_
  refine E0 (fs (cur':=[vI ej.number,sl c3 c4 c5,sl c7 c8 c9]) i_ z z (((h3.e G).c h1<|djs<|mmr h3.lt).c c2<|atp<|nmA (nmN _)<|nmN _) z (lb z) (oA z) z) ?_;rintro _ _ ⟨ew,ex⟩;have a4:=ex.one;refine Ra z<|Ra z<|Wn ?_
  obtain rfl:=som cU;have aL:=lt_ G.s h1.s;exact Wr<|rtO<|F_ hr (q_ u_ i_ z ew z) z z ⟨bM (bM (bM (bup h2 G) h1<|m1 h2.s) c2 al0) a4<|b_ lr,c3,c4,c5,c6,c7,c8,c9,ca,em,en,z,eo,ep.c a4 (or1 (al_ a3) al0 (P_ (b_ h3.lt) aL) : ∀ k∈c6,k∉[w0.z]),er.c a4 (or1 (ar_ a3) al0 (P_ (b_ h3.lt) aL) : ∀ k∈ca,k∉[w0.z]),es,eu.c a4<|k_ cb h3.lt aL,l_ cb a2,na_ (nl_ aK) (nr_ aK)<|nj aK,aa_ (a_2 (al_ a3) al0 a2)<|a_2 (ar_ a3) al0 a2⟩
 have b8:=ifF b7 ar;refine Ws<|R z (eql z z)<|Ra z<|Wn<|Wc z (fun au=>?_) (fun au=>?_)
 ·refine Ws<|Rm z<|R z (lN (vs:=vR J aa nb cc ad ne cf ah ng ci aj nk cl) J_ p_ z z fid<|I.row 0 8 z)<|Rm z ?_
  have aM : ∀ k∈[H.z],¬ B k:=or0 (b_ lr)  (m_<|zt' hBw h2.s);have cd:=((h2.ag B).e G).c h1<|c_ aM
  have a5:=(G.ag B).c h1<|c_ aM
  have a6:=lt_ (lt_ h2.s G.s) h1.s;obtain ⟨ey,_,_,ez,cV⟩:=r_<|ifT b8 au;refine E z (fc call229 z<|d2.run (B:=B) ez (zt' hBw a6) (p1_0.g cd) (p1_1.g cd) ((h5.e G).c h1<|(c_ aM) _ hC1b) hC1b hq ht ho (hp.g a5) (hu.g a5) (hv.g a5) (hn.g a5) p3_0) ?_;rintro _ _ ⟨ce,cg,ch,cj,eA,ck,cm,cn,eB,eC,eD,rfl,eE,eF,eG,eH,eI,co,aN,a7⟩
  iterate 3 refine R z (ext_ z z) ?_
  refine E0 (fs (cur':=[vI ey.number,sl cg ch cj,sl ck cm cn]) i_ z z (((h3.e G).c h1<|djs<|mmr h3.lt).e ce) z (lb z) (oA z) z) ?_;rintro _ _ ⟨eJ,eK⟩;have a8:=eK.one;refine Ra z<|Ra z<|Wn ?_
  obtain rfl:=som cV;have aO:=lt_ G.s h1.s;exact Wr<|rtO<|F_ hr (q_ u_ i_ z eJ z) z z ⟨bM (bup (bM (bup h2 G) h1<|m1 h2.s) ce) a8<|b_ lr,cg,ch,cj,eA,ck,cm,cn,eB,eC,eD,z,eE,eF.c a8<|k_ (al_ a7) h3.lt aO,eG.c a8<|k_ (ar_ a7) h3.lt aO,eH,eI.c a8<|k_ co h3.lt aO,l_ co a6,na_ (nl_ aN) (nr_ aN)<|nj aN,aa_ (l_ (al_ a7) a6)<|l_ (ar_ a7) a6⟩
 have b9:=ifF b8 au;refine Ws<|R z (eql z z)<|Ra z<|Wn<|Wc z (fun av=>?_) (fun av=>?_)
 ·refine Ws<|Rm z<|R z (lN (vs:=vR J aa nb cc ad ne cf ah ng ci aj nk cl) J_ p_ z z fid<|I.row 0 8 z)<|Rm z ?_
  have aP : ∀ k∈[H.z],¬ B k:=or0 (b_ lr)  (m_<|zt' hBw h2.s);have cp:=((h2.ag B).e G).c h1<|c_ aP
  have a9:=(G.ag B).c h1<|c_ aP
  have ab:=lt_ (lt_ h2.s G.s) h1.s;obtain ⟨eL,_,_,eM,cW⟩:=r_<|ifT b9 av;refine E z (fc call230 z<|d3.run (B:=B) eM (zt' hBw ab) (p1_0.g cp) (p1_1.g cp) ((h5.e G).c h1<|(c_ aP) _ hC1b) hC1b hq ht ho (hp.g a9) (hu.g a9) (hv.g a9) (hn.g a9) p3_0) ?_;rintro _ _ ⟨cq,cr,ct,cu,eN,cv,cw,cx,eO,eP,eQ,rfl,eR,eS,eT,eU,eV,cy,aQ,ae⟩
  iterate 3 refine R z (ext_ z z) ?_
  refine E0 (fs (cur':=[vI eL.number,sl cr ct cu,sl cv cw cx]) i_ z z (((h3.e G).c h1<|djs<|mmr h3.lt).e cq) z (lb z) (oA z) z) ?_;rintro _ _ ⟨eW,eX⟩;have af:=eX.one;refine Ra z<|Ra z<|Wn ?_
  obtain rfl:=som cW;have aR:=lt_ G.s h1.s;exact Wr<|rtO<|F_ hr (q_ u_ i_ z eW z) z z ⟨bM (bup (bM (bup h2 G) h1<|m1 h2.s) cq) af<|b_ lr,cr,ct,cu,eN,cv,cw,cx,eO,eP,eQ,z,eR,eS.c af<|k_ (al_ ae) h3.lt aR,eT.c af<|k_ (ar_ ae) h3.lt aR,eU,eV.c af<|k_ cy h3.lt aR,l_ cy ab,na_ (nl_ aQ) (nr_ aQ)<|nj aQ,aa_ (l_ (al_ ae) ab)<|l_ (ar_ ae) ab⟩
 have ba:=ifF b9 av;refine Ws<|R z (eql z z)<|Ra z<|Wn<|Wc z (fun aw=>?_) (fun aw=>?_)
 ·refine Ws<|Rm z<|R z (lN (vs:=vR J aa nb cc ad ne cf ah ng ci aj nk cl) J_ p_ z z fid<|I.row 0 8 z)<|Rm z ?_
  have aS : ∀ k∈[H.z],¬ B k:=or0 (b_ lr)  (m_<|zt' hBw h2.s);have cz:=((h2.ag B).e G).c h1<|c_ aS
  have ai:=(G.ag B).c h1<|c_ aS
  have ak:=lt_ (lt_ h2.s G.s) h1.s;obtain ⟨eY,_,_,eZ,cX⟩:=r_<|ifT ba aw;refine E z (fc call231 z<|d4.run (B:=B) eZ (zt' hBw ak) (p1_0.g cz) (p1_1.g cz) ((h5.e G).c h1<|(c_ aS) _ hC1b) hC1b hq ht ho (hp.g ai) (hu.g ai) (hv.g ai) (hn.g ai) p3_0) ?_;rintro _ _ ⟨cA,cB,cC,cD,f0,cE,cF,cG,f1,f2,f3,rfl,f4,f5,f6,f7,f8,cH,aT,al⟩
  iterate 3 refine R z (ext_ z z) ?_
  refine E0 (fs (cur':=[vI eY.number,sl cB cC cD,sl cE cF cG]) i_ z z (((h3.e G).c h1<|djs<|mmr h3.lt).e cA) z (lb z) (oA z) z) ?_;rintro _ _ ⟨f9,fb⟩;have am:=fb.one;refine Ra z<|Ra z<|Wn ?_
  obtain rfl:=som cX;have aU:=lt_ G.s h1.s;exact Wr<|rtO<|F_ hr (q_ u_ i_ z f9 z) z z ⟨bM (bup (bM (bup h2 G) h1<|m1 h2.s) cA) am<|b_ lr,cB,cC,cD,f0,cE,cF,cG,f1,f2,f3,z,f4,f5.c am<|k_ (al_ al) h3.lt aU,f6.c am<|k_ (ar_ al) h3.lt aU,f7,f8.c am<|k_ cH h3.lt aU,l_ cH ak,na_ (nl_ aT) (nr_ aT)<|nj aT,aa_ (l_ (al_ al) ak)<|l_ (ar_ al) ak⟩
 refine Wk<|Wq (Wd (X:=noX) 0 (.rd 0<|.rd 1<|.rd 2<|.rd 3<|.rd 4<|.rd 5<|.rd 6<|.rd 7<|.rd 8<|.ef 9<|.rd 10<|.rd 11<|.rd 12<|.rd 13<|.rd 14<|.rd 15<|.rd 16 .done) mo (by kernel_rfl) fun fw s6 _=>dR z z (mv z)<|dR z z (V_ z)<|dR z z (fd e_4 z) ?_)
 have aV : ∀ k∈[H.z],¬ B k:=or0 (b_ lr)  (m_<|zt' hBw h2.s);refine dR z z (l1 Q_ z fid<|(((h5.e G).c h1<|(c_ aV) _ hC1b).e s6).at (j:=1) z)<|dR z z (mv z)<|dR z z (fd a_K z)<|dR z z (l1 Q_ z fid<|(I.e s6).at z) ?_
 obtain ⟨_,fe,cY⟩:=bdS<|ifF ba aw;refine dRX z z (at_ (α:=UInt8) n_ z_5 z z z (hp.g<|((G.ag B).c h1<|c_ aV).e s6) fe) ?_;rintro _ ⟨_,_,_,rfl,ff,fg,_⟩;obtain rfl:=u8 fg;refine dR z z (l1 g_5 z fid<|ff.at0 z) ?_;have aW:=lt_ (lt_ (lt_ h2.s G.s) h1.s) s6.s;obtain ⟨_,_,_,fh,bb⟩:=r_ cY;refine dE z z (fc call232 z<|W_w1j (B:=B) fh (zt' hBw aW) (p1_1.g<|(((h2.ag B).e G).c h1<|c_ aV).e s6) p3_0) (.inr fun _ _ h=>v_<|h.1) ?_;rintro _ _ ⟨sm,aX,aY,aZ,fi,rfl,fj,fk,fl,cI⟩;refine dR z z (mv z) ?_
 iterate 3 refine dR z z (ext_ z z) ?_
 iterate 3 refine dR z z (asg z) ?_
 refine pD<|Wo<|Wq<|Ws<|Rm z<|R z (not_ z)<|Wn<|Wc z (fun ax=>?_) (fun ax=>?_)
 ·refine Ws<|R z (bP (parts:=[]) (cs:=[vI 0,sl none 0 0,sl none 0 0]) W_ z z)<|Rm z<|Rm z ?_
  have cJ:=lt_ aW sm.s;obtain ⟨_,fm,cZ⟩:=bdS<|ifT bb ax;refine E z (fc call233 z<|d_2 (B:=B) fm (zt' hBw cJ) p3_0<|ii z) ?_;rintro _ _ ⟨cK,fo,fp,rfl,fq,cL⟩;refine E0 (fs (cur':=[vI 0,sl none 0 0,sl none 0 0]) i_ z z (((((h3.e G).c h1<|djs<|mmr h3.lt).e s6).e sm).e cK) z (lb z) (oA z) z) ?_;rintro _ _ ⟨fr,ft⟩;have cM:=ft.one;refine Ra z<|Ra z<|Wn ?_
  obtain rfl:=som cZ;exact Wr<|F_ hr (q_ u_ i_ z fr z) z z ⟨bM (bup (bup (bup (bM (bup h2 G) h1<|m1 h2.s) s6) sm) cK) cM<|b_ lr,none,0,0,[],none,0,0,[],fo,fp,z,ii z,onL,onL,p3_0,fq.c cM<|k_ cL h3.lt<|lt_ (lt_ (lt_ G.s h1.s) s6.s) sm.s,l_ cL cJ,nd0,al0⟩
 refine Wk<|Ws<|Rm z<|R z (bP (parts:=[(1,.tmp 159)]) (cs:=[vI 0,sl aX aY aZ,sl none 0 0]) W_ z z)<|Rm z<|E0 (fs (cur':=[vI 0,sl aX aY aZ,sl none 0 0]) i_ z z ((((h3.e G).c h1<|djs<|mmr h3.lt).e s6).e sm) z (lb z) (oA z) z) ?_
 rintro _ _ ⟨fu,fv⟩;have cN:=fv.one;refine Ra z<|Ra z<|Wn ?_
 obtain rfl:=som<|ifF bb ax;exact Wr<|F_ hr (q_ u_ i_ z fu z) z z ⟨bM (bup (bup (bM (bup h2 G) h1<|m1 h2.s) s6) sm) cN<|b_ lr,aX,aY,aZ,fi,none,0,0,[],.nilIface,([]:List Nat),z,ii z,fj.c cN<|k_ cI h3.lt<|lt_ (lt_ G.s h1.s) s6.s,onL,fk,c_Y,an_,na_ fl H_<|nmN _,aa_ (l_ cI aW) an_⟩
theorem T_w1k (ih:d_B n):i_z (g_1 n<|a_8 n):=by
 obtain ⟨_,_,aE,_,_,_⟩:=ih
 constructor
 intro A0 A5 A2 A3 A1 A4 N0 C0 N5 C5 b1 o1 N2 C2 N3 C3 N1 C1 N4 C4 B x1 x2 x3 res w0 hm hBw p1_0 p1_1 hC1 hC1b p2_0 p2_1 p2_2 p2_4 p2_5 p2_6 p2_7 p3_0;unfold g_1 at hm
 refine goF func227 z z (lb z) fun fn hr=>Ws<|E z (fb z) ?_
 rintro _ J ⟨rfl,hw⟩;have h4:=hw.below;have hx:Blk J w0.z (vR x2 A2 N2 C2 A3 N3 C3 A1 N1 C1 A4 N4 C4):=hw.blk;refine E z (fa a_b) ?_;rintro _ aF ⟨rfl,hy⟩;have h6:=hy.below;have h5:Blk aF J.z [vI 0,sl none 0 0,sl none 0 0]:=hy.blk;refine Ra z<|Ra z<|Wn<|Ws<|Rm z<|R z (fd K_ z) ?_
 have hz:=hx.e h6;refine R z (l1 B_ z fid<|hz.at z) ?_;obtain ⟨_,aG,ap⟩:=bdS hm;have hd:=(h4.ag B).e h6;refine RX z (at_ (α:=Int) w_ z_3 z z z (p2_7.g hd) aG) ?_;rintro _ ⟨_,_,_,rfl,aH,aI,_⟩;obtain ⟨rfl,aJ⟩:=O_ aI;refine R z (l1 g_3 z fid<|aH.at0 z)<|Rm z ?_
 have Y:=(hC1.e h4).e h6;have he:=lt_ h4.s h6.s;obtain ⟨_,rr,_,aK,hms⟩:=r_ ap;refine E z (fc call224 z<|g_H (B:=B) aK (zt' hBw he) (p1_0.g hd) (p1_1.g hd) Y hC1b aJ p3_0) ?_;rintro _ H ⟨G,aL,aM,rfl,_,aN,a0,a1⟩;refine Rm z ?_
 iterate 3 refine R z (ext_ z z) ?_
 refine Ra z<|Ra z<|Ra z<|Wn<|Wq<|Ws<|Rm z<|R z (c_E c_H z z a0)<|Wn<|Wc z (fun hcm=>?_) (fun hcm=>?_)
 ·refine Ws<|R z (bP (parts:=[]) (cs:=[vI 0,sl none 0 0,sl none 0 0]) W_ z z)<|Rm z<|Rm z<|E0 (fs (cur':=[vI 0,sl none 0 0,sl none 0 0]) i_ z z (h5.e G) z (lb z) (oA z) z) ?_
  rintro _ _ ⟨aO,aP⟩;have a2:=aP.one;refine Ra z<|Ra z<|Wn ?_
  obtain rfl:=som<|ifT hms hcm;exact Wr<|F_ hr (q_ u_ i_ z aO z) z z ⟨bM (bup (bup h4 h6) G) a2<|m1 h4.s,none,0,0,[],none,0,0,[],aL,aM,z,ii z,onL,onL,p3_0,a0.c a2<|k_ a1 h5.lt lr,l_ a1 he,nd0,al0⟩
 have O:=ifF hms hcm;refine Wk<|Wq<|Ws<|Rm z<|R z (a_9 z z)<|Wn<|Wc z (fun hco=>?_) (fun hco=>?_)
 ·refine Ws<|R z (bP (parts:=[]) (cs:=[vI 0,sl none 0 0,sl none 0 0]) W_ z z)<|Rm z<|Rm z ?_
  have a3:=lt_ he G.s;obtain ⟨_,aQ,aq⟩:=bdS<|ifT O hco;refine E z (fc call233 z<|d_2 (B:=B) aQ (zt' hBw a3) p3_0<|ii z) ?_;rintro _ _ ⟨a4,aR,aS,rfl,aT,a5⟩;refine E0 (fs (cur':=[vI 0,sl none 0 0,sl none 0 0]) i_ z z ((h5.e G).e a4) z (lb z) (oA z) z) ?_;rintro _ _ ⟨aU,aV⟩;have a6:=aV.one;refine Ra z<|Ra z<|Wn ?_
  obtain rfl:=som aq;exact Wr<|F_ hr (q_ u_ i_ z aU z) z z ⟨bM (bup (bup (bup h4 h6) G) a4) a6<|m1 h4.s,none,0,0,[],none,0,0,[],aR,aS,z,ii z,onL,onL,p3_0,aT.c a6<|k_ a5 h5.lt G.s,l_ a5 a3,nd0,al0⟩
 refine Wk<|Ws<|Rm z ?_
 obtain ⟨aW,aX,ar⟩:=bdS<|ifF O hco;refine E z (j_R (α:=Int) b_q (fun _=>b_g<|ii z) aX z z) ?_;rintro _ I ⟨ac,nf,cg,rfl,s8,hp⟩;refine Ra z<|Wn<|Wq<|Ws<|Rm z<|R z (lnR w_ z<|a_.rep hp)<|Rm z<|Wn ?_
 obtain ⟨_,au,V⟩:=bdS ar;refine Wf (σ:=List Int) (ρ:=Val×Int×(Option<|Int×Int)) (fun (a7:Nat) (L:List Int) a w=>∃  (S3:List Nat),Sat 59 [(0,.pointer<|some ⟨b1,o1,none⟩),(4,pt w0.z),(6,pt J.z),(10,vI rr),(12,sl ac nf cg),(39,vI (aW.length:Int)),(40,vI ((a7:Nat):Int))] a∧Chg (· ∈ [H.z]) I w∧a_ w S3 (sl ac nf cg) L∧S3.Nodup∧(∀ k∈S3,k∈[H.z]∨I.z≤k)) (fun (L:List Int) a w=>∃  (S3:List Nat),Sat 59 [(0,.pointer<|some ⟨b1,o1,none⟩),(6,pt J.z),(10,vI rr),(12,sl ac nf cg)] a∧Chg (· ∈ [H.z]) I w∧a_ w S3 (sl ac nf cg) L∧S3.Nodup∧(∀ k∈S3,k∈[H.z]∨I.z≤k)) (fun r ex a w=>ex = .ret∧L_ prog fn (Q25 w0 B r) a w) au ?_ ?_ ?_ ?_ ?_
 ·exact fun _ q=>⟨[H.z],q.k<|s7 z z z z z z z,cr [H.z] I,hp,a_h,io sr⟩
 ·rintro a7 L _ aY _ W ⟨S3,av,sh,ha,hi,hj⟩ aw;refine Wu ?_ av;refine Ws<|R z (lss z z)<|Wn<|Wq<|Wc z (fun _=>?_) (fun hc=>(a_3 W hc).elim)
  refine Wk<|Wq<|Wb<|Ws<|Rm z<|Ra z<|Wn<|Wg<|Rm z<|Rm z<|R z (fd K_ z)<|R z (l1 B_ z fid<|(((hz.e G).e s8).c sh<|djs<|mm1 hx.lt<|lt_ h6.s G.s).at z) ?_
  obtain ⟨_,aZ,ax⟩:=bdS aw;refine RX z (at_ (α:=Int) w_ z_3 z z z (p2_7.g<|((hd.e G).e s8).c sh<|c_ (or0 (b_ lr)  (m_<|zt' hBw<|lt_ he G.s) : ∀ k∈[H.z],¬ B k)) aZ) ?_;rintro _ ⟨_,_,_,rfl,b0,b2,_⟩;obtain ⟨rfl,b3⟩:=O_ b2;refine R z (l1 g_3 z fid<|b0.at0 z) ?_;obtain ⟨b4,a8,ay⟩:=bdS ax;refine RX z (j_P (α:=Int) w_ z_3 z z ha a8) ?_;rintro _ ⟨_,b5,rfl⟩;refine E0 (j_Q (α:=Int) z_3 z b5 z z z a8 ha hi (b_g b3) an_ H_) ?_;rintro _ b6 ⟨a9,b7,b8,b9,ba⟩;refine Wn<|Wg<|R z (inc_ W (lt_ (a_.len hp) M_) z z)<|Rm z<|Wl ?_
  have aa : ∀ k∈S3,k∈[H.z]∨I.z≤k:=or1 hj (io sr)<|z_ lr;exact fun _ q=>⟨b4,(som ay).symm,⟨a9,q.k<|s7 z z z z z z z,(cM (cM (cr [H.z] I) sh (io sr):Chg (· ∈ [H.z]) I aY) b7 aa:Chg (· ∈ [H.z]) I b6),b8,b9,(or2 ba aa an_ (z_ sh.s) : ∀ k∈a9,k∈[H.z]∨I.z≤k)⟩⟩
 ·rintro L _ bb ⟨S3,az,bc,ha,hi,hj⟩;refine Wu ?_ az;refine Ws<|R z (lss z z)<|Wn<|Wq<|Wc z (fun hc=>(a_4 hc).elim) (fun _=>?_)
  exact We<|fun a' ha'=>⟨rfl,⟨S3,Sat.weaken ha'<|s4 z z z z,(cM (cr [H.z] I) bc (io sr):Chg (· ∈ [H.z]) I bb),ha,hi,(or1 hj (io sr) (z_ lr) : ∀ k∈S3,k∈[H.z]∨I.z≤k)⟩⟩
 ·rintro L be bf rfl ⟨S3,_,sb,ha,hi,hj⟩;have aA:=elL V;revert be;refine Wo<|Ws<|Rm z<|R z (bP (parts:=[]) (cs:=[vI 0,sl none 0 0,sl none 0 0]) W_ z z)<|Rm z<|Rm z ?_
  have hq:=lt_ he G.s;have ab : ∀ k∈[H.z],¬ B k:=or0 (b_ lr)  (m_<|zt' hBw hq);have ad:=((hd.e G).e s8).c sb<|c_ ab
  have hk:=lt_ (lt_ hq s8.s) sb.s;have ht:=zt' hBw hk;obtain ⟨bg,_,_,bh,aB⟩:=r_ aA;refine E z (fc call228 z<|aE.run (B:=bf.z) (x2:=(⟨0,([]:List UInt8),([]:List Val)⟩:Val)) bh zr (repS.mono (p1_0.g ad) ht) (repS.mono (p1_1.g ad) ht) (((Y.e G).e s8).c sb<|(c_ ab) _ hC1b) (zap' ht hC1b) (ii z) onL H_ (nbl an_) onL H_ (nbl an_) an_ (a_.rep ha) aN) ?_;rintro _ _ ⟨ae,af,ah,ai,aj,ak,al,am,an,bi,bj,rfl,bk,bm,bn,bo,bp,ao,hu,hl⟩
  iterate 3 refine R z (ext_ z z) ?_
  refine E0 (fs (cur':=[vI bg.number,sl af ah ai,sl ak al am]) i_ z z ((((h5.e G).e s8).c sb<|djs<|mm1 h5.lt G.s).c ae<|atp<|nmA (nmN _)<|nmN _) z (lb z) (oA z) z) ?_;rintro _ _ ⟨bq,br⟩;have hn:=br.one;refine Ra z<|Ra z<|Wn ?_
  obtain rfl:=som aB;have hv:=lt_ (lt_ G.s s8.s) sb.s;exact Wr<|F_ hr (q_ u_ i_ z bq z) z z ⟨bM (bM (bM (bup (bup (bup h4 h6) G) s8) sb<|m1 hq) ae al0) hn<|m1 h4.s,af,ah,ai,aj,ak,al,am,an,bi,bj,z,bk,bm.c hn (or1 (al_ hl) al0 (P_ (b_ h5.lt) hv) : ∀ k∈aj,k∉[J.z]),bn.c hn (or1 (ar_ hl) al0 (P_ (b_ h5.lt) hv) : ∀ k∈an,k∉[J.z]),bo,bp.c hn<|k_ ao h5.lt hv,l_ ao hk,na_ (nl_ hu) (nr_ hu)<|nj hu,aa_ (a_2 (al_ hl) al0 hk)<|a_2 (ar_ hl) al0 hk⟩
 rintro _ _ _ _ rfl ⟨rfl,aC⟩;have aD:=elR V;obtain rfl:=som aD;exact ⟨aC,z⟩
theorem T_w1l (ih:d_B n):i_A (g_2 n<|a_8 n):=by
 obtain ⟨aQ,_,_,_,_,_⟩:=ih
 constructor
 intro A0 A5 AE AF A7 N0 C0 N5 C5 b1 o1 NE CE NF CF N7 C7 S2_1 S2_2 B x1 x2 x3 x4 res w0 hm hBw p1_0 p1_1 hC1 hC1b p2_0 p2_1 p2_1n p2_1g p2_2 p2_2n p2_2g p2_2d1 p3_0 p4_0;unfold g_2 at hm
 refine goF func228 z z (lb z) fun fn hr=>Ws<|E z (fb z) ?_
 rintro _ wb ⟨rfl,aa⟩;have h2:=aa.below;have he:Blk wb w0.z [vI x2.number,sl AE NE CE,sl AF NF CF]:=aa.blk;refine E z (fa a_b) ?_;rintro _ G ⟨rfl,ab⟩;have W:=ab.below;have hk:Blk G wb.z [vI 0,sl none 0 0,sl none 0 0]:=ab.blk;refine Ra z<|Ra z<|Wn<|Wq<|Ws<|Rm z ?_
 have ad:=(h2.ag B).e W;refine R z (lnR w_ z<|p3_0.g ad)<|Rm z<|Wn ?_
 obtain ⟨_,aH,a7⟩:=bdS hm;refine Wf (σ:=Int×(List Val)) (ρ:=Val×Int×(Option<|Int×Int)) (fun (ae:Nat) s a w=>un2 (fun xc xh=>∃ I J L H,Sat 45 [(0,.pointer<|some ⟨b1,o1,none⟩),(3,vI xc),(5,pt w0.z),(8,pt wb.z),(16,sl A7 N7 C7),(17,vI (x3.length:Int)),(18,vI ((ae:Nat):Int))] a∧Chg (· ∈ (S2_2++[w0.z])) G w∧inI xc∧a_ w H (sl I J L) xh∧H.Nodup∧(∀ k∈H,k∈S2_2∨G.z≤k)∧Blk w w0.z [vI x2.number,sl AE NE CE,sl I J L]) s) (fun s a w=>un2 (fun xc xh=>∃ I J L H,Sat 45 [(3,vI xc),(5,pt w0.z),(8,pt wb.z)] a∧Chg (· ∈ (S2_2++[w0.z])) G w∧inI xc∧a_ w H (sl I J L) xh∧H.Nodup∧(∀ k∈H,k∈S2_2∨G.z≤k)∧Blk w w0.z [vI x2.number,sl AE NE CE,sl I J L]) s) (fun r ex a w=>ex = .ret∧L_ prog fn (Q26 w0 B S2_1 S2_2 r) a w) aH ?_ ?_ ?_ ?_ ?_
 ·exact fun _ q=>⟨AF,NF,CF,S2_2,q.k<|s7 z z z z z z z,cr (S2_2++[w0.z]) G,p4_0,(p2_2.e h2).e W,p2_2n,io sr,he.e W⟩
 ·rintro ae ⟨xc,xh⟩ _ af _ a8 ⟨I,J,L,H,aI,s6,hi,hf,hl,hd,hn⟩ aJ;refine Wu ?_ aI;refine Ws<|R z (lss z z)<|Wn<|Wq<|Wc z (fun _=>?_) (fun hc=>(a_3 a8 hc).elim)
  refine Wk<|Wq<|Wb<|Ws ?_
  obtain ⟨_,aR,aK⟩:=bdS<|b_1 aJ;have ah : ∀ k∈[w0.z],¬ B k:=or0 (b_ lr)  (m_ hBw);have ht:=ad.c s6<|nmA (c_ p2_2g)<|c_ ah
  refine RX z (at_ (α:=Int) w_ z_3 z z z (p3_0.g ht) aR) ?_;rintro _ ⟨_,_,_,rfl,aS,aT,_⟩;obtain ⟨rfl,aU⟩:=O_ aT;refine R z (l1 g_3 z fid<|aS.at0 z)<|Ra z<|Wn<|Ws<|Rm z<|Rm z<|Rm z ?_
  have hu:=lt_ (lt_ h2.s W.s) s6.s;obtain ⟨ro,aV,_,aW,a9⟩:=r_ aK;refine E z (fc call191 z<|aQ.run (B:=B) aW (zt' hBw hu) (p1_0.g ht) (p1_1.g ht) (((hC1.e h2).e W).c s6<|(nmA (c_ p2_2g)<|c_ ah) _ hC1b) hC1b aU hi) ?_;rintro _ wm ⟨sa,ar,ns,cv,ai,aw,nx,cy,aj,aX,aY,rfl,aZ,hp,hq,b0,ak,al,hz,hj⟩;refine Rm z ?_
  iterate 3 refine R z (ext_ z z) ?_
  refine E z (fa a_b) ?_;rintro _ a0 ⟨rfl,am⟩;have O:=am.below;refine E0 (fs (cur':=[vI ro.number,sl ar ns cv,sl aw nx cy]) i_ z z (am.blk:Blk a0 wm.z [vI 0,sl none 0 0,sl none 0 0]) z (lb z) (oA z) z) ?_;rintro _ a1 ⟨b2,b3⟩;have V:=b3.one;refine Ra z<|Ra z<|Wn<|Wq<|Ws<|Rm z ?_
  have an:=(ak.e O).c V<|ds<|mnr<|a_w.lt ak
  refine R z (c_E c_H z z an)<|Wn<|Wc z (fun Y=>?_) (fun Y=>?_)
  ·refine Ws<|R z (bP (parts:=[]) (cs:=[vI 0,sl none 0 0,sl none 0 0]) W_ z z)<|Rm z<|Rm z ?_
   refine E0 (fs (cur':=[vI 0,sl none 0 0,sl none 0 0]) i_ z z ((((hk.c s6<|atp<|nmA (mno (a_.lt p2_2) h2.s)<|mmr he.lt).e sa).e O).c V<|djs<|mm1 hk.lt<|lt_ s6.s sa.s) z (lb z) (oA z) z) ?_;rintro _ b4 ⟨b5,b6⟩;have ao:=b6.one;refine Ra z<|Ra z<|Wn ?_
   exact Wr<|rtO<|qL (som<|ifT a9 Y).symm<|F_ hr (q_ u_ i_ z b5 z) z z ⟨(cM (cM (f_ (f_ (cM (f_ (f_ (cr (S2_1++S2_2) w0) h2:Chg (· ∈ (S2_1++S2_2)) w0 wb) W:Chg (· ∈ (S2_1++S2_2)) w0 G) s6 (aa_ (io<|A_ sr) (mor lr : ∀ k∈[w0.z],k∈(S2_1++S2_2)∨w0.z≤k)):Chg (· ∈ (S2_1++S2_2)) w0 af) sa:Chg (· ∈ (S2_1++S2_2)) w0 wm) O:Chg (· ∈ (S2_1++S2_2)) w0 a0) V (mor (lt_ hu sa.s) : ∀ k∈[wm.z],k∈(S2_1++S2_2)∨w0.z≤k):Chg (· ∈ (S2_1++S2_2)) w0 a1) ao (mor h2.s : ∀ k∈[wb.z],k∈(S2_1++S2_2)∨w0.z≤k):Chg (· ∈ (S2_1++S2_2)) w0 b4),none,0,0,[],none,0,0,[],aX,aY,z,ii z,onL,onL,hi,an.c ao<|k_ al hk.lt s6.s,l_ al hu,nd0,al0⟩
  refine Wk<|Ws<|R z (fd a_j z) ?_
  have a2:=lt_ W.s s6.s;have ap:=lt_ a2 sa.s;have aq:=((hn.e sa).e O).c V<|djs<|mm1 he.lt ap
  refine R z (l1 a_F z fid<|aq.at z)<|R z (lN (vs:=[vI ro.number,sl ar ns cv,sl aw nx cy]) u_ i_ z z fid<|b2.row 0 3 z)<|E z (fS [(.tmp 37)] b_E z z z (a_d z) (lb z)<|lb z) ?_
  rintro _ au ⟨rfl,av⟩;have hg:=av.below;have bo:=(hp.e O).c V<|ds<|mnr<|a_.lt hp
  have bp:=(hq.e O).c V<|ds<|mnr<|a_.lt hq
  obtain ⟨b7,b8,aL⟩:=bdS<|ifF a9 Y;refine E z (a_Q (α:=Val) b_E b8 z z ((((hf.e sa).e O).c V<|ds<|mno (a_.lt hf) sa.s).e hg) hl (av.blk:Blk au a1.z [vI ro.number,sl ar ns cv,sl aw nx cy]) (c_R (x:=ro) (S1:=ai) (S2:=aj) aZ (((hp.e O).c V<|ds<|mnr<|a_.lt hp).e hg)<|((hq.e O).c V<|ds<|mnr<|a_.lt hq).e hg) (aa_ (a_H (al_ hj) (a_.lt hf) lr)<|a_H (ar_ hj) (a_.lt hf) lr)<|na_ (nl_ hz) (nr_ hz)<|nj hz) ?_;rintro _ b9 ⟨a4,ax,ay,az,rfl,aA,ba,bb,aB⟩;refine R z (fd a_j z) ?_;have aC : ∀ k∈H,k∉[w0.z]:=or1 hd (ds<|mnr<|a_.lt p2_2)<|P_ (b_ he.lt) W.s;refine E0 (fs (cur':=[vI x2.number,sl AE NE CE,sl ax ay az]) d_0 z z ((aq.e hg).c aA<|djs aC) z (lb z) (oA z) z) ?_;rintro _ bc ⟨be,bf⟩;have aD:=bf.one;refine Wn<|Wg<|Rm z<|Ra z<|Wn<|Wg<|R z (inc_ a8 (lt_ (repS.len p3_0) M_) z z)<|Rm z<|Wl ?_
  have aE:=lt_ s6.s sa.s;exact fun _ q=>⟨(aV,b7),(som aL).symm,⟨ax,ay,az,a4,q.k<|s7 z z z z z z z,(cM (cM (f_ (cM (f_ (f_ (cM (cr (S2_2++[w0.z]) G) s6 (aa_ (io<|x_ sr)<|io<|A_ sr):Chg (· ∈ (S2_2++[w0.z])) G af) sa:Chg (· ∈ (S2_2++[w0.z])) G wm) O:Chg (· ∈ (S2_2++[w0.z])) G a0) V (mor aE : ∀ k∈[wm.z],k∈(S2_2++[w0.z])∨G.z≤k):Chg (· ∈ (S2_2++[w0.z])) G a1) hg:Chg (· ∈ (S2_2++[w0.z])) G au) aA (or1 hd (io<|x_ sr) (z_ lr) : ∀ k∈H,k∈(S2_2++[w0.z])∨G.z≤k):Chg (· ∈ (S2_2++[w0.z])) G b9) aD (io<|A_ sr):Chg (· ∈ (S2_2++[w0.z])) G bc),b0,ba.c aD (or2 aB aC (aa_ (k_ (al_ hj) he.lt a2)<|k_ (ar_ hj) he.lt a2) (P_ (b_ he.lt)<|lt_ (lt_ (lt_ ap O.s) V.s) hg.s) : ∀ k∈a4,k∉[w0.z]),bb,(or2 aB (or1 hd (io sr) (z_ lr) : ∀ k∈H,k∈S2_2∨G.z≤k) (aa_ (or0 (al_ hj)  (z_ s6.s) : ∀ k∈ai,k∈S2_2∨G.z≤k) (or0 (ar_ hj)  (z_ s6.s) : ∀ k∈aj,k∈S2_2∨G.z≤k)) (z_<|lt_ (lt_ (lt_ aE O.s) V.s) hg.s) : ∀ k∈a4,k∈S2_2∨G.z≤k),be⟩⟩
 ·rintro ⟨xc,xh⟩ _ bg ⟨I,J,L,H,aM,bh,hi,hf,hl,hd,hn⟩;refine Wu ?_ aM;refine Ws<|R z (lss z z)<|Wn<|Wq<|Wc z (fun hc=>(a_4 hc).elim) (fun _=>?_)
  exact We<|fun a' ha'=>⟨rfl,⟨I,J,L,H,Sat.weaken ha'<|s3 z z z,(cM (cr (S2_2++[w0.z]) G) bh (aa_ (io<|x_ sr)<|io<|A_ sr):Chg (· ∈ (S2_2++[w0.z])) G bg),hi,hf,hl,(or1 hd (io sr) (z_ lr) : ∀ k∈H,k∈S2_2∨G.z≤k),hn⟩⟩
 ·rintro ⟨xc,xh⟩ bi bj rfl ⟨I,J,L,H,_,a5,hi,hf,hl,hd,hn⟩;have aN:=elL a7;revert bi;refine Wo<|Ws<|R z (lN (vs:=[vI x2.number,sl AE NE CE,sl I J L]) u_ i_ z z fid<|hn.row 0 3 z)<|Rm z ?_
  have aF:=mno (a_.lt p2_2) h2.s;refine E0 (fs (cur':=[vI x2.number,sl AE NE CE,sl I J L]) i_ z z (hk.c a5<|atp<|nmA aF<|mmr he.lt) z (lb z) (oA z) z) ?_;rintro _ bk ⟨bm,bn⟩;have a6:=bn.one;refine Ra z<|Ra z<|Wn ?_
  obtain rfl:=som<|b_1 aN;have aG:=lt_ h2.s W.s;exact Wr<|F_ hr (q_ u_ i_ z bm z) z z ⟨(cM (cM (f_ (f_ (cr (S2_1++S2_2) w0) h2:Chg (· ∈ (S2_1++S2_2)) w0 wb) W:Chg (· ∈ (S2_1++S2_2)) w0 G) a5 (aa_ (io<|A_ sr) (mor lr : ∀ k∈[w0.z],k∈(S2_1++S2_2)∨w0.z≤k)):Chg (· ∈ (S2_1++S2_2)) w0 bj) a6 (mor h2.s : ∀ k∈[wb.z],k∈(S2_1++S2_2)∨w0.z≤k):Chg (· ∈ (S2_1++S2_2)) w0 bk),AE,NE,CE,S2_1,I,J,L,H,.nilIface,([]:List Nat),z,p2_0,(((p2_1.e h2).e W).c a5<|nmA (ds p2_2d1)<|ds<|mnr<|a_.lt p2_1).c a6<|ds<|mno (a_.lt p2_1) h2.s,hf.c a6 (or1 hd (ds aF) (P_ (b_ hk.lt) lr) : ∀ k∈H,k∉[wb.z]),hi,c_Y,an_,na_ p2_1n hl<|ds<|e_o hd p2_2d1 (a_.lt p2_1) aG,aa_ (io<|x_ sr) (or1 hd (io<|A_ sr) (z_ aG) : ∀ k∈H,k∈(S2_1++S2_2)∨w0.z≤k)⟩
 rintro _ _ _ _ rfl ⟨rfl,aO⟩;have aP:=elR a7;obtain rfl:=som aP;exact ⟨aO,z⟩
theorem T_w1m (ih:d_B n):i_B (g_6 n<|a_8 n):=by
 obtain ⟨_,_,al,_,_,_⟩:=ih
 constructor
 intro A0 A5 A2 A3 A1 A4 N0 C0 N5 C5 b1 o1 N2 C2 N3 C3 N1 C1 N4 C4 B x1 x2 x3 res w0 hm hBw p1_0 p1_1 hC1 hC1b p2_0 p2_1 p2_2 p2_4 p2_5 p2_6 p2_7 p3_0;unfold g_6 at hm
 refine goF func229 z z (lb z) fun fn hr=>Ws<|E z (fb z) ?_
 rintro _ H ⟨rfl,hk⟩;have h1:=hk.below;refine E z (fa a_b) ?_;rintro _ am ⟨rfl,hl⟩;have h4:=hl.below;have h2:Blk am H.z [vI 0,sl none 0 0,sl none 0 0]:=hl.blk;refine Ra z<|Ra z<|Wn<|Ws<|Rm z<|R z (fd K_ z) ?_
 have hn:=(hk.blk:Blk H w0.z (vR x2 A2 N2 C2 A3 N3 C3 A1 N1 C1 A4 N4 C4)).e h4;refine R z (l1 B_ z fid<|hn.at z) ?_;obtain ⟨_,an,a8⟩:=bdS hm;have J:=(h1.ag B).e h4;refine RX z (at_ (α:=Int) w_ z_3 z z z (p2_7.g J) an) ?_;rintro _ ⟨_,_,_,rfl,ao,ap,_⟩;obtain ⟨rfl,aq⟩:=O_ ap;refine R z (l1 g_3 z fid<|ao.at0 z)<|Rm z ?_
 have ho:=(hC1.e h1).e h4;have L:=lt_ h1.s h4.s;obtain ⟨re,ar,_,au,hmm⟩:=r_ a8;refine E z (fc call224 z<|g_H (B:=B) au (zt' hBw L) (p1_0.g J) (p1_1.g J) ho hC1b aq p3_0) ?_;rintro _ I ⟨G,av,aw,rfl,ax,az,hp,hq⟩;refine Rm z ?_
 iterate 3 refine R z (ext_ z z) ?_
 refine Ra z<|Ra z<|Ra z<|Wn<|Wq<|Ws<|Rm z<|R z (c_E c_H z z hp)<|Wn<|Wc z (fun hcf=>?_) (fun hcf=>?_)
 ·refine Ws<|R z (bP (parts:=[]) (cs:=[vI 0,sl none 0 0,sl none 0 0]) W_ z z)<|Rm z<|Rm z<|E0 (fs (cur':=[vI 0,sl none 0 0,sl none 0 0]) i_ z z (h2.e G) z (lb z) (oA z) z) ?_
  rintro _ _ ⟨aA,aB⟩;have ht:=aB.one;refine Ra z<|Ra z<|Wn ?_
  obtain rfl:=som<|ifT hmm hcf;exact Wr<|F_ hr (q_ u_ i_ z aA z) z z ⟨bM (bup (bup h1 h4) G) ht<|m1 h1.s,none,0,0,[],none,0,0,[],av,aw,z,ii z,onL,onL,p3_0,hp.c ht<|k_ hq h2.lt lr,l_ hq L,nd0,al0⟩
 refine Wk<|Wq<|Ws<|R z (fd a_L z) ?_
 have hu:=hn.e G;refine R z (l1 B_ z fid<|hu.at z) ?_;have hv:=J.e G;refine R z (lnR w_ z<|p2_6.g hv)<|Rm z<|Wn ?_
 obtain ⟨_,a9,hmr⟩:=bdS<|ifF hmm hcf;refine Wf (σ:=Unit) (ρ:=Val×Int×(Option<|Int×Int)) (fun (ks:Nat) (_:Unit) a w=>Sat 61 [(0,.pointer<|some ⟨b1,o1,none⟩),(2,vI x3),(4,pt w0.z),(6,pt H.z),(9,vI re),(10,vI ar),(31,sl A1 N1 C1),(32,vI (x2.tags.length:Int)),(33,vI ((ks:Nat):Int))] a∧Below I.z I w) (fun (_:Unit) a w=>Sat 61 [(2,vI x3),(6,pt H.z)] a∧Below I.z I w) (fun r ex a w=>ex = .ret∧L_ prog fn (Q25 w0 B r) a w) a9 ?_ ?_ ?_ ?_ ?_
 ·exact fun _ q=>⟨q.k<|s9 z z z z z z z z z,br I⟩
 ·rintro ks _ _ _ _ hkg ⟨aa,s3⟩ ab;refine Wu ?_ aa;refine Ws<|R z (lss z z)<|Wn<|Wq<|Wc z (fun _=>?_) (fun hc=>(a_3 hkg hc).elim)
  refine Wk<|Wq<|Wb<|Ws<|Rm z ?_
  obtain ⟨_,aC,hmw⟩:=bdS ab;have O:=hv.e s3;refine RX z (at_ (α:=Int) w_ z_3 z z z (p2_6.g O) aC) ?_;rintro _ ⟨_,_,_,rfl,aD,aE,_⟩;obtain ⟨rfl,_⟩:=O_ aE;refine R z (l1 g_3 z fid<|aD.at0 z)<|Ra z<|Ra z<|Wn<|Ws<|Rm z<|Rm z<|R z (eql z z)<|Wn<|Wc z (fun hch=>?_) (fun hch=>?_)
  ·refine Ws<|Rm z<|Rm z<|R z (bP (parts:=[(0,.tmp 42)]) (cs:=[vI re,sl none 0 0,sl none 0 0]) W_ z z)<|R z (fd K_ z)<|R z (l1 B_ z fid<|(hu.e s3).at z)<|Rm z<|R z (inc_ hkg (lt_ (repS.len p2_6) M_) z z)<|Rm z<|R z (add_ z z) ?_
   obtain ⟨_,aF,ad⟩:=bdS<|ifT hmw hch;refine RX z (rX w_ z_3 z z (p2_7.g O) z z aF) ?_;rintro _ ⟨_,_,_,rfl,aG⟩;refine Rm z ?_;have ha:=lt_ (lt_ L G.s) s3.s;obtain ⟨aH,_,_,aI,ae⟩:=r_ ad;refine E z (fc call228 z<|al.run (B:=B) (x2:=(⟨re,([]:List UInt8),([]:List Val)⟩:Val)) aI (zt' hBw ha) (p1_0.g O) (p1_1.g O) ((ho.e G).e s3) hC1b ax onL H_ an_ onL H_ an_ an_ aG az) ?_;rintro _ _ ⟨sx,ay,nz,V,W,Y,a0,a1,a2,aJ,aK,rfl,aL,aM,aN,aO,aP,a3,hi,hb⟩
   iterate 3 refine R z (ext_ z z) ?_
   refine E0 (fs (cur':=[vI aH.number,sl ay nz V,sl Y a0 a1]) i_ z z (((h2.e G).e s3).c sx<|atp<|nmA (nmN _)<|nmN _) z (lb z) (oA z) z) ?_;rintro _ _ ⟨aQ,aR⟩;have hd:=aR.one;refine Ra z<|Ra z<|Wn ?_
   have hj:=lt_ G.s s3.s;exact Wr<|rtO<|qL (som ae).symm<|F_ hr (q_ u_ i_ z aQ z) z z ⟨bM (bM (bup (bup (bup h1 h4) G) s3) sx al0) hd<|m1 h1.s,ay,nz,V,W,Y,a0,a1,a2,aJ,aK,z,aL,aM.c hd (or1 (al_ hb) al0 (P_ (b_ h2.lt) hj) : ∀ k∈W,k∉[H.z]),aN.c hd (or1 (ar_ hb) al0 (P_ (b_ h2.lt) hj) : ∀ k∈a2,k∉[H.z]),aO,aP.c hd<|k_ a3 h2.lt hj,l_ a3 ha,na_ (nl_ hi) (nr_ hi)<|nj hi,aa_ (a_2 (al_ hb) al0 ha)<|a_2 (ar_ hb) al0 ha⟩
  exact Wk<|Wg<|R z (inc_ hkg (lt_ (repS.len p2_6) M_) z z)<|Rm z<|Wl (fun _ q=>⟨(),(som<|ifF hmw hch).symm,⟨q.k<|s9 z z z z z z z z z,s3⟩⟩)
 ·rintro _ _ _ ⟨af,aS⟩;refine Wu ?_ af;refine Ws<|R z (lss z z)<|Wn<|Wq<|Wc z (fun hc=>(a_4 hc).elim) (fun _=>?_)
  exact We<|fun a' ha'=>⟨rfl,⟨Sat.weaken ha'<|s2 z z,aS⟩⟩
 ·rintro _ aT _ rfl ⟨_,sc⟩;have ah:=elL hmr;revert aT;refine Wo<|Ws<|R z (bP (parts:=[]) (cs:=[vI 0,sl none 0 0,sl none 0 0]) W_ z z)<|Rm z<|Rm z ?_
  have a4:=lt_ (lt_ L G.s) sc.s;obtain ⟨_,aU,ai⟩:=bdS ah;refine E z (fc call233 z<|d_2 (B:=B) aU (zt' hBw a4) p3_0<|ii z) ?_;rintro _ _ ⟨a5,aV,aW,rfl,aX,a6⟩;refine E0 (fs (cur':=[vI 0,sl none 0 0,sl none 0 0]) i_ z z (((h2.e G).e sc).e a5) z (lb z) (oA z) z) ?_;rintro _ _ ⟨aY,aZ⟩;have a7:=aZ.one;refine Ra z<|Ra z<|Wn ?_
  obtain rfl:=som ai;exact Wr<|F_ hr (q_ u_ i_ z aY z) z z ⟨bM (bup (bup (bup (bup h1 h4) G) sc) a5) a7<|m1 h1.s,none,0,0,[],none,0,0,[],aV,aW,z,ii z,onL,onL,p3_0,aX.c a7<|k_ a6 h2.lt<|lt_ G.s sc.s,l_ a6 a4,nd0,al0⟩
 rintro _ _ _ _ rfl ⟨rfl,aj⟩;have ak:=elR hmr;obtain rfl:=som ak;exact ⟨aj,z⟩
theorem T_w1n (ih:d_B n):i_C (g_7 n<|a_8 n):=by
 obtain ⟨_,_,a1,_,_,_⟩:=ih
 constructor
 intro A0 A5 A2 A3 A1 A4 N0 C0 N5 C5 b1 o1 N2 C2 N3 C3 N1 C1 N4 C4 B x1 x2 x3 res w0 hm hBw p1_0 p1_1 hC1 hC1b p2_0 p2_1 p2_2 p2_4 p2_5 p2_6 p2_7 p3_0;unfold g_7 at hm
 refine goF func230 z z (lb z) fun fn hr=>Ws<|E z (fb z) ?_
 rintro _ H ⟨rfl,hf⟩;have h1:=hf.below;refine E z (fa a_b) ?_;rintro _ a2 ⟨rfl,hg⟩;have h3:=hg.below;have h2:Blk a2 H.z [vI 0,sl none 0 0,sl none 0 0]:=hg.blk;refine Ra z<|Ra z<|Wn<|Ws<|Rm z<|Rm z ?_
 have hh:=(hC1.e h1).e h3;have L:=(h1.ag B).e h3;have h5:=lt_ h1.s h3.s;obtain ⟨_,_,a3,hmi⟩:=a_A hm;refine E z (fc call262 z<|g_G (B:=B) a3 (zt' hBw h5) (p1_0.g L) (p1_1.g L) hh hC1b p3_0<|ii z) ?_;rintro _ _ ⟨G,_,_,_,a4,a5,rfl,hj,hk,hl⟩;refine Rm z<|R z (ext_ z z)<|R z (ext_ z z)<|Ra z<|Ra z<|Wn<|Wq<|Wb<|Ws<|Rm z<|R z (c_E c_H z z hk)<|Ra z<|Wn<|Wc z (fun hca=>?_) (fun hca=>?_)
 ·refine Ws<|R z (bP (parts:=[]) (cs:=[vI 0,sl none 0 0,sl none 0 0]) W_ z z)<|Rm z<|Rm z<|E0 (fs (cur':=[vI 0,sl none 0 0,sl none 0 0]) i_ z z (h2.e G) z (lb z) (oA z) z) ?_
  rintro _ _ ⟨a6,a7⟩;have hn:=a7.one;refine Ra z<|Ra z<|Wn ?_
  obtain rfl:=som<|ifT hmi hca;exact Wr<|rtO<|F_ hr (q_ u_ i_ z a6 z) z z ⟨bM (bup (bup h1 h3) G) hn<|m1 h1.s,none,0,0,[],none,0,0,[],a4,a5,z,ii z,onL,onL,p3_0,hk.c hn<|k_ hl h2.lt lr,l_ hl h5,nd0,al0⟩
 refine Ws<|Rm z ?_
 obtain ⟨_,a8,hmm⟩:=bdS<|ifF hmi hca;refine RX z (at_ (α:=UInt8) n_ z_5 z z z hj a8) ?_;rintro _ ⟨_,_,_,rfl,a9,aa,_⟩;obtain rfl:=u8 aa;refine R z (l1 g_5 z fid<|a9.at0 z)<|R z (a_9 z z)<|Ra z<|Wn<|Wc z (fun hcb=>?_) (fun hcb=>?_)
 ·refine Ws<|R z (bP (parts:=[]) (cs:=[vI 0,sl none 0 0,sl none 0 0]) W_ z z)<|Rm z<|Rm z ?_
  have ho:=lt_ h5 G.s;obtain ⟨_,ab,Y⟩:=bdS<|ifT hmm hcb;refine E z (fc call233 z<|d_2 (B:=B) ab (zt' hBw ho) p3_0<|ii z) ?_;rintro _ _ ⟨sp,ad,ae,rfl,af,hq⟩;refine E0 (fs (cur':=[vI 0,sl none 0 0,sl none 0 0]) i_ z z ((h2.e G).e sp) z (lb z) (oA z) z) ?_;rintro _ _ ⟨ah,ai⟩;have ht:=ai.one;refine Ra z<|Ra z<|Wn ?_
  obtain rfl:=som Y;exact Wr<|rtO<|F_ hr (q_ u_ i_ z ah z) z z ⟨bM (bup (bup (bup h1 h3) G) sp) ht<|m1 h1.s,none,0,0,[],none,0,0,[],ad,ae,z,ii z,onL,onL,p3_0,af.c ht<|k_ hq h2.lt G.s,l_ hq ho,nd0,al0⟩
 refine Ws<|Rm z ?_
 obtain ⟨_,aj,hmr⟩:=bdS<|ifF hmm hcb;refine RX z (at_ (α:=UInt8) n_ z_5 z z z hj aj) ?_;rintro _ ⟨_,_,_,rfl,ak,al,_⟩;obtain rfl:=u8 al;refine R z (l1 g_5 z fid<|ak.at0 z)<|R z (eql z z)<|Ra z<|Wn<|Wc z (fun hcc=>?_) (fun hcc=>?_)
 ·refine Ws<|R z (bP (parts:=[]) (cs:=[vI 0,sl none 0 0,sl none 0 0]) W_ z z)<|Rm z<|R z (add_ z z)<|E0 (fs (cur':=[vI 0,sl none 0 0,sl none 0 0]) i_ z z (h2.e G) z (lb z) (oA z) z) ?_
  rintro _ _ ⟨am,an⟩;refine Ra z<|Ra z<|Wn ?_
  obtain rfl:=som<|ifT hmr hcc;exact Wr<|rtO<|F_ hr (q_ u_ i_ z am z) z z ⟨bM (bup (bup h1 h3) G) an.one<|m1 h1.s,none,0,0,[],none,0,0,[],.nilIface,([]:List Nat),z,ii z,onL,onL,iA _ _,c_Y,an_,nd0,al0⟩
 refine Wk<|Ws<|Rm z<|R z (bP (parts:=[]) (cs:=[vI 0,sl none 0 0,sl none 0 0]) W_ z z)<|R z (fd K_ z)<|R z (l1 B_ z fid<|(((hf.blk:Blk H w0.z (vR x2 A2 N2 C2 A3 N3 C3 A1 N1 C1 A4 N4 C4)).e h3).e G).at z)<|Rm z<|R z (add_ z z) ?_
 have hd:=L.e G;have h6:=lt_ h5 G.s;obtain ⟨ao,_,_,ap,a0⟩:=r_<|ifF hmr hcc;refine E z (fc call228 z<|a1.run (B:=B) (x2:=(⟨0,([]:List UInt8),([]:List Val)⟩:Val)) ap (zt' hBw h6) (p1_0.g hd) (p1_1.g hd) (hh.e G) hC1b (ii z) onL H_ an_ onL H_ an_ an_ (p2_7.g hd)<|iA _ _) ?_;rintro _ _ ⟨ss,au,nv,cw,Sx,ay,nz,O,V,aq,ar,rfl,av,aw,ax,az,aA,W,he,I⟩
 iterate 3 refine R z (ext_ z z) ?_
 refine E0 (fs (cur':=[vI ao.number,sl au nv cw,sl ay nz O]) i_ z z ((h2.e G).c ss<|atp<|nmA (nmN _)<|nmN _) z (lb z) (oA z) z) ?_;rintro _ _ ⟨aB,aC⟩;have J:=aC.one;refine Ra z<|Ra z<|Wn ?_
 obtain rfl:=som a0;exact Wr<|F_ hr (q_ u_ i_ z aB z) z z ⟨bM (bM (bup (bup h1 h3) G) ss al0) J<|m1 h1.s,au,nv,cw,Sx,ay,nz,O,V,aq,ar,z,av,aw.c J (or1 (al_ I) al0 (P_ (b_ h2.lt) G.s) : ∀ k∈Sx,k∉[H.z]),ax.c J (or1 (ar_ I) al0 (P_ (b_ h2.lt) G.s) : ∀ k∈V,k∉[H.z]),az,aA.c J<|k_ W h2.lt G.s,l_ W h6,na_ (nl_ he) (nr_ he)<|nj he,aa_ (a_2 (al_ I) al0 h6)<|a_2 (ar_ I) al0 h6⟩
theorem T_w1o (ih:d_B n):i_D (g_8 n<|a_8 n):=by
 obtain ⟨_,_,ak,_,_,_⟩:=ih
 constructor
 intro A0 A5 A2 A3 A1 A4 N0 C0 N5 C5 b1 o1 N2 C2 N3 C3 N1 C1 N4 C4 B x1 x2 x3 res w0 hm hBw p1_0 p1_1 hC1 hC1b p2_0 p2_1 p2_2 p2_4 p2_5 p2_6 p2_7 p3_0;unfold g_8 at hm
 refine goF func231 z z (lb z) fun fn hr=>Ws<|E z (fb z) ?_
 rintro _ wb ⟨rfl,hu⟩;have h6:=hu.below;refine E z (fa a_b) ?_;rintro _ al ⟨rfl,hv⟩;have H:=hv.below;have h3:Blk al wb.z [vI 0,sl none 0 0,sl none 0 0]:=hv.blk;refine Ra z<|Ra z<|Wn<|Ws<|Rm z<|R z (bP (parts:=[]) (cs:=[vI 0,sl none 0 0,sl none 0 0]) W_ z z)<|R z (fd K_ z)<|R z (l1 B_ z fid<|((hu.blk:Blk wb w0.z (vR x2 A2 N2 C2 A3 N3 C3 A1 N1 C1 A4 N4 C4)).e H).at z)<|Rm z ?_
 have hw:=(hC1.e h6).e H;have hc:=(h6.ag B).e H;have I:=lt_ h6.s H.s;obtain ⟨rk,_,_,am,hmr⟩:=r_ hm;refine E z (fc call228 z<|ak.run (B:=B) (x2:=(⟨0,([]:List UInt8),([]:List Val)⟩:Val)) am (zt' hBw I) (p1_0.g hc) (p1_1.g hc) hw hC1b (ii z) onL H_ an_ onL H_ an_ an_ (p2_7.g hc) p3_0) ?_;rintro _ ws ⟨G,ad,ne,cf,Sx,ah,ng,ci,Sy,an,ao,rfl,ap,hz,O,V,W,Y,hl,hj⟩;refine Rm z ?_
 iterate 3 refine R z (ext_ z z) ?_
 refine E z (fa a_b) ?_;rintro _ aq ⟨rfl,a0⟩;have h1:=a0.below;refine E0 (fs (cur':=[vI rk.number,sl ad ne cf,sl ah ng ci]) i_ z z (a0.blk:Blk aq ws.z [vI 0,sl none 0 0,sl none 0 0]) z (lb z) (oA z) z) ?_;rintro _ _ ⟨ar,au⟩;have h2:=au.one;refine Ra z<|Ra z<|Wn<|Wq<|Ws<|Rm z ?_
 have a1:=(W.e h1).c h2<|ds<|mnr<|a_w.lt W
 refine R z (c_E c_H z z a1)<|Wn<|Wc z (fun hcm=>?_) (fun hcm=>?_)
 ·refine Ws<|R z (bP (parts:=[]) (cs:=[vI 0,sl none 0 0,sl none 0 0]) W_ z z)<|Rm z<|Rm z<|E0 (fs (cur':=[vI 0,sl none 0 0,sl none 0 0]) i_ z z (((h3.c G<|atp<|nmA (nmN _)<|nmN _).e h1).c h2<|djs<|mm1 h3.lt G.s) z (lb z) (oA z) z) ?_
  rintro _ _ ⟨av,aw⟩;have a2:=aw.one;refine Ra z<|Ra z<|Wn ?_
  obtain rfl:=som<|ifT hmr hcm;exact Wr<|F_ hr (q_ u_ i_ z av z) z z ⟨bM (bM (bup (bM (bup h6 H) G al0) h1) h2<|m1<|lt_ I G.s) a2<|m1 h6.s,none,0,0,[],none,0,0,[],an,ao,z,ii z,onL,onL,p3_0,a1.c a2<|k_ Y h3.lt lr,l_ Y I,nd0,al0⟩
 refine Wk<|Ws<|Rm z<|Rm z ?_
 have ha:=lt_ I G.s;have a3 : ∀ k∈[ws.z],¬ B k:=or0 (b_ lr)  (m_<|zt' hBw ha);have a4:=((hw.c G<|(nmA (c_ an_)<|c_ an_) _ hC1b).e h1).c h2<|(c_ a3) _ hC1b
 have hn:=((hc.c G<|nmA (c_ an_)<|c_ an_).e h1).c h2<|c_ a3
 have ho:=lt_ (lt_ ha h1.s) h2.s;obtain ⟨_,_,ax,J⟩:=a_A<|ifF hmr hcm;refine E z (fc call262 z<|g_G (B:=B) ax (zt' hBw ho) (p1_0.g hn) (p1_1.g hn) a4 hC1b V<|ii z) ?_;rintro _ _ ⟨s4,_,_,_,ay,az,rfl,aA,a5,a6⟩;refine Rm z<|R z (ext_ z z)<|R z (ext_ z z)<|Ra z<|Ra z<|Wn<|Wq<|Ws<|Rm z<|R z (c_E c_H z z a5)<|Wn<|Wc z (fun hcp=>?_) (fun hcp=>?_)
 ·refine Ws<|R z (bP (parts:=[]) (cs:=[vI 0,sl none 0 0,sl none 0 0]) W_ z z)<|Rm z<|Rm z<|E0 (fs (cur':=[vI 0,sl none 0 0,sl none 0 0]) i_ z z ((((h3.c G<|atp<|nmA (nmN _)<|nmN _).e h1).c h2<|djs<|mm1 h3.lt G.s).e s4) z (lb z) (oA z) z) ?_
  rintro _ _ ⟨aB,aC⟩;have a7:=aC.one;refine Ra z<|Ra z<|Wn ?_
  obtain rfl:=som<|ifT J hcp;exact Wr<|F_ hr (q_ u_ i_ z aB z) z z ⟨bM (bup (bM (bup (bM (bup h6 H) G al0) h1) h2<|m1 ha) s4) a7<|m1 h6.s,none,0,0,[],none,0,0,[],ay,az,z,ii z,onL,onL,p3_0,a5.c a7<|k_ a6 h3.lt<|lt_ (lt_ G.s h1.s) h2.s,l_ a6 ho,nd0,al0⟩
 refine Wk<|Wq<|Wq (Wd (X:=noX) 0 (.rd 0<|.rd 1<|.rd 2<|.rd 3<|.rd 4<|.rd 5<|.rd 6<|.rd 7<|.rd 8<|.rd 9<|.rd 10<|.ef 11<|.rd 12 .done) mo (by kernel_rfl) fun aR s5 _=>dR z z (mv z) ?_)
 obtain ⟨_,aD,af⟩:=bdS<|ifF J hcp;refine dRX z z (at_ (α:=UInt8) n_ z_5 z z z (aA.e s5) aD) ?_;rintro _ ⟨_,_,_,rfl,aE,aF,_⟩;obtain rfl:=u8 aF;refine dR z z (l1 g_5 z fid<|aE.at0 z)<|dR z z (b_W d_5 d_3 z)<|dR z z (mv z)<|dR z z (V_ z)<|dR z z (fd e_4 z)<|dR z z (l1 Q_ z fid<|((a4.e s4).e s5).at (j:=1) z)<|dR z z (mv z)<|dR z z (mv z) ?_
 obtain ⟨_,aG,ai⟩:=bdS af;refine dRX z z (rX n_ z_5 z z (p1_1.g<|(hn.e s4).e s5) z z aG) ?_;rintro _ ⟨_,_,_,rfl,aH⟩;have a8:=lt_ (lt_ ho s4.s) s5.s;obtain ⟨_,aI,L⟩:=bdS ai;refine dE z z (fc call263 z<|W_w1i (B:=B) aI (zt' hBw a8) aH) (.inr fun _ _ h=>v_<|h.1) ?_;rintro _ _ ⟨s7,rfl,_⟩;refine dR z z (nq z z)<|pD<|Wo<|Wc z (fun hcq=>?_) (fun hcq=>?_)
 ·refine Ws<|R z (bP (parts:=[]) (cs:=[vI 0,sl none 0 0,sl none 0 0]) W_ z z)<|Rm z<|Rm z ?_
  have a9:=lt_ a8 s7.s;obtain ⟨_,aJ,aj⟩:=bdS<|ifT L hcq;refine E z (fc call233 z<|d_2 (B:=B) aJ (zt' hBw a9) V<|ii z) ?_;rintro _ _ ⟨aa,aK,aL,rfl,aM,ab⟩;refine E0 (fs (cur':=[vI 0,sl none 0 0,sl none 0 0]) i_ z z (((((((h3.c G<|atp<|nmA (nmN _)<|nmN _).e h1).c h2<|djs<|mm1 h3.lt G.s).e s4).e s5).e s7).e aa) z (lb z) (oA z) z) ?_;rintro _ _ ⟨aN,aO⟩;have ae:=aO.one;refine Ra z<|Ra z<|Wn ?_
  obtain rfl:=som aj;exact Wr<|F_ hr (q_ u_ i_ z aN z) z z ⟨bM (bup (bup (bup (bup (bM (bup (bM (bup h6 H) G al0) h1) h2<|m1 ha) s4) s5) s7) aa) ae<|m1 h6.s,none,0,0,[],none,0,0,[],aK,aL,z,ii z,onL,onL,p3_0,aM.c ae<|k_ ab h3.lt<|lt_ (lt_ (lt_ (lt_ (lt_ G.s h1.s) h2.s) s4.s) s5.s) s7.s,l_ ab a9,nd0,al0⟩
 refine Wk<|Ws<|R z (lN (vs:=[vI rk.number,sl ad ne cf,sl ah ng ci]) u_ i_ z z fid<|(((ar.e s4).e s5).e s7).row 0 3 z)<|Rm z<|R z (add_ z z)<|E0 (fs (cur':=[vI rk.number,sl ad ne cf,sl ah ng ci]) i_ z z ((((((h3.c G<|atp<|nmA (nmN _)<|nmN _).e h1).c h2<|djs<|mm1 h3.lt G.s).e s4).e s5).e s7) z (lb z) (oA z) z) ?_
 rintro _ _ ⟨aP,aQ⟩;have ht:=aQ.one;refine Ra z<|Ra z<|Wn ?_
 obtain rfl:=som<|ifF L hcq;exact Wr<|F_ hr (q_ u_ i_ z aP z) z z ⟨bM (bup (bup (bup (bM (bup (bM (bup h6 H) G al0) h1) h2<|m1 ha) s4) s5) s7) ht<|m1 h6.s,ad,ne,cf,Sx,ah,ng,ci,Sy,.nilIface,([]:List Nat),z,ap,(((((hz.e h1).c h2<|ds<|mnr<|a_.lt hz).e s4).e s5).e s7).c ht (or1 (al_ hj) al0 (P_ (b_ h3.lt) lr) : ∀ k∈Sx,k∉[wb.z]),(((((O.e h1).c h2<|ds<|mnr<|a_.lt O).e s4).e s5).e s7).c ht (or1 (ar_ hj) al0 (P_ (b_ h3.lt) lr) : ∀ k∈Sy,k∉[wb.z]),iA _ _,c_Y,an_,na_ (nl_ hl) (nr_ hl)<|nj hl,aa_ (a_2 (al_ hj) al0 I)<|a_2 (ar_ hj) al0 I⟩
theorem c_1 : ∀ n,d_B n
  | 0=>⟨⟨fun hm=>by intros;exact nomatch (show none=some _ from hm)⟩,⟨fun hm=>by intros;exact nomatch (show none=some _ from hm)⟩,⟨fun hm=>by intros;exact nomatch (show none=some _ from hm)⟩,⟨fun hm=>by intros;exact nomatch (show none=some _ from hm)⟩,⟨fun hm=>by intros;exact nomatch (show none=some _ from hm)⟩,⟨fun hm=>by intros;exact nomatch (show none=some _ from hm)⟩⟩
  | n+1=>⟨T_w02<|c_1 n,T_w1k<|c_1 n,T_w1l<|c_1 n,T_w1m<|c_1 n,T_w1n<|c_1 n,T_w1o<|c_1 n⟩
theorem W_w02:i_y (a_8 n).impl_fileReader_value:=(c_1 n).1
theorem W_w1k:i_z (a_8 n).impl_fileReader_array:=(c_1 n).2.1
theorem W_w1l:i_A (a_8 n).impl_fileReader_items:=(c_1 n).2.2.1
theorem W_w1m:i_B (a_8 n).impl_fileReader_choice:=(c_1 n).2.2.2.1
theorem W_w1n:i_C (a_8 n).impl_fileReader_option:=(c_1 n).2.2.2.2.1
theorem W_w1o:i_D (a_8 n).impl_fileReader_checked:=(c_1 n).2.2.2.2.2

theorem i_E {x1:d_} {x2:Int} {x3:List UInt8} {x4:Int} {res:Val×Int×Int} (hm:g_a n x1 x2 x3 x4=some res) (hBw:B≤w0.z) (hG:Gl w0 B) (p1_0:repS w0 B (sl A0 N0 C0) x1.rules) (p2_0:inI x2) (p3_0:repS w0 B (sl A7 N7 C7) x3) (p4_0:inI x4):o_ prog 156 [(.agg #[sl A0 N0 C0]),vI x2,sl A7 N7 C7,vI x4] w0 (Q15 w0 B res):=by
 unfold g_a at hm
 refine goF func156 z z (lb z) fun fn hr=>Ws<|E z (fb z) ?_
 rintro _ wc ⟨rfl,a1⟩;have h1:=a1.below;have a2:Blk wc w0.z [sl A0 N0 C0]:=a1.blk;refine E z (fa a_b) ?_;rintro _ wp ⟨rfl,a3⟩;have h4:=a3.below;have h5:Blk wp wc.z [vI 0,sl none 0 0,sl none 0 0]:=a3.blk;refine Ra z<|Ra z<|Wn<|Wq<|Wq ?_
 obtain ⟨az,ax,O⟩:=bdS hm;refine Wt (fun a w=>∃ (xq:Bool),xq=az∧Sat 62 [(1,vI x2),(2,sl A7 N7 C7),(3,vI x4),(4,pt w0.z),(8,pt wc.z),(34,vB xq)] a∧Below wp.z wp w) ?_ ?_
 ·refine Wg<|R z (lN (vs:=[sl A0 N0 C0]) y_ t_ z z fid<|(a2.e h4).row 0 1 z)<|Rm z ?_
  have a4:=(h1.ag B).e h4;obtain ⟨aA,aB,V⟩:=bdS ax;refine E z (fc call190 z<|i_x (B:=B) aB (zt' hBw<|lt_ h1.s h4.s) (p1_0.g a4) p2_0) ?_;rintro _ _ ⟨sd,rfl⟩;refine R z (not_ z)<|Rm z ?_
  rcases bs (!aA) with J | J
  ·exact Nh z J<|Nh z J<|R z (pT z J z)<|Rm z<|Nh z z<|Nh z z<|Nh z z<|Nh z z<|R z (pT z z z)<|Rm z<|Nh z z<|Nh z z<|Nh z z<|R z (pT z z z)<|Wl (fun _ q=>⟨true,som<|ifT V J,q.k<|s6 z z z z z z,sd⟩)
  have W:=ifF V J;refine Rh z J (mv z)<|Rh z J (lss z z)<|R z (pF z J z)<|Rm z ?_
  rcases bs (decide<|x4<0) with H | H
  ·iterate 4 refine Nh z H ?_
   exact R z (pT z H z)<|Rm z<|Nh z z<|Nh z z<|Nh z z<|R z (pT z z z)<|Wl (fun _ q=>⟨true,som<|ifT W H,q.k<|s6 z z z z z z,sd⟩)
  have Y:=ifF W H;refine Rh z H (mv z)<|Rh z H (mv z) ?_
  have a5:=p3_0.g<|a4.e sd
  refine Rh z H (lnR n_ z a5)<|Rh z H (a_9 z z)<|R z (pF z H z)<|Rm z ?_
  rcases bs (decide<|(x3.length:Int)<x4) with L | L
  ·iterate 3 refine Nh z L ?_
   exact R z (pT z L z)<|Wl (fun _ q=>⟨true,som<|ifT Y L,q.k<|s6 z z z z z z,sd⟩)
  exact Rh z L (mv z)<|Rh z L (lnR n_ z a5)<|Rh z L (a_9 z z)<|R z (pF z L z)<|Wl (fun _ q=>⟨decide<|400<(x3.length:Int),som<|ifF Y L,q.k<|s6 z z z z z z,sd⟩)
 rintro aC aD ⟨xq,rfl,_,G⟩;revert aC;refine Wo<|Wc z (fun hcr=>?_) (fun hcr=>?_)
 ·refine Ws<|R z (bP (parts:=[]) (cs:=[vI 0,sl none 0 0,sl none 0 0]) W_ z z)<|E0 (fs (cur':=[vI 0,sl none 0 0,sl none 0 0]) i_ z z (h5.e G) z (lb z) (oA z) z) ?_
  rintro _ _ ⟨aE,aF⟩;refine Ra z<|Ra z<|Wn ?_
  obtain rfl:=som<|ifT O hcr;exact Wr<|F_ hr (q_ u_ i_ z aE z) z z ⟨bM (bup (bup h1 h4) G) aF.one<|m1 h1.s,none,0,0,[],none,0,0,[],z,ii z,onL,onL,ii z,ii z,nd0,al0⟩
 refine Wk<|Ws<|R z (lN (vs:=[sl A0 N0 C0]) y_ t_ z z fid<|((a2.e h4).e G).row 0 1 z)<|Rm z<|R z (bP (parts:=[(0,.tmp 36),(1,.tmp 37)]) (cs:=[sl A0 N0 C0,sl A7 N7 C7]) n_6 z z)<|E z (fb z) ?_
 rintro _ a6 ⟨rfl,a7⟩;have ha:=a7.below;have a8:Blk a6 aD.z [sl A0 N0 C0,sl A7 N7 C7]:=a7.blk;refine Ra z<|Wn<|Ws<|Rm z<|Rm z<|Rm z ?_
 have a9:=(((h1.ag B).e h4).e G).e ha;have he:=lt_ (lt_ (lt_ h1.s h4.s) G.s) ha.s;have aa:=zt' hBw he;obtain ⟨rs,_,aG,aH,a0⟩:=r_<|ifF O hcr;refine E z (fc call191 z<|W_w02.run (B:=a6.z) aH zr (repS.mono (p1_0.g a9) aa) (repS.mono (p3_0.g a9) aa) (a8.row 0 2 z) a8.lt p2_0 p4_0) ?_;rintro _ ab ⟨sb,ah,ng,ci,aI,aj,nk,cl,aJ,_,_,rfl,aK,ad,ae,aL,ht,aM,hu,hn⟩;refine Rm z ?_
 iterate 3 refine R z (ext_ z z) ?_
 refine E z (fa a_b) ?_;rintro _ aN ⟨rfl,af⟩;have h2:=af.below;refine E0 (fs (cur':=[vI rs.number,sl ah ng ci,sl aj nk cl]) i_ z z (af.blk:Blk aN ab.z [vI 0,sl none 0 0,sl none 0 0]) z (lb z) (oA z) z) ?_;rintro _ ai ⟨aO,aP⟩;have h3:=aP.one;refine Ra z<|Ra z<|Wn<|Ws<|E z (fa n_e) ?_
 rintro _ aQ ⟨rfl,ak⟩;have I:=ak.below;have al:Blk aQ ai.z [(.pointer none)]:=ak.blk;refine Wn<|Wq<|Ws<|Rm z<|R z (k_l d_228 (fun _ h=>by cases h) z) ?_
 have am:=((ht.e h2).c h3<|ds<|mnr<|a_w.lt ht).e I
 rcases bs (aG.isSome) with hcm | hcm
 ·obtain ⟨_,_,aR,ay⟩:=a_A<|ifT a0 hcm;have hv:=lt_ he sb.s;refine E z (fc call192 z<|n_3 ((((((((hG.e h1).e h4).e G).e ha).e sb).e h2).c h3<|c_ (or0 (b_ lr)  (m_<|zt' hBw hv) : ∀ k∈[ab.z],¬ B k)).e I) am aR al) ?_;rintro _ _ ⟨an,rfl,aS,aT,aU,ao,aV,aW⟩;have hw:=aS.one;refine Wn<|Wc z (fun _=>?_) (fun hc=>(bcon z hc).elim)
  refine Wq<|Wd (X:=(· ∈ [wc.z])) 0 (.rd 0<|.rd 1<|.rd 2<|.rd 3<|.rd 4<|.rd 5<|.rd 6<|.rd 7<|.rd 8<|.ef 9<|.rd 10<|.rd 11 .done) mo (by kernel_rfl) fun b1 so _=>dR z z (bP (parts:=[]) (cs:=[vI 0,sl none 0 0,sl none 0 0]) W_ z z) ?_;have ap:=aT.e so;have aq:=lt_ G.s ha.s;have ar:=lt_ aq sb.s;have au:=lt_ (lt_ ar h2.s) h3.s;have hx:=mm1 h5.lt au;refine dR z z (l1 g_226 z (atp hx)<|ap.at z)<|dR z z (V_ z)<|dR z z (fd n_c z) ?_
  have av:=(aU.c hw<|atp (or1 (b_<|.inl ao) (ds<|mno (a_w.lt ht)<|lt_ h2.s h3.s) (P_ (b_ al.lt) lr) : ∀ k∈[an],k∉[ai.z])).e so;have aw : ∀ k∈[an],k∉[wc.z]:=or1 (b_<|.inl ao) (k_ aM h5.lt aq)<|P_ (b_ h5.lt)<|lt_ au I.s;refine dR z z (l1 g_3 z (atp aw)<|av.at z)<|dR z z (l1 g_226 z (atp hx)<|ap.at z)<|dR z z (V_ z)<|dR z z (fd n_d z)<|dR z z (l1 g_3 z (atp aw)<|av.at z)<|dE0 z (fs (cur':=[vI 0,sl none 0 0,sl none 0 0]) i_ z z ((((((((h5.e G).e ha).e sb).e h2).c h3<|djs<|mm1 h5.lt ar).e I).c hw<|djs hx).e so) z (lb z) (oA z) z) (.inr fun _ _ h=>chgIn (List.mem_singleton.2 z) h.2) ?_
  rintro _ _ ⟨aX,aY⟩;refine dR z z (asg z)<|dR z z (asg z)<|pD<|Wo ?_
  obtain rfl:=som ay;exact Wr<|F_ hr (q_ u_ i_ z aX z) z z ⟨bM (bup (bM (bup (bM (bup (bup (bup (bup (bup h1 h4) G) ha) sb) h2) h3<|m1 hv) I) hw<|m1<|lt_ (lt_ hv h2.s) h3.s) so) aY.one<|m1 h1.s,none,0,0,[],none,0,0,[],z,ii z,onL,onL,aV,aW,nd0,al0⟩
 refine E z (fc call192 z<|n_2 am hcm) ?_;rintro _ _ ⟨rfl,sf⟩;refine Wn<|Wc z (fun hc=>(bcon hc z).elim) (fun _=>?_)
 refine Wk<|Ws<|R z (lN (vs:=[vI rs.number,sl ah ng ci,sl aj nk cl]) u_ i_ z z fid<|((aO.e I).e sf).row 0 3 z)<|Rm z ?_
 have hy:=lt_ G.s ha.s;refine E0 (fs (cur':=[vI rs.number,sl ah ng ci,sl aj nk cl]) i_ z z (((((((h5.e G).e ha).e sb).e h2).c h3<|djs<|mm1 h5.lt<|lt_ hy sb.s).e I).e sf) z (lb z) (oA z) z) ?_;rintro _ _ ⟨aZ,b0⟩;have hz:=b0.one;refine Ra z<|Ra z<|Wn ?_
 obtain rfl:=som<|ifF a0 hcm;exact Wr<|F_ hr (q_ u_ i_ z aZ z) z z ⟨bM (bup (bup (bM (bup (bup (bup (bup (bup h1 h4) G) ha) sb) h2) h3<|m1<|lt_ he sb.s) I) sf) hz<|m1 h1.s,ah,ng,ci,aI,aj,nk,cl,aJ,z,aK,((((ad.e h2).c h3<|ds<|mnr<|a_.lt ad).e I).e sf).c hz<|k_ (al_ hn) h5.lt hy,((((ae.e h2).c h3<|ds<|mnr<|a_.lt ae).e I).e sf).c hz<|k_ (ar_ hn) h5.lt hy,aL,ii z,na_ (nl_ hu) (nr_ hu)<|nj hu,aa_ (l_ (al_ hn) he)<|l_ (ar_ hn) he⟩
theorem W_w2s {x1:d_} {x2:List UInt8} {res:Val×Int×Int} (hm:g_b n x1 x2=some res) (hBw:B≤w0.z) (hG:Gl w0 B) (p1_0:repS w0 B (sl A0 N0 C0) x1.rules) (p2_0:repS w0 B (sl A6 N6 C6) x2):o_ prog 94 [(.agg #[sl A0 N0 C0]),sl A6 N6 C6] w0 (Q15 w0 B res):=by
 unfold g_b at hm
 refine goF func94 z z (lb z) fun fn hr=>Ws<|E z (fb z) ?_
 rintro _ wn ⟨rfl,al⟩;have h2:=al.below;have hv:Blk wn w0.z [sl A0 N0 C0]:=al.blk;refine E z (fa a_b) ?_;rintro _ I ⟨rfl,am⟩;have h1:=am.below;have ho:Blk I wn.z [vI 0,sl none 0 0,sl none 0 0]:=am.blk;refine Ra z<|Ra z<|Wn<|Wq ?_
 obtain ⟨bj,af,be⟩:=bdS hm;refine Wt (fun a w=>∃ (xb:Int) (xw:List UInt8) (xx:List Val) (xc:Int) (xd:Int),(xb,xw,xx,xc,xd)=bj ∧ ∃ ae nf cg J ah ni cj L O,Sat 32 [(1,sl A6 N6 C6),(4,pt wn.z),(7,pt O),(8,vI xc),(9,vI xd)] a∧Below I.z I w∧inI xb∧a_ w J (sl ae nf cg) xw∧J.Nodup∧(∀ k∈J,I.z≤k)∧a_ w L (sl ah ni cj) xx∧L.Nodup∧(∀ k∈L,I.z≤k)∧(∀ k∈L,k∉J)∧inI xc∧inI xd∧Blk w O [vI xb,sl ae nf cg,sl ah ni cj]∧I.z≤O∧(∀ k∈J,k∉[O])∧(∀ k∈L,k∉[O])) ?_ ?_
 ·refine Wd (X:=fun k=>k∈([]:List Nat)∨I.z≤k) 0 (.rd 0<|.rd 1<|.rd 3<|.br 2 (.br 4 (.rd 5<|.rd 6<|.rd 7<|.rd 8<|.ef 9<|.ef 10<|.rd 11<|.rd 12 .done) 9<|.ef 4<|.rd 5<|.rd 6<|.rd 7<|.rd 8<|.ef 10<|.rd 11<|.rd 12 .done) 9<|.ef 2<|.ef 4<|.rd 5<|.rd 6<|.rd 7<|.rd 8<|.ef 10<|.rd 11<|.rd 12 .done) mo (by kernel_rfl) fun an G _=>?_
  have ao:=(hv.e h1).e G;refine dR z z (lN (vs:=[sl A0 N0 C0]) y_ t_ z z (a_y nm0<|Nat.lt_of_lt_of_le hv.lt h1.s)<|ao.row 0 1 z)<|dR z z (lN (vs:=[sl A0 N0 C0]) y_ t_ z z (a_y nm0<|Nat.lt_of_lt_of_le hv.lt h1.s)<|ao.row 0 1 z)<|dR z z (mv z)<|d_W ?_ ?_
  ·have hy:=((h2.ag B).e h1).e G;have hz:=lt_ (lt_ h2.s h1.s) G.s;obtain ⟨_,bk,ai⟩:=bdS af;refine dE z z (fc call96 z<|i_u (B:=B) bk (zt' hBw hz)<|p1_0.g hy) (.inr fun _ _ h=>v_<|h.1) ?_;rintro _ ap ⟨s3,rfl,aq⟩;refine d_W ?_ ?_
   ·have ar:=hy.e s3;obtain ⟨rp,bm,bn,bo,bf⟩:=r_ ai;refine dE z z (fc call156 z<|i_E (B:=B) bo (zt' hBw<|lt_ hz s3.s) ((((hG.e h2).e h1).e G).e s3) (p1_0.g ar) aq (p2_0.g ar)<|ii z) (.inr fun _ _ h=>v_<|h.1) ?_;rintro _ au ⟨av,aw,ax,ay,bp,az,aA,aB,bq,rfl,bt,aC,aD,bu,bv,W,aE⟩;refine dR z z (mv z) ?_
    iterate 3 refine dR z z (ext_ z z) ?_
    refine dE z z (fa a_b) (.inr fun _ _ h=>v_<|h.2.below) ?_;rintro _ bw ⟨rfl,aF⟩;have Y:=aF.below;have a0:=lt_ G.s s3.s;have a1:=m1<|lt_ a0 av.s
    refine dE0 z (fs (cur':=[vI rp.number,sl aw ax ay,sl az aA aB]) i_ z z (aF.blk:Blk bw au.z [vI 0,sl none 0 0,sl none 0 0]) z (lb z) (oA z) z) (.inr fun _ _ h=>c_D (atp a1) h.2) ?_;rintro _ _ ⟨bx,bz⟩;have a2:=bz.one;refine dR z z (asg z)<|dR z z (asg z)<|pD ?_
    have aG:=mnr<|a_.lt aC
    have aH:=mnr<|a_.lt aD
    exact fun _ q=>⟨rp.number,rp.bytes,rp.items,bm,bn,som bf,aw,ax,ay,bp,az,aA,aB,bq,au.z,q.k<|s5 z z z z z,bM (bup (bup (bup G s3) av) Y) a2 a1,bt,(aC.e Y).c a2<|ds aG,nl_ W,l_ (al_ aE) a0,(aD.e Y).c a2<|ds aH,nr_ W,l_ (ar_ aE) a0,ds<|nj W,bu,bv,bx,atp a1,ds aG,ds aH⟩
   refine dE z z (fa a_b) (.inr fun _ _ h=>v_<|h.2.below) ?_;rintro _ bA ⟨rfl,aI⟩;have hk:=aI.below;have a3:Blk bA ap.z [vI 0,sl none 0 0,sl none 0 0]:=aI.blk;have aJ:=(hy.e s3).e hk;obtain ⟨rq,bB,bC,bD,bg⟩:=r_ ai;refine dE z z (fc call156 z<|i_E (B:=B) bD (zt' hBw<|lt_ (lt_ hz s3.s) hk.s) (((((hG.e h2).e h1).e G).e s3).e hk) (p1_0.g aJ) aq (p2_0.g aJ)<|ii z) (.inr fun _ _ h=>v_<|h.1) ?_;rintro _ _ ⟨aK,aL,aM,aN,bE,aO,aP,aQ,bF,rfl,bG,bH,bI,bJ,bK,a4,ht⟩;refine dR z z (mv z) ?_
   iterate 3 refine dR z z (ext_ z z) ?_
   have aR:=lt_ G.s s3.s;have a5:=m1 aR;refine dE0 z (fs (cur':=[vI rq.number,sl aL aM aN,sl aO aP aQ]) i_ z z (a3.e aK) z (lb z) (oA z) z) (.inr fun _ _ h=>c_D (atp a5) h.2) ?_;rintro _ _ ⟨bL,bN⟩;have a6:=bN.one;refine dR z z (asg z)<|dR z z (asg z)<|pD ?_
   have aS:=k_ (al_ ht) a3.lt lr;have aT:=lt_ aR hk.s;have aU:=k_ (ar_ ht) a3.lt lr;exact fun _ q=>⟨rq.number,rq.bytes,rq.items,bB,bC,som bg,aL,aM,aN,bE,aO,aP,aQ,bF,ap.z,q.k<|s5 z z z z z,bM (bup (bup (bup G s3) hk) aK) a6 a5,bG,bH.c a6 aS,nl_ a4,l_ (al_ ht) aT,bI.c a6 aU,nr_ a4,l_ (ar_ ht) aT,ds<|nj a4,bJ,bK,bL,atp a5,aS,aU⟩
  refine dE z z (fa a_b) (.inr fun _ _ h=>v_<|h.2.below) ?_;rintro _ bO ⟨rfl,aV⟩;have hl:=aV.below;have a7:Blk bO an.z [vI 0,sl none 0 0,sl none 0 0]:=aV.blk;have aW:=(((h2.ag B).e h1).e G).e hl;have aX:=lt_ (lt_ (lt_ h2.s h1.s) G.s) hl.s;obtain ⟨_,bQ,bh⟩:=bdS af;refine dE z z (fc call96 z<|i_u (B:=B) bQ (zt' hBw aX)<|p1_0.g aW) (.inr fun _ _ h=>v_<|h.1) ?_;rintro _ _ ⟨s6,rfl,bR⟩;have aY:=aW.e s6;obtain ⟨rr,bS,bT,bU,bi⟩:=r_ bh;refine dE z z (fc call156 z<|i_E (B:=B) bU (zt' hBw<|lt_ aX s6.s) (((((hG.e h2).e h1).e G).e hl).e s6) (p1_0.g aY) bR (p2_0.g aY)<|ii z) (.inr fun _ _ h=>v_<|h.1) ?_;rintro _ _ ⟨aZ,b0,b1,b2,bV,b3,b4,b5,bW,rfl,bX,bY,bZ,c0,c1,a8,hu⟩;refine dR z z (mv z) ?_
  iterate 3 refine dR z z (ext_ z z) ?_
  have a9:=m1 G.s;refine dE0 z (fs (cur':=[vI rr.number,sl b0 b1 b2,sl b3 b4 b5]) i_ z z ((a7.e s6).e aZ) z (lb z) (oA z) z) (.inr fun _ _ h=>c_D (atp a9) h.2) ?_;rintro _ _ ⟨c2,c3⟩;have aa:=c3.one;refine dR z z (asg z)<|dR z z (asg z)<|pD ?_
  have b6:=k_ (al_ hu) a7.lt s6.s;have b7:=lt_ (lt_ G.s hl.s) s6.s;have b8:=k_ (ar_ hu) a7.lt s6.s;exact fun _ q=>⟨rr.number,rr.bytes,rr.items,bS,bT,som bi,b0,b1,b2,bV,b3,b4,b5,bW,an.z,q.k<|s5 z z z z z,bM (bup (bup (bup G hl) s6) aZ) aa a9,bX,bY.c aa b6,nl_ a8,l_ (al_ hu) b7,bZ.c aa b8,nr_ a8,l_ (ar_ hu) b7,ds<|nj a8,c0,c1,c2,atp a9,b6,b8⟩
 rintro c4 ws ⟨xb,xw,xx,xc,xd,rfl,ae,nf,cg,J,ah,ni,cj,L,O,_,sm,c5,c6,c7,b9,c8,c9,ba,ca,bb,cb,cc,_,_,_⟩;revert c4;refine Wo<|Wq<|Wq ?_
 obtain ⟨cd,aj,ak⟩:=bdS<|c_b be;refine Wt (fun a w=>∃ (ab:Bool),ab=cd∧Sat 32 [(4,pt wn.z),(7,pt O),(8,vI xc),(9,vI xd),(26,vB ab)] a∧Below ws.z ws w) ?_ ?_
 ·refine Wg<|Rm z<|R z (eql z z)<|Rm z ?_
  rcases bs (xd==0) with H | H
  ·exact Rh z H (mv z)<|Rh z H (mv z)<|Rh z H (lnR n_ z<|p2_0.g<|((h2.ag B).e h1).e sm)<|Rh z H (lss z z)<|R z (pT z H z)<|Wl (fun _ q=>⟨decide<|xc<(x2.length:Int),som<|ifT aj H,q.k<|s5 z z z z z,br ws⟩)
  iterate 4 refine Nh z H ?_
  exact R z (pF z H z)<|Wl (fun _ q=>⟨false,som<|ifF aj H,q.k<|s5 z z z z z,br ws⟩)
 rintro ce _ ⟨ab,rfl,_,sa⟩;revert ce;refine Wo<|Wc z (fun V=>?_) (fun V=>?_)
 ·refine Ws<|R z (bP (parts:=[]) (cs:=[vI 0,sl none 0 0,sl none 0 0]) W_ z z)<|Rm z<|E0 (fs (cur':=[vI 0,sl none 0 0,sl none 0 0]) i_ z z ((ho.e sm).e sa) z (lb z) (oA z) z) ?_
  rintro _ _ ⟨cf,ch⟩;refine Ra z<|Ra z<|Wn ?_
  obtain rfl:=som<|ifT ak V;exact Wr<|F_ hr (q_ u_ i_ z cf z) z z ⟨bM (bup (bup (bup h2 h1) sm) sa) ch.one<|m1 h2.s,none,0,0,[],none,0,0,[],z,ii z,onL,onL,bb,ii z,nd0,al0⟩
 refine Wk<|Ws<|R z (lN (vs:=[vI xb,sl ae nf cg,sl ah ni cj]) u_ i_ z z fid<|(cc.e sa).row 0 3 z)<|Rm z<|Rm z<|E0 (fs (cur':=[vI xb,sl ae nf cg,sl ah ni cj]) i_ z z ((ho.e sm).e sa) z (lb z) (oA z) z) ?_
 rintro _ _ ⟨ci,ck⟩;have ad:=ck.one;refine Ra z<|Ra z<|Wn ?_
 obtain rfl:=som<|ifF ak V;have bc:=lt_ h2.s h1.s;exact Wr<|F_ hr (q_ u_ i_ z ci z) z z ⟨bM (bup (bup (bup h2 h1) sm) sa) ad<|m1 h2.s,ae,nf,cg,J,ah,ni,cj,L,z,c5,(c6.e sa).c ad<|k_ b9 ho.lt lr,(c8.e sa).c ad<|k_ ba ho.lt lr,bb,cb,na_ c7 c9<|ds ca,aa_ (l_ b9 bc)<|l_ ba bc⟩
def Q27 (w0:World) (B:Zone) (r:T_) (v:Value) (w':World):Prop:=Bw w0 w'∧(fun G=>(.agg #[vI G.at_,vI G.code])=v∧inI G.at_∧inI G.code) r
theorem e_Z {x1:Z_} {b1 o1:Nat} {x2:Int} {x3:Int} {res:T_} (hm:c_Q x1 x2 x3=some res) (hBw:B≤w0.z) (p1_0:repS w0 B (sl A0 N0 C0) x1.d.rules) (p1_1:repS w0 B (sl A5 N5 C5) x1.b) (p1_2:inI x1.applied) (hC1:U_ w0 b1 o1 [sl A0 N0 C0,sl A5 N5 C5,vI x1.applied]) (hC1b:B b1) (p2_0:inI x2) (p3_0:inI x3):o_ prog 240 [(.pointer<|some ⟨b1,o1,none⟩),vI x2,vI x3] w0 (Q27 w0 B res):=by
 unfold c_Q at hm
 refine goF func240 z z (lb z) fun fn hr=>Ws<|E z (fa b_h) ?_
 rintro _ I ⟨rfl,h2⟩;have G:=h2.below;have h3:Blk I w0.z [vI 0,vI 0]:=h2.blk;refine Wn<|Wq<|Ws<|Rm z<|Rm z<|R z (V_ z)<|R z (fd c_G z)<|R z (l1 Q_ z fid<|(hC1.e G).at (j:=1) z)<|R z (lnR n_ z<|p1_1.e G)<|Rm z<|R z (sb_ z z)<|R z (a_9 z z)<|Wn<|Wc z (fun H=>?_) (fun H=>?_)
 ·refine Ws<|Rm z<|R z (bP (parts:=[(0,.tmp 16),(1,.const<|.int .i64 1)]) (cs:=[vI x2,vI 1]) c_0 z z)<|E0 (fs (cur':=[vI x2,vI 1]) G_ z z h3 z (lb z) (oA z) z) ?_
  rintro _ _ ⟨h5,s6⟩;refine Wn ?_;obtain rfl:=som<|ifT hm H;exact Wr<|h_ hr (q_ a_c G_ z h5 z) ⟨bM G s6.one<|b_ lr,z,p2_0,ii z⟩
 refine Wk<|Ws<|Rm z<|Rm z<|R z (add_ z z)<|R z (bP (parts:=[(0,.tmp 20),(1,.const<|.int .i64 0)]) (cs:=[vI (j_ x2 x3),vI 0]) c_0 z z)<|E0 (fs (cur':=[vI (j_ x2 x3),vI 0]) G_ z z h3 z (lb z) (oA z) z) ?_
 rintro _ _ ⟨J,s8⟩;refine Wn ?_;obtain rfl:=som<|ifF hm H;exact Wr<|h_ hr (q_ a_c G_ z J z) ⟨bM G s8.one<|b_ lr,z,iA _ _,ii z⟩
def Q28 (w0:World) (g1:Nat) (B:Zone) (A0:Option Addr) (N0 C0:Nat) (A5:Option Addr) (N5 C5:Nat) (x1:Z_) (r:Int×T_×Int) (v:Value) (w':World):Prop:=Chg (· ∈ [g1]) w0 w'∧un3 (fun H G I=>v = .tuple #[vI H,(.agg #[vI G.at_,vI G.code])]∧inI H∧inI G.at_∧inI G.code∧inI I∧Blk w' g1 [sl A0 N0 C0,sl A5 N5 C5,vI I]) r
theorem g_I {x1:Z_} {g1:Nat} {x2:Int} {x3:Int} {res:Int×T_×Int} (hm:d_j x1 x2 x3=some res) (hB1:Blk w0 g1 [sl A0 N0 C0,sl A5 N5 C5,vI x1.applied]) (hBw:B≤w0.z) (hBg : ¬ B g1) (p1_0:repS w0 B (sl A0 N0 C0) x1.d.rules) (p1_1:repS w0 B (sl A5 N5 C5) x1.b) (p1_2:inI x1.applied) (p2_0:inI x2) (p3_0:inI x3):o_ prog 238 [pt g1,vI x2,vI x3] w0 (Q28 w0 g1 B A0 N0 C0 A5 N5 C5 x1 res):=by
 unfold d_j at hm
 refine goF func238 z z (lb z) fun fn hr=>Ws<|Ra z<|E z (fa b_h) ?_
 rintro _ wf ⟨rfl,ho⟩;have hb:=ho.below;have I:Blk wf w0.z [vI 0,vI 0]:=ho.blk;refine Wn<|Ws<|Rm z<|R z (V_ z)<|R z (fd g_z z) ?_
 have hp:=hB1.e hb;refine R z (l1 g_3 z fid<|hp.at z)<|R z (add_ z z)<|R z (V_ z)<|R z (fd g_z z)<|E0 (fs (cur':=[sl A0 N0 C0,sl A5 N5 C5,vI<|j_ x1.applied 1]) z_3 z z hp z (lb z) (oA z) z) ?_
 rintro _ J ⟨hq,al⟩;have h1:=al.one;refine Wn<|Ws<|Rm z<|R z (V_ z)<|R z (fd k_8 z)<|R z (fd X_ z)<|R z (l1 a_0 z fid<|hq.at z)<|Rm z ?_
 obtain ⟨xr,am,ai⟩:=bdS hm;have ht:=(hb.ag B).c h1<|c_<|b_ hBg
 refine RX z (at_ (α:=g_) a_1 p_ z z z (p1_0.g ht) am) ?_;rintro _ ⟨_,_,_,rfl,an,ao,_⟩;obtain ⟨au,ns,cv,aw,nx,cy,az,O,V,W,Y,a0,rfl,_,_,ap,_,_,_,_⟩:=a_z ao;refine R z (lN (vs:=vR xr au ns cv aw nx cy az O V W Y a0) J_ p_ z z fid an)<|E z (fa b_i) ?_
 rintro _ wg ⟨rfl,a1⟩;have h4:=a1.below;have a2:Blk wg J.z [(Str.v (⟨[]⟩:Str)),vI 0,vI 0,vB false,sl none 0 0,sl none 0 0,sl none 0 0,sl none 0 0]:=a1.blk;refine E0 (fs (cur':=vR xr au ns cv aw nx cy az O V W Y a0) p_ z z a2 z (lb z) (oA z) z) ?_;rintro _ a3 ⟨a4,aq⟩;have h2:=aq.one;refine Wn<|Ws<|Rm z<|Rm z<|R z (fd a_t z)<|R z (l1 g_3 z fid<|a4.at z) ?_
 have hc:=lt_ hb.s h1.s;have hh:=(hq.e h4).c h2<|djs<|mm1 (Blk.lt hB1) hc
 have hi:=(ht.e h4).c h2<|c_ (or0 (b_ lr)  (m_<|zt' hBw hc) : ∀ k∈[J.z],¬ B k)
 have hj:=lt_ (lt_ hc h4.s) h2.s;obtain ⟨H,ar,L⟩:=bdS ai;refine E z (fc call240 z<|e_Z (B:=w0.z) ar (a_s hj) (repS.mono (p1_0.g hi) hBw) (repS.mono (p1_1.g hi) hBw) (iA _ _) (hh.row 0 3 z) (Blk.lt hB1) p3_0 ap) ?_;rintro _ wa ⟨G,rfl,a5,a6⟩;refine E z (fa b_h) ?_;rintro _ wk ⟨rfl,a7⟩;have h5:=a7.below;refine E0 (fs (cur':=[vI H.at_,vI H.code]) G_ z z (a7.blk:Blk wk wa.z [vI 0,vI 0]) z (lb z) (oA z) z) ?_;rintro _ a8 ⟨hl,av⟩;have h6:=av.one;refine Wn<|Wq<|Ws<|R z (fd c_q z)<|R z (l1 g_3 z fid<|hl.at z)<|R z (nq z z)<|Wn<|Wc z (fun hcm=>?_) (fun hcm=>?_)
 ·refine Wq (Wd (X:=noX) 4 (.rd 0<|.rd 1<|.ef 2 .done) mo (by kernel_rfl) fun ax sd _=>dR z z (lN (vs:=[vI H.at_,vI H.code]) a_c G_ z z fid<|(hl.e sd).row 0 2 z)<|dR z z (asg z) ?_);have a9:=mmr<|Blk.lt hB1
  refine dE0 z (fs (cur':=[vI H.at_,vI H.code]) G_ z z (((((((I.c h1<|atp a9).e h4).c h2<|djs<|mm1 I.lt h1.s).e G).e h5).c h6<|djs<|mm1 I.lt<|lt_ (lt_ (lt_ h1.s h4.s) h2.s) G.s).e sd) z (lb z) (oA z) z) (.inl z) ?_;rintro _ ay ⟨aA,aB⟩;have aa:=aB.one;refine pD<|Wo ?_
  obtain rfl:=som<|ifT L hcm;have ab:=lt_ hj G.s;exact Wr<|a_R hr z (q_ a_c G_ z aA z) ⟨(cM (f_ (cM (f_ (f_ (cM (f_ (cM (f_ (cr [g1] w0) hb:Chg (· ∈ [g1]) w0 wf) h1 (io sr):Chg (· ∈ [g1]) w0 J) h4:Chg (· ∈ [g1]) w0 wg) h2 (mor hc : ∀ k∈[J.z],k∈[g1]∨w0.z≤k):Chg (· ∈ [g1]) w0 a3) G:Chg (· ∈ [g1]) w0 wa) h5:Chg (· ∈ [g1]) w0 wk) h6 (mor ab : ∀ k∈[wa.z],k∈[g1]∨w0.z≤k):Chg (· ∈ [g1]) w0 a8) sd:Chg (· ∈ [g1]) w0 ax) aa (mor lr : ∀ k∈[w0.z],k∈[g1]∨w0.z≤k):Chg (· ∈ [g1]) w0 ay),z,ii z,a5,a6,iA _ _,((((hh.e G).e h5).c h6<|djs<|mm1 (Blk.lt hB1) ab).e sd).c aa<|djs a9⟩
 refine Wk<|Wq (Wd (X:=noX) 8192 (.rd 0<|.rd 1<|.rd 2<|.rd 3<|.rd 4<|.rd 5<|.rd 6<|.rd 7<|.rd 8<|.rd 9<|.rd 11<|.ef 10<|.rd 12<|.ef 13 .done) mo (by kernel_rfl) fun aC s7 _=>dR z z (mv z)<|dR z z (V_ z)<|dR z z (fd c_G z) ?_)
 have he:=lt_ hj G.s;have ad:=(((hh.e G).e h5).c h6<|djs<|mm1 (Blk.lt hB1) he).e s7;refine dR z z (l1 Q_ z fid<|ad.at z)<|dR z z (mv z)<|dR z z (fd c_d z) ?_
 have ae:=hl.e s7;refine dR z z (l1 g_3 z fid<|ae.at z) ?_;obtain ⟨_,aD,aj⟩:=bdS<|ifF L hcm;refine dRX z z (rX n_ z_5 z z (p1_1.g<|(((hi.e G).e h5).c h6<|c_ (or0 (b_ lr)  (m_<|zt' hBw he) : ∀ k∈[wa.z],¬ B k)).e s7) z z aD) ?_;rintro _ ⟨_,_,_,rfl,aE⟩;refine dR z z (fd c_r z)<|dR z z (l1 g_4 z fid<|((((a4.e G).e h5).c h6<|djs<|mm1 a2.lt<|lt_ h2.s G.s).e s7).at z)<|dR z z (lN (vs:=[vI H.at_,vI H.code]) a_c G_ z z fid<|ae.row 0 2 z) ?_
 obtain ⟨_,aF,ak⟩:=bdS aj;refine dE z z (fc call76 z<|W_w1g (B:=B) aF (zt' hBw<|lt_ (lt_ (lt_ he h5.s) h6.s) s7.s) aE) (.inr fun _ _ h=>v_<|h.1) ?_;rintro _ aG ⟨sn,rfl,aH⟩;refine dR z z (asg z) ?_;have af:=mmr<|Blk.lt hB1
 refine dE0 z (fs (cur':=[vI H.at_,vI H.code]) G_ z z ((((((((I.c h1<|atp af).e h4).c h2<|djs<|mm1 I.lt h1.s).e G).e h5).c h6<|djs<|mm1 I.lt<|lt_ (lt_ (lt_ h1.s h4.s) h2.s) G.s).e s7).e sn) z (lb z) (oA z) z) (.inl z) ?_;rintro _ aI ⟨aJ,aK⟩;have ah:=aK.one;refine pD<|Wo ?_
 obtain rfl:=som ak;exact Wr<|a_R hr z (q_ a_c G_ z aJ z) ⟨(cM (f_ (f_ (cM (f_ (f_ (cM (f_ (cM (f_ (cr [g1] w0) hb:Chg (· ∈ [g1]) w0 wf) h1 (io sr):Chg (· ∈ [g1]) w0 J) h4:Chg (· ∈ [g1]) w0 wg) h2 (mor hc : ∀ k∈[J.z],k∈[g1]∨w0.z≤k):Chg (· ∈ [g1]) w0 a3) G:Chg (· ∈ [g1]) w0 wa) h5:Chg (· ∈ [g1]) w0 wk) h6 (mor he : ∀ k∈[wa.z],k∈[g1]∨w0.z≤k):Chg (· ∈ [g1]) w0 a8) s7:Chg (· ∈ [g1]) w0 aC) sn:Chg (· ∈ [g1]) w0 aG) ah (mor lr : ∀ k∈[w0.z],k∈[g1]∨w0.z≤k):Chg (· ∈ [g1]) w0 aI),z,aH,a5,a6,iA _ _,(ad.e sn).c ah<|djs af⟩
theorem W_w2t {x1:Z_} {b1 o1:Nat} {x2:g_} {x3:Int} {res:T_} (hm:f_R x1 x2 x3=some res) (hBw:B≤w0.z) (p1_0:repS w0 B (sl A0 N0 C0) x1.d.rules) (p1_1:repS w0 B (sl A5 N5 C5) x1.b) (p1_2:inI x1.applied) (hC1:U_ w0 b1 o1 [sl A0 N0 C0,sl A5 N5 C5,vI x1.applied]) (hC1b:B b1) (p2_0:x2.name.b.length≤LEN) (p2_1:inI x2.kind) (p2_2:inI x2.size) (p2_4:repS w0 B (sl A2 N2 C2) x2.bytes) (p2_5:repS w0 B (sl A3 N3 C3) x2.names) (p2_6:repS w0 B (sl A1 N1 C1) x2.tags) (p2_7:repS w0 B (sl A4 N4 C4) x2.kids) (p3_0:inI x3):o_ prog 239 [(.pointer<|some ⟨b1,o1,none⟩),.agg #[Str.v x2.name,vI x2.kind,vI x2.size,vB x2.little,sl A2 N2 C2,sl A3 N3 C3,sl A1 N1 C1,sl A4 N4 C4],vI x3] w0 (Q27 w0 B res):=by
 unfold f_R at hm
 refine goF func239 z z (lb z) fun fn hr=>Ws<|E z (fb z) ?_
 rintro _ I ⟨rfl,hb⟩;have G:=hb.below;refine E z (fa b_h) ?_;rintro _ H ⟨rfl,hd⟩;have h3:=hd.below;have L:Blk H I.z [vI 0,vI 0]:=hd.blk;refine Wn<|Wq<|Ws<|R z (fd a_K z) ?_
 have he:=(hb.blk:Blk I w0.z (vR x2 A2 N2 C2 A3 N3 C3 A1 N1 C1 A4 N4 C4)).e h3;refine R z (l1 Q_ z fid<|he.at z) ?_;have O:=(G.ag B).e h3;refine R z (lnR n_ z<|p2_4.g O)<|Rm z<|Wn ?_
 obtain ⟨_,hum,hmc⟩:=bdS hm;refine Wf (σ:=Unit) (ρ:=T_) (fun (k5:Nat) (_:Unit) a w=>Sat 50 [(0,.pointer<|some ⟨b1,o1,none⟩),(2,vI x3),(4,pt w0.z),(6,pt I.z),(10,sl A2 N2 C2),(11,vI (x2.bytes.length:Int)),(12,vI ((k5:Nat):Int))] a∧Below H.z H w) (fun (_:Unit) a w=>Sat 50 [(2,vI x3),(4,pt w0.z),(6,pt I.z)] a∧Below H.z H w) (fun r ex a w=>ex = .ret∧L_ prog fn (Q27 w0 B r) a w) hum ?_ ?_ ?_ ?_ ?_
 ·exact fun _ q=>⟨q.k<|s7 z z z z z z z,br H⟩
 ·rintro k5 _ _ _ _ hkf ⟨hSn,s1⟩ hmo;refine Wu ?_ hSn;refine Ws<|R z (lss z z)<|Wn<|Wq<|Wc z (fun _=>?_) (fun hc=>(a_3 hkf hc).elim)
  refine Wk<|Wq<|Wb<|Ws<|Rm z ?_
  obtain ⟨_,ep,hmg⟩:=bdS hmo;have hh:=O.e s1;refine RX z (at_ (α:=UInt8) n_ z_5 z z z (p2_4.g hh) ep) ?_;rintro _ ⟨_,_,_,rfl,hq,ht,_⟩;obtain rfl:=u8 ht;refine R z (l1 g_5 z fid<|hq.at0 z)<|Ra z<|Ra z<|Wn<|Wq<|Ws<|Rm z<|Rm z<|R z (add_ z z)<|Rm z<|R z (V_ z)<|R z (fd c_G z) ?_
  have hi:=((hC1.e G).e h3).e s1;refine R z (l1 Q_ z fid<|hi.at (j:=1) z) ?_;have hj:=p1_1.g hh;refine R z (lnR n_ z hj)<|R z (eql z z)<|Wn<|Wc z (fun J=>?_) (fun J=>?_)
  ·refine Ws<|Rm z<|R z (bP (parts:=[(0,.tmp 26),(1,.const<|.int .i64 1)]) (cs:=[vI x3,vI 1]) c_0 z z)<|E0 (fs (cur':=[vI x3,vI 1]) G_ z z (L.e s1) z (lb z) (oA z) z) ?_
   rintro _ _ ⟨hu,sr⟩;exact Wn<|Wr<|rtO<|qL (som<|ifT hmg J).symm<|h_ hr (q_ a_c G_ z hu z) ⟨bM (bup (bup G h3) s1) sr.one<|m1 G.s,z,p3_0,ii z⟩
  refine Wk<|Ws<|Rm z<|R z (V_ z)<|R z (fd c_G z)<|R z (l1 Q_ z fid<|hi.at (j:=1) z)<|Rm z<|Rm z<|R z (add_ z z) ?_
  obtain ⟨_,es,hmk⟩:=bdS<|ifF hmg J;refine RX z (at_ (α:=UInt8) n_ z_5 z z z hj es) ?_;rintro _ ⟨_,_,_,rfl,hv,hw,_⟩;obtain rfl:=u8 hw;refine R z (l1 g_5 z fid<|hv.at0 z)<|Rm z<|R z (nq z z)<|Wn<|Wc z (fun hca=>?_) (fun hca=>?_)
  ·refine Ws<|Rm z<|Rm z<|R z (add_ z z)<|R z (bP (parts:=[(0,.tmp 41),(1,.const<|.int .i64 2)]) (cs:=[(vI<|j_ x3 ((k5:Nat):Int)),vI 2]) c_0 z z)<|E0 (fs (cur':=[(vI<|j_ x3 ((k5:Nat):Int)),vI 2]) G_ z z (L.e s1) z (lb z) (oA z) z) ?_
   rintro _ _ ⟨hx,sy⟩;exact Wn<|Wr<|rtO<|qL (som<|ifT hmk hca).symm<|h_ hr (q_ a_c G_ z hx z) ⟨bM (bup (bup G h3) s1) sy.one<|m1 G.s,z,iA _ _,ii z⟩
  exact Wk<|Wg<|R z (inc_ hkf (lt_ (repS.len p2_4) M_) z z)<|Rm z<|Wl (fun _ q=>⟨(),(som<|ifF hmk hca).symm,⟨q.k<|s7 z z z z z z z,s1⟩⟩)
 ·rintro _ _ _ ⟨hSz,a0⟩;refine Wu ?_ hSz;refine Ws<|R z (lss z z)<|Wn<|Wq<|Wc z (fun hc=>(a_4 hc).elim) (fun _=>?_)
  exact We<|fun a' ha'=>⟨rfl,⟨Sat.weaken ha'<|s3 z z z,a0⟩⟩
 ·rintro _ a1 _ rfl ⟨_,s6⟩;have V:=elL hmc;revert a1;refine Wo<|Ws<|Rm z<|R z (fd a_K z)<|R z (l1 Q_ z fid<|(he.e s6).at z)<|R z (lnR n_ z<|p2_4.g<|O.e s6)<|R z (add_ z z)<|R z (bP (parts:=[(0,.tmp 48),(1,.const<|.int .i64 0)]) (cs:=[(vI<|j_ x3 (x2.bytes.length:Int)),vI 0]) c_0 z z)<|E0 (fs (cur':=[(vI<|j_ x3 (x2.bytes.length:Int)),vI 0]) G_ z z (L.e s6) z (lb z) (oA z) z) ?_
  rintro _ _ ⟨a2,a3⟩;refine Wn ?_;obtain rfl:=som V;exact Wr<|h_ hr (q_ a_c G_ z a2 z) ⟨bM (bup (bup G h3) s6) a3.one<|m1 G.s,z,iA _ _,ii z⟩
 rintro _ _ _ _ rfl ⟨rfl,W⟩;have Y:=elR hmc;obtain rfl:=som Y;exact ⟨W,z⟩
def Q29 (w0:World) (g1:Nat) (B:Zone) (A0:Option Addr) (N0 C0:Nat) (A5:Option Addr) (N5 C5:Nat) (x1:Z_) (r:T_×Int) (v:Value) (w':World):Prop:=Chg (· ∈ [g1]) w0 w'∧un2 (fun G H=>(.agg #[vI G.at_,vI G.code])=v∧inI G.at_∧inI G.code∧inI H∧Blk w' g1 [sl A0 N0 C0,sl A5 N5 C5,vI H]) r
structure i_F (f:Z_→Int→Int→Option (T_×Int)):Prop where
  run : ∀ {A0 A5:Option Addr} {N0 C0 N5 C5 g1:Nat} {B:Zone} {x1:Z_} {x2:Int} {x3:Int} {res:T_×Int} {w0:World} (hm:f x1 x2 x3=some res) (hB1:Blk w0 g1 [sl A0 N0 C0,sl A5 N5 C5,vI x1.applied]) (hBw:B≤w0.z) (hBg : ¬ B g1) (p1_0:repS w0 B (sl A0 N0 C0) x1.d.rules) (p1_1:repS w0 B (sl A5 N5 C5) x1.b) (p1_2:inI x1.applied) (p2_0:inI x2) (p3_0:inI x3),o_ prog 193 [pt g1,vI x2,vI x3] w0<|Q29 w0 g1 B A0 N0 C0 A5 N5 C5 x1 res
structure i_G (f:Z_→g_→Int→Option (T_×Int)):Prop where
  run : ∀ {A0 A5 A2 A3 A1 A4:Option Addr} {N0 C0 N5 C5 g1 N2 C2 N3 C3 N1 C1 N4 C4:Nat} {B:Zone} {x1:Z_} {x2:g_} {x3:Int} {res:T_×Int} {w0:World} (hm:f x1 x2 x3=some res) (hB1:Blk w0 g1 [sl A0 N0 C0,sl A5 N5 C5,vI x1.applied]) (hBw:B≤w0.z) (hBg : ¬ B g1) (p1_0:repS w0 B (sl A0 N0 C0) x1.d.rules) (p1_1:repS w0 B (sl A5 N5 C5) x1.b) (p1_2:inI x1.applied) (p2_0:x2.name.b.length≤LEN) (p2_1:inI x2.kind) (p2_2:inI x2.size) (p2_4:repS w0 B (sl A2 N2 C2) x2.bytes) (p2_5:repS w0 B (sl A3 N3 C3) x2.names) (p2_6:repS w0 B (sl A1 N1 C1) x2.tags) (p2_7:repS w0 B (sl A4 N4 C4) x2.kids) (p3_0:inI x3),o_ prog 241 [pt g1,.agg #[Str.v x2.name,vI x2.kind,vI x2.size,vB x2.little,sl A2 N2 C2,sl A3 N3 C3,sl A1 N1 C1,sl A4 N4 C4],vI x3] w0<|Q29 w0 g1 B A0 N0 C0 A5 N5 C5 x1 res
structure i_H (f:Z_→g_→Int→Option (T_×Int)):Prop where
  run : ∀ {A0 A5 A2 A3 A1 A4:Option Addr} {N0 C0 N5 C5 g1 N2 C2 N3 C3 N1 C1 N4 C4:Nat} {B:Zone} {x1:Z_} {x2:g_} {x3:Int} {res:T_×Int} {w0:World} (hm:f x1 x2 x3=some res) (hB1:Blk w0 g1 [sl A0 N0 C0,sl A5 N5 C5,vI x1.applied]) (hBw:B≤w0.z) (hBg : ¬ B g1) (p1_0:repS w0 B (sl A0 N0 C0) x1.d.rules) (p1_1:repS w0 B (sl A5 N5 C5) x1.b) (p1_2:inI x1.applied) (p2_0:x2.name.b.length≤LEN) (p2_1:inI x2.kind) (p2_2:inI x2.size) (p2_4:repS w0 B (sl A2 N2 C2) x2.bytes) (p2_5:repS w0 B (sl A3 N3 C3) x2.names) (p2_6:repS w0 B (sl A1 N1 C1) x2.tags) (p2_7:repS w0 B (sl A4 N4 C4) x2.kids) (p3_0:inI x3),o_ prog 242 [pt g1,.agg #[Str.v x2.name,vI x2.kind,vI x2.size,vB x2.little,sl A2 N2 C2,sl A3 N3 C3,sl A1 N1 C1,sl A4 N4 C4],vI x3] w0<|Q29 w0 g1 B A0 N0 C0 A5 N5 C5 x1 res
structure i_I (f:Z_→g_→Int→Option (T_×Int)):Prop where
  run : ∀ {A0 A5 A2 A3 A1 A4:Option Addr} {N0 C0 N5 C5 g1 N2 C2 N3 C3 N1 C1 N4 C4:Nat} {B:Zone} {x1:Z_} {x2:g_} {x3:Int} {res:T_×Int} {w0:World} (hm:f x1 x2 x3=some res) (hB1:Blk w0 g1 [sl A0 N0 C0,sl A5 N5 C5,vI x1.applied]) (hBw:B≤w0.z) (hBg : ¬ B g1) (p1_0:repS w0 B (sl A0 N0 C0) x1.d.rules) (p1_1:repS w0 B (sl A5 N5 C5) x1.b) (p1_2:inI x1.applied) (p2_0:x2.name.b.length≤LEN) (p2_1:inI x2.kind) (p2_2:inI x2.size) (p2_4:repS w0 B (sl A2 N2 C2) x2.bytes) (p2_5:repS w0 B (sl A3 N3 C3) x2.names) (p2_6:repS w0 B (sl A1 N1 C1) x2.tags) (p2_7:repS w0 B (sl A4 N4 C4) x2.kids) (p3_0:inI x3),o_ prog 243 [pt g1,.agg #[Str.v x2.name,vI x2.kind,vI x2.size,vB x2.little,sl A2 N2 C2,sl A3 N3 C3,sl A1 N1 C1,sl A4 N4 C4],vI x3] w0<|Q29 w0 g1 B A0 N0 C0 A5 N5 C5 x1 res
structure i_J (f:Z_→g_→Int→Option (T_×Int)):Prop where
  run : ∀ {A0 A5 A2 A3 A1 A4:Option Addr} {N0 C0 N5 C5 g1 N2 C2 N3 C3 N1 C1 N4 C4:Nat} {B:Zone} {x1:Z_} {x2:g_} {x3:Int} {res:T_×Int} {w0:World} (hm:f x1 x2 x3=some res) (hB1:Blk w0 g1 [sl A0 N0 C0,sl A5 N5 C5,vI x1.applied]) (hBw:B≤w0.z) (hBg : ¬ B g1) (p1_0:repS w0 B (sl A0 N0 C0) x1.d.rules) (p1_1:repS w0 B (sl A5 N5 C5) x1.b) (p1_2:inI x1.applied) (p2_0:x2.name.b.length≤LEN) (p2_1:inI x2.kind) (p2_2:inI x2.size) (p2_4:repS w0 B (sl A2 N2 C2) x2.bytes) (p2_5:repS w0 B (sl A3 N3 C3) x2.names) (p2_6:repS w0 B (sl A1 N1 C1) x2.tags) (p2_7:repS w0 B (sl A4 N4 C4) x2.kids) (p3_0:inI x3),o_ prog 244 [pt g1,.agg #[Str.v x2.name,vI x2.kind,vI x2.size,vB x2.little,sl A2 N2 C2,sl A3 N3 C3,sl A1 N1 C1,sl A4 N4 C4],vI x3] w0<|Q29 w0 g1 B A0 N0 C0 A5 N5 C5 x1 res
abbrev e_a (n:Nat):Prop:=i_F (a_r n).impl_checker_value∧i_G (a_r n).impl_checker_array∧i_H (a_r n).impl_checker_choice∧i_I (a_r n).impl_checker_option∧i_J (a_r n).impl_checker_checked
theorem T_w04 (ih:e_a n):i_F (f_S n<|a_r n):=by
 obtain ⟨dG,dH,dI,dJ,dK⟩:=ih
 constructor
 intro A0 A5 N0 C0 N5 C5 g1 B x1 x2 x3 res w0 hm hB1 hBw hBg p1_0 p1_1 p1_2 p2_0 p3_0;unfold f_S at hm
 refine goF func193 z z (lb z) fun fn hr=>Ws<|E z (fa b_h) ?_
 rintro _ H ⟨rfl,bj⟩;have h1:=bj.below;have h6:Blk H w0.z [vI 0,vI 0]:=bj.blk;refine Wn<|Ws<|Rm z<|R z (V_ z)<|R z (fd k_8 z)<|R z (fd X_ z) ?_
 have aH:=hB1.e h1;refine R z (l1 a_0 z fid<|aH.at z)<|Rm z ?_
 obtain ⟨xh,dL,b4⟩:=bdS hm;refine RX z (at_ (α:=g_) a_1 p_ z z z (p1_0.e h1) dL) ?_;rintro _ ⟨_,_,_,rfl,dN,dO,_⟩;obtain ⟨ao,np,cq,ar,ns,ct,au,nv,cw,ai,nj,ck,rfl,a3,a4,hz,V,a5,a6,he⟩:=a_z dO;refine R z (lN (vs:=vR xh ao np cq ar ns ct au nv cw ai nj ck) J_ p_ z z fid dN)<|E z (fa b_i) ?_
 rintro _ L ⟨rfl,bk⟩;have h2:=bk.below;have bm:Blk L H.z [(Str.v (⟨[]⟩:Str)),vI 0,vI 0,vB false,sl none 0 0,sl none 0 0,sl none 0 0,sl none 0 0]:=bk.blk;refine E0 (fs (cur':=vR xh ao np cq ar ns ct au nv cw ai nj ck) p_ z z bm z (lb z) (oA z) z) ?_;rintro _ O ⟨bn,dP⟩;have G:=dP.one;refine Wn<|Wq<|Ws<|R z (fd a_x z)<|R z (l1 g_3 z fid<|bn.at z)<|R z (eql z z)<|Wn<|Wc z (fun av=>?_) (fun av=>?_)
 ·refine Ws<|Rm z<|Rm z<|Rm z ?_
  have bo:=((h1.ag B).e h2).c G<|c_ (or0 (b_ lr)  (m_<|zt' hBw h1.s) : ∀ k∈[H.z],¬ B k)
  have bp:=lt_ (lt_ h1.s h2.s) G.s;obtain ⟨_,W,_,dS,cP⟩:=r_<|ifT b4 av;refine E z (fc call238 z<|g_I (B:=B) dS ((aH.e h2).c G<|djs<|mm1 (Blk.lt hB1) h1.s) (zt' hBw bp) hBg (p1_0.g bo) (p1_1.g bo) p1_2 p2_0 p3_0) ?_;rintro _ aI ⟨ad,rfl,_,dT,dU,dV,dW⟩;refine Rm z<|R z (ext_ z z)<|R z (ext_ z z)<|E z (fa b_h) ?_
  rintro _ bq ⟨rfl,br⟩;have aJ:=br.below;refine Ra z<|E0 (fs (cur':=[vI W.at_,vI W.code]) G_ z z (br.blk:Blk bq aI.z [vI 0,vI 0]) z (lb z) (oA z) z) ?_
  rintro _ dX ⟨dY,dZ⟩;have aK:=dZ.one;refine Wn<|Ws<|R z (lN (vs:=[vI W.at_,vI W.code]) a_c G_ z z fid<|dY.row 0 2 z) ?_
  have bs:=mmr<|Blk.lt hB1
  refine E0 (fs (cur':=[vI W.at_,vI W.code]) G_ z z (((((h6.e h2).c G<|djs<|mmr h6.lt).c ad<|atp bs).e aJ).c aK<|djs<|mm1 h6.lt<|lt_ (lt_ h2.s G.s) ad.s) z (lb z) (oA z) z) ?_;rintro _ e0 ⟨e1,e2⟩;have bt:=e2.one;refine Wn ?_;obtain rfl:=som cP;have bu:=lt_ bp ad.s;exact Wr<|h_ hr (q_ a_c G_ z e1 z) ⟨(cM (cM (f_ (cM (cM (f_ (f_ (cr [g1] w0) h1:Chg (· ∈ [g1]) w0 H) h2:Chg (· ∈ [g1]) w0 L) G (mor h1.s : ∀ k∈[H.z],k∈[g1]∨w0.z≤k):Chg (· ∈ [g1]) w0 O) ad (io sr):Chg (· ∈ [g1]) w0 aI) aJ:Chg (· ∈ [g1]) w0 bq) aK (mor bu : ∀ k∈[aI.z],k∈[g1]∨w0.z≤k):Chg (· ∈ [g1]) w0 dX) bt (mor lr : ∀ k∈[w0.z],k∈[g1]∨w0.z≤k):Chg (· ∈ [g1]) w0 e0),z,dT,dU,dV,((dW.e aJ).c aK<|djs<|mm1 (Blk.lt hB1) bu).c bt<|djs bs⟩
 have b5:=ifF b4 av;refine Wk<|Ws<|Rm z<|R z (V_ z)<|R z (fd g_z z) ?_
 have bv:=mm1 (Blk.lt hB1) h1.s;have bw:=(aH.e h2).c G<|djs bv
 refine R z (l1 g_3 z fid<|bw.at z)<|R z (add_ z z)<|R z (V_ z)<|R z (fd g_z z)<|E0 (fs (cur':=[sl A0 N0 C0,sl A5 N5 C5,vI<|j_ x1.applied 1]) z_3 z z bw z (lb z) (oA z) z) ?_
 rintro _ I ⟨ha,e3⟩;have h3:=e3.one;refine Wn<|Wq<|Ws<|R z (fd a_x z) ?_
 have hb:=bn.c h3<|atp bv
 refine R z (l1 g_3 z fid<|hb.at z)<|Wn<|Wb<|Ws<|R z (eql z z)<|Ra z<|Wn<|Wc z (fun aw=>?_) (fun aw=>?_)
 ·refine Ws<|Rm z<|R z (lN (vs:=vR xh ao np cq ar ns ct au nv cw ai nj ck) J_ p_ z z fid<|hb.row 0 8 z)<|Rm z ?_
  have bx : ∀ k∈[H.z],¬ B k:=or0 (b_ lr)  (m_<|zt' hBw h1.s);have bz:=(((h1.ag B).e h2).c G<|c_ bx).c h3<|c_<|b_ hBg
  have ae:=((h2.ag B).c G<|c_ bx).c h3<|c_<|b_ hBg
  obtain ⟨bA,e4,cQ⟩:=bdS<|ifT b5 aw;refine E z (fc call239 z<|W_w2t (B:=w0.z) e4 (a_s<|lt_ (lt_ (lt_ h1.s h2.s) G.s) h3.s) (repS.mono (p1_0.g bz) hBw) (repS.mono (p1_1.g bz) hBw) (iA _ _) (ha.row 0 3 z) (Blk.lt hB1) a3 a4 hz (repS.mono (V.g ae) hBw) (repS.mono (a5.g ae) hBw) (repS.mono (a6.g ae) hBw) (repS.mono (he.g ae) hBw) p3_0) ?_;rintro _ e5 ⟨aL,rfl,e6,e7⟩;have bB:=mmr<|Blk.lt hB1
  refine E0 (fs (cur':=[vI bA.at_,vI bA.code]) G_ z z ((((h6.e h2).c G<|djs<|mmr h6.lt).c h3<|atp bB).e aL) z (lb z) (oA z) z) ?_;rintro _ e8 ⟨e9,ea⟩;have bC:=ea.one;refine Wn ?_;obtain rfl:=som cQ;exact Wr<|rtO<|h_ hr (q_ a_c G_ z e9 z) ⟨(cM (f_ (cM (cM (f_ (f_ (cr [g1] w0) h1:Chg (· ∈ [g1]) w0 H) h2:Chg (· ∈ [g1]) w0 L) G (mor h1.s : ∀ k∈[H.z],k∈[g1]∨w0.z≤k):Chg (· ∈ [g1]) w0 O) h3 (io sr):Chg (· ∈ [g1]) w0 I) aL:Chg (· ∈ [g1]) w0 e5) bC (mor lr : ∀ k∈[w0.z],k∈[g1]∨w0.z≤k):Chg (· ∈ [g1]) w0 e8),z,e6,e7,iA _ _,(ha.e aL).c bC<|djs bB⟩
 have b6:=ifF b5 aw;refine Ws<|R z (eql z z)<|Ra z<|Wn<|Wc z (fun ax=>?_) (fun ax=>?_)
 ·refine Ws<|Rm z<|Rm z<|R z (fd a_t z)<|R z (l1 g_3 z fid<|hb.at z) ?_
  have bD:=(((h1.ag B).e h2).c G<|c_ (or0 (b_ lr)  (m_<|zt' hBw h1.s) : ∀ k∈[H.z],¬ B k)).c h3<|c_<|b_ hBg
  obtain ⟨bE,eb,cR⟩:=bdS<|ifT b6 ax;refine E z (fc call240 z<|e_Z (B:=w0.z) eb (a_s<|lt_ (lt_ (lt_ h1.s h2.s) G.s) h3.s) (repS.mono (p1_0.g bD) hBw) (repS.mono (p1_1.g bD) hBw) (iA _ _) (ha.row 0 3 z) (Blk.lt hB1) p3_0 hz) ?_;rintro _ ec ⟨aM,rfl,ed,ee⟩;have bF:=mmr<|Blk.lt hB1
  refine E0 (fs (cur':=[vI bE.at_,vI bE.code]) G_ z z ((((h6.e h2).c G<|djs<|mmr h6.lt).c h3<|atp bF).e aM) z (lb z) (oA z) z) ?_;rintro _ eg ⟨eh,ei⟩;have bG:=ei.one;refine Wn ?_;obtain rfl:=som cR;exact Wr<|rtO<|h_ hr (q_ a_c G_ z eh z) ⟨(cM (f_ (cM (cM (f_ (f_ (cr [g1] w0) h1:Chg (· ∈ [g1]) w0 H) h2:Chg (· ∈ [g1]) w0 L) G (mor h1.s : ∀ k∈[H.z],k∈[g1]∨w0.z≤k):Chg (· ∈ [g1]) w0 O) h3 (io sr):Chg (· ∈ [g1]) w0 I) aM:Chg (· ∈ [g1]) w0 ec) bG (mor lr : ∀ k∈[w0.z],k∈[g1]∨w0.z≤k):Chg (· ∈ [g1]) w0 eg),z,ed,ee,iA _ _,(ha.e aM).c bG<|djs bF⟩
 have b7:=ifF b6 ax;refine Ws<|R z (eql z z)<|Ra z<|Wn<|Wc z (fun ay=>?_) (fun ay=>?_)
 ·refine Ws<|Rm z<|R z (fd K_ z)<|R z (l1 B_ z fid<|hb.at z) ?_
  obtain ⟨_,ej,cS⟩:=bdS<|ifT b7 ay;have bH : ∀ k∈[H.z],¬ B k:=or0 (b_ lr)  (m_<|zt' hBw h1.s);refine RX z (at_ (α:=Int) w_ z_3 z z z (he.g<|((h2.ag B).c G<|c_ bH).c h3<|c_<|b_ hBg) ej) ?_;rintro _ ⟨_,_,_,rfl,ek,em,_⟩;obtain ⟨rfl,en⟩:=O_ em;refine R z (l1 g_3 z fid<|ek.at0 z)<|Rm z ?_
  have aN:=(((h1.ag B).e h2).c G<|c_ bH).c h3<|c_<|b_ hBg
  have aO:=lt_ (lt_ (lt_ h1.s h2.s) G.s) h3.s;obtain ⟨_,Y,_,eo,b8⟩:=r_ cS;refine E z (fc call238 z<|g_I (B:=B) eo ha (zt' hBw aO) hBg (p1_0.g aN) (p1_1.g aN) (iA _ _) en p3_0) ?_;rintro _ a0 ⟨sf,rfl,ep,bI,er,aP,bJ⟩;refine Rm z<|R z (ext_ z z)<|R z (ext_ z z)<|E z (fa b_h) ?_
  rintro _ aQ ⟨rfl,bK⟩;have hl:=bK.below;refine Ra z<|E0 (fs (cur':=[vI Y.at_,vI Y.code]) G_ z z (bK.blk:Blk aQ a0.z [vI 0,vI 0]) z (lb z) (oA z) z) ?_
  rintro _ bL ⟨aR,es⟩;have hn:=es.one;refine Wn<|Wq<|Ws<|R z (fd c_q z)<|R z (l1 g_3 z fid<|aR.at z)<|R z (nq z z)<|Wn<|Wc z (fun az=>?_) (fun az=>?_)
  ·refine Ws<|R z (lN (vs:=[vI Y.at_,vI Y.code]) a_c G_ z z fid<|aR.row 0 2 z) ?_
   have aS:=mmr<|Blk.lt hB1
   refine E0 (fs (cur':=[vI Y.at_,vI Y.code]) G_ z z ((((((h6.e h2).c G<|djs<|mmr h6.lt).c h3<|atp aS).c sf<|atp aS).e hl).c hn<|djs<|mm1 h6.lt<|lt_ (lt_ (lt_ h2.s G.s) h3.s) sf.s) z (lb z) (oA z) z) ?_;rintro _ eu ⟨ew,ey⟩;have bM:=ey.one;refine Wn ?_;obtain rfl:=som<|ifT b8 az;have bN:=lt_ aO sf.s;exact Wr<|rtO<|h_ hr (q_ a_c G_ z ew z) ⟨(cM (cM (f_ (cM (cM (cM (f_ (f_ (cr [g1] w0) h1:Chg (· ∈ [g1]) w0 H) h2:Chg (· ∈ [g1]) w0 L) G (mor h1.s : ∀ k∈[H.z],k∈[g1]∨w0.z≤k):Chg (· ∈ [g1]) w0 O) h3 (io sr):Chg (· ∈ [g1]) w0 I) sf (io sr):Chg (· ∈ [g1]) w0 a0) hl:Chg (· ∈ [g1]) w0 aQ) hn (mor bN : ∀ k∈[a0.z],k∈[g1]∨w0.z≤k):Chg (· ∈ [g1]) w0 bL) bM (mor lr : ∀ k∈[w0.z],k∈[g1]∨w0.z≤k):Chg (· ∈ [g1]) w0 eu),z,bI,er,aP,((bJ.e hl).c hn<|djs<|mm1 (Blk.lt hB1) bN).c bM<|djs aS⟩
  refine Wk<|Ws<|Rm z<|R z (fd c_d z)<|R z (l1 g_3 z fid<|aR.at z)<|Rm z ?_
  have af:=lt_ aO sf.s;have bO:=(bJ.e hl).c hn<|djs<|mm1 (Blk.lt hB1) af
  have bQ:=((aN.c sf<|c_<|b_ hBg).e hl).c hn<|c_ (or0 (b_ lr)  (m_<|zt' hBw af) : ∀ k∈[a0.z],¬ B k)
  obtain ⟨bR,ez,cT⟩:=bdS<|ifF b8 az;refine E z (fc call240 z<|e_Z (B:=w0.z) ez (a_s<|lt_ (lt_ af hl.s) hn.s) (repS.mono (p1_0.g bQ) hBw) (repS.mono (p1_1.g bQ) hBw) aP (bO.row 0 3 z) (Blk.lt hB1) bI ep) ?_;rintro _ eA ⟨aT,rfl,eB,eC⟩;have aU:=mmr<|Blk.lt hB1
  refine E0 (fs (cur':=[vI bR.at_,vI bR.code]) G_ z z (((((((h6.e h2).c G<|djs<|mmr h6.lt).c h3<|atp aU).c sf<|atp aU).e hl).c hn<|djs<|mm1 h6.lt<|lt_ (lt_ (lt_ h2.s G.s) h3.s) sf.s).e aT) z (lb z) (oA z) z) ?_;rintro _ eD ⟨eE,eF⟩;have bS:=eF.one;refine Wn ?_;obtain rfl:=som cT;exact Wr<|rtO<|h_ hr (q_ a_c G_ z eE z) ⟨(cM (f_ (cM (f_ (cM (cM (cM (f_ (f_ (cr [g1] w0) h1:Chg (· ∈ [g1]) w0 H) h2:Chg (· ∈ [g1]) w0 L) G (mor h1.s : ∀ k∈[H.z],k∈[g1]∨w0.z≤k):Chg (· ∈ [g1]) w0 O) h3 (io sr):Chg (· ∈ [g1]) w0 I) sf (io sr):Chg (· ∈ [g1]) w0 a0) hl:Chg (· ∈ [g1]) w0 aQ) hn (mor af : ∀ k∈[a0.z],k∈[g1]∨w0.z≤k):Chg (· ∈ [g1]) w0 bL) aT:Chg (· ∈ [g1]) w0 eA) bS (mor lr : ∀ k∈[w0.z],k∈[g1]∨w0.z≤k):Chg (· ∈ [g1]) w0 eD),z,eB,eC,aP,(bO.e aT).c bS<|djs aU⟩
 have b9:=ifF b7 ay;refine Ws<|R z (eql z z)<|Ra z<|Wn<|Wc z (fun aA=>?_) (fun aA=>?_)
 ·refine Ws<|Rm z<|R z (lN (vs:=vR xh ao np cq ar ns ct au nv cw ai nj ck) J_ p_ z z fid<|hb.row 0 8 z)<|Rm z ?_
  have bT : ∀ k∈[H.z],¬ B k:=or0 (b_ lr)  (m_<|zt' hBw h1.s);have bU:=(((h1.ag B).e h2).c G<|c_ bT).c h3<|c_<|b_ hBg
  have ah:=((h2.ag B).c G<|c_ bT).c h3<|c_<|b_ hBg
  obtain ⟨bV,_,eG,cU⟩:=a_A<|ifT b9 aA;refine E z (fc call241 z<|dH.run (B:=B) eG ha (zt' hBw<|lt_ (lt_ (lt_ h1.s h2.s) G.s) h3.s) hBg (p1_0.g bU) (p1_1.g bU) (iA _ _) a3 a4 hz (V.g ah) (a5.g ah) (a6.g ah) (he.g ah) p3_0) ?_;rintro _ eH ⟨bW,rfl,eI,eJ,eK,eL⟩;have aV:=mmr<|Blk.lt hB1
  refine E0 (fs (cur':=[vI bV.at_,vI bV.code]) G_ z z ((((h6.e h2).c G<|djs<|mmr h6.lt).c h3<|atp aV).c bW<|atp aV) z (lb z) (oA z) z) ?_;rintro _ eM ⟨eN,eO⟩;have bX:=eO.one;refine Wn ?_;obtain rfl:=som cU;exact Wr<|rtO<|h_ hr (q_ a_c G_ z eN z) ⟨(cM (cM (cM (cM (f_ (f_ (cr [g1] w0) h1:Chg (· ∈ [g1]) w0 H) h2:Chg (· ∈ [g1]) w0 L) G (mor h1.s : ∀ k∈[H.z],k∈[g1]∨w0.z≤k):Chg (· ∈ [g1]) w0 O) h3 (io sr):Chg (· ∈ [g1]) w0 I) bW (io sr):Chg (· ∈ [g1]) w0 eH) bX (mor lr : ∀ k∈[w0.z],k∈[g1]∨w0.z≤k):Chg (· ∈ [g1]) w0 eM),z,eI,eJ,eK,eL.c bX<|djs aV⟩
 have ba:=ifF b9 aA;refine Ws<|R z (eql z z)<|Ra z<|Wn<|Wc z (fun aB=>?_) (fun aB=>?_)
 ·refine Ws<|Rm z<|R z (bP (parts:=[(0,.tmp 88),(1,.const<|.int .i64 0)]) (cs:=[vI x3,vI 0]) c_0 z z)<|E z (fa b_h) ?_
  rintro _ bY ⟨rfl,bZ⟩;have hx:=bZ.below;refine E0 (fs (cur':=[vI x3,vI 0]) G_ z z (bZ.blk:Blk bY I.z [vI 0,vI 0]) z (lb z) (oA z) z) ?_;rintro _ J ⟨eP,eQ⟩;have hy:=eQ.one;refine Wn<|Wq<|Ws<|R z (fd K_ z)<|R z (l1 B_ z fid<|((hb.e hx).c hy<|djs<|mm1 bm.lt<|lt_ G.s h3.s).at z) ?_
  have c0 : ∀ k∈[H.z],¬ B k:=or0 (b_ lr)  (m_<|zt' hBw h1.s);have a7:=lt_ (lt_ (lt_ h1.s h2.s) G.s) h3.s;have aj : ∀ k∈[I.z],¬ B k:=or0 (b_ lr)  (m_<|zt' hBw a7);have c1:=((((h2.ag B).c G<|c_ c0).c h3<|c_<|b_ hBg).e hx).c hy<|c_ aj
  refine R z (lnR w_ z<|he.g c1)<|Rm z<|Wn ?_
  obtain ⟨_,cV,bb⟩:=bdS<|ifT ba aB;refine Wf (σ:=Int×Int×Int) (ρ:=T_×Int) (fun (c2:Nat) s a w=>un3 (fun xm xc xd=>Sat 145 [(0,pt g1),(6,pt w0.z),(12,pt I.z),(91,sl ai nj ck),(92,vI (xh.kids.length:Int)),(93,vI ((c2:Nat):Int))] a∧Chg (· ∈ ([g1]++[I.z])) J w∧inI xm∧inI xc∧inI xd∧Blk w g1 [sl A0 N0 C0,sl A5 N5 C5,vI xm]∧Blk w I.z [vI xc,vI xd]) s) (fun s a w=>un3 (fun xm xc xd=>Sat 145 [(6,pt w0.z),(12,pt I.z)] a∧Chg (· ∈ ([g1]++[I.z])) J w∧inI xm∧inI xc∧inI xd∧Blk w g1 [sl A0 N0 C0,sl A5 N5 C5,vI xm]∧Blk w I.z [vI xc,vI xd]) s) (fun r ex a w=>ex = .ret∧L_ prog fn (Q29 w0 g1 B A0 N0 C0 A5 N5 C5 x1 r) a w) cV ?_ ?_ ?_ ?_ ?_
  ·exact fun _ q=>⟨q.k<|s6 z z z z z z,cr ([g1]++[I.z]) J,iA _ _,p3_0,ii z,(ha.e hx).c hy<|djs<|mm1 (Blk.lt hB1) a7,eP⟩
  ·rintro c2 ⟨xm,xc,xd⟩ _ c3 _ bc ⟨cW,a8,a9,aa,ak,ab,a1⟩ cX;refine Wu ?_ cW;refine Ws<|R z (lss z z)<|Wn<|Wq<|Wc z (fun _=>?_) (fun hc=>(a_3 bc hc).elim)
   refine Wk<|Wq<|Wb<|Ws ?_
   obtain ⟨_,eR,cY⟩:=bdS<|b_D cX;refine RX z (at_ (α:=Int) w_ z_3 z z z (he.g<|c1.c a8<|nmA (c_<|b_ hBg)<|c_ aj) eR) ?_;rintro _ ⟨_,_,_,rfl,eS,eT,_⟩;obtain ⟨rfl,eU⟩:=O_ eT;refine R z (l1 g_3 z fid<|eS.at0 z)<|Ra z<|Wn<|Ws<|Rm z<|Rm z<|R z (fd c_d z)<|R z (l1 g_3 z fid<|a1.at z) ?_
   have c4:=((((((h1.ag B).e h2).c G<|c_ c0).c h3<|c_<|b_ hBg).e hx).c hy<|c_ aj).c a8<|nmA (c_<|b_ hBg)<|c_ aj
   obtain ⟨al,eV,eW,be⟩:=a_A cY;refine E z (fc call193 z<|dG.run (B:=B) eW ab (zt' hBw<|lt_ (lt_ (lt_ a7 hx.s) hy.s) a8.s) hBg (p1_0.g c4) (p1_1.g c4) a9 eU aa) ?_;rintro _ c5 ⟨aW,rfl,c6,c7,c8,c9⟩;have aX:=mm1 (Blk.lt hB1) a7;refine E0 (fs (cur':=[vI al.at_,vI al.code]) G_ z z (a1.c aW<|atp aX) z (lb z) (oA z) z) ?_;rintro _ ca ⟨aY,eX⟩;have am:=eX.one;refine Wn<|Ws<|R z (fd c_q z)<|R z (l1 g_3 z fid<|aY.at z)<|R z (nq z z)<|Wn<|Wc z (fun aC=>?_) (fun aC=>?_)
   ·have eY:Chg (· ∈ ([g1]++[I.z])) J c3:=cM (cr ([g1]++[I.z]) J) a8<|aa_ (io<|x_ sr)<|io<|A_ sr;exact We<|exO z (fun a' ha'=>b_w (som<|ifT be aC).symm ⟨Sat.weaken ha'<|s2 z z,(cM (cM eY aW (io<|x_ sr):Chg (· ∈ ([g1]++[I.z])) J c5) am (io<|A_ sr):Chg (· ∈ ([g1]++[I.z])) J ca),c8,c6,c7,c9.c am<|djs aX,aY⟩)
   refine Wk<|Wg<|R z (inc_ bc (lt_ (repS.len he) M_) z z)<|Rm z<|Wl ?_
   exact fun _ q=>⟨(eV,al.at_,al.code),(som<|ifF be aC).symm,⟨q.k<|s6 z z z z z z,(cM (cM (cM (cr ([g1]++[I.z]) J) a8 (aa_ (io<|x_ sr)<|io<|A_ sr):Chg (· ∈ ([g1]++[I.z])) J c3) aW (io<|x_ sr):Chg (· ∈ ([g1]++[I.z])) J c5) am (io<|A_ sr):Chg (· ∈ ([g1]++[I.z])) J ca),c8,c6,c7,c9.c am<|djs aX,aY⟩⟩
  ·rintro ⟨xm,xc,xd⟩ _ eZ ⟨cZ,f0,a9,aa,ak,ab,a1⟩;refine Wu ?_ cZ;refine Ws<|R z (lss z z)<|Wn<|Wq<|Wc z (fun hc=>(a_4 hc).elim) (fun _=>?_)
   exact We<|fun a' ha'=>⟨rfl,⟨Sat.weaken ha'<|s2 z z,(cM (cr ([g1]++[I.z]) J) f0 (aa_ (io<|x_ sr)<|io<|A_ sr):Chg (· ∈ ([g1]++[I.z])) J eZ),a9,aa,ak,ab,a1⟩⟩
  ·rintro ⟨xm,xc,xd⟩ f1 f2 rfl ⟨_,cb,a9,aa,ak,ab,a1⟩;have d0:=elL bb;revert f1;refine Wo<|Ws<|R z (lN (vs:=[vI xc,vI xd]) a_c G_ z z fid<|a1.row 0 2 z) ?_
   have aZ:=mmr<|Blk.lt hB1
   have cc:=mm1 h6.lt<|lt_ (lt_ h2.s G.s) h3.s
   refine E0 (fs (cur':=[vI xc,vI xd]) G_ z z ((((((h6.e h2).c G<|djs<|mmr h6.lt).c h3<|atp aZ).e hx).c hy<|djs cc).c cb<|atp<|nmA aZ<|ds cc) z (lb z) (oA z) z) ?_;rintro _ f3 ⟨f4,f5⟩;have cd:=f5.one;refine Wn ?_;obtain rfl:=som<|b_D d0;have ce : ∀ k∈[I.z],k∈[g1]∨w0.z≤k:=mor a7;exact Wr<|rtO<|h_ hr (q_ a_c G_ z f4 z) ⟨(cM (cM (cM (f_ (cM (cM (f_ (f_ (cr [g1] w0) h1:Chg (· ∈ [g1]) w0 H) h2:Chg (· ∈ [g1]) w0 L) G (mor h1.s : ∀ k∈[H.z],k∈[g1]∨w0.z≤k):Chg (· ∈ [g1]) w0 O) h3 (io sr):Chg (· ∈ [g1]) w0 I) hx:Chg (· ∈ [g1]) w0 bY) hy ce:Chg (· ∈ [g1]) w0 J) cb (aa_ (io sr) ce):Chg (· ∈ [g1]) w0 f2) cd (mor lr : ∀ k∈[w0.z],k∈[g1]∨w0.z≤k):Chg (· ∈ [g1]) w0 f3),z,aa,ak,a9,ab.c cd<|djs aZ⟩
  rintro _ _ _ _ rfl ⟨rfl,cI⟩;have cJ:=elR bb;obtain rfl:=som cJ;exact ⟨cI,z⟩
 have bf:=ifF ba aB;refine Ws<|R z (eql z z)<|Ra z<|Wn<|Wc z (fun aD=>?_) (fun aD=>?_)
 ·refine Ws<|Rm z<|R z (lN (vs:=vR xh ao np cq ar ns ct au nv cw ai nj ck) J_ p_ z z fid<|hb.row 0 8 z)<|Rm z ?_
  have cf : ∀ k∈[H.z],¬ B k:=or0 (b_ lr)  (m_<|zt' hBw h1.s);have cg:=(((h1.ag B).e h2).c G<|c_ cf).c h3<|c_<|b_ hBg
  have an:=((h2.ag B).c G<|c_ cf).c h3<|c_<|b_ hBg
  obtain ⟨ch,_,d1,cK⟩:=a_A<|ifT bf aD;refine E z (fc call242 z<|dI.run (B:=B) d1 ha (zt' hBw<|lt_ (lt_ (lt_ h1.s h2.s) G.s) h3.s) hBg (p1_0.g cg) (p1_1.g cg) (iA _ _) a3 a4 hz (V.g an) (a5.g an) (a6.g an) (he.g an) p3_0) ?_;rintro _ d2 ⟨ci,rfl,d3,d4,d5,d6⟩;have b0:=mmr<|Blk.lt hB1
  refine E0 (fs (cur':=[vI ch.at_,vI ch.code]) G_ z z ((((h6.e h2).c G<|djs<|mmr h6.lt).c h3<|atp b0).c ci<|atp b0) z (lb z) (oA z) z) ?_;rintro _ d7 ⟨d8,d9⟩;have cj:=d9.one;refine Wn ?_;obtain rfl:=som cK;exact Wr<|rtO<|h_ hr (q_ a_c G_ z d8 z) ⟨(cM (cM (cM (cM (f_ (f_ (cr [g1] w0) h1:Chg (· ∈ [g1]) w0 H) h2:Chg (· ∈ [g1]) w0 L) G (mor h1.s : ∀ k∈[H.z],k∈[g1]∨w0.z≤k):Chg (· ∈ [g1]) w0 O) h3 (io sr):Chg (· ∈ [g1]) w0 I) ci (io sr):Chg (· ∈ [g1]) w0 d2) cj (mor lr : ∀ k∈[w0.z],k∈[g1]∨w0.z≤k):Chg (· ∈ [g1]) w0 d7),z,d3,d4,d5,d6.c cj<|djs b0⟩
 have bg:=ifF bf aD;refine Ws<|R z (eql z z)<|Ra z<|Wn<|Wc z (fun aE=>?_) (fun aE=>?_)
 ·refine Ws<|Rm z<|R z (lN (vs:=vR xh ao np cq ar ns ct au nv cw ai nj ck) J_ p_ z z fid<|hb.row 0 8 z)<|Rm z ?_
  have cl : ∀ k∈[H.z],¬ B k:=or0 (b_ lr)  (m_<|zt' hBw h1.s);have cm:=(((h1.ag B).e h2).c G<|c_ cl).c h3<|c_<|b_ hBg
  have ap:=((h2.ag B).c G<|c_ cl).c h3<|c_<|b_ hBg
  obtain ⟨cn,_,da,cL⟩:=a_A<|ifT bg aE;refine E z (fc call243 z<|dJ.run (B:=B) da ha (zt' hBw<|lt_ (lt_ (lt_ h1.s h2.s) G.s) h3.s) hBg (p1_0.g cm) (p1_1.g cm) (iA _ _) a3 a4 hz (V.g ap) (a5.g ap) (a6.g ap) (he.g ap) p3_0) ?_;rintro _ db ⟨co,rfl,dc,dd,de,df⟩;have b1:=mmr<|Blk.lt hB1
  refine E0 (fs (cur':=[vI cn.at_,vI cn.code]) G_ z z ((((h6.e h2).c G<|djs<|mmr h6.lt).c h3<|atp b1).c co<|atp b1) z (lb z) (oA z) z) ?_;rintro _ dg ⟨dh,di⟩;have cp:=di.one;refine Wn ?_;obtain rfl:=som cL;exact Wr<|rtO<|h_ hr (q_ a_c G_ z dh z) ⟨(cM (cM (cM (cM (f_ (f_ (cr [g1] w0) h1:Chg (· ∈ [g1]) w0 H) h2:Chg (· ∈ [g1]) w0 L) G (mor h1.s : ∀ k∈[H.z],k∈[g1]∨w0.z≤k):Chg (· ∈ [g1]) w0 O) h3 (io sr):Chg (· ∈ [g1]) w0 I) co (io sr):Chg (· ∈ [g1]) w0 db) cp (mor lr : ∀ k∈[w0.z],k∈[g1]∨w0.z≤k):Chg (· ∈ [g1]) w0 dg),z,dc,dd,de,df.c cp<|djs b1⟩
 have bh:=ifF bg aE;refine Ws<|R z (eql z z)<|Ra z<|Wn<|Wc z (fun aF=>?_) (fun aF=>?_)
 ·refine Ws<|Rm z<|R z (lN (vs:=vR xh ao np cq ar ns ct au nv cw ai nj ck) J_ p_ z z fid<|hb.row 0 8 z)<|Rm z ?_
  have cu : ∀ k∈[H.z],¬ B k:=or0 (b_ lr)  (m_<|zt' hBw h1.s);have cv:=(((h1.ag B).e h2).c G<|c_ cu).c h3<|c_<|b_ hBg
  have aq:=((h2.ag B).c G<|c_ cu).c h3<|c_<|b_ hBg
  obtain ⟨cx,_,dj,cN⟩:=a_A<|ifT bh aF;refine E z (fc call244 z<|dK.run (B:=B) dj ha (zt' hBw<|lt_ (lt_ (lt_ h1.s h2.s) G.s) h3.s) hBg (p1_0.g cv) (p1_1.g cv) (iA _ _) a3 a4 hz (V.g aq) (a5.g aq) (a6.g aq) (he.g aq) p3_0) ?_;rintro _ dk ⟨cy,rfl,dl,dm,dn,dp⟩;have b2:=mmr<|Blk.lt hB1
  refine E0 (fs (cur':=[vI cx.at_,vI cx.code]) G_ z z ((((h6.e h2).c G<|djs<|mmr h6.lt).c h3<|atp b2).c cy<|atp b2) z (lb z) (oA z) z) ?_;rintro _ dq ⟨dr,dt⟩;have cz:=dt.one;refine Wn ?_;obtain rfl:=som cN;exact Wr<|rtO<|h_ hr (q_ a_c G_ z dr z) ⟨(cM (cM (cM (cM (f_ (f_ (cr [g1] w0) h1:Chg (· ∈ [g1]) w0 H) h2:Chg (· ∈ [g1]) w0 L) G (mor h1.s : ∀ k∈[H.z],k∈[g1]∨w0.z≤k):Chg (· ∈ [g1]) w0 O) h3 (io sr):Chg (· ∈ [g1]) w0 I) cy (io sr):Chg (· ∈ [g1]) w0 dk) cz (mor lr : ∀ k∈[w0.z],k∈[g1]∨w0.z≤k):Chg (· ∈ [g1]) w0 dq),z,dl,dm,dn,dp.c cz<|djs b2⟩
 refine Wk<|Wq (Wd (X:=noX) 0 (.rd 0<|.rd 1<|.rd 2<|.rd 3<|.rd 4<|.rd 5<|.rd 6<|.rd 7<|.rd 8<|.ef 9<|.rd 10<|.rd 11<|.rd 12<|.rd 13<|.rd 14<|.rd 15<|.rd 16 .done) mo (by kernel_rfl) fun cA sg _=>dR z z (mv z)<|dR z z (V_ z)<|dR z z (fd c_G z) ?_)
 have b3:=ha.e sg;refine dR z z (l1 Q_ z fid<|b3.at z)<|dR z z (mv z)<|dR z z (fd a_K z)<|dR z z (l1 Q_ z fid<|(hb.e sg).at z) ?_
 obtain ⟨_,du,cO⟩:=bdS<|ifF bh aF;have cB : ∀ k∈[H.z],¬ B k:=or0 (b_ lr)  (m_<|zt' hBw h1.s);refine dRX z z (at_ (α:=UInt8) n_ z_5 z z z (V.g<|(((h2.ag B).c G<|c_ cB).c h3<|c_<|b_ hBg).e sg) du) ?_;rintro _ ⟨_,_,_,rfl,dv,dw,_⟩;obtain rfl:=u8 dw;refine dR z z (l1 g_5 z fid<|dv.at0 z) ?_;obtain ⟨_,cC,_,dx,bi⟩:=r_ cO;refine dE z z (fc call232 z<|W_w1j (B:=B) dx (zt' hBw<|lt_ (lt_ (lt_ (lt_ h1.s h2.s) G.s) h3.s) sg.s) (p1_1.g<|((((h1.ag B).e h2).c G<|c_ cB).c h3<|c_<|b_ hBg).e sg) p3_0) (.inr fun _ _ h=>v_<|h.1) ?_;rintro _ cD ⟨a2,_,_,_,_,rfl,_,dy,_,_⟩;refine dR z z (mv z) ?_
 iterate 3 refine dR z z (ext_ z z) ?_
 iterate 3 refine dR z z (asg z) ?_
 refine pD<|Wo<|Wq<|Ws<|Rm z<|R z (not_ z)<|Wn<|Wc z (fun aG=>?_) (fun aG=>?_)
 ·refine Ws<|Rm z<|R z (bP (parts:=[(0,.tmp 141),(1,.const<|.int .i64 1)]) (cs:=[vI x3,vI 1]) c_0 z z) ?_
  have cE:=mmr<|Blk.lt hB1
  refine E0 (fs (cur':=[vI x3,vI 1]) G_ z z (((((h6.e h2).c G<|djs<|mmr h6.lt).c h3<|atp cE).e sg).e a2) z (lb z) (oA z) z) ?_;rintro _ dz ⟨dA,dB⟩;have cF:=dB.one;refine Wn ?_;obtain rfl:=som<|ifT bi aG;exact Wr<|h_ hr (q_ a_c G_ z dA z) ⟨(cM (f_ (f_ (cM (cM (f_ (f_ (cr [g1] w0) h1:Chg (· ∈ [g1]) w0 H) h2:Chg (· ∈ [g1]) w0 L) G (mor h1.s : ∀ k∈[H.z],k∈[g1]∨w0.z≤k):Chg (· ∈ [g1]) w0 O) h3 (io sr):Chg (· ∈ [g1]) w0 I) sg:Chg (· ∈ [g1]) w0 cA) a2:Chg (· ∈ [g1]) w0 cD) cF (mor lr : ∀ k∈[w0.z],k∈[g1]∨w0.z≤k):Chg (· ∈ [g1]) w0 dz),z,p3_0,ii z,iA _ _,(b3.e a2).c cF<|djs cE⟩
 refine Wk<|Ws<|Rm z<|R z (bP (parts:=[(0,.tmp 143),(1,.const<|.int .i64 0)]) (cs:=[vI cC,vI 0]) c_0 z z) ?_
 have cG:=mmr<|Blk.lt hB1
 refine E0 (fs (cur':=[vI cC,vI 0]) G_ z z (((((h6.e h2).c G<|djs<|mmr h6.lt).c h3<|atp cG).e sg).e a2) z (lb z) (oA z) z) ?_;rintro _ dC ⟨dD,dF⟩;have cH:=dF.one;refine Wn ?_;obtain rfl:=som<|ifF bi aG;exact Wr<|h_ hr (q_ a_c G_ z dD z) ⟨(cM (f_ (f_ (cM (cM (f_ (f_ (cr [g1] w0) h1:Chg (· ∈ [g1]) w0 H) h2:Chg (· ∈ [g1]) w0 L) G (mor h1.s : ∀ k∈[H.z],k∈[g1]∨w0.z≤k):Chg (· ∈ [g1]) w0 O) h3 (io sr):Chg (· ∈ [g1]) w0 I) sg:Chg (· ∈ [g1]) w0 cA) a2:Chg (· ∈ [g1]) w0 cD) cH (mor lr : ∀ k∈[w0.z],k∈[g1]∨w0.z≤k):Chg (· ∈ [g1]) w0 dC),z,dy,ii z,iA _ _,(b3.e a2).c cH<|djs cG⟩
theorem T_w1p (ih:e_a n):i_G (f_T n<|a_r n):=by
 obtain ⟨aJ,_,_,_,_⟩:=ih
 constructor
 intro A0 A5 A2 A3 A1 A4 N0 C0 N5 C5 g1 N2 C2 N3 C3 N1 C1 N4 C4 B x1 x2 x3 res w0 hm hB1 hBw hBg p1_0 p1_1 p1_2 p2_0 p2_1 p2_2 p2_4 p2_5 p2_6 p2_7 p3_0;unfold f_T at hm
 refine goF func241 z z (lb z) fun fn hr=>Ws<|E z (fb z) ?_
 rintro _ J ⟨rfl,a6⟩;have h6:=a6.below;have a7:Blk J w0.z (vR x2 A2 N2 C2 A3 N3 C3 A1 N1 C1 A4 N4 C4):=a6.blk;refine E z (fa b_h) ?_;rintro _ wr ⟨rfl,a8⟩;have he:=a8.below;have hn:Blk wr J.z [vI 0,vI 0]:=a8.blk;refine Wn<|Ws<|Rm z<|R z (fd K_ z) ?_
 have a9:=a7.e he;refine R z (l1 B_ z fid<|a9.at z) ?_;obtain ⟨_,aK,az⟩:=bdS hm;have ho:=(h6.ag B).e he;refine RX z (at_ (α:=Int) w_ z_3 z z z (p2_7.g ho) aK) ?_;rintro _ ⟨_,_,_,rfl,aL,aM,_⟩;obtain ⟨rfl,aN⟩:=O_ aM;refine R z (l1 g_3 z fid<|aL.at0 z)<|Rm z ?_
 have hj:=lt_ h6.s he.s;obtain ⟨aa,rs,_,aO,aA⟩:=r_ az;refine E z (fc call238 z<|g_I (B:=B) aO ((hB1.e h6).e he) (zt' hBw hj) hBg (p1_0.g ho) (p1_1.g ho) p1_2 aN p3_0) ?_;rintro _ G ⟨I,rfl,aP,aQ,aR,ab,ad⟩;refine Rm z<|R z (ext_ z z)<|R z (ext_ z z)<|E z (fa b_h) ?_
 rintro _ wu ⟨rfl,ae⟩;have O:=ae.below;refine Ra z<|E0 (fs (cur':=[vI rs.at_,vI rs.code]) G_ z z (ae.blk:Blk wu G.z [vI 0,vI 0]) z (lb z) (oA z) z) ?_
 rintro _ wg ⟨af,aS⟩;have V:=aS.one;refine Wn<|Wq<|Wq ?_
 obtain ⟨aT,a1,a2⟩:=bdS aA;refine Wt (fun a w=>∃ (xv:Bool),xv=aT∧Sat 46 [(0,pt g1),(2,vI x3),(4,pt w0.z),(6,pt J.z),(7,vI aa),(8,pt G.z),(25,vB xv)] a∧Below wg.z wg w) ?_ ?_
 ·refine Wg<|R z (fd c_q z)<|R z (l1 g_3 z fid<|af.at z)<|R z (eql z z)<|Rm z ?_
  rcases bs (rs.code==0) with L | L
  ·exact Rh z L (mv z)<|Rh z L (a_9 z z)<|R z (pT z L z)<|Wl (fun _ q=>⟨decide<|40<aa,som<|ifT a1 L,q.k<|s7 z z z z z z z,br wg⟩)
  exact Nh z L<|Nh z L<|R z (pF z L z)<|Wl (fun _ q=>⟨false,som<|ifF a1 L,q.k<|s7 z z z z z z z,br wg⟩)
 rintro aU H ⟨xv,rfl,_,s4⟩;revert aU;refine Wo<|Wc z (fun hcw=>?_) (fun hcw=>?_)
 ·refine Ws<|Rm z<|R z (bP (parts:=[(0,.tmp 26),(1,.const<|.int .i64 6)]) (cs:=[vI x3,vI 6]) c_0 z z) ?_
  have ah:=mm1 (Blk.lt hB1) h6.s;refine E0 (fs (cur':=[vI x3,vI 6]) G_ z z ((((hn.c I<|atp ah).e O).c V<|djs<|mm1 hn.lt I.s).e s4) z (lb z) (oA z) z) ?_;rintro _ aV ⟨aW,aX⟩;have ai:=aX.one;refine Wn ?_;obtain rfl:=som<|ifT a2 hcw;have aj:=lt_ hj I.s;exact Wr<|h_ hr (q_ a_c G_ z aW z) ⟨(cM (f_ (cM (f_ (cM (f_ (f_ (cr [g1] w0) h6:Chg (· ∈ [g1]) w0 J) he:Chg (· ∈ [g1]) w0 wr) I (io sr):Chg (· ∈ [g1]) w0 G) O:Chg (· ∈ [g1]) w0 wu) V (mor aj : ∀ k∈[G.z],k∈[g1]∨w0.z≤k):Chg (· ∈ [g1]) w0 wg) s4:Chg (· ∈ [g1]) w0 H) ai (mor h6.s : ∀ k∈[J.z],k∈[g1]∨w0.z≤k):Chg (· ∈ [g1]) w0 aV),z,p3_0,ii z,ab,(((ad.e O).c V<|djs<|mm1 (Blk.lt hB1) aj).e s4).c ai<|djs ah⟩
 refine Wk<|Wq ?_
 obtain ⟨_,aB,a3⟩:=bdS<|ifF a2 hcw;refine b_Y (σ:=Int×Int×Int×Int) (ρ:=T_×Int) (fun s a w=>un4 (fun xa xf xb x5=>Sat 46 [(0,pt g1),(4,pt w0.z),(6,pt J.z),(7,vI xa),(8,pt G.z)] a∧Chg (· ∈ ([g1]++[G.z])) H w∧inI xa∧inI xf∧inI xb∧inI x5∧Blk w g1 [sl A0 N0 C0,sl A5 N5 C5,vI xf]∧Blk w G.z [vI xb,vI x5]) s) (fun s a w=>un4 (fun xa xf xb x5=>Sat 46 [(6,pt J.z),(8,pt G.z)] a∧Chg (· ∈ ([g1]++[G.z])) H w∧inI xa∧inI xf∧inI xb∧inI x5∧Blk w g1 [sl A0 N0 C0,sl A5 N5 C5,vI xf]∧Blk w G.z [vI xb,vI x5]) s) (fun r ex a w=>ex = .ret∧L_ prog fn (Q29 w0 g1 B A0 N0 C0 A5 N5 C5 x1 r) a w) aB ?_ ?_ ?_ ?_
 ·exact fun _ q=>⟨q.k<|s5 z z z z z,cr ([g1]++[G.z]) H,aP,ab,aQ,aR,((ad.e O).c V<|djs<|mm1 (Blk.lt hB1)<|lt_ hj I.s).e s4,af.e s4⟩
 ·rintro ⟨xa,xf,xb,x5⟩ _ wh _ ⟨aC,sk,ak,hp,hq,hx,ht,hl⟩ aD;refine Wu ?_ aC;refine Wq<|Wq ?_
  obtain ⟨aY,a4,a5⟩:=bdS<|c_p aD;refine Wt (fun a w=>∃ (xy:Bool),xy=aY∧Sat 46 [(0,pt g1),(4,pt w0.z),(6,pt J.z),(7,vI xa),(8,pt G.z),(34,vB xy)] a∧Below wh.z wh w) ?_ ?_
  ·refine Wg<|Rm z<|R z (a_9 z z)<|Rm z ?_
   rcases bs (decide<|0<xa) with hcc | hcc
   ·exact Rh z hcc (fd c_q z)<|Rh z hcc (l1 g_3 z fid<|hl.at z)<|Rh z hcc (eql z z)<|R z (pT z hcc z)<|Wl (fun _ q=>⟨x5==0,som<|ifT a4 hcc,q.k<|s6 z z z z z z,br wh⟩)
   iterate 3 refine Nh z hcc ?_
   exact R z (pF z hcc z)<|Wl (fun _ q=>⟨false,som<|ifF a4 hcc,q.k<|s6 z z z z z z,br wh⟩)
  rintro aZ al ⟨xy,rfl,_,sd⟩;revert aZ;refine Wo<|Wc z (fun hcz=>?_) (fun hcz=>?_)
  ·refine Wk<|Wq<|Wb (Wd (X:=noX) 384 (.rd 0<|.rd 1<|.rd 2<|.rd 3<|.rd 4<|.rd 5<|.rd 6<|.ef 7<|.ef 8 .done) mo (by kernel_rfl) fun b0 si _=>dR z z (mv z)<|dR z z (fd K_ z) ?_)
   have am:=mmr<|Blk.lt hB1
   have an:=mm1 a7.lt<|lt_ he.s I.s
   refine dR z z (l1 B_ z fid<|(((((((a9.c I<|atp am).e O).c V<|djs an).e s4).c sk<|atp<|nmA am<|ds an).e sd).e si).at z) ?_;obtain ⟨_,b1,aE⟩:=bdS<|ifT a5 hcz;have W:=lt_ hj I.s;have ao : ∀ k∈[G.z],¬ B k:=or0 (b_ lr)  (m_<|zt' hBw W);have Y:=((((((ho.c I<|c_<|b_ hBg).e O).c V<|c_ ao).e s4).c sk<|nmA (c_<|b_ hBg)<|c_ ao).e sd).e si;refine dRX z z (at_ (α:=Int) w_ z_3 z z z (p2_7.g Y) b1) ?_;rintro _ ⟨_,_,_,rfl,b2,b3,_⟩;obtain ⟨rfl,b4⟩:=O_ b3;refine dR z z (l1 g_3 z fid<|b2.at0 z)<|dR z z (fd c_d z) ?_
   have ap:=(hl.e sd).e si;refine dR z z (l1 g_3 z fid<|ap.at z) ?_;obtain ⟨rm,b5,b6,aF⟩:=a_A aE;refine dE z z (fc call193 z<|aJ.run (B:=B) b6 ((ht.e sd).e si) (zt' hBw<|lt_ (lt_ (lt_ (lt_ (lt_ (lt_ W O.s) V.s) s4.s) sk.s) sd.s) si.s) hBg (p1_0.g Y) (p1_1.g Y) hp b4 hq) (.inl z) ?_;rintro _ b7 ⟨aq,rfl,b8,b9,ba,bb⟩;have ar:=mm1 (Blk.lt hB1) W;refine dE0 z (fs (cur':=[vI rm.at_,vI rm.code]) G_ z z (ap.c aq<|atp ar) z (lb z) (oA z) z) (.inl z) ?_;rintro _ bc ⟨be,bf⟩;have au:=bf.one;refine pD<|Wo<|Wg<|Rm z<|R z (sb_ z z)<|Ra z<|Wl ?_
   exact fun _ q=>⟨(I_ xa 1,b5,rm.at_,rm.code),(som aF).symm,⟨q.k<|s5 z z z z z,(cM (cM (f_ (f_ (cM (cr ([g1]++[G.z]) H) sk (aa_ (io<|x_ sr)<|io<|A_ sr):Chg (· ∈ ([g1]++[G.z])) H wh) sd:Chg (· ∈ ([g1]++[G.z])) H al) si:Chg (· ∈ ([g1]++[G.z])) H b0) aq (io<|x_ sr):Chg (· ∈ ([g1]++[G.z])) H b7) au (io<|A_ sr):Chg (· ∈ ([g1]++[G.z])) H bc),iS _ _,ba,b8,b9,bb.c au<|djs ar,be⟩⟩
  exact We<|fun a' ha'=>b_w (som<|ifF a5 hcz).symm ⟨Sat.weaken ha'<|s2 z z,(f_ (cM (cr ([g1]++[G.z]) H) sk (aa_ (io<|x_ sr)<|io<|A_ sr):Chg (· ∈ ([g1]++[G.z])) H wh) sd:Chg (· ∈ ([g1]++[G.z])) H al),ak,hp,hq,hx,ht.e sd,hl.e sd⟩
 ·rintro ⟨xa,xf,xb,x5⟩ bg bh rfl ⟨_,av,ak,hp,hq,hx,ht,hl⟩;have aG:=elL a3;revert bg;refine Wo<|Ws<|R z (lN (vs:=[vI xb,vI x5]) a_c G_ z z fid<|hl.row 0 2 z) ?_
  have a0:=mm1 (Blk.lt hB1) h6.s;have aw:=mm1 hn.lt I.s;refine E0 (fs (cur':=[vI xb,vI x5]) G_ z z (((((hn.c I<|atp a0).e O).c V<|djs aw).e s4).c av<|atp<|nmA a0<|ds aw) z (lb z) (oA z) z) ?_;rintro _ bi ⟨bj,bk⟩;have ax:=bk.one;refine Wn ?_;obtain rfl:=som<|c_p aG;have ay : ∀ k∈[G.z],k∈[g1]∨w0.z≤k:=mor<|lt_ hj I.s;exact Wr<|h_ hr (q_ a_c G_ z bj z) ⟨(cM (cM (f_ (cM (f_ (cM (f_ (f_ (cr [g1] w0) h6:Chg (· ∈ [g1]) w0 J) he:Chg (· ∈ [g1]) w0 wr) I (io sr):Chg (· ∈ [g1]) w0 G) O:Chg (· ∈ [g1]) w0 wu) V ay:Chg (· ∈ [g1]) w0 wg) s4:Chg (· ∈ [g1]) w0 H) av (aa_ (io sr) ay):Chg (· ∈ [g1]) w0 bh) ax (mor h6.s : ∀ k∈[J.z],k∈[g1]∨w0.z≤k):Chg (· ∈ [g1]) w0 bi),z,hq,hx,hp,ht.c ax<|djs a0⟩
 rintro _ _ _ _ rfl ⟨rfl,aH⟩;have aI:=elR a3;obtain rfl:=som aI;exact ⟨aH,z⟩
theorem T_w1q (ih:e_a n):i_H (f_U n<|a_r n):=by
 obtain ⟨aj,_,_,_,_⟩:=ih
 constructor
 intro A0 A5 A2 A3 A1 A4 N0 C0 N5 C5 g1 N2 C2 N3 C3 N1 C1 N4 C4 B x1 x2 x3 res w0 hm hB1 hBw hBg p1_0 p1_1 p1_2 p2_0 p2_1 p2_2 p2_4 p2_5 p2_6 p2_7 p3_0;unfold f_U at hm
 refine goF func242 z z (lb z) fun fn hr=>Ws<|E z (fb z) ?_
 rintro _ H ⟨rfl,hq⟩;have h1:=hq.below;have ht:Blk H w0.z (vR x2 A2 N2 C2 A3 N3 C3 A1 N1 C1 A4 N4 C4):=hq.blk;refine E z (fa b_h) ?_;rintro _ wc ⟨rfl,hu⟩;have h6:=hu.below;have L:Blk wc H.z [vI 0,vI 0]:=hu.blk;refine Wn<|Ws<|Rm z<|R z (fd K_ z) ?_
 have hv:=ht.e h6;refine R z (l1 B_ z fid<|hv.at z) ?_;obtain ⟨_,ak,a7⟩:=bdS hm;have he:=(h1.ag B).e h6;refine RX z (at_ (α:=Int) w_ z_3 z z z (p2_7.g he) ak) ?_;rintro _ ⟨_,_,_,rfl,al,am,_⟩;obtain ⟨rfl,an⟩:=O_ am;refine R z (l1 g_3 z fid<|al.at0 z)<|Rm z ?_
 have hg:=lt_ h1.s h6.s;obtain ⟨ao,rb,_,ap,hmr⟩:=r_ a7;refine E z (fc call238 z<|g_I (B:=B) ap ((hB1.e h1).e h6) (zt' hBw hg) hBg (p1_0.g he) (p1_1.g he) p1_2 an p3_0) ?_;rintro _ I ⟨G,rfl,_,hw,aq,hh,hi⟩;refine Rm z<|R z (ext_ z z)<|R z (ext_ z z)<|E z (fa b_h) ?_
 rintro _ wf ⟨rfl,hx⟩;have h2:=hx.below;refine Ra z<|E0 (fs (cur':=[vI rb.at_,vI rb.code]) G_ z z (hx.blk:Blk wf I.z [vI 0,vI 0]) z (lb z) (oA z) z) ?_
 rintro _ J ⟨hj,ar⟩;have h3:=ar.one;refine Wn<|Wq<|Ws<|R z (fd c_q z)<|R z (l1 g_3 z fid<|hj.at z)<|R z (nq z z)<|Wn<|Wc z (fun hck=>?_) (fun hck=>?_)
 ·refine Ws<|R z (lN (vs:=[vI rb.at_,vI rb.code]) a_c G_ z z fid<|hj.row 0 2 z) ?_
  have hy:=mm1 (Blk.lt hB1) h1.s;refine E0 (fs (cur':=[vI rb.at_,vI rb.code]) G_ z z (((L.c G<|atp hy).e h2).c h3<|djs<|mm1 L.lt G.s) z (lb z) (oA z) z) ?_;rintro _ au ⟨av,aw⟩;have hz:=aw.one;refine Wn ?_;obtain rfl:=som<|ifT hmr hck;have V:=lt_ hg G.s;exact Wr<|h_ hr (q_ a_c G_ z av z) ⟨(cM (cM (f_ (cM (f_ (f_ (cr [g1] w0) h1:Chg (· ∈ [g1]) w0 H) h6:Chg (· ∈ [g1]) w0 wc) G (io sr):Chg (· ∈ [g1]) w0 I) h2:Chg (· ∈ [g1]) w0 wf) h3 (mor V : ∀ k∈[I.z],k∈[g1]∨w0.z≤k):Chg (· ∈ [g1]) w0 J) hz (mor h1.s : ∀ k∈[H.z],k∈[g1]∨w0.z≤k):Chg (· ∈ [g1]) w0 au),z,hw,aq,hh,((hi.e h2).c h3<|djs<|mm1 (Blk.lt hB1) V).c hz<|djs hy⟩
 refine Wk<|Wq<|Ws<|R z (fd a_L z) ?_
 have W:=((hv.c G<|atp<|mmr<|Blk.lt hB1).e h2).c h3<|djs<|mm1 ht.lt<|lt_ h6.s G.s
 refine R z (l1 B_ z fid<|W.at z) ?_;have hd:=lt_ hg G.s;have Y:=((he.c G<|c_<|b_ hBg).e h2).c h3<|c_ (or0 (b_ lr)  (m_<|zt' hBw hd) : ∀ k∈[I.z],¬ B k)
 refine R z (lnR w_ z<|p2_6.g Y)<|Rm z<|Wn ?_
 obtain ⟨_,a8,hms⟩:=bdS<|ifF hmr hck;refine Wf (σ:=Unit) (ρ:=T_×Int) (fun (a0:Nat) (_:Unit) a w=>Sat 49 [(0,pt g1),(2,vI x3),(4,pt w0.z),(6,pt H.z),(7,vI ao),(8,pt I.z),(26,sl A1 N1 C1),(27,vI (x2.tags.length:Int)),(28,vI ((a0:Nat):Int))] a∧Below J.z J w) (fun (_:Unit) a w=>Sat 49 [(2,vI x3),(6,pt H.z)] a∧Below J.z J w) (fun r ex a w=>ex = .ret∧L_ prog fn (Q29 w0 g1 B A0 N0 C0 A5 N5 C5 x1 r) a w) a8 ?_ ?_ ?_ ?_ ?_
 ·exact fun _ q=>⟨q.k<|s9 z z z z z z z z z,br J⟩
 ·rintro a0 _ _ ax _ hkl ⟨a9,s8⟩ aa;refine Wu ?_ a9;refine Ws<|R z (lss z z)<|Wn<|Wq<|Wc z (fun _=>?_) (fun hc=>(a_3 hkl hc).elim)
  refine Wk<|Wq<|Wb<|Ws<|Rm z ?_
  obtain ⟨_,ay,O⟩:=bdS aa;have a1:=Y.e s8;refine RX z (at_ (α:=Int) w_ z_3 z z z (p2_6.g a1) ay) ?_;rintro _ ⟨_,_,_,rfl,az,aA,_⟩;obtain ⟨rfl,_⟩:=O_ aA;refine R z (l1 g_3 z fid<|az.at0 z)<|Ra z<|Ra z<|Wn<|Ws<|Rm z<|Rm z<|R z (eql z z)<|Wn<|Wc z (fun hcm=>?_) (fun hcm=>?_)
  ·refine Wq (Wd (X:=noX) 1536 (.rd 0<|.rd 1<|.rd 2<|.rd 3<|.rd 4<|.rd 5<|.rd 6<|.rd 7<|.rd 8<|.ef 9<|.ef 10 .done) mo (by kernel_rfl) fun aB sa _=>dR z z (mv z)<|dR z z (fd K_ z)<|dR z z (l1 B_ z fid<|((W.e s8).e sa).at z)<|dR z z (mv z)<|dR z z (inc_ hkl (lt_ (repS.len p2_6) M_) z z) ?_);obtain ⟨_,aC,ab⟩:=bdS<|ifT O hcm;have hn:=a1.e sa;refine dRX z z (at_ (α:=Int) w_ z_3 z z z (p2_7.g hn) aC) ?_;rintro _ ⟨_,_,_,rfl,aD,aE,_⟩;obtain ⟨rfl,aF⟩:=O_ aE;refine dR z z (l1 g_3 z fid<|aD.at0 z)<|dR z z (fd c_d z)<|dR z z (l1 g_3 z fid<|((hj.e s8).e sa).at z) ?_
   obtain ⟨a2,_,aG,ad⟩:=a_A ab;refine dE z z (fc call193 z<|aj.run (B:=B) aG ((((hi.e h2).c h3<|djs<|mm1 (Blk.lt hB1) hd).e s8).e sa) (zt' hBw<|lt_ (lt_ (lt_ (lt_ hd h2.s) h3.s) s8.s) sa.s) hBg (p1_0.g hn) (p1_1.g hn) hh aF hw) (.inl z) ?_;rintro _ aH ⟨a3,rfl,aI,aJ,aK,aL⟩;have ho:=mm1 (Blk.lt hB1) h1.s;refine dE0 z (fs (cur':=[vI a2.at_,vI a2.code]) G_ z z ((((((L.c G<|atp ho).e h2).c h3<|djs<|mm1 L.lt G.s).e s8).e sa).c a3<|atp ho) z (lb z) (oA z) z) (.inl z) ?_;rintro _ aM ⟨aN,aO⟩;have a4:=aO.one;refine pD<|Wo ?_
   exact Wr<|rtO<|qL (som ad).symm<|h_ hr (q_ a_c G_ z aN z) ⟨(cM (cM (f_ (f_ (cM (f_ (cM (f_ (f_ (cr [g1] w0) h1:Chg (· ∈ [g1]) w0 H) h6:Chg (· ∈ [g1]) w0 wc) G (io sr):Chg (· ∈ [g1]) w0 I) h2:Chg (· ∈ [g1]) w0 wf) h3 (mor hd : ∀ k∈[I.z],k∈[g1]∨w0.z≤k):Chg (· ∈ [g1]) w0 J) s8:Chg (· ∈ [g1]) w0 ax) sa:Chg (· ∈ [g1]) w0 aB) a3 (io sr):Chg (· ∈ [g1]) w0 aH) a4 (mor h1.s : ∀ k∈[H.z],k∈[g1]∨w0.z≤k):Chg (· ∈ [g1]) w0 aM),z,aI,aJ,aK,aL.c a4<|djs ho⟩
  exact Wk<|Wg<|R z (inc_ hkl (lt_ (repS.len p2_6) M_) z z)<|Rm z<|Wl (fun _ q=>⟨(),(som<|ifF O hcm).symm,⟨q.k<|s9 z z z z z z z z z,s8⟩⟩)
 ·rintro _ _ _ ⟨ae,aP⟩;refine Wu ?_ ae;refine Ws<|R z (lss z z)<|Wn<|Wq<|Wc z (fun hc=>(a_4 hc).elim) (fun _=>?_)
  exact We<|fun a' ha'=>⟨rfl,⟨Sat.weaken ha'<|s2 z z,aP⟩⟩
 ·rintro _ aQ aR rfl ⟨_,sp⟩;have af:=elL hms;revert aQ;refine Wo<|Ws<|Rm z<|R z (bP (parts:=[(0,.tmp 47),(1,.const<|.int .i64 3)]) (cs:=[vI x3,vI 3]) c_0 z z) ?_
  have a5:=mm1 (Blk.lt hB1) h1.s;refine E0 (fs (cur':=[vI x3,vI 3]) G_ z z ((((L.c G<|atp a5).e h2).c h3<|djs<|mm1 L.lt G.s).e sp) z (lb z) (oA z) z) ?_;rintro _ aS ⟨aT,aU⟩;have a6:=aU.one;refine Wn ?_;obtain rfl:=som af;exact Wr<|h_ hr (q_ a_c G_ z aT z) ⟨(cM (f_ (cM (f_ (cM (f_ (f_ (cr [g1] w0) h1:Chg (· ∈ [g1]) w0 H) h6:Chg (· ∈ [g1]) w0 wc) G (io sr):Chg (· ∈ [g1]) w0 I) h2:Chg (· ∈ [g1]) w0 wf) h3 (mor hd : ∀ k∈[I.z],k∈[g1]∨w0.z≤k):Chg (· ∈ [g1]) w0 J) sp:Chg (· ∈ [g1]) w0 aR) a6 (mor h1.s : ∀ k∈[H.z],k∈[g1]∨w0.z≤k):Chg (· ∈ [g1]) w0 aS),z,p3_0,ii z,hh,(((hi.e h2).c h3<|djs<|mm1 (Blk.lt hB1) hd).e sp).c a6<|djs a5⟩
 rintro _ _ _ _ rfl ⟨rfl,ah⟩;have ai:=elR hms;obtain rfl:=som ai;exact ⟨ah,z⟩
theorem T_w1r (ih:e_a n):i_I (f_V n<|a_r n):=by
 obtain ⟨a8,_,_,_,_⟩:=ih
 constructor
 intro A0 A5 A2 A3 A1 A4 N0 C0 N5 C5 g1 N2 C2 N3 C3 N1 C1 N4 C4 B x1 x2 x3 res w0 hm hB1 hBw hBg p1_0 p1_1 p1_2 p2_0 p2_1 p2_2 p2_4 p2_5 p2_6 p2_7 p3_0;unfold f_V at hm
 refine goF func243 z z (lb z) fun fn hr=>Ws<|E z (fb z) ?_
 rintro _ J ⟨rfl,hq⟩;have h5:=hq.below;have ht:Blk J w0.z (vR x2 A2 N2 C2 A3 N3 C3 A1 N1 C1 A4 N4 C4):=hq.blk;refine E z (fa b_h) ?_;rintro _ we ⟨rfl,hu⟩;have L:=hu.below;have hc:Blk we J.z [vI 0,vI 0]:=hu.blk;refine Wn<|Ws<|Rm z<|Rm z ?_
 have hf:=(hB1.e h5).e L;have hg:=(h5.ag B).e L;have hh:=lt_ h5.s L.s;obtain ⟨O,a9,a4⟩:=bdS hm;refine E z (fc call240 z<|e_Z (B:=w0.z) a9 (a_s hh) (repS.mono (p1_0.g hg) hBw) (repS.mono (p1_1.g hg) hBw) p1_2 (hf.row 0 3 z) (Blk.lt hB1) p3_0<|ii z) ?_;rintro _ I ⟨G,rfl,hv,aa⟩;refine E z (fa b_h) ?_;rintro _ wi ⟨rfl,hw⟩;have h2:=hw.below;refine E0 (fs (cur':=[vI O.at_,vI O.code]) G_ z z (hw.blk:Blk wi I.z [vI 0,vI 0]) z (lb z) (oA z) z) ?_;rintro _ wa ⟨hj,ab⟩;have h3:=ab.one;refine Wn<|Wq<|Wb<|Wq ?_
 obtain ⟨ad,hur,hms⟩:=bdS a4;refine Wt (fun a w=>∃ (xk:Bool),xk=ad∧Sat 45 [(0,pt g1),(2,vI x3),(4,pt w0.z),(6,pt J.z),(7,pt I.z),(11,vB xk)] a∧Below wa.z wa w) ?_ ?_
 ·refine Wg<|R z (fd c_q z)<|R z (l1 g_3 z fid<|hj.at z)<|R z (nq z z)<|Rm z ?_
  rcases bs (O.code != 0) with H | H
  ·iterate 8 refine Nh z H ?_
   exact R z (pT z H z)<|Ra z<|Wl (fun _ q=>⟨true,som<|ifT hur H,q.k<|s6 z z z z z z,br wa⟩)
  refine Rh z H (mv z)<|Rh z H (V_ z)<|Rh z H (fd c_G z) ?_
  have hx:=lt_ hh G.s;refine Rh z H (l1 Q_ z fid<|(((hf.e G).e h2).c h3<|djs<|mm1 (Blk.lt hB1) hx).at z)<|Rh z H (mv z) ?_
  obtain ⟨ae,af,a5⟩:=bdS<|ifF hur H;refine RXg z z H z (at_ (α:=UInt8) n_ z_5 z z z (p1_1.g<|((hg.e G).e h2).c h3<|c_ (or0 (b_ lr)  (m_<|zt' hBw hx) : ∀ k∈[I.z],¬ B k)) af) ?_;rintro _ ⟨_,_,_,rfl,ah,ai,_⟩;obtain rfl:=u8 ai;exact Rh z H (l1 g_5 z fid<|ah.at0 z)<|Rh z H (eql z z)<|R z (pF z H z)<|Ra z<|Wl (fun _ q=>⟨(byteI ae)==(byteI (0:UInt8)),som a5,q.k<|s6 z z z z z z,br wa⟩)
 rintro aj wl ⟨xk,rfl,_,s4⟩;revert aj;refine Wo<|Wc z (fun hcm=>?_) (fun hcm=>?_)
 ·refine Ws<|R z (lN (vs:=[vI O.at_,vI O.code]) a_c G_ z z fid<|(hj.e s4).row 0 2 z)<|E0 (fs (cur':=[vI O.at_,vI O.code]) G_ z z ((((hc.e G).e h2).c h3<|djs<|mm1 hc.lt G.s).e s4) z (lb z) (oA z) z) ?_
  rintro _ ak ⟨al,am⟩;have hy:=am.one;refine Wn ?_;obtain rfl:=som<|ifT hms hcm;have hz:=lt_ hh G.s;exact Wr<|rtO<|h_ hr (q_ a_c G_ z al z) ⟨(cM (f_ (cM (f_ (f_ (f_ (f_ (cr [g1] w0) h5:Chg (· ∈ [g1]) w0 J) L:Chg (· ∈ [g1]) w0 we) G:Chg (· ∈ [g1]) w0 I) h2:Chg (· ∈ [g1]) w0 wi) h3 (mor hz : ∀ k∈[I.z],k∈[g1]∨w0.z≤k):Chg (· ∈ [g1]) w0 wa) s4:Chg (· ∈ [g1]) w0 wl) hy (mor h5.s : ∀ k∈[J.z],k∈[g1]∨w0.z≤k):Chg (· ∈ [g1]) w0 ak),z,hv,aa,p1_2,((((hf.e G).e h2).c h3<|djs<|mm1 (Blk.lt hB1) hz).e s4).c hy<|djs<|mm1 (Blk.lt hB1) h5.s⟩
 refine Ws<|Rm z<|R z (V_ z)<|R z (fd c_G z) ?_
 have hd:=lt_ hh G.s;have hn:=(((hf.e G).e h2).c h3<|djs<|mm1 (Blk.lt hB1) hd).e s4;refine R z (l1 Q_ z fid<|hn.at z)<|Rm z ?_
 obtain ⟨_,an,V⟩:=bdS<|ifF hms hcm;have W:=(((hg.e G).e h2).c h3<|c_ (or0 (b_ lr)  (m_<|zt' hBw hd) : ∀ k∈[I.z],¬ B k)).e s4;refine RX z (at_ (α:=UInt8) n_ z_5 z z z (p1_1.g W) an) ?_;rintro _ ⟨_,_,_,rfl,ao,ap,_⟩;obtain rfl:=u8 ap;refine R z (l1 g_5 z fid<|ao.at0 z)<|R z (a_9 z z)<|Ra z<|Wn<|Wc z (fun hco=>?_) (fun hco=>?_)
 ·refine Ws<|Rm z<|R z (bP (parts:=[(0,.tmp 35),(1,.const<|.int .i64 4)]) (cs:=[vI x3,vI 4]) c_0 z z)<|E0 (fs (cur':=[vI x3,vI 4]) G_ z z ((((hc.e G).e h2).c h3<|djs<|mm1 hc.lt G.s).e s4) z (lb z) (oA z) z) ?_
  rintro _ aq ⟨ar,au⟩;have Y:=au.one;refine Wn ?_;obtain rfl:=som<|ifT V hco;exact Wr<|rtO<|h_ hr (q_ a_c G_ z ar z) ⟨(cM (f_ (cM (f_ (f_ (f_ (f_ (cr [g1] w0) h5:Chg (· ∈ [g1]) w0 J) L:Chg (· ∈ [g1]) w0 we) G:Chg (· ∈ [g1]) w0 I) h2:Chg (· ∈ [g1]) w0 wi) h3 (mor hd : ∀ k∈[I.z],k∈[g1]∨w0.z≤k):Chg (· ∈ [g1]) w0 wa) s4:Chg (· ∈ [g1]) w0 wl) Y (mor h5.s : ∀ k∈[J.z],k∈[g1]∨w0.z≤k):Chg (· ∈ [g1]) w0 aq),z,p3_0,ii z,p1_2,hn.c Y<|djs<|mm1 (Blk.lt hB1) h5.s⟩
 refine Wk<|Wq (Wd (X:=noX) 384 (.rd 0<|.rd 1<|.rd 2<|.rd 3<|.rd 4<|.rd 5<|.rd 6<|.ef 7<|.ef 8 .done) mo (by kernel_rfl) fun av sb _=>dR z z (mv z)<|dR z z (fd K_ z)<|dR z z (l1 B_ z fid<|((((((ht.e L).e G).e h2).c h3<|djs<|mm1 ht.lt<|lt_ L.s G.s).e s4).e sb).at z) ?_)
 obtain ⟨_,aw,a6⟩:=bdS<|ifF V hco;have hp:=W.e sb;refine dRX z z (at_ (α:=Int) w_ z_3 z z z (p2_7.g hp) aw) ?_;rintro _ ⟨_,_,_,rfl,ax,ay,_⟩;obtain ⟨rfl,az⟩:=O_ ay;refine dR z z (l1 g_3 z fid<|ax.at0 z)<|dR z z (fd c_d z)<|dR z z (l1 g_3 z fid<|((hj.e s4).e sb).at z) ?_
 obtain ⟨a0,_,aA,a7⟩:=a_A a6;refine dE z z (fc call193 z<|a8.run (B:=B) aA (hn.e sb) (zt' hBw<|lt_ (lt_ (lt_ (lt_ hd h2.s) h3.s) s4.s) sb.s) hBg (p1_0.g hp) (p1_1.g hp) p1_2 az hv) (.inl z) ?_;rintro _ aB ⟨a1,rfl,aC,aD,aE,aF⟩;have a2:=mm1 (Blk.lt hB1) h5.s;refine dE0 z (fs (cur':=[vI a0.at_,vI a0.code]) G_ z z ((((((hc.e G).e h2).c h3<|djs<|mm1 hc.lt G.s).e s4).e sb).c a1<|atp a2) z (lb z) (oA z) z) (.inl z) ?_;rintro _ aG ⟨aH,aI⟩;have a3:=aI.one;refine pD<|Wo ?_
 obtain rfl:=som a7;exact Wr<|h_ hr (q_ a_c G_ z aH z) ⟨(cM (cM (f_ (f_ (cM (f_ (f_ (f_ (f_ (cr [g1] w0) h5:Chg (· ∈ [g1]) w0 J) L:Chg (· ∈ [g1]) w0 we) G:Chg (· ∈ [g1]) w0 I) h2:Chg (· ∈ [g1]) w0 wi) h3 (mor hd : ∀ k∈[I.z],k∈[g1]∨w0.z≤k):Chg (· ∈ [g1]) w0 wa) s4:Chg (· ∈ [g1]) w0 wl) sb:Chg (· ∈ [g1]) w0 av) a1 (io sr):Chg (· ∈ [g1]) w0 aB) a3 (mor h5.s : ∀ k∈[J.z],k∈[g1]∨w0.z≤k):Chg (· ∈ [g1]) w0 aG),z,aC,aD,aE,aF.c a3<|djs a2⟩
theorem T_w1s (ih:e_a n):i_J (f_W n<|a_r n):=by
 obtain ⟨ao,_,_,_,_⟩:=ih
 constructor
 intro A0 A5 A2 A3 A1 A4 N0 C0 N5 C5 g1 N2 C2 N3 C3 N1 C1 N4 C4 B x1 x2 x3 res w0 hm hB1 hBw hBg p1_0 p1_1 p1_2 p2_0 p2_1 p2_2 p2_4 p2_5 p2_6 p2_7 p3_0;unfold f_W at hm
 refine goF func244 z z (lb z) fun fn hr=>Ws<|E z (fb z) ?_
 rintro _ I ⟨rfl,W⟩;have h4:=W.below;refine E z (fa b_h) ?_;rintro _ wj ⟨rfl,Y⟩;have hd:=Y.below;have ha:Blk wj I.z [vI 0,vI 0]:=Y.blk;refine Wn<|Ws<|Rm z<|R z (fd K_ z)<|R z (l1 B_ z fid<|((W.blk:Blk I w0.z (vR x2 A2 N2 C2 A3 N3 C3 A1 N1 C1 A4 N4 C4)).e hd).at z) ?_
 obtain ⟨_,ap,aj⟩:=bdS hm;have hk:=(h4.ag B).e hd;refine RX z (at_ (α:=Int) w_ z_3 z z z (p2_7.g hk) ap) ?_;rintro _ ⟨_,_,_,rfl,aq,ar,_⟩;obtain ⟨rfl,au⟩:=O_ ar;refine R z (l1 g_3 z fid<|aq.at0 z)<|Rm z ?_
 have hq:=lt_ h4.s hd.s;obtain ⟨rb,_,av,L⟩:=a_A aj;refine E z (fc call193 z<|ao.run (B:=B) av ((hB1.e h4).e hd) (zt' hBw hq) hBg (p1_0.g hk) (p1_1.g hk) p1_2 au p3_0) ?_;rintro _ J ⟨s2,rfl,ht,aw,hl,a0⟩;refine E z (fa b_h) ?_;rintro _ wm ⟨rfl,a1⟩;have h5:=a1.below;have hu:Blk wm J.z [vI 0,vI 0]:=a1.blk;refine E0 (fs (cur':=[vI rb.at_,vI rb.code]) G_ z z hu z (lb z) (oA z) z) ?_;rintro _ wr ⟨hh,ax⟩;have h3:=ax.one;refine Wn<|Wq<|Ws<|R z (fd c_q z)<|R z (l1 g_3 z fid<|hh.at z)<|R z (nq z z)<|Wn<|Wc z (fun hcs=>?_) (fun hcs=>?_)
 ·refine Ws<|R z (lN (vs:=[vI rb.at_,vI rb.code]) a_c G_ z z fid<|hh.row 0 2 z) ?_
  have a2:=mm1 (Blk.lt hB1) h4.s;refine E0 (fs (cur':=[vI rb.at_,vI rb.code]) G_ z z (((ha.c s2<|atp a2).e h5).c h3<|djs<|mm1 ha.lt s2.s) z (lb z) (oA z) z) ?_;rintro _ ay ⟨az,aA⟩;have a3:=aA.one;refine Wn ?_;obtain rfl:=som<|ifT L hcs;have a4:=lt_ hq s2.s;exact Wr<|h_ hr (q_ a_c G_ z az z) ⟨(cM (cM (f_ (cM (f_ (f_ (cr [g1] w0) h4:Chg (· ∈ [g1]) w0 I) hd:Chg (· ∈ [g1]) w0 wj) s2 (io sr):Chg (· ∈ [g1]) w0 J) h5:Chg (· ∈ [g1]) w0 wm) h3 (mor a4 : ∀ k∈[J.z],k∈[g1]∨w0.z≤k):Chg (· ∈ [g1]) w0 wr) a3 (mor h4.s : ∀ k∈[I.z],k∈[g1]∨w0.z≤k):Chg (· ∈ [g1]) w0 ay),z,ht,aw,hl,((a0.e h5).c h3<|djs<|mm1 (Blk.lt hB1) a4).c a3<|djs a2⟩
 refine Wk<|Ws<|Rm z<|R z (fd c_d z)<|R z (l1 g_3 z fid<|hh.at z) ?_
 have hi:=lt_ hq s2.s;have hn:=(a0.e h5).c h3<|djs<|mm1 (Blk.lt hB1) hi
 have hv:=((hk.c s2<|c_<|b_ hBg).e h5).c h3<|c_ (or0 (b_ lr)  (m_<|zt' hBw hi) : ∀ k∈[J.z],¬ B k)
 have ho:=lt_ (lt_ hi h5.s) h3.s;obtain ⟨re,aB,ak⟩:=bdS<|ifF L hcs;refine E z (fc call240 z<|e_Z (B:=w0.z) aB (a_s ho) (repS.mono (p1_0.g hv) hBw) (repS.mono (p1_1.g hv) hBw) hl (hn.row 0 3 z) (Blk.lt hB1) ht<|ii z) ?_;rintro _ wf ⟨s1,rfl,aC,aD⟩;refine E z (fa b_h) ?_;rintro _ ww ⟨rfl,a5⟩;have h6:=a5.below;refine E0 (fs (cur':=[vI re.at_,vI re.code]) G_ z z (a5.blk:Blk ww wf.z [vI 0,vI 0]) z (lb z) (oA z) z) ?_;rintro _ wp ⟨a6,aE⟩;have H:=aE.one;refine Wn<|Wq<|Wq ?_
 obtain ⟨aF,O,V⟩:=bdS ak;refine Wt (fun a w=>∃ (xx:Bool),xx=aF∧Sat 52 [(6,pt I.z),(7,pt J.z),(8,pt wf.z),(47,vB xx)] a∧Below wp.z wp w) ?_ ?_
 ·refine Wd (X:=noX) 0 (.rd 0<|.rd 1<|.rd 2<|.rd 3<|.rd 4<|.rd 5<|.rd 6<|.rd 7<|.rd 8<|.rd 9<|.rd 10<|.rd 11<|.rd 12<|.rd 13<|.rd 14<|.rd 15<|.rd 16<|.rd 17<|.rd 18<|.rd 19<|.rd 20<|.ef 21<|.rd 22<|.rd 23 .done) mo (by kernel_rfl) fun aW sg _=>dR z z (fd c_q z)<|dR z z (l1 g_3 z fid<|(a6.e sg).at z)<|dR z z (eql z z)<|dR z z (mv z) ?_
  rcases bs (re.code==0) with G | G
  ·refine dRg z z z G z (mv z)<|dRg z z z G z (V_ z)<|dRg z z z G z (fd c_G z) ?_
   have hy:=lt_ ho s1.s;have a7:=(((hn.e s1).e h6).c H<|djs<|mm1 (Blk.lt hB1) hy).e sg;refine dRg z z z G z (l1 Q_ z fid<|a7.at z)<|dRg z z z G z (fd c_d z) ?_
   have a8:=(((hh.e s1).e h6).c H<|djs<|mm1 hu.lt<|lt_ h3.s s1.s).e sg;refine dRg z z z G z (l1 g_3 z fid<|a8.at z) ?_;obtain ⟨aG,aH,al⟩:=bdS<|ifT O G;have a9:=p1_1.g<|(((hv.e s1).e h6).c H<|c_ (or0 (b_ lr)  (m_<|zt' hBw hy) : ∀ k∈[wf.z],¬ B k)).e sg
   refine b_K z z z G z (at_ (α:=UInt8) n_ z_5 z z z a9 aH) ?_;rintro _ ⟨_,_,_,rfl,aI,aJ,_⟩;obtain rfl:=u8 aJ;refine dRg z z z G z (l1 g_5 z fid<|aI.at0 z)<|dRg z z z G z (b_W d_5 d_3 z)<|dRg z z z G z (mv z)<|dRg z z z G z (V_ z)<|dRg z z z G z (fd c_G z)<|dRg z z z G z (l1 Q_ z fid<|a7.at z)<|dRg z z z G z (mv z)<|dRg z z z G z (fd c_d z)<|dRg z z z G z (l1 g_3 z fid<|a8.at z) ?_
   obtain ⟨_,aK,am⟩:=bdS al;refine b_K z z z G z (rX n_ z_5 z z a9 z z aK) ?_;rintro _ ⟨_,_,_,rfl,aL⟩;obtain ⟨aM,aN,an⟩:=bdS am;refine dEg z z z G z (fc call263 z<|W_w1i (B:=B) aN (zt' hBw<|lt_ (lt_ (lt_ hy h6.s) H.s) sg.s) aL) (.inr fun _ _ h=>v_<|h.1) ?_;rintro _ _ ⟨aO,rfl,_⟩;exact dRg z z z G z (nq z z)<|dR z z (pT z G z)<|pD (fun _ q=>⟨(byteI aG) != aM,som an,q.k<|s4 z z z z,bup sg aO⟩)
  iterate 17 refine dRn z z z G z ?_
  exact dEn z z z G z<|dRn z z z G z<|dR z z (pF z G z)<|pD (fun _ q=>⟨false,som<|ifF O G,q.k<|s4 z z z z,sg⟩)
 rintro aP aa ⟨xx,rfl,_,sc⟩;revert aP;refine Wo<|Wc z (fun hcz=>?_) (fun hcz=>?_)
 ·refine Ws<|R z (fd c_d z)<|R z (l1 g_3 z fid<|((((hh.e s1).e h6).c H<|djs<|mm1 hu.lt<|lt_ h3.s s1.s).e sc).at z)<|R z (bP (parts:=[(0,.tmp 49),(1,.const<|.int .i64 5)]) (cs:=[vI rb.at_,vI 5]) c_0 z z) ?_
  have ab:=mm1 (Blk.lt hB1) h4.s;refine E0 (fs (cur':=[vI rb.at_,vI 5]) G_ z z (((((((ha.c s2<|atp ab).e h5).c h3<|djs<|mm1 ha.lt s2.s).e s1).e h6).c H<|djs<|mm1 ha.lt<|lt_ (lt_ (lt_ s2.s h5.s) h3.s) s1.s).e sc) z (lb z) (oA z) z) ?_;rintro _ aQ ⟨aR,aS⟩;have ad:=aS.one;refine Wn ?_;obtain rfl:=som<|ifT V hcz;have ae:=lt_ ho s1.s;exact Wr<|h_ hr (q_ a_c G_ z aR z) ⟨(cM (f_ (cM (f_ (f_ (cM (f_ (cM (f_ (f_ (cr [g1] w0) h4:Chg (· ∈ [g1]) w0 I) hd:Chg (· ∈ [g1]) w0 wj) s2 (io sr):Chg (· ∈ [g1]) w0 J) h5:Chg (· ∈ [g1]) w0 wm) h3 (mor hi : ∀ k∈[J.z],k∈[g1]∨w0.z≤k):Chg (· ∈ [g1]) w0 wr) s1:Chg (· ∈ [g1]) w0 wf) h6:Chg (· ∈ [g1]) w0 ww) H (mor ae : ∀ k∈[wf.z],k∈[g1]∨w0.z≤k):Chg (· ∈ [g1]) w0 wp) sc:Chg (· ∈ [g1]) w0 aa) ad (mor h4.s : ∀ k∈[I.z],k∈[g1]∨w0.z≤k):Chg (· ∈ [g1]) w0 aQ),z,ht,ii z,hl,((((hn.e s1).e h6).c H<|djs<|mm1 (Blk.lt hB1) ae).e sc).c ad<|djs ab⟩
 refine Wk<|Ws<|R z (lN (vs:=[vI re.at_,vI re.code]) a_c G_ z z fid<|(a6.e sc).row 0 2 z) ?_
 have af:=mm1 (Blk.lt hB1) h4.s;refine E0 (fs (cur':=[vI re.at_,vI re.code]) G_ z z (((((((ha.c s2<|atp af).e h5).c h3<|djs<|mm1 ha.lt s2.s).e s1).e h6).c H<|djs<|mm1 ha.lt<|lt_ (lt_ (lt_ s2.s h5.s) h3.s) s1.s).e sc) z (lb z) (oA z) z) ?_;rintro _ aT ⟨aU,aV⟩;have ah:=aV.one;refine Wn ?_;obtain rfl:=som<|ifF V hcz;have ai:=lt_ ho s1.s;exact Wr<|h_ hr (q_ a_c G_ z aU z) ⟨(cM (f_ (cM (f_ (f_ (cM (f_ (cM (f_ (f_ (cr [g1] w0) h4:Chg (· ∈ [g1]) w0 I) hd:Chg (· ∈ [g1]) w0 wj) s2 (io sr):Chg (· ∈ [g1]) w0 J) h5:Chg (· ∈ [g1]) w0 wm) h3 (mor hi : ∀ k∈[J.z],k∈[g1]∨w0.z≤k):Chg (· ∈ [g1]) w0 wr) s1:Chg (· ∈ [g1]) w0 wf) h6:Chg (· ∈ [g1]) w0 ww) H (mor ai : ∀ k∈[wf.z],k∈[g1]∨w0.z≤k):Chg (· ∈ [g1]) w0 wp) sc:Chg (· ∈ [g1]) w0 aa) ah (mor h4.s : ∀ k∈[I.z],k∈[g1]∨w0.z≤k):Chg (· ∈ [g1]) w0 aT),z,aC,aD,hl,((((hn.e s1).e h6).c H<|djs<|mm1 (Blk.lt hB1) ai).e sc).c ah<|djs af⟩
theorem c_t : ∀ n,e_a n
  | 0=>⟨⟨fun hm=>by intros;exact nomatch (show none=some _ from hm)⟩,⟨fun hm=>by intros;exact nomatch (show none=some _ from hm)⟩,⟨fun hm=>by intros;exact nomatch (show none=some _ from hm)⟩,⟨fun hm=>by intros;exact nomatch (show none=some _ from hm)⟩,⟨fun hm=>by intros;exact nomatch (show none=some _ from hm)⟩⟩
  | n+1=>⟨T_w04<|c_t n,T_w1p<|c_t n,T_w1q<|c_t n,T_w1r<|c_t n,T_w1s<|c_t n⟩
theorem W_w04:i_F (a_r n).impl_checker_value:=(c_t n).1
theorem W_w1p:i_G (a_r n).impl_checker_array:=(c_t n).2.1
theorem W_w1q:i_H (a_r n).impl_checker_choice:=(c_t n).2.2.1
theorem W_w1r:i_I (a_r n).impl_checker_option:=(c_t n).2.2.2.1
theorem W_w1s:i_J (a_r n).impl_checker_checked:=(c_t n).2.2.2.2

def Q30 (w0:World) (B:Zone) (r:Int×Int) (v:Value) (w':World):Prop:=Bw w0 w'∧un2 (fun G H=>v = .tuple #[vI G,vI H]∧inI G∧inI H) r
theorem W_w2u {x1:d_} {x2:Int} {x3:List UInt8} {x4:Int} {res:Int×Int} (hm:f_X n x1 x2 x3 x4=some res) (hBw:B≤w0.z) (p1_0:repS w0 B (sl A0 N0 C0) x1.rules) (p2_0:inI x2) (p3_0:repS w0 B (sl A7 N7 C7) x3) (p4_0:inI x4):o_ prog 157 [(.agg #[sl A0 N0 C0]),vI x2,sl A7 N7 C7,vI x4] w0 (Q30 w0 B res):=by
 unfold f_X at hm
 refine goF func157 z z (lb z) fun fn hr=>Ws<|E z (fb z) ?_
 rintro _ L ⟨rfl,hb⟩;have h3:=hb.below;have hc:Blk L w0.z [sl A0 N0 C0]:=hb.blk;refine Ra z<|Ra z<|Wn<|Wq<|Wq ?_
 obtain ⟨ur,hus,hmd⟩:=bdS hm;refine Wt (fun a w=>∃ (O:Bool),O=ur∧Sat 43 [(1,vI x2),(2,sl A7 N7 C7),(3,vI x4),(4,pt w0.z),(30,vB O)] a∧Below L.z L w) ?_ ?_
 ·refine Wg<|R z (lN (vs:=[sl A0 N0 C0]) y_ t_ z z fid<|hc.row 0 1 z)<|Rm z ?_
  obtain ⟨rt,eu,hme⟩:=bdS hus;refine E z (fc call190 z<|i_x (B:=B) eu (zt' hBw h3.s) (p1_0.e h3) p2_0) ?_;rintro _ _ ⟨s4,rfl⟩;refine R z (not_ z)<|Rm z ?_
  rcases bs (!rt) with H | H
  ·exact Nh z H<|Nh z H<|R z (pT z H z)<|Rm z<|Nh z z<|Nh z z<|Nh z z<|Nh z z<|R z (pT z z z)<|Rm z<|Nh z z<|Nh z z<|Nh z z<|R z (pT z z z)<|Wl (fun _ q=>⟨true,som<|ifT hme H,q.k<|s5 z z z z z,s4⟩)
  have hmf:=ifF hme H;refine Rh z H (mv z)<|Rh z H (lss z z)<|R z (pF z H z)<|Rm z ?_
  rcases bs (decide<|x4<0) with G | G
  ·iterate 4 refine Nh z G ?_
   exact R z (pT z G z)<|Rm z<|Nh z z<|Nh z z<|Nh z z<|R z (pT z z z)<|Wl (fun _ q=>⟨true,som<|ifT hmf G,q.k<|s5 z z z z z,s4⟩)
  have hmg:=ifF hmf G;refine Rh z G (mv z)<|Rh z G (mv z) ?_
  have hh:=p3_0.g<|(h3.ag B).e s4
  refine Rh z G (lnR n_ z hh)<|Rh z G (a_9 z z)<|R z (pF z G z)<|Rm z ?_
  rcases bs (decide<|(x3.length:Int)<x4) with I | I
  ·iterate 3 refine Nh z I ?_
   exact R z (pT z I z)<|Wl (fun _ q=>⟨true,som<|ifT hmg I,q.k<|s5 z z z z z,s4⟩)
  exact Rh z I (mv z)<|Rh z I (lnR n_ z hh)<|Rh z I (a_9 z z)<|R z (pF z I z)<|Wl (fun _ q=>⟨decide<|400<(x3.length:Int),som<|ifF hmg I,q.k<|s5 z z z z z,s4⟩)
 rintro av wi ⟨O,rfl,_,s6⟩;revert av;refine Wo<|Wc z (fun J=>?_) (fun J=>?_)
 ·refine Ws<|Ra z<|Ra z<|Wn ?_
  obtain rfl:=som<|ifT hmd J;exact Wr<|a_R hr z z ⟨bup h3 s6,z,ii z,ii z⟩
 refine Wk<|Ws<|R z (lN (vs:=[sl A0 N0 C0]) y_ t_ z z fid<|(hc.e s6).row 0 1 z)<|Rm z<|R z (bP (parts:=[(0,.tmp 31),(1,.tmp 32)]) (cs:=[sl A0 N0 C0,sl A7 N7 C7,vI 0]) n_8 z z)<|E z (fb z) ?_
 rintro _ ww ⟨rfl,hj⟩;have V:=hj.below;refine Ra z<|Wn<|Ws<|Rm z<|Rm z<|Rm z ?_
 have hk:=((h3.ag B).e s6).e V;have ha:=lt_ h3.s s6.s;have hl:=lt_ ha V.s;obtain ⟨rm,_,ez,W⟩:=a_A<|ifF hmd J;refine E z (fc call193 z<|W_w04.run (B:=B) ez (hj.blk:Blk ww wi.z [sl A0 N0 C0,sl A7 N7 C7,vI 0]) (zt' hBw hl) (atp (or0 (b_ lr)  (m_<|zt' hBw ha) : ∀ k∈[wi.z],¬ B k)) (p1_0.g hk) (p3_0.g hk) (ii z) p2_0 p4_0) ?_;rintro _ Y ⟨sn,rfl,a0,a1,_,_⟩;refine E z (fa b_h) ?_;rintro _ a2 ⟨rfl,ho⟩;refine E0 (fs (cur':=[vI rm.at_,vI rm.code]) G_ z z (ho.blk:Blk a2 Y.z [vI 0,vI 0]) z (lb z) (oA z) z) ?_;rintro _ _ ⟨a3,a4⟩;refine Wn<|Wq (Wd (X:=noX) 0 (.rd 0<|.rd 1<|.rd 2<|.rd 3<|.rd 4<|.rd 5 .done) mo (by kernel_rfl) fun a5 sp _=>dR z z (fd c_d z) ?_)
 have hq:=a3.e sp;refine dR z z (l1 g_3 z fid<|hq.at z)<|dR z z (fd c_q z)<|dR z z (l1 g_3 z fid<|hq.at z)<|dR z z (asg z)<|dR z z (asg z)<|pD<|Wo ?_
 obtain rfl:=som W;exact Wr<|a_R hr z z ⟨bup (bM (bup (bM (bup (bup h3 s6) V) sn<|m1 ha) ho.below) a4.one<|m1<|lt_ hl sn.s) sp,z,a0,a1⟩
theorem W_w2v {x1:Int} {res:Str} (hm:h_m x1=some res) (hBw:B≤w0.z) (hG:Gl w0 B) (p1_0:inI x1):o_ prog 194 [vI x1] w0 (Q4 w0 B res):=by
 unfold h_m at hm
 refine goF func194 z z (lb z) fun fn hr=>Ws<|Ra z<|Wn<|Ws<|Rm z ?_
 obtain ⟨_,H,G⟩:=bdS hm;refine E z (fc call245 z<|m_G (B:=B) H hBw hG p1_0) ?_;rintro _ _ ⟨s2,rfl,h3⟩;refine Ra z<|Wn ?_
 obtain rfl:=som G;exact Wr<|h_ hr z ⟨s2,z,h3⟩
theorem W_w2w {x1:d_} {x2:Int} {x3:Int} {res:Str} (hm:d_U n x1 x2 x3=some res) (hBw:B≤w0.z) (hG:Gl w0 B) (p1_0:repS w0 B (sl A0 N0 C0) x1.rules) (p2_0:inI x2) (p3_0:inI x3):o_ prog 158 [(.agg #[sl A0 N0 C0]),vI x2,vI x3] w0 (Q4 w0 B res):=by
 unfold d_U at hm
 refine goF func158 z z (lb z) fun fn hr=>Ws<|E z (fb z) ?_
 rintro _ wb ⟨rfl,hn⟩;have G:=hn.below;have ho:Blk wb w0.z [sl A0 N0 C0]:=hn.blk;refine Ra z<|Wn<|Wq<|Wq ?_
 obtain ⟨af,ab,hmp⟩:=bdS hm;refine Wt (fun a w=>∃ (xc:Bool),xc=af∧Sat 58 [(1,vI x2),(2,vI x3),(3,pt w0.z),(15,vB xc)] a∧Below wb.z wb w) ?_ ?_
 ·refine Wg<|R z (lN (vs:=[sl A0 N0 C0]) y_ t_ z z fid<|ho.row 0 1 z)<|Rm z ?_
  obtain ⟨ah,ai,hmq⟩:=bdS ab;refine E z (fc call190 z<|i_x (B:=B) ai (zt' hBw G.s) (p1_0.e G) p2_0) ?_;rintro _ _ ⟨sr,rfl⟩;refine R z (not_ z)<|Rm z ?_
  rcases bs (!ah) with I | I
  ·exact Nh z I<|Nh z I<|R z (pT z I z)<|Wl (fun _ q=>⟨true,som<|ifT hmq I,q.k<|s4 z z z z,sr⟩)
  exact Rh z I (mv z)<|Rh z I (lss z z)<|R z (pF z I z)<|Wl (fun _ q=>⟨decide<|x3<0,som<|ifF hmq I,q.k<|s4 z z z z,sr⟩)
 rintro aj J ⟨xc,rfl,_,s1⟩;revert aj;refine Wo<|Wc z (fun hcd=>?_) (fun hcd=>?_)
 ·refine Ws<|Ra z<|Wn ?_
  obtain rfl:=som<|ifT hmp hcd;exact Wr<|h_ hr z ⟨bup G s1,z,lb z⟩
 refine Wk<|Ws<|R z (fd X_ z)<|R z (l1 a_0 z fid<|(ho.e s1).at z)<|Rm z ?_
 obtain ⟨O,ak,hms⟩:=bdS<|ifF hmp hcd;refine RX z (at_ (α:=g_) a_1 p_ z z z (p1_0.g<|(G.ag B).e s1) ak) ?_;rintro _ ⟨_,_,_,rfl,al,am,_⟩;obtain ⟨au,nt,cv,aw,nx,cy,az,a3,a4,a5,a6,a7,rfl,_,_,_,_,a8,_,_⟩:=a_z am;refine R z (lN (vs:=vR O au nt cv aw nx cy az a3 a4 a5 a6 a7) J_ p_ z z fid al)<|E z (fa b_i) ?_
 rintro _ an ⟨rfl,a9⟩;have h2:=a9.below;refine E0 (fs (cur':=vR O au nt cv aw nx cy az a3 a4 a5 a6 a7) p_ z z (a9.blk:Blk an J.z [(Str.v (⟨[]⟩:Str)),vI 0,vI 0,vB false,sl none 0 0,sl none 0 0,sl none 0 0,sl none 0 0]) z (lb z) (oA z) z) ?_;rintro _ wa ⟨L,ao⟩;have h3:=ao.one;refine Wn<|Wq<|Wb<|Ws<|R z (fd a_x z)<|R z (l1 g_3 z fid<|L.at z)<|R z (eql z z)<|Ra z<|Wn<|Wc z (fun hce=>?_) (fun hce=>?_)
 ·refine Ws<|Rm z ?_
  have hf:=lt_ G.s s1.s;obtain ⟨_,ap,ad⟩:=bdS<|ifT hms hce;refine E z (fc call194 z<|W_w2v (B:=B) ap (zt' hBw<|lt_ (lt_ hf h2.s) h3.s) ((((hG.e G).e s1).e h2).c h3<|c_ (or0 (b_ lr)  (m_<|zt' hBw hf) : ∀ k∈[J.z],¬ B k)) p3_0) ?_;rintro _ _ ⟨aq,rfl,ar⟩;refine Ra z<|Wn ?_
  obtain rfl:=som ad;exact Wr<|rtO<|h_ hr z ⟨bup (bM (bup (bup G s1) h2) h3<|m1 hf) aq,z,ar⟩
 refine Wq ?_;obtain ⟨av,V,W⟩:=bdS<|ifF hms hce;refine Wt (fun a w=>∃ (xg:Bool),xg=av∧Sat 58 [(2,vI x3),(7,pt J.z),(27,vB xg)] a∧Below wa.z wa w) ?_ ?_
 ·refine Wg<|R z (fd a_x z)<|R z (l1 g_3 z fid<|L.at z)<|R z (eql z z)<|Rm z ?_
  rcases bs (O.kind==6) with H | H
  ·refine Rh z H (mv z)<|Rh z H (fd b_P z)<|Rh z H (l1 b_Z z fid<|L.at z) ?_
   exact Rh z H (lnR a_N z<|a8.g<|(h2.ag B).c h3<|c_ (or0 (b_ lr)  (m_<|zt' hBw<|lt_ G.s s1.s) : ∀ k∈[J.z],¬ B k))<|Rh z H (lss z z)<|R z (pT z H z)<|Ra z<|Wl (fun _ q=>⟨decide<|x3<(O.names.length:Int),som<|ifT V H,q.k<|s3 z z z,br wa⟩)
  iterate 5 refine Nh z H ?_
  exact R z (pF z H z)<|Ra z<|Wl (fun _ q=>⟨false,som<|ifF V H,q.k<|s3 z z z,br wa⟩)
 rintro ax _ ⟨xg,rfl,_,s6⟩;revert ax;refine Wo<|Wc z (fun hch=>?_) (fun hch=>?_)
 ·refine Ws<|R z (fd b_P z)<|R z (l1 b_Z z fid<|(L.e s6).at z)<|Rm z ?_
  obtain ⟨_,ay,ae⟩:=bdS<|ifT W hch;have aa:=lt_ G.s s1.s;refine RX z (at_ (α:=Str) a_N z_9 z z z (a8.g<|((h2.ag B).c h3<|c_ (or0 (b_ lr)  (m_<|zt' hBw aa) : ∀ k∈[J.z],¬ B k)).e s6) ay) ?_;rintro _ ⟨_,_,_,rfl,aA,aB,_⟩;obtain ⟨rfl,aC⟩:=c_n aB;refine R z (l1 g_9 z fid<|aA.at0 z)<|Ra z<|Wn ?_
  obtain rfl:=som ae;exact Wr<|rtO<|h_ hr z ⟨bup (bM (bup (bup G s1) h2) h3<|m1 aa) s6,z,aC⟩
 have Y:=ifF W hch;refine Ws<|Rm z<|R z (a_9 z z)<|Ra z<|Wn<|Wc z (fun hci=>?_) (fun hci=>?_)
 ·refine Ws<|Ra z<|Wn ?_
  obtain rfl:=som<|ifT Y hci;exact Wr<|rtO<|h_ hr z ⟨bup (bM (bup (bup G s1) h2) h3<|m1<|lt_ G.s s1.s) s6,z,lb z⟩
 have a0:=ifF Y hci;refine Ws<|R z (fd a_x z) ?_
 have hj:=L.e s6;refine R z (l1 g_3 z fid<|hj.at z)<|R z (eql z z)<|Ra z<|Wn<|Wc z (fun hck=>?_) (fun hck=>?_)
 ·refine Ws<|Ra z<|Wn ?_
  obtain rfl:=som<|ifT a0 hck;exact Wr<|rtO<|h_ hr z ⟨bup (bM (bup (bup G s1) h2) h3<|m1<|lt_ G.s s1.s) s6,z,lb z⟩
 have a1:=ifF a0 hck;refine Ws<|R z (fd a_x z)<|R z (l1 g_3 z fid<|hj.at z)<|R z (eql z z)<|Ra z<|Wn<|Wc z (fun hcl=>?_) (fun hcl=>?_)
 ·refine Ws<|Ra z<|Wn ?_
  obtain rfl:=som<|ifT a1 hcl;exact Wr<|rtO<|h_ hr z ⟨bup (bM (bup (bup G s1) h2) h3<|m1<|lt_ G.s s1.s) s6,z,lb z⟩
 have a2:=ifF a1 hcl;refine Ws<|R z (fd a_x z)<|R z (l1 g_3 z fid<|hj.at z)<|R z (eql z z)<|Ra z<|Wn<|Wc z (fun hcm=>?_) (fun hcm=>?_)
 ·refine Ws<|Ra z<|Wn ?_
  obtain rfl:=som<|ifT a2 hcm;exact Wr<|rtO<|h_ hr z ⟨bup (bM (bup (bup G s1) h2) h3<|m1<|lt_ G.s s1.s) s6,z,lb z⟩
 refine Wk<|Ws<|Ra z<|Wn ?_
 obtain rfl:=som<|ifF a2 hcm;exact Wr<|h_ hr z ⟨bup (bM (bup (bup G s1) h2) h3<|m1<|lt_ G.s s1.s) s6,z,lb z⟩
theorem W_w2x {x1:d_} {x2:Int} {x3:Val} {J O:Nat} {x4:Int} {res:Int} (hm:d_V x1 x2 x3 x4=some res) (hBw:B≤w0.z) (p1_0:repS w0 B (sl A0 N0 C0) x1.rules) (p2_0:inI x2) (p3_0:inI x3.number) (p3_1:repS w0 B (sl A9 N9 C9) x3.bytes) (p3_2:repS w0 B (sl AA NA CA) x3.items) (ai:U_ w0 J O [vI x3.number,sl A9 N9 C9,sl AA NA CA]) (aR:B J) (p4_0:inI x4):o_ prog 159 [(.agg #[sl A0 N0 C0]),vI x2,.pointer<|some ⟨J,O,none⟩,vI x4] w0 (Q9 w0 B res):=by
 unfold d_V at hm
 refine goF func159 z z (lb z) fun fn hr=>Ws<|E z (fb z) ?_
 rintro _ G ⟨rfl,hj⟩;have H:=hj.below;refine Ra z<|Wn<|Ws<|R z (fd X_ z)<|R z (l1 a_0 z fid<|(hj.blk:Blk G w0.z [sl A0 N0 C0]).at z)<|Rm z ?_
 obtain ⟨V,ew,hmk⟩:=bdS hm;refine RX z (at_ (α:=g_) a_1 p_ z z z (p1_0.e H) ew) ?_;rintro _ ⟨bl,om,_,rfl,h2,hx,_⟩;obtain ⟨_,_,_,_,_,_,ay,nz,aj,_,_,_,rfl,_,_,_,_,_,h5,h4⟩:=a_z hx;refine Ra z<|Wn<|Wq<|Ws<|Rm z<|R z (V_ z)<|R z (fd a_x z)<|R z (l1 g_3 z fid<|h2.at (j:=1) z)<|Wn<|Wb<|Ws<|R z (eql z z)<|Ra z<|Wn<|Wc z (fun L=>?_) (fun L=>?_)
 ·refine Ws<|Rm z<|R z (V_ z)<|R z (fd K_ z)<|R z (l1 B_ z fid<|h2.at (j:=7) z) ?_
  obtain ⟨_,ak,W⟩:=bdS<|ifT hmk L;refine RX z (at_ (α:=Int) w_ z_3 z z z h4 ak) ?_;rintro _ ⟨_,_,_,rfl,al,am,_⟩;obtain ⟨rfl,an⟩:=O_ am;refine R z (l1 g_3 z fid<|al.at0 z)<|Ra z<|Wn ?_
  obtain rfl:=som W;exact Wr<|rtO<|h_ hr z ⟨H,z,an⟩
 refine Ws<|R z (eql z z)<|Ra z<|Wn ?_
 obtain ⟨ao,hun,I⟩:=bdS<|ifF hmk L;refine Wt (fun a w=>Sum.inl ()=ao∧Sat 80 [] a∧Below G.z G w) ?_ ?_
 ·refine Wc z (fun hca=>?_)<|fun hca=>?_
  ·have hmo:=ifT hun hca;refine Ws<|Rm z<|Rm z<|R z (V_ z)<|R z (fd K_ z)<|R z (l1 B_ z fid<|h2.at (j:=7) z)<|R z (lnR w_ z h4)<|R z (lss z z)<|Wn<|Wc z (fun hcb=>?_) (fun hcb=>?_)
   ·refine Ws<|Rm z<|R z (V_ z)<|R z (fd K_ z)<|R z (l1 B_ z fid<|h2.at (j:=7) z)<|Rm z ?_
    obtain ⟨_,ap,Y⟩:=bdS<|ifT hmo hcb;refine RX z (at_ (α:=Int) w_ z_3 z z z h4 ap) ?_;rintro _ ⟨_,_,_,rfl,aq,ar,_⟩;obtain ⟨rfl,au⟩:=O_ ar;refine R z (l1 g_3 z fid<|aq.at0 z)<|Ra z<|Wn ?_
    obtain rfl:=som Y;have a0:=elR I;obtain rfl:=som a0;exact Wr<|rtO<|h_ hr z ⟨H,z,au⟩
   exact a_g<|fun _ q=>⟨som<|ifF hmo hcb,q.k sn,br G⟩
  refine Ws<|R z (eql z z)<|Ra z<|Wn ?_
  obtain ⟨av,hup,hmc⟩:=bdS<|ifF hun hca;refine Wt (fun a w=>Sum.inl ()=av∧Sat 80 [] a∧Below G.z G w) ?_ ?_
  ·refine Wc z (fun hcd=>?_)<|fun hcd=>?_
   ·refine Ws<|Rm z<|R z (V_ z)<|R z (fd a_L z)<|R z (l1 B_ z fid<|h2.at (j:=6) z)<|R z (lnR w_ z h5)<|Rm z<|Wn ?_
    obtain ⟨_,a1,hmq⟩:=bdS<|ifT hup hcd;refine Wf (σ:=Unit) (ρ:=Int) (fun (kr:Nat) (_:Unit) a w=>Sat 80 [(2,.pointer<|some ⟨J,O,none⟩),(9,.pointer<|some ⟨bl,om,none⟩),(49,sl ay nz aj),(50,vI (V.tags.length:Int)),(51,vI ((kr:Nat):Int))] a∧Below G.z G w) (fun (_:Unit) a w=>Sat 80 [] a∧Below G.z G w) (fun r ex a w=>ex = .ret∧L_ prog fn (Q9 w0 B r) a w) a1 ?_ ?_ ?_ ?_ ?_
    ·exact fun _ q=>⟨q.k<|s5 z z z z z,br G⟩
    ·rintro kr _ _ _ _ hke ⟨a2,s3⟩ a3;refine Wu ?_ a2;refine Ws<|R z (lss z z)<|Wn<|Wq<|Wc z (fun _=>?_) (fun hc=>(a_3 hke hc).elim)
     refine Wk<|Wq<|Wb<|Ws<|Rm z ?_
     obtain ⟨_,aw,hms⟩:=bdS a3;refine RX z (at_ (α:=Int) w_ z_3 z z z (h5.e s3) aw) ?_;rintro _ ⟨_,_,_,rfl,ax,az,_⟩;obtain ⟨rfl,_⟩:=O_ az;refine R z (l1 g_3 z fid<|ax.at0 z)<|Ra z<|Ra z<|Wn<|Ws<|Rm z<|Rm z<|R z (V_ z)<|R z (fd b_c z)<|R z (l1 g_3 z fid<|((ai.e H).e s3).at (j:=0) z)<|R z (eql z z)<|Wn<|Wc z (fun hcf=>?_) (fun hcf=>?_)
     ·refine Ws<|Rm z<|R z (V_ z)<|R z (fd K_ z)<|R z (l1 B_ z fid<|(h2.e s3).at (j:=7) z)<|Rm z<|R z (inc_ hke (lt_ (repS.len h5) M_) z z) ?_
      obtain ⟨_,aA,a4⟩:=bdS<|ifT hms hcf;refine RX z (at_ (α:=Int) w_ z_3 z z z (h4.e s3) aA) ?_;rintro _ ⟨_,_,_,rfl,aB,aC,_⟩;obtain ⟨rfl,aD⟩:=O_ aC;exact R z (l1 g_3 z fid<|aB.at0 z)<|Ra z<|Wn<|Wr<|rtO<|qL (som a4).symm<|h_ hr z ⟨bup H s3,z,aD⟩
     exact Wk<|Wg<|R z (inc_ hke (lt_ (repS.len h5) M_) z z)<|Rm z<|Wl (fun _ q=>⟨(),(som<|ifF hms hcf).symm,⟨q.k<|s5 z z z z z,s3⟩⟩)
    ·rintro _ _ _ ⟨a5,aE⟩;refine Wu ?_ a5;refine Ws<|R z (lss z z)<|Wn<|Wq<|Wc z (fun hc=>(a_4 hc).elim) (fun _=>?_)
     exact We<|fun a' ha'=>⟨rfl,⟨Sat.weaken ha' sn,aE⟩⟩
    ·rintro _ aF _ rfl ⟨_,aG⟩;have a6:=elL hmq;revert aF;exact fun _ q=>⟨som a6,q.k sn,aG⟩
    rintro _ _ _ _ rfl ⟨rfl,a7⟩;have a8:=elR hmq;obtain rfl:=som a8;have a9:=elR hmc;obtain rfl:=som a9;have aa:=elR I;obtain rfl:=som aa;exact ⟨a7,z⟩
   refine Wq<|Ws<|R z (eql z z)<|Ra z<|Wn ?_
   obtain ⟨aH,hut,hmu⟩:=bdS<|ifF hup hcd;refine Wt (fun a w=>∃ (xg:Bool),xg=aH∧Sat 80 [(9,.pointer<|some ⟨bl,om,none⟩),(71,vB xg)] a∧Below G.z G w) ?_ ?_
   ·refine Wc z (fun hch=>?_)<|fun hch=>?_
    ·exact a_g<|fun _ q=>⟨V.kind==8,som<|ifT hut hch,q.k<|s2 z z,br G⟩
    exact Wg<|R z (eql z z)<|Ra z<|Wl (fun _ q=>⟨V.kind==9,som<|ifF hut hch,q.k<|s2 z z,br G⟩)
   rintro aI _ ⟨xg,rfl,_,s7⟩;revert aI;refine Wo<|Wc z (fun hci=>?_) (fun hci=>?_)
   ·refine Ws<|Rm z<|R z (V_ z)<|R z (fd K_ z)<|R z (l1 B_ z fid<|(h2.e s7).at (j:=7) z) ?_
    obtain ⟨_,aJ,ab⟩:=bdS<|ifT hmu hci;refine RX z (at_ (α:=Int) w_ z_3 z z z (h4.e s7) aJ) ?_;rintro _ ⟨_,_,_,rfl,aK,aL,_⟩;obtain ⟨rfl,aM⟩:=O_ aL;refine R z (l1 g_3 z fid<|aK.at0 z)<|Ra z<|Wn ?_
    obtain rfl:=som ab;have ad:=elR hmc;obtain rfl:=som ad;have ae:=elR I;obtain rfl:=som ae;exact Wr<|rtO<|h_ hr z ⟨bup H s7,z,aM⟩
   exact a_g<|fun _ q=>⟨som<|ifF hmu hci,q.k sn,s7⟩
  rintro aN _ ⟨rfl,_,aO⟩;have af:=elL hmc;revert aN;exact fun _ q=>⟨som af,q.k sn,aO⟩
 rintro aP _ ⟨rfl,_,aQ⟩;have ah:=elL I;revert aP;refine Wo<|Ws<|Ra z<|Wn ?_
 obtain rfl:=som ah;exact Wr<|h_ hr z ⟨bup H aQ,z,ii z⟩
def Q31 (w0:World) (g1:Nat) (B:Zone) (A0:Option Addr) (N0 C0:Nat) (A5:Option Addr) (N5 C5:Nat) (AH:Option Addr) (NH CH:Nat) (S1_2:List Nat) (x1:c_m) (r:Int×(List e_)) (v:Value) (w':World):Prop:=Chg (· ∈ ([g1]++S1_2)) w0 w'∧un2 (fun G L=>∃ H I J S1,(vI G)=v∧inI G∧a_ w' S1 (sl H I J) L∧S1.Nodup∧(∀ k∈S1,k∈S1_2∨w0.z≤k)∧Blk w' g1 [sl A0 N0 C0,sl A5 N5 C5,sl H I J]) r
structure i_K (f:c_m→Str→Int→Val→Int→Option (Int×(List e_))):Prop where
  run : ∀ {A0 A5 AH AJ AK:Option Addr} {N0 C0 N5 C5 NH CH g1 NJ CJ NK CK b4 o4:Nat} {S1_2:List Nat} {B:Zone} {x1:c_m} {x2:Str} {x3:Int} {x4:Val} {x5:Int} {res:Int×(List e_)} {w0:World} (hm:f x1 x2 x3 x4 x5=some res) (hB1:Blk w0 g1 [sl A0 N0 C0,sl A5 N5 C5,sl AH NH CH]) (hBw:B≤w0.z) (hBg : ¬ B g1) (hG:Gl w0 B) (p1_0:repS w0 B (sl A0 N0 C0) x1.d.rules) (p1_1:repS w0 B (sl A5 N5 C5) x1.b) (p1_2:a_ w0 S1_2 (sl AH NH CH) x1.list_) (p1_2n:S1_2.Nodup) (p1_2g : ∀ k∈S1_2,¬ B k) (p1_2d : ∀ k∈S1_2,k∉[g1]) (p2_0:x2.b.length≤LEN) (p3_0:inI x3) (p4_0:inI x4.number) (p4_1:repS w0 B (sl AJ NJ CJ) x4.bytes) (p4_2:repS w0 B (sl AK NK CK) x4.items) (hC4:U_ w0 b4 o4 [vI x4.number,sl AJ NJ CJ,sl AK NK CK]) (hC4b:B b4) (p5_0:inI x5),o_ prog 95 [pt g1,Str.v x2,vI x3,.pointer<|some ⟨b4,o4,none⟩,vI x5] w0<|Q31 w0 g1 B A0 N0 C0 A5 N5 C5 AH NH CH S1_2 x1 res
abbrev k_g (n:Nat):Prop:=i_K (d_n n).impl_indexer_part
theorem T_w0g (bs:k_g n):i_K (g_d n<|d_n n):=by
 constructor
 intro A0 A5 AH AJ AK N0 C0 N5 C5 NH CH g1 NJ CJ NK CK b4 o4 S1_2 B x1 x2 x3 x4 x5 res w0 hm hB1 hBw hBg hG p1_0 p1_1 p1_2 p1_2n p1_2g p1_2d p2_0 p3_0 p4_0 p4_1 p4_2 hC4 hC4b p5_0;unfold g_d at hm
 refine goF func95 z z (lb z) fun fn hr=>Ws<|Ra z<|Wn<|Ws<|Rm z<|R z (V_ z)<|R z (fd e_U z)<|R z (l1 g_36 z fid<|hB1.at z)<|R z (lnR a_k z<|a_.rep p1_2)<|Ra z<|Wn<|Ws<|Rm z<|Rm z<|R z (V_ z)<|R z (fd e_U z)<|R z (l1 g_36 z fid<|hB1.at z)<|Rm z<|Rm z<|Rm z<|R z (bP (parts:=[(0,.tmp 27),(1,.tmp 28),(2,.tmp 29)]) (cs:=[Str.v x2,vI x3,vI x5,vI 0]) k_4 z z)<|E z (fS [(.tmp 30)] b_O z z z (a_d z) (lb z)<|lb z) ?_
 rintro _ am ⟨rfl,a3⟩;have h3:=a3.below;have cE:=a_E a3<|d_s (x:=(⟨x2,x3,x5,0⟩:e_))  p2_0 p3_0 p5_0<|ii z
 obtain ⟨_,bt,b1⟩:=bdS hm;refine E z (a_Q (α:=e_) b_O bt z z (p1_2.e h3) p1_2n (a3.blk:Blk am w0.z [Str.v x2,vI x3,vI x5,vI 0]) (d_s (x:=(⟨x2,x3,x5,0⟩:e_))  p2_0 p3_0 p5_0<|ii z) an_ H_) ?_;rintro _ bu ⟨G,an,ao,ap,rfl,sk,aq,bv,hl⟩;refine R z (V_ z)<|R z (fd e_U z)<|E0 (fs (cur':=[sl A0 N0 C0,sl A5 N5 C5,sl an ao ap]) z_36 z z ((hB1.e h3).c sk<|djs p1_2d) z (lb z) (oA z) z) ?_
 rintro _ bw ⟨bx,bz⟩;have hi:=bz.one;refine Wn<|Wq (Wd (X:=noX) 0 (.rd 0<|.rd 1<|.rd 2<|.rd 3<|.rd 4<|.rd 5<|.rd 6<|.rd 7<|.rd 8<|.rd 9<|.ef 10<|.rd 11<|.rd 12<|.rd 13<|.rd 14<|.rd 15 .done) mo (by kernel_rfl) fun bA sf _=>dR z z (mv z)<|dR z z (V_ z)<|dR z z (fd e_T z) ?_)
 have a4:=bx.e sf;refine dR z z (lN (vs:=[sl A0 N0 C0]) y_ t_ z z fid<|a4.row 0 1 z)<|dR z z (mv z)<|dR z z (mv z)<|dR z z (V_ z)<|dR z z (fd n_b z)<|dR z z (l1 Q_ z fid<|a4.at z)<|dR z z (mv z) ?_
 have a5:=(((h3.ag B).c sk<|c_ p1_2g).c hi<|c_<|b_ hBg).e sf;have a6:=lt_ (lt_ (lt_ h3.s sk.s) hi.s) sf.s;obtain ⟨rm,_,bB,b2⟩:=a_A b1;refine dE z z (fc call157 z<|W_w2u (B:=B) (x1:=(⟨x1.d.rules⟩:d_)) bB (zt' hBw a6) (p1_0.g a5) p3_0 (p1_1.g a5) p5_0) (.inr fun _ _ h=>v_<|h.1) ?_;rintro _ wn ⟨sd,rfl,ar,_⟩;refine dR z z (mv z)<|dR z z (ext_ z z)<|dR z z (ext_ z z)<|dR z z (asg z)<|dR z z (asg z)<|pD<|Wo<|Ws<|Rm z<|Ra z<|Wn<|Wq<|Ws<|Rm z<|R z (V_ z)<|R z (fd e_T z)<|R z (fd X_ z) ?_
 have a8:=a4.e sd;refine R z (l1 a_0 z fid<|a8.at z)<|Rm z ?_
 obtain ⟨xr,bC,b3⟩:=bdS b2;have a9:=a5.e sd;refine RX z (at_ (α:=g_) a_1 p_ z z z (p1_0.g a9) bC) ?_;rintro _ ⟨_,_,_,rfl,bD,bE,_⟩;obtain ⟨au,av,aw,ax,ay,az,aA,aB,aC,aD,aE,aF,rfl,_,_,_,_,_,_,bF⟩:=a_z bE;refine R z (lN (vs:=vR xr au av aw ax ay az aA aB aC aD aE aF) J_ p_ z z fid bD)<|E z (fa b_i) ?_
 rintro _ aG ⟨rfl,aH⟩;have h5:=aH.below;refine E0 (fs (cur':=vR xr au av aw ax ay az aA aB aC aD aE aF) p_ z z (aH.blk:Blk aG wn.z [(Str.v (⟨[]⟩:Str)),vI 0,vI 0,vB false,sl none 0 0,sl none 0 0,sl none 0 0,sl none 0 0]) z (lb z) (oA z) z) ?_;rintro _ ws ⟨aI,bG⟩;have h6:=bG.one;refine Wn<|Ws<|R z (fd a_x z)<|R z (l1 g_3 z fid<|aI.at z)<|Wn<|Wb<|Wq<|Ws<|R z (eql z z)<|Ra z<|Wn ?_
 obtain ⟨bH,ai,b5⟩:=bdS b3;refine Wt (fun a w=>∃ (aa:Bool),aa=bH∧Sat 126 [(0,pt g1),(1,Str.v x2),(2,vI x3),(3,.pointer<|some ⟨b4,o4,none⟩),(11,vI (x1.list_.length:Int)),(12,vI rm),(14,vI x5),(15,pt wn.z),(59,vI xr.kind),(60,vB aa)] a∧Below ws.z ws w) ?_ ?_
 ·refine Wc z (fun a0=>?_)<|fun a0=>?_
  ·exact a_g<|fun _ q=>⟨xr.kind==5,som<|ifT ai a0,q.k<|sc z<|sc z<|sc z<|sc z<|sc z<|sc z<|sc z<|sc z<|sc z<|sc z sn,br ws⟩
  exact Wg<|R z (eql z z)<|Ra z<|Wl (fun _ q=>⟨xr.kind==7,som<|ifF ai a0,q.k<|sc z<|sc z<|sc z<|sc z<|sc z<|sc z<|sc z<|sc z<|sc z<|sc z sn,br ws⟩)
 rintro bI wc ⟨aa,rfl,_,s4⟩;revert bI;refine Wo ?_;obtain ⟨bJ,aj,b6⟩:=bdS b5;refine Wt (fun a w=>∃ (xy:Int),xy=bJ∧Sat 126 [(0,pt g1),(1,Str.v x2),(2,vI x3),(3,.pointer<|some ⟨b4,o4,none⟩),(11,vI (x1.list_.length:Int)),(12,vI rm),(14,vI xy)] a∧Below wc.z wc w∧inI xy) ?_ ?_
 ·refine Wc z (fun a1=>?_)<|fun a1=>?_
  ·refine Wd (X:=noX) 0 (.rd 0<|.rd 1<|.rd 2<|.rd 3<|.rd 4<|.rd 5<|.rd 6<|.rd 7<|.rd 8<|.rd 9<|.rd 10<|.rd 11<|.rd 12<|.rd 13<|.rd 14 .done) mo (by kernel_rfl) fun cF su _=>dR z z (mv z)<|dR z z (mv z)<|dR z z (V_ z)<|dR z z (fd e_T z)<|dR z z (fd X_ z) ?_
   have aJ:=lt_ a6 sd.s;refine dR z z (l1 a_0 z fid<|((((a8.e h5).c h6<|djs<|mm1 (Blk.lt hB1) aJ).e s4).e su).at z)<|dR z z (fd K_ z)<|dR z z (l1 B_ z fid<|((aI.e s4).e su).at z) ?_
   obtain ⟨_,bK,b7⟩:=bdS<|ifT aj a1;have aK : ∀ k∈[wn.z],¬ B k:=or0 (b_ lr)  (m_<|zt' hBw aJ);refine dRX z z (at_ (α:=Int) w_ z_3 z z z (bF.g<|(((h5.ag B).c h6<|c_ aK).e s4).e su) bK) ?_;rintro _ ⟨_,_,_,rfl,bL,bM,_⟩;obtain ⟨rfl,_⟩:=O_ bM;refine dR z z (l1 g_3 z fid<|bL.at0 z) ?_;obtain ⟨bN,bO,b8⟩:=bdS b7;refine dRX z z (at_ (α:=g_) a_1 p_ z z z (p1_0.g<|(((a9.e h5).c h6<|c_ aK).e s4).e su) bO) ?_;rintro _ ⟨_,_,_,rfl,bQ,bR,_⟩;obtain ⟨_,_,_,_,_,_,_,_,_,_,_,_,rfl,_,_,_,_,_,_,_⟩:=a_z bR;exact dR z z (fd a_t z)<|dR z z (l1 g_3 z fid<|bQ.at (j:=2) z)<|dR z z (add_ z z)<|dR z z (asg z)<|pD (fun _ q=>⟨j_ x5 bN.size,som b8,q.k<|s7 z z z z z z z,su,iA _ _⟩)
  refine Ws<|R z (eql z z)<|Ra z<|Wn ?_
  obtain ⟨bS,ak,b9⟩:=bdS<|ifF aj a1;refine Wt (fun a w=>∃ (xv:Int),xv=bS∧Sat 126 [(0,pt g1),(1,Str.v x2),(2,vI x3),(3,.pointer<|some ⟨b4,o4,none⟩),(11,vI (x1.list_.length:Int)),(12,vI rm),(14,vI xv)] a∧Below wc.z wc w∧inI xv) ?_ ?_
  ·refine Wc z (fun a2=>?_)<|fun a2=>?_
   ·exact Wg<|Rm z<|R z (add_ z z)<|Ra z<|Wl (fun _ q=>⟨j_ x5 1,som<|ifT ak a2,q.k<|s7 z z z z z z z,br wc,iA _ _⟩)
   exact a_g<|fun _ q=>⟨x5,som<|ifF ak a2,q.k<|s7 z z z z z z z,br wc,p5_0⟩
  rintro bT _ ⟨xv,rfl,_,bU,bV⟩;revert bT;exact fun _ q=>⟨xv,som b9,q.k<|s7 z z z z z z z,bU,bV⟩
 rintro bW H ⟨xy,rfl,_,sg,bX⟩;revert bW;refine Wo<|Wq<|Ws<|Rm z<|R z (V_ z)<|R z (fd a_j z) ?_
 have hw:=lt_ a6 sd.s;have ab : ∀ k∈[wn.z],¬ B k:=or0 (b_ lr)  (m_<|zt' hBw hw);have aL:=((((((((hC4.e h3).c sk<|(c_ p1_2g) _ hC4b).c hi<|(c_<|b_ hBg) _ hC4b).e sf).e sd).e h5).c h6<|(c_ ab) _ hC4b).e s4).e sg;refine R z (l1 a_F z fid<|aL.at (j:=2) z) ?_;have aM:=(((a9.e h5).c h6<|c_ ab).e s4).e sg;refine R z (lnR a_U z<|p4_2.g aM)<|Rm z<|Wn ?_
 obtain ⟨_,ba,al⟩:=bdS b6;refine Wf (σ:=Int×(List e_)) (ρ:=Int×(List e_)) (fun (aN:Nat) s a w=>un2 (fun xj xo=>∃ I J L S1,Sat 126 [(0,pt g1),(1,Str.v x2),(2,vI x3),(3,.pointer<|some ⟨b4,o4,none⟩),(11,vI (x1.list_.length:Int)),(12,vI rm),(14,vI xj),(85,vI (x4.items.length:Int)),(86,vI ((aN:Nat):Int))] a∧Chg (· ∈ ([g1]++G)) H w∧inI xj∧a_ w S1 (sl I J L) xo∧S1.Nodup∧(∀ k∈S1,k∈G∨H.z≤k)∧Blk w g1 [sl A0 N0 C0,sl A5 N5 C5,sl I J L]) s) (fun s a w=>un2 (fun xj xo=>∃ I J L S1,Sat 126 [(0,pt g1),(11,vI (x1.list_.length:Int)),(12,vI rm)] a∧Chg (· ∈ ([g1]++G)) H w∧inI xj∧a_ w S1 (sl I J L) xo∧S1.Nodup∧(∀ k∈S1,k∈G∨H.z≤k)∧Blk w g1 [sl A0 N0 C0,sl A5 N5 C5,sl I J L]) s) (fun r ex a w=>ex = .ret∧L_ prog fn (Q31 w0 g1 B A0 N0 C0 A5 N5 C5 AH NH CH S1_2 x1 r) a w) ba ?_ ?_ ?_ ?_ ?_
 ·have bY : ∀ k∈G,k∉[g1]:=or2 hl p1_2d an_<|P_ (b_<|Blk.lt hB1) h3.s;exact fun _ q=>⟨an,ao,ap,G,q.k<|s9 z z z z z z z z z,cr ([g1]++G) H,bX,((((((aq.c hi bY).e sf).e sd).e h5).c h6<|ds<|mno (a_.lt aq)<|lt_ (lt_ hi.s sf.s) sd.s).e s4).e sg,bv,io sr,(((a8.e h5).c h6<|djs<|mm1 (Blk.lt hB1) hw).e s4).e sg⟩
 ·rintro aN ⟨xj,xo⟩ _ bZ _ hkz ⟨I,J,L,S1,bb,sp,O,hq,hx,ha,ht⟩ bc;refine Wu ?_ bb;refine Ws<|R z (lss z z)<|Wn<|Wq<|Wc z (fun _=>?_) (fun hc=>(a_3 hkz hc).elim)
  refine Wk<|Wq<|Wb<|Ws<|Rm z<|Ra z<|Wn (Wd (X:=noX) 67108864 (.rd 0<|.rd 1<|.rd 2<|.rd 3<|.rd 4<|.rd 5<|.rd 6<|.rd 7<|.rd 8<|.rd 11<|.rd 12<|.rd 13<|.rd 14<|.rd 15<|.rd 16<|.rd 17<|.rd 19<|.rd 20<|.rd 21<|.rd 22<|.rd 23<|.rd 24<|.rd 25<|.ef 9<|.rd 10<|.ef 18<|.ef 26<|.rd 27 .done) mo (by kernel_rfl) fun c0 sh _=>dR z z (mv z)<|dR z z (mv z) ?_)
  obtain ⟨_,c1,be⟩:=bdS<|b_1 bc;refine dR z z (c_X z z c1)<|dR z z (mv z)<|dR z z (V_ z)<|dR z z (fd e_T z) ?_
  have ad:=ht.e sh;refine dR z z (lN (vs:=[sl A0 N0 C0]) y_ t_ z z fid<|ad.row 0 1 z) ?_
  iterate 3 refine dR z z (mv z) ?_
  refine dR z z (V_ z)<|dR z z (fd e_T z)<|dR z z (lN (vs:=[sl A0 N0 C0]) y_ t_ z z fid<|ad.row 0 1 z) ?_
  iterate 4 refine dR z z (mv z) ?_
  refine dR z z (V_ z)<|dR z z (fd a_j z) ?_
  have V : ∀ k∈G,¬ B k:=or2 hl p1_2g an_<|m_<|zt' hBw h3.s;have aO:=(aL.c sp<|(nmA (c_<|b_ hBg)<|c_ V) _ hC4b).e sh;refine dR z z (l1 a_F z fid<|aO.at (j:=2) z)<|dR z z (mv z) ?_
  obtain ⟨_,c2,bf⟩:=bdS be;have ae:=(aM.c sp<|nmA (c_<|b_ hBg)<|c_ V).e sh;refine dRX z z (at_ (α:=Val) a_U i_ z z z (p4_2.g ae) c2) ?_;rintro _ ⟨_,_,_,rfl,c3,c4,c5⟩;obtain ⟨_,_,_,_,_,_,rfl,c6,c7,c8⟩:=j_p c4;refine dR z z (mv z) ?_;have aP:=((((((((((hG.e h3).c sk<|c_ p1_2g).c hi<|c_<|b_ hBg).e sf).e sd).e h5).c h6<|c_ ab).e s4).e sg).c sp<|nmA (c_<|b_ hBg)<|c_ V).e sh;have af:=lt_ (lt_ (lt_ (lt_ hw h5.s) h6.s) s4.s) sg.s;have aQ:=lt_ (lt_ af sp.s) sh.s;obtain ⟨_,ca,bg⟩:=bdS bf;refine dE z z (fc call158 z<|W_w2w (B:=B) (x1:=(⟨x1.d.rules⟩:d_)) ca (zt' hBw aQ) aP (p1_0.g ae) p3_0<|ic (Nat.le_of_lt hkz)<|lt_ (repS.len p4_2) M_) (.inr fun _ _ h=>v_<|h.1) ?_;rintro _ cb ⟨sb,rfl,_⟩;obtain ⟨_,aR,bh⟩:=bdS bg;refine dR z z (c_X z z aR) ?_;have W:=ae.e sb;have aS:=lt_ aQ sb.s;obtain ⟨_,cc,bi⟩:=bdS bh;refine dE z z (fc call159 z<|W_w2x (B:=B) (x1:=(⟨x1.d.rules⟩:d_)) cc (zt' hBw aS) (p1_0.g W) p3_0 p4_0 (p4_1.g W) (p4_2.g W) (aO.e sb) hC4b<|ic (Nat.le_of_lt hkz)<|lt_ (repS.len p4_2) M_) (.inr fun _ _ h=>v_<|h.1) ?_;rintro _ cd ⟨se,rfl,ce⟩;have aT:=W.e se;have aU:=(sb.ag B).e se;obtain ⟨cf,cg,ch,bj⟩:=a_A bi;refine dE z z (fc call95 z<|bs.run (B:=B) ch ((ad.e sb).e se) (zt' hBw<|lt_ aS se.s) hBg ((aP.e sb).e se) (p1_0.g aT) (p1_1.g aT) (((hq.e sh).e sb).e se) hx (or1 ha V (m_<|zt' hBw af) : ∀ k∈S1,¬ B k) (or1 ha (or2 hl p1_2d an_ (P_ (b_<|Blk.lt hB1) h3.s) : ∀ k∈G,k∉[g1]) (P_ (b_<|Blk.lt hB1) af) : ∀ k∈S1,k∉[g1]) (d_u aR) ce c6 (c7.g aU) (c8.g aU) ((c3.e sb).e se) c5 O) (.inl z) ?_;rintro _ ci ⟨cj,ck,cl,cm,aV,rfl,cn,co,cp,cq,ct⟩;refine dR z z (asg z)<|pD<|Wo<|Wg<|R z (inc_ hkz (lt_ (repS.len p4_2) M_) z z)<|Rm z<|Wl ?_
  exact fun _ q=>⟨(cf,cg),(som bj).symm,⟨ck,cl,cm,aV,q.k<|s9 z z z z z z z z z,(cM (f_ (f_ (f_ (cM (cr ([g1]++G) H) sp (aa_ (io<|x_ sr)<|io<|A_ sr):Chg (· ∈ ([g1]++G)) H bZ) sh:Chg (· ∈ ([g1]++G)) H c0) sb:Chg (· ∈ ([g1]++G)) H cb) se:Chg (· ∈ ([g1]++G)) H cd) cj (aa_ (io<|x_ sr) (or1 ha (io<|A_ sr) (z_ lr) : ∀ k∈S1,k∈([g1]++G)∨H.z≤k)):Chg (· ∈ ([g1]++G)) H ci),cn,co,cp,(or1 cq (or1 ha (io sr) (z_ lr) : ∀ k∈S1,k∈G∨H.z≤k) (z_<|lt_ (lt_ (lt_ sp.s sh.s) sb.s) se.s) : ∀ k∈aV,k∈G∨H.z≤k),ct⟩⟩
 ·rintro ⟨xj,xo⟩ _ cu ⟨I,J,L,S1,bk,cv,O,hq,hx,ha,ht⟩;refine Wu ?_ bk;refine Ws<|R z (lss z z)<|Wn<|Wq<|Wc z (fun hc=>(a_4 hc).elim) (fun _=>?_)
  exact We<|fun a' ha'=>⟨rfl,⟨I,J,L,S1,Sat.weaken ha'<|s3 z z z,(cM (cr ([g1]++G) H) cv (aa_ (io<|x_ sr)<|io<|A_ sr):Chg (· ∈ ([g1]++G)) H cu),O,hq,hx,(or1 ha (io sr) (z_ lr) : ∀ k∈S1,k∈G∨H.z≤k),ht⟩⟩
 ·rintro ⟨xj,xo⟩ cw cx rfl ⟨I,J,L,S1,_,aW,O,hq,hx,ha,ht⟩;have bm:=elL al;revert cw;refine Wo<|Ws<|Rm z<|R z (V_ z)<|R z (fd e_U z)<|R z (l1 g_36 z fid<|ht.at z)<|Rm z<|Rm z ?_
  obtain ⟨ah,aX,bn⟩:=bdS<|b_1 bm;refine RX z (i_7 (α:=e_) a_k a_o z z hq aX) ?_;rintro _ ⟨_,cy,rfl⟩;refine R z (fd e_V z) ?_;obtain ⟨_,cz,bo⟩:=bdS bn;refine E0 (i_8 (α:=e_) (v':=(⟨ah.path,ah.rule,ah.start,rm⟩:e_)) z_3 z cy z z z z aX cz hq hx (lb z)<|fun _ _ _ h=>j_C h ar) ?_;rintro _ cA ⟨aY,aZ,cB,cC,cD⟩;refine Wn<|Ws<|Rm z<|Ra z<|Wn ?_
  obtain rfl:=som bo;have b0 : ∀ k∈G,k∈([g1]++S1_2)∨w0.z≤k:=or2 hl (io<|A_ sr) an_<|z_ h3.s;have Y:=lt_ (lt_ (lt_ (lt_ hw h5.s) h6.s) s4.s) sg.s;exact Wr<|h_ hr z ⟨(cM (cM (f_ (f_ (cM (f_ (f_ (f_ (cM (cM (f_ (cr ([g1]++S1_2) w0) h3:Chg (· ∈ ([g1]++S1_2)) w0 am) sk (io<|A_ sr):Chg (· ∈ ([g1]++S1_2)) w0 bu) hi (io<|x_ sr):Chg (· ∈ ([g1]++S1_2)) w0 bw) sf:Chg (· ∈ ([g1]++S1_2)) w0 bA) sd:Chg (· ∈ ([g1]++S1_2)) w0 wn) h5:Chg (· ∈ ([g1]++S1_2)) w0 aG) h6 (mor hw : ∀ k∈[wn.z],k∈([g1]++S1_2)∨w0.z≤k):Chg (· ∈ ([g1]++S1_2)) w0 ws) s4:Chg (· ∈ ([g1]++S1_2)) w0 wc) sg:Chg (· ∈ ([g1]++S1_2)) w0 H) aW (aa_ (io<|x_ sr) b0):Chg (· ∈ ([g1]++S1_2)) w0 cx) aZ (or1 ha b0 (z_ Y) : ∀ k∈S1,k∈([g1]++S1_2)∨w0.z≤k):Chg (· ∈ ([g1]++S1_2)) w0 cA),I,J,L,aY,z,ar,cB,cC,(or1 cD (or1 ha (or2 hl (io sr) an_ (z_ h3.s) : ∀ k∈G,k∈S1_2∨w0.z≤k) (z_ Y) : ∀ k∈S1,k∈S1_2∨w0.z≤k) (z_<|lt_ Y aW.s) : ∀ k∈aY,k∈S1_2∨w0.z≤k),ht.c aZ<|djs (or1 ha (or2 hl p1_2d an_ (P_ (b_<|Blk.lt hB1) h3.s) : ∀ k∈G,k∉[g1]) (P_ (b_<|Blk.lt hB1) Y) : ∀ k∈S1,k∉[g1])⟩
 rintro _ _ _ _ rfl ⟨rfl,bp⟩;have bq:=elR al;obtain rfl:=som bq;exact ⟨bp,z⟩
theorem A_w0g : ∀ n,k_g n
  | 0=>⟨fun hm=>by intros;exact nomatch (show none=some _ from hm)⟩
  | n+1=>T_w0g<|A_w0g n
theorem W_w0g:i_K (d_n n).impl_indexer_part:=A_w0g n

theorem W_w2y {x1:d_} {x2:List UInt8} {res:(List e_)×Bool} (hm:g_f n x1 x2=some res) (hBw:B≤w0.z) (hG:Gl w0 B) (p1_0:repS w0 B (sl A0 N0 C0) x1.rules) (p2_0:repS w0 B (sl A6 N6 C6) x2):o_ prog 36 [(.agg #[sl A0 N0 C0]),sl A6 N6 C6] w0 (Q18 w0 B res):=by
 unfold g_f at hm
 refine goF func36 z z (lb z) fun fn hr=>Ws<|E z (fb z) ?_
 rintro _ wr ⟨rfl,hc⟩;have h2:=hc.below;have h6:Blk wr w0.z [sl A0 N0 C0]:=hc.blk;refine Ra z<|Ra z<|Wn<|Ws<|R z (lN (vs:=[sl A0 N0 C0]) y_ t_ z z fid<|h6.row 0 1 z)<|Rm z ?_
 have hd:=hG.e h2;obtain ⟨rs,_,_,ew,hme⟩:=r_ hm;refine E z (fc call94 z<|W_w2s (B:=B) ew (zt' hBw h2.s) hd (p1_0.e h2)<|p2_0.e h2) ?_;rintro _ wf ⟨s5,ax,ny,cz,_,V,W,Y,_,rfl,a0,I,J,_,_,_,_⟩;refine Rm z ?_
 iterate 3 refine R z (ext_ z z) ?_
 refine E z (fa a_b) ?_;rintro _ wg ⟨rfl,hh⟩;have G:=hh.below;have hi:Blk wg wf.z [vI 0,sl none 0 0,sl none 0 0]:=hh.blk;refine E0 (fs (cur':=[vI rs.number,sl ax ny cz,sl V W Y]) i_ z z hi z (lb z) (oA z) z) ?_;rintro _ wj ⟨a1,a2⟩;have h1:=a2.one;refine Ra z<|Ra z<|Wn<|Wq<|Ws<|Rm z<|R z (nq z z)<|Wn<|Wc z (fun H=>?_) (fun H=>?_)
 ·refine Ws<|E z (f0 (α:=e_) b_O) ?_
  rintro _ _ ⟨a3,a4,a5,rfl,a6,a7⟩;refine Ra z<|Ra z<|Wn ?_
  obtain rfl:=som<|ifT hme H;have hk:=lt_ h2.s s5.s;exact Wr<|a_R hr z z ⟨bup (bM (bup (bup h2 s5) G) h1<|m1 hk) a6,a3,a4,a5,[wj.z],z,a7,a_h,m1<|lt_ (lt_ hk G.s) h1.s⟩
 refine Wk<|Ws ?_
 have hl:=((h6.e s5).e G).c h1<|djs<|mm1 h6.lt s5.s
 refine R z (lN (vs:=[sl A0 N0 C0]) y_ t_ z z fid<|hl.row 0 1 z)<|Rm z<|R z (bP (parts:=[(0,.tmp 20),(1,.tmp 21)]) (cs:=[sl A0 N0 C0,sl A6 N6 C6,sl none 0 0]) n_4 z z)<|E z (fb z) ?_
 rintro _ a8 ⟨rfl,hn⟩;have h3:=hn.below;refine Ra z<|Wn<|Ws<|Rm z<|R z (lN (vs:=[sl A0 N0 C0]) y_ t_ z z fid<|(hl.e h3).row 0 1 z) ?_
 have ha:=lt_ h2.s s5.s;have ho : ∀ k∈[wf.z],¬ B k:=or0 (b_ lr)  (m_<|zt' hBw ha);have hp:=((((h2.ag B).e s5).e G).c h1<|c_ ho).e h3;have hq:=lt_ ha G.s;have ht:=lt_ hq h1.s;have hu:=lt_ ht h3.s;obtain ⟨_,a9,L⟩:=bdS<|ifF hme H;refine E z (fc call96 z<|i_u (B:=B) a9 (zt' hBw hu)<|p1_0.g hp) ?_;rintro _ _ ⟨s4,rfl,aa⟩;have hv:=hp.e s4;have hb:=zt' hBw hq;obtain ⟨_,_,ab,O⟩:=a_A L;refine E z (fc call95 z<|W_w0g.run (B:=wg.z) ab ((hn.blk:Blk a8 wj.z [sl A0 N0 C0,sl A6 N6 C6,sl none 0 0]).e s4) (a_s<|lt_ (lt_ h1.s h3.s) s4.s) (atp<|nbl<|m1 h1.s) ((((((hd.e s5).e G).c h1<|c_ ho).e h3).e s4).mono hb) (repS.mono (p1_0.g hv) hb) (repS.mono (p2_0.g hv) hb) onL H_ (nbl an_) an_ (lb z) aa a0 (repS.mono (or_ ((((I.e G).c h1<|ds<|mnr<|a_.lt I).e h3).e s4)<|a_.lt I)<|a_s G.s) (repS.mono (or_ ((((J.e G).c h1<|ds<|mnr<|a_.lt J).e h3).e s4)<|a_.lt J)<|a_s G.s) (((a1.e h3).e s4).row 0 3 z) hi.lt<|ii z) ?_;rintro _ _ ⟨ad,ae,af,ah,Sm,rfl,_,ai,aj,ak,al⟩;refine Wn<|Ws<|Rm z<|R z (V_ z)<|R z (fd e_U z)<|R z (l1 g_36 z fid<|al.at z)<|Ra z<|Ra z<|Wn ?_
 obtain rfl:=som O;exact Wr<|a_R hr z z ⟨bM (bup (bup (bM (bup (bup h2 s5) G) h1<|m1 ha) h3) s4) ad<|aa_ (m1 ht) an_,ae,af,ah,Sm,z,ai,aj,(or1 ak an_ (b_7<|lt_ hu s4.s) : ∀ k∈Sm,w0.z≤k)⟩
def Q32 (w0:World) (B:Zone) (r:(List UInt8)×(List e_)×Bool) (v:Value) (w':World):Prop:=Bw w0 w'∧un3 (fun O V W=>∃ G H I S1 a2 J L S2,v = .tuple #[sl G H I,sl a2 J L,vB W]∧a_ w' S1 (sl G H I) O∧a_ w' S2 (sl a2 J L) V∧(S1++S2).Nodup∧(∀ k∈(S1++S2),w0.z≤k)) r
theorem W_w2z {x1:d_} {x2:List e_} {x3:List UInt8} {x4:Int} {x5:Int} {x6:List UInt8} {res:(List UInt8)×(List e_)×Bool} (hm:f_o n x1 x2 x3 x4 x5 x6=some res) (hBw:B≤w0.z) (hG:Gl w0 B) (p1_0:repS w0 B (sl A0 N0 C0) x1.rules) (p2_0:repS w0 B (sl A6 N6 C6) x2) (p3_0:repS w0 B (sl A7 N7 C7) x3) (p4_0:inI x4) (p5_0:inI x5) (p6_0:repS w0 B (sl AL NL CL) x6):o_ prog 45 [(.agg #[sl A0 N0 C0]),sl A6 N6 C6,sl A7 N7 C7,vI x4,vI x5,sl AL NL CL] w0 (Q32 w0 B res):=by
 unfold f_o at hm
 refine goF func45 z z (lb z) fun fn hr=>Ws<|E z (fb z) ?_
 rintro _ wr ⟨rfl,hd⟩;have G:=hd.below;refine Ra z<|Ra z<|Ra z<|Wn<|Ws<|Rm z<|Rm z<|Rm z<|Rm z ?_
 obtain ⟨_,_,es,hmv⟩:=a_A hm;refine E z (fc call60 z<|W_w2k (B:=B) es (zt' hBw G.s) (p3_0.e G) p4_0 p5_0<|p6_0.e G) ?_;rintro _ H ⟨s1,aw,nx,cy,Sz,rfl,h4,Y,a0⟩;refine Rm z<|R z (ext_ z z)<|R z (ext_ z z)<|Ra z<|Ra z<|Wn<|Wq<|Ws<|Rm z<|Wn ?_
 obtain ⟨a1,hue,hmf⟩:=bdS hmv;refine Wt (fun a w=>Sum.inl ()=a1∧Sat 43 [(1,sl A6 N6 C6),(2,sl A7 N7 C7)] a∧Below H.z H w) ?_ ?_
 ·refine Wc z (fun I=>?_)<|fun I=>?_
  ·refine Ws<|R z (lN (vs:=[sl A0 N0 C0]) y_ t_ z z fid<|((hd.blk:Blk wr w0.z [sl A0 N0 C0]).e s1).row 0 1 z)<|Rm z ?_
   have hg:=lt_ G.s s1.s;have hh:=zt' hBw hg;obtain ⟨_,_,a2,hmi⟩:=a_A<|ifT hue I;refine E z (fc call36 z<|W_w2y (B:=H.z) a2 zr (((hG.e G).e s1).mono hh) (repS.mono (p1_0.g<|(G.ag B).e s1) hh)<|a_.rep h4) ?_;rintro _ _ ⟨s6,a3,a4,a5,a6,rfl,a7,a8,hj⟩;refine Rm z<|R z (ext_ z z)<|R z (ext_ z z)<|Ra z<|Ra z<|Wn<|Ws<|Rm z<|Wn<|Wc z (fun J=>?_) (fun J=>?_)
   ·refine Ws<|Rm z<|Rm z<|Ra z<|Ra z<|Ra z<|Wn ?_
    obtain rfl:=som<|ifT hmi J;have L:=elR hmf;obtain rfl:=som L;exact Wr<|F_ hr z z z ⟨bup (bup G s1) s6,aw,nx,cy,Sz,a3,a4,a5,a6,z,h4.e s6,a7,na_ Y a8<|ds<|a_H hj (a_.lt h4) lr,aa_ (l_ a0 G.s)<|l_ hj hg⟩
   exact a_g<|fun _ q=>⟨som<|ifF hmi J,q.k<|s2 z z,s6⟩
  exact a_g<|fun _ q=>⟨som<|ifF hue I,q.k<|s2 z z,br H⟩
 rintro a9 aa ⟨rfl,_,s8⟩;have O:=elL hmf;revert a9;refine Wo<|Ws<|E z (f0 (α:=UInt8) R_) ?_
 rintro _ _ ⟨_,_,_,rfl,s9,ab⟩;refine Rm z ?_;obtain ⟨_,ad,V⟩:=bdS O;have hk:=(((G.ag B).e s1).e s8).e s9;refine E z (fN (α:=UInt8) R_ ad z z ab a_h<|p3_0.g hk) ?_;rintro _ _ ⟨ae,af,ah,ai,rfl,sa,hb,aj,ak⟩;refine E z (f0 (α:=e_) b_O) ?_;rintro _ _ ⟨_,_,_,rfl,s3,al⟩;refine Rm z ?_;obtain ⟨_,am,W⟩:=bdS V;have hc:=lt_ (lt_ G.s s1.s) s8.s;refine E z (fN (α:=e_) b_O am z z al a_h<|p2_0.g<|(hk.c sa<|c_ (or0 (b_ lr)  (m_<|zt' hBw hc) : ∀ k∈[aa.z],¬ B k)).e s3) ?_;rintro _ _ ⟨an,ao,ap,aq,rfl,sm,ar,au,hl⟩;refine Ra z<|Ra z<|Ra z<|Wn ?_
 obtain rfl:=som W;have hn:=mnr<|a_.lt hb
 have ho:=m1 hc;have hp:=lt_ hc s9.s;have hq:=lt_ hp sa.s;have ht:=m1 hq;exact Wr<|F_ hr z z z ⟨bM (bup (bM (bup (bup (bup G s1) s8) s9) sa ho) s3) sm ht,af,ah,ai,ae,ao,ap,aq,an,z,(hb.e s3).c sm<|ds hn,ar,na_ aj au<|ds<|e_o hl hn (a_.lt hb) s3.s,aa_ (a_2 ak ho hp)<|a_2 hl ht<|lt_ hq s3.s⟩
theorem W_w30 {x1:List UInt8} {x2:Int} {x3:Int} {x4:List UInt8} {res:(List UInt8)×Bool} (hm:f_I x1 x2 x3 x4=some res) (hBw:B≤w0.z) (p1_0:repS w0 B (sl A0 N0 C0) x1) (p2_0:inI x2) (p3_0:inI x3) (p4_0:repS w0 B (sl AI NI CI) x4):o_ prog 17 [sl A0 N0 C0,vI x2,vI x3,sl AI NI CI] w0 (Q13 w0 B res):=by
 unfold f_I at hm
 refine goF func17 z z (lb z) fun fn hr=>Ws<|Ra z<|Ra z<|Wn<|Wq<|Wq ?_
 obtain ⟨ur,hug,hmh⟩:=bdS hm;refine Wt (fun a w=>∃ (O:Bool),O=ur∧Sat 46 [(0,sl A0 N0 C0),(1,vI x2),(2,vI x3),(3,sl AI NI CI),(29,vB O)] a∧Below w0.z w0 w) ?_ ?_
 ·refine Wg<|Rm z<|R z (lss z z)<|Rm z ?_
  rcases bs (decide<|x2<0) with I | I
  ·exact Nh z I<|Nh z I<|R z (pT z I z)<|Rm z<|Nh z z<|Nh z z<|Nh z z<|Nh z z<|R z (pT z z z)<|Rm z<|Nh z z<|Nh z z<|Nh z z<|Nh z z<|Nh z z<|Nh z z<|R z (pT z z z)<|Wl (fun _ q=>⟨true,som<|ifT hug I,q.k<|s5 z z z z z,br w0⟩)
  have hmi:=ifF hug I;refine Rh z I (mv z)<|Rh z I (lss z z)<|R z (pF z I z)<|Rm z ?_
  rcases bs (decide<|x3<0) with H | H
  ·iterate 4 refine Nh z H ?_
   exact R z (pT z H z)<|Rm z<|Nh z z<|Nh z z<|Nh z z<|Nh z z<|Nh z z<|Nh z z<|R z (pT z z z)<|Wl (fun _ q=>⟨true,som<|ifT hmi H,q.k<|s5 z z z z z,br w0⟩)
  have hmj:=ifF hmi H;refine Rh z H (mv z)<|Rh z H (mv z)<|Rh z H (lnR n_ z p1_0)<|Rh z H (a_9 z z)<|R z (pF z H z)<|Rm z ?_
  rcases bs (decide<|(x1.length:Int)<x3) with G | G
  ·iterate 6 refine Nh z G ?_
   exact R z (pT z G z)<|Wl (fun _ q=>⟨true,som<|ifT hmj G,q.k<|s5 z z z z z,br w0⟩)
  exact Rh z G (mv z)<|Rh z G (mv z)<|Rh z G (lnR n_ z p1_0)<|Rh z G (mv z)<|Rh z G (sb_ z z)<|Rh z G (a_9 z z)<|R z (pF z G z)<|Wl (fun _ q=>⟨decide<|(I_ (x1.length:Int) x3)<x2,som<|ifF hmj G,q.k<|s5 z z z z z,br w0⟩)
 rintro az J ⟨O,rfl,_,s3⟩;revert az;refine Wo<|Wc z (fun L=>?_) (fun L=>?_)
 ·refine Ws<|E z (f0 (α:=UInt8) R_) ?_
  rintro _ _ ⟨_,_,_,rfl,sa,a3⟩;refine Rm z ?_;obtain ⟨_,es,V⟩:=bdS<|ifT hmh L;refine E z (fN (α:=UInt8) R_ es z z a3 a_h<|p1_0.g<|(s3.ag B).e sa) ?_;rintro _ _ ⟨a4,a5,a6,a7,rfl,a8,a9,aa,ab⟩;refine Ra z<|Ra z<|Wn ?_
  obtain rfl:=som V;have hl:=m1 s3.s;exact Wr<|a_R hr z z ⟨bM (bup s3 sa) a8 hl,a5,a6,a7,a4,z,a9,aa,a_2 ab hl<|lt_ s3.s sa.s⟩
 refine Wk<|Wq (Wd (X:=fun k=>k∈([]:List Nat)∨J.z≤k) 0 (.rd 1<|.rd 2<|.rd 3<|.rd 5<|.rd 7<|.rd 8<|.rd 9<|.rd 10<|.rd 11<|.ef 0<|.ef 4<|.ef 6<|.ef 12<|.rd 13<|.rd 14 .done) mo (by kernel_rfl) fun wk s6 _=>dR z z (mv z)<|dR z z (mv z) ?_)
 obtain ⟨_,ad,W⟩:=bdS<|ifF hmh L;have hn:=(s3.ag B).e s6;have ho:=p1_0.g hn;refine dRX z z (rX n_ z_5 z z ho z z ad) ?_;rintro _ ⟨_,_,_,rfl,ae⟩
 iterate 4 refine dR z z (mv z) ?_
 refine dR z z (add_ z z) ?_;obtain ⟨_,af,Y⟩:=bdS W;refine dRX z z (rX n_ z_5 z z ho z z af) ?_;rintro _ ⟨_,_,_,rfl,ah⟩;refine dE z z (f0 (α:=UInt8) R_) (.inr fun _ _ h=>v_ (by obtain ⟨_,_,_,_,h,_⟩:=h;exact h)) ?_;rintro _ _ ⟨_,_,_,rfl,s4,ai⟩;obtain ⟨_,aj,a0⟩:=bdS Y;have hp : ∀ k∈[wk.z],k∈([]:List Nat)∨J.z≤k:=mor s6.s;refine dE z z (fN (α:=UInt8) R_ aj z z ai a_h<|ae.e s4) (.inr fun _ _ h=>by obtain ⟨_,_,_,_,_,h,_⟩:=h;exact h.mono fun k _ hk=>hp k hk) ?_;rintro _ _ ⟨Sm,_,_,_,rfl,s7,ak,al,hb⟩;obtain ⟨_,am,a1⟩:=bdS a0;have hc:=lt_ s3.s s6.s;have hd : ∀ k∈[wk.z],¬ B k:=or0 (b_ lr)  (m_<|zt' hBw hc);have hq:=lt_ s6.s s4.s;have ht : ∀ k∈Sm,k∈([]:List Nat)∨J.z≤k:=or1 hb hp<|z_ hq;refine dE z z (fN (α:=UInt8) R_ am z z ak al<|p4_0.g<|(hn.e s4).c s7<|c_ hd) (.inr fun _ _ h=>by obtain ⟨_,_,_,_,_,h,_⟩:=h;exact h.mono fun k _ hk=>ht k hk) ?_;rintro _ _ ⟨an,_,_,_,rfl,se,ao,ap,hu⟩;obtain ⟨_,aq,a2⟩:=bdS a1;have hf:=lt_ hc s4.s;refine dE z z (fN (α:=UInt8) R_ aq z z ao ap<|ah.g<|((s4.ag B).c s7<|c_ hd).c se<|c_ (or1 hb hd (m_<|zt' hBw hf) : ∀ k∈Sm,¬ B k)) (.inr fun _ _ h=>by obtain ⟨_,_,_,_,_,h,_⟩:=h;exact h.mono fun k _ hk=>(or1 hu ht (z_<|lt_ hq s7.s) : ∀ k∈an,k∈([]:List Nat)∨J.z≤k) k hk) ?_;rintro _ _ ⟨ar,au,av,aw,rfl,ax,ay,aA,aB⟩;refine dR z z (asg z)<|dR z z (asg z)<|pD<|Wo ?_
 obtain rfl:=som a2;have hv:=m1 hc;have hw:=a_2 hb hv hf;have hx:=lt_ hf s7.s;have hy:=a_2 hu hw hx;exact Wr<|a_R hr z z ⟨bM (bM (bM (bup (bup s3 s6) s4) s7 hv) se hw) ax hy,au,av,aw,ar,z,ay,aA,a_2 aB hy<|lt_ hx se.s⟩
theorem W_w1t {x1:List UInt8} {x2:List UInt8} {res:Bool} (hm:d_Y x1 x2=some res) (hBw:B≤w0.z) (p1_0:repS w0 B (sl A0 N0 C0) x1) (p2_0:repS w0 B (sl A6 N6 C6) x2):o_ prog 13 [sl A0 N0 C0,sl A6 N6 C6] w0 (Q0 w0 B res):=by
 unfold d_Y at hm
 refine goF func13 z z (lb z) fun fn hr=>Ws<|Ra z<|Wn<|Wq<|Ws<|Rm z<|R z (lnR n_ z p1_0)<|Rm z<|R z (lnR n_ z p2_0)<|R z (nq z z)<|Wn<|Wc z (fun H=>?_) (fun H=>?_)
 ·refine Ws<|Ra z<|Wn ?_
  obtain rfl:=som<|ifT hm H;exact Wr<|h_ hr z ⟨br w0,z⟩
 refine Wk<|Wq<|Ws<|Ra z<|Wn ?_
 obtain ⟨_,hua,J⟩:=bdS<|ifF hm H;refine Wf (σ:=Unit) (ρ:=Bool) (fun (k5:Nat) (_:Unit) a w=>Sat 26 [(0,sl A0 N0 C0),(1,sl A6 N6 C6),(5,vI ((k5:Nat):Int))] a∧Below w0.z w0 w) (fun (_:Unit) a w=>Sat 26 [] a∧Below w0.z w0 w) (fun r ex a w=>ex = .ret∧L_ prog fn (Q0 w0 B r) a w) hua ?_ ?_ ?_ ?_ ?_
 ·exact fun _ q=>⟨q.k<|s3 z z z,br w0⟩
 ·rintro k5 _ _ _ _ L ⟨hSb,G⟩ hmc;refine Wu ?_ hSb;refine Wq<|Ws<|Rm z<|Rm z<|R z (lnR n_ z<|p1_0.e G)<|R z (lss z z)<|Wn<|Wc z (fun _=>?_) (fun hc=>(a_3 L hc).elim)
  refine Wk<|Wq<|Wb<|Wq (Wd (X:=noX) 0 (.rd 0<|.rd 1<|.rd 2<|.rd 3<|.rd 4<|.rd 5<|.rd 6<|.rd 7<|.rd 8 .done) mo (by kernel_rfl) fun wu s2 _=>dR z z (mv z)<|dR z z (mv z) ?_)
  obtain ⟨_,ed,hme⟩:=bdS hmc;have V:=(G.ag B).e s2;refine dRX z z (at_ (α:=UInt8) n_ z_5 z z z (p1_0.g V) ed) ?_;rintro _ ⟨_,_,_,rfl,hf,hg,_⟩;obtain rfl:=u8 hg;refine dR z z (l1 g_5 z fid<|hf.at0 z)<|dR z z (mv z)<|dR z z (mv z) ?_
  obtain ⟨_,eh,O⟩:=bdS hme;refine dRX z z (at_ (α:=UInt8) n_ z_5 z z z (p2_0.g V) eh) ?_;rintro _ ⟨_,_,_,rfl,hi,hj,_⟩;obtain rfl:=u8 hj;refine dR z z (l1 g_5 z fid<|hi.at0 z)<|dR z z (nq z z)<|pD<|Wo<|Wc z (fun I=>?_) (fun I=>?_)
  ·exact Ws<|Ra z<|Wn<|Wr<|rtO<|qL (som<|ifT O I).symm<|h_ hr z ⟨bup G s2,z⟩
  exact Wk<|Wg<|Rm z<|R z (inc_ L (lt_ (repS.len p1_0) M_) z z)<|Ra z<|Wl (fun _ q=>⟨(),(som<|ifF O I).symm,⟨q.k<|s3 z z z,bup G s2⟩⟩)
 ·rintro _ _ _ ⟨hSk,s9⟩;refine Wu ?_ hSk;refine Wq<|Ws<|Rm z<|Rm z<|R z (lnR n_ z<|p1_0.e s9)<|R z (lss z z)<|Wn<|Wc z (fun hc=>(a_4 hc).elim) (fun _=>?_)
  exact We<|fun a' ha'=>⟨rfl,⟨Sat.weaken ha' sn,s9⟩⟩
 ·rintro _ al _ rfl ⟨_,sm⟩;have hmn:=elL J;revert al;refine Wo<|Ws<|Ra z<|Wn ?_
  obtain rfl:=som hmn;exact Wr<|h_ hr z ⟨sm,z⟩
 rintro _ _ _ _ rfl ⟨rfl,hqo⟩;have hmp:=elR J;obtain rfl:=som hmp;exact ⟨hqo,z⟩
theorem W_w31 {x1:List e_} {x2:List e_} {res:Bool} (hm:h_h x1 x2=some res) (hBw:B≤w0.z) (p1_0:repS w0 B (sl A0 N0 C0) x1) (p2_0:repS w0 B (sl A6 N6 C6) x2):o_ prog 97 [sl A0 N0 C0,sl A6 N6 C6] w0 (Q0 w0 B res):=by
 unfold h_h at hm
 refine goF func97 z z (lb z) fun fn hr=>Ws<|Ra z<|Wn<|Wq<|Ws<|Rm z<|R z (lnR a_k z p1_0)<|Rm z<|R z (lnR a_k z p2_0)<|R z (nq z z)<|Wn<|Wc z (fun G=>?_) (fun G=>?_)
 ·refine Ws<|Ra z<|Wn ?_
  obtain rfl:=som<|ifT hm G;exact Wr<|h_ hr z ⟨br w0,z⟩
 refine Wk<|Wq<|Ws<|Rm z<|R z (lnR a_k z p1_0)<|Rm z<|Wn ?_
 obtain ⟨_,hub,I⟩:=bdS<|ifF hm G;refine Wf (σ:=Unit) (ρ:=Bool) (fun (k7:Nat) (_:Unit) a w=>Sat 26 [(0,sl A0 N0 C0),(1,sl A6 N6 C6),(12,vI (x1.length:Int)),(13,vI ((k7:Nat):Int))] a∧Below w0.z w0 w) (fun (_:Unit) a w=>Sat 26 [] a∧Below w0.z w0 w) (fun r ex a w=>ex = .ret∧L_ prog fn (Q0 w0 B r) a w) hub ?_ ?_ ?_ ?_ ?_
 ·exact fun _ q=>⟨q.k<|s4 z z z z,br w0⟩
 ·rintro k7 _ _ _ _ J ⟨hSc,s2⟩ hmd;refine Wu ?_ hSc;refine Ws<|R z (lss z z)<|Wn<|Wq<|Wc z (fun _=>?_) (fun hc=>(a_3 J hc).elim)
  refine Wk<|Wq<|Wb<|Ws<|Rm z<|Ra z<|Wn<|Wq (Wd (X:=noX) 0 (.rd 0<|.rd 1<|.rd 2<|.rd 3<|.rd 4<|.rd 5<|.rd 6<|.rd 7<|.rd 8 .done) mo (by kernel_rfl) fun ww s5 _=>dR z z (mv z)<|dR z z (mv z) ?_)
  obtain ⟨x0,ee,hmf⟩:=bdS hmd;have L:=(s2.ag B).e s5;refine dRX z z (at_ (α:=e_) a_k a_o z z z (p1_0.g L) ee) ?_;rintro _ ⟨_,_,_,rfl,hg,hh,_⟩;obtain ⟨rfl,_,_,_,_⟩:=b_I hh;refine dR z z (lN (vs:=[Str.v x0.path,vI x0.rule,vI x0.start,vI x0.end_]) b_N a_o z z fid hg)<|dR z z (mv z)<|dR z z (mv z) ?_
  obtain ⟨x3,ei,hma⟩:=bdS hmf;refine dRX z z (at_ (α:=e_) a_k a_o z z z (p2_0.g L) ei) ?_;rintro _ ⟨_,_,_,rfl,hj,hk,_⟩;obtain ⟨rfl,_,_,_,_⟩:=b_I hk;refine dR z z (lN (vs:=[Str.v x3.path,vI x3.rule,vI x3.start,vI x3.end_]) b_N a_o z z fid hj)<|dR z z (j_K (a:=(x0:e_)) (b:=(x3:e_)) k_5 z z)<|pD<|Wo<|Wc z (fun H=>?_) (fun H=>?_)
  ·exact Ws<|Ra z<|Wn<|Wr<|rtO<|qL (som<|ifT hma H).symm<|h_ hr z ⟨bup s2 s5,z⟩
  exact Wk<|Wg<|R z (inc_ J (lt_ (repS.len p1_0) M_) z z)<|Rm z<|Wl (fun _ q=>⟨(),(som<|ifF hma H).symm,⟨q.k<|s4 z z z z,bup s2 s5⟩⟩)
 ·rintro _ _ _ ⟨hSl,sm⟩;refine Wu ?_ hSl;refine Ws<|R z (lss z z)<|Wn<|Wq<|Wc z (fun hc=>(a_4 hc).elim) (fun _=>?_)
  exact We<|fun a' ha'=>⟨rfl,⟨Sat.weaken ha' sn,sm⟩⟩
 ·rintro _ an _ rfl ⟨_,so⟩;have hmp:=elL I;revert an;refine Wo<|Ws<|Ra z<|Wn ?_
  obtain rfl:=som hmp;exact Wr<|h_ hr z ⟨so,z⟩
 rintro _ _ _ _ rfl ⟨rfl,hqq⟩;have hmr:=elR I;obtain rfl:=som hmr;exact ⟨hqq,z⟩
theorem W_w32 {x1:List e_} {x2:List e_} {res:Bool} (hm:f_m x1 x2=some res) (hBw:B≤w0.z) (p1_0:repS w0 B (sl A0 N0 C0) x1) (p2_0:repS w0 B (sl A6 N6 C6) x2):o_ prog 37 [sl A0 N0 C0,sl A6 N6 C6] w0 (Q0 w0 B res):=by
 unfold f_m at hm
 refine goF func37 z z (lb z) fun fn hr=>Ws<|Ra z<|Wn<|Ws<|Rm z<|Rm z ?_
 obtain ⟨_,H,G⟩:=bdS hm;refine E z (fc call97 z<|W_w31 (B:=B) H hBw p1_0 p2_0) ?_;rintro _ _ ⟨s2,rfl⟩;refine Ra z<|Wn ?_
 obtain rfl:=som G;exact Wr<|h_ hr z ⟨s2,z⟩
theorem W_w33 {x1:e_} {x2:Int} {G H:Nat} {res:Bool} (hm:h_i x1 x2=some res) (hBw:B≤w0.z) (p1_0:x1.path.b.length≤LEN) (p1_1:inI x1.rule) (p1_2:inI x1.start) (O:inI x1.end_) (p2_0:inI x2) (J:U_ w0 G H [vI x2]) (V:B G):o_ prog 105 [(.agg #[Str.v x1.path,vI x1.rule,vI x1.start,vI x1.end_]),(.pointer<|some ⟨G,H,none⟩)] w0 (Q0 w0 B res):=by
 unfold h_i at hm
 refine goF func105 z z (lb z) fun fn hr=>Ws<|E z (fb z) ?_
 rintro _ L ⟨rfl,I⟩;have h1:=I.below;refine Ra z<|Wn<|Ws<|R z (fd e_V z)<|R z (l1 g_3 z fid<|(I.blk:Blk L w0.z [Str.v x1.path,vI x1.rule,vI x1.start,vI x1.end_]).at z)<|R z (l1 g_3 z fid<|(J.e h1).at0 z)<|R z (b_y z z)<|Ra z<|Wn ?_
 obtain rfl:=som hm;exact Wr<|h_ hr z ⟨h1,z⟩
def Q33 (w0:World) (B:Zone) (r:(List e_)) (v:Value) (w':World):Prop:=Bw w0 w'∧(fun J=>∃ G H I S1,(sl G H I)=v∧a_ w' S1 (sl G H I) J∧S1.Nodup∧(∀ k∈S1,w0.z≤k)) r
theorem W_w34 {x1:List e_} {a2:Int} {Y a0:Nat} {res:(List e_)} (hm:h_j x1 a2=some res) (hBw:B≤w0.z) (p1_0:repS w0 B (sl A0 N0 C0) x1) (p2c0_0:inI a2) (a9:U_ w0 Y a0 [vI a2]) (a1:B Y):o_ prog 71 [sl A0 N0 C0,(.func (.func 105) #[] #[(.pointer<|some ⟨Y,a0,none⟩)])] w0 (Q33 w0 B res):=by
 unfold h_j at hm
 refine goF func71 z z (lb z) fun fn hr=>Ws<|Ra z<|Wn<|Ws<|E z (f0 (α:=e_) b_O) ?_
 rintro _ H ⟨ao,ap,aq,rfl,s9,ar⟩;refine Ra z<|Wn<|Wq<|Ws<|Rm z<|R z (lnR a_k z<|p1_0.e s9)<|Rm z<|Wn ?_
 obtain ⟨_,aa,hms⟩:=bdS hm;refine Wf (σ:=List e_) (ρ:=List e_) (fun (km:Nat) (W:List e_) a w=>∃ I J L G,Sat 24 [(1,.func (.func 105) #[] #[(.pointer<|some ⟨Y,a0,none⟩)]),(5,sl I J L),(9,sl A0 N0 C0),(10,vI (x1.length:Int)),(11,vI ((km:Nat):Int))] a∧Chg (· ∈ [w0.z]) H w∧a_ w G (sl I J L) W∧G.Nodup∧(∀ k∈G,k∈[w0.z]∨H.z≤k)) (fun (W:List e_) a w=>∃ I J L G,Sat 24 [(5,sl I J L)] a∧Chg (· ∈ [w0.z]) H w∧a_ w G (sl I J L) W∧G.Nodup∧(∀ k∈G,k∈[w0.z]∨H.z≤k)) (fun r ex a w=>ex = .ret∧L_ prog fn (Q33 w0 B r) a w) aa ?_ ?_ ?_ ?_ ?_
 ·exact fun _ q=>⟨ao,ap,aq,[w0.z],q.k<|s5 z z z z z,cr [w0.z] H,ar,a_h,io sr⟩
 ·rintro km W _ wh _ hkv ⟨I,J,L,G,ab,sa,V,hb,hf⟩ ad;refine Wu ?_ ab;refine Ws<|R z (lss z z)<|Wn<|Wq<|Wc z (fun _=>?_) (fun hc=>(a_3 hkv hc).elim)
  refine Wk<|Wq<|Wb<|Ws ?_
  obtain ⟨x2,au,ae⟩:=bdS ad;have hw : ∀ k∈[w0.z],¬ B k:=or0 (b_ lr)  (m_ hBw);refine RX z (at_ (α:=e_) a_k a_o z z z (p1_0.g<|(s9.ag B).c sa<|c_ hw) au) ?_;rintro _ ⟨_,_,_,rfl,av,aw,_⟩;obtain ⟨rfl,hn,ho,hp,hq⟩:=b_I aw;refine R z (lN (vs:=[Str.v x2.path,vI x2.rule,vI x2.start,vI x2.end_]) b_N a_o z z fid av)<|E z (fa g_A) ?_
  rintro _ wx ⟨rfl,hy⟩;have hd:=hy.below;refine E0 (fs (cur':=[Str.v x2.path,vI x2.rule,vI x2.start,vI x2.end_]) a_o z z (hy.blk:Blk wx wh.z [(Str.v (⟨[]⟩:Str)),vI 0,vI 0,vI 0]) z (lb z) (oA z) z) ?_;rintro _ ax ⟨hz,ay⟩;have he:=ay.one;refine Wn<|Ws<|Rm z<|R z (lN (vs:=[Str.v x2.path,vI x2.rule,vI x2.start,vI x2.end_]) b_N a_o z z fid<|hz.row 0 4 z) ?_
  have a5:=lt_ s9.s sa.s;obtain ⟨_,az,af⟩:=bdS ae;refine E z (l_S call105 z z<|W_w33 (B:=B) az (zt' hBw<|lt_ (lt_ a5 hd.s) he.s) hn ho hp hq p2c0_0 ((((a9.e s9).c sa<|(c_ hw) _ a1).e hd).c he<|(c_ (or0 (b_ lr)  (m_<|zt' hBw a5) : ∀ k∈[wh.z],¬ B k)) _ a1) a1) ?_;rintro _ O ⟨sg,rfl⟩;refine Wn ?_;obtain ⟨aA,a4,ah⟩:=bdS af;refine Wt (fun a w=>∃ (xi:List e_),xi=aA ∧ ∃ aj nk cl Sc,Sat 24 [(1,.func (.func 105) #[] #[(.pointer<|some ⟨Y,a0,none⟩)]),(5,sl aj nk cl),(9,sl A0 N0 C0),(10,vI (x1.length:Int)),(11,vI ((km:Nat):Int))] a∧Chg (· ∈ G) O w∧a_ w Sc (sl aj nk cl) xi∧Sc.Nodup∧(∀ k∈Sc,k∈G∨O.z≤k)) ?_ ?_
  ·refine Wc z (fun hcr=>?_)<|fun hcr=>?_
   ·refine Wg<|Rm z<|R z (lN (vs:=[Str.v x2.path,vI x2.rule,vI x2.start,vI x2.end_]) b_N a_o z z fid<|(hz.e sg).row 0 4 z)<|E z (fS [(.tmp 19)] b_O z z z (a_d z) (lb z)<|lb z) ?_
    rintro _ a6 ⟨rfl,ht⟩;have hu:=ht.below;have aV:=a_E ht<|d_s (x:=x2)  hn ho hp hq
    obtain ⟨aB,aC,ai⟩:=bdS<|ifT a4 hcr;refine E z (a_Q (α:=e_) b_O aC z z ((((V.e hd).c he<|ds<|mnr<|a_.lt V).e sg).e hu) hb (ht.blk:Blk a6 O.z [Str.v x2.path,vI x2.rule,vI x2.start,vI x2.end_]) (d_s (x:=x2)  hn ho hp hq) an_ H_) ?_;rintro _ aD ⟨a7,aE,aF,aG,rfl,aH,aI,aJ,aK⟩;refine Ra z<|Wl ?_
    exact fun _ q=>⟨aB,som ai,aE,aF,aG,a7,q.k<|s5 z z z z z,(cM (f_ (cr G O) hu:Chg (· ∈ G) O a6) aH (io sr):Chg (· ∈ G) O aD),aI,aJ,(or2 aK (io sr) an_ (z_ hu.s) : ∀ k∈a7,k∈G∨O.z≤k)⟩
   exact a_g<|fun _ q=>⟨W,som<|ifF a4 hcr,I,J,L,G,q.k<|s5 z z z z z,cr G O,((V.e hd).c he<|ds<|mnr<|a_.lt V).e sg,hb,io sr⟩
  rintro aL aM ⟨xi,rfl,aj,nk,cl,Sc,_,aN,aO,aP,aQ⟩;revert aL;refine Wo<|Wg<|R z (inc_ hkv (lt_ (repS.len p1_0) M_) z z)<|Rm z<|Wl ?_
  have a8 : ∀ k∈G,k∈[w0.z]∨H.z≤k:=or1 hf (io sr)<|z_ lr;exact fun _ q=>⟨xi,(som ah).symm,⟨aj,nk,cl,Sc,q.k<|s5 z z z z z,(cM (f_ (cM (f_ (cM (cr [w0.z] H) sa (io sr):Chg (· ∈ [w0.z]) H wh) hd:Chg (· ∈ [w0.z]) H wx) he (mor sa.s : ∀ k∈[wh.z],k∈[w0.z]∨H.z≤k):Chg (· ∈ [w0.z]) H ax) sg:Chg (· ∈ [w0.z]) H O) aN a8:Chg (· ∈ [w0.z]) H aM),aO,aP,(or1 aQ a8 (z_<|lt_ (lt_ (lt_ sa.s hd.s) he.s) sg.s) : ∀ k∈Sc,k∈[w0.z]∨H.z≤k)⟩⟩
 ·rintro W _ aR ⟨I,J,L,G,ak,aS,V,hb,hf⟩;refine Wu ?_ ak;refine Ws<|R z (lss z z)<|Wn<|Wq<|Wc z (fun hc=>(a_4 hc).elim) (fun _=>?_)
  exact We<|fun a' ha'=>⟨rfl,⟨I,J,L,G,Sat.weaken ha'<|s1 z,(cM (cr [w0.z] H) aS (io sr):Chg (· ∈ [w0.z]) H aR),V,hb,(or1 hf (io sr) (z_ lr) : ∀ k∈G,k∈[w0.z]∨H.z≤k)⟩⟩
 ·rintro W aT _ rfl ⟨I,J,L,G,_,aU,V,hb,hf⟩;have al:=elL hms;revert aT;refine Wo<|Ws<|Rm z<|Ra z<|Wn ?_
  obtain rfl:=som al;exact Wr<|h_ hr z ⟨bM s9 aU<|b_ lr,I,J,L,G,z,V,hb,(or1 hf (b_ lr) (b_7 s9.s) : ∀ k∈G,w0.z≤k)⟩
 rintro _ _ _ _ rfl ⟨rfl,am⟩;have an:=elR hms;obtain rfl:=som an;exact ⟨am,z⟩
theorem W_w35 {x1:List e_} {x2:Int} {res:(List e_)} (hm:f_p x1 x2=some res) (hBw:B≤w0.z) (p1_0:repS w0 B (sl A0 N0 C0) x1) (p2_0:inI x2):o_ prog 46 [sl A0 N0 C0,vI x2] w0 (Q33 w0 B res):=by
 unfold f_p at hm
 refine goF func46 z z (lb z) fun fn hr=>Ws<|E z (fb z) ?_
 rintro _ H ⟨rfl,h2⟩;have G:=h2.below;have h3:Blk H w0.z [vI x2]:=h2.blk;refine Ra z<|Wn<|Ws<|Rm z<|R z (l_R z) ?_
 obtain ⟨_,J,I⟩:=bdS hm;refine E z (fc call71 z<|W_w34 (B:=H.z) J zr (repS.mono (p1_0.e G)<|zt' hBw G.s) p2_0 (h3.row 0 1 z) h3.lt) ?_;rintro _ _ ⟨s6,L,O,V,Sa,rfl,hb,hc,hd⟩;refine Ra z<|Wn ?_
 obtain rfl:=som I;exact Wr<|h_ hr z ⟨bup G s6,L,O,V,Sa,z,hb,hc,l_ hd G.s⟩
theorem W_w36 {x1:List e_} {x2:Str} {res:Int} (hm:f_q x1 x2=some res) (hBw:B≤w0.z) (p1_0:repS w0 B (sl A0 N0 C0) x1) (p2_0:x2.b.length≤LEN):o_ prog 47 [sl A0 N0 C0,Str.v x2] w0 (Q9 w0 B res):=by
 unfold f_q at hm
 refine goF func47 z z (lb z) fun fn hr=>Ws<|Ra z<|Wn<|Wq<|Ws<|Ra z<|Wn ?_
 obtain ⟨_,L,I⟩:=bdS hm;refine Wf (σ:=Unit) (ρ:=Int) (fun (k4:Nat) (_:Unit) a w=>Sat 20 [(0,sl A0 N0 C0),(1,Str.v x2),(5,vI ((k4:Nat):Int))] a∧Below w0.z w0 w) (fun (_:Unit) a w=>Sat 20 [] a∧Below w0.z w0 w) (fun r ex a w=>ex = .ret∧L_ prog fn (Q9 w0 B r) a w) L ?_ ?_ ?_ ?_ ?_
 ·exact fun _ q=>⟨q.k<|s3 z z z,br w0⟩
 ·rintro k4 _ _ _ _ G ⟨O,s1⟩ hma;refine Wu ?_ O;refine Wq<|Ws<|Rm z<|Rm z ?_
  have h5:=p1_0.e s1;refine R z (lnR a_k z h5)<|R z (lss z z)<|Wn<|Wc z (fun _=>?_) (fun hc=>(a_3 G hc).elim)
  refine Wk<|Wq<|Wb<|Ws<|Rm z<|Rm z ?_
  obtain ⟨_,eb,J⟩:=bdS hma;refine RX z (at_ (α:=e_) a_k a_o z z z h5 eb) ?_;rintro _ ⟨_,_,_,rfl,hd,he,_⟩;obtain ⟨rfl,_,_,_,_⟩:=b_I he;refine R z (fd k_9 z)<|R z (l1 g_9 z fid<|hd.at (j:=0) z)<|Rm z<|R z (f_3 z z)<|Wn<|Wc z (fun H=>?_) (fun H=>?_)
  ·exact Ws<|Rm z<|Ra z<|Wn<|Wr<|rtO<|qL (som<|ifT J H).symm<|h_ hr z ⟨s1,z,ic (Nat.le_of_lt G)<|lt_ (repS.len p1_0) M_⟩
  exact Wk<|Wg<|Rm z<|R z (inc_ G (lt_ (repS.len p1_0) M_) z z)<|Ra z<|Wl (fun _ q=>⟨(),(som<|ifF J H).symm,⟨q.k<|s3 z z z,s1⟩⟩)
 ·rintro _ _ _ ⟨hSc,s7⟩;refine Wu ?_ hSc;refine Wq<|Ws<|Rm z<|Rm z<|R z (lnR a_k z<|p1_0.e s7)<|R z (lss z z)<|Wn<|Wc z (fun hc=>(a_4 hc).elim) (fun _=>?_)
  exact We<|fun a' ha'=>⟨rfl,⟨Sat.weaken ha' sn,s7⟩⟩
 ·rintro _ af _ rfl ⟨_,sg⟩;have hmh:=elL I;revert af;refine Wo<|Ws<|Ra z<|Wn ?_
  obtain rfl:=som hmh;exact Wr<|h_ hr z ⟨sg,z,ii z⟩
 rintro _ _ _ _ rfl ⟨rfl,hqi⟩;have hmj:=elR I;obtain rfl:=som hmj;exact ⟨hqi,z⟩
theorem W_w1u {x1:List e_} {x2:Int} {res:(List e_)} (hm:e_l x1 x2=some res) (hBw:B≤w0.z) (p1_0:repS w0 B (sl A0 N0 C0) x1) (p2_0:inI x2):o_ prog 48 [sl A0 N0 C0,vI x2] w0 (Q33 w0 B res):=by
 unfold e_l at hm
 refine goF func48 z z (lb z) fun fn hr=>Ws<|Ra z<|Wn<|Ws<|E z (f0 (α:=e_) b_O) ?_
 rintro _ _ ⟨_,_,_,rfl,sa,ht⟩;refine Rm z ?_;obtain ⟨xr,es,hmu⟩:=bdS hm;refine E z (fN (α:=e_) b_O es z z ht a_h<|p1_0.e sa) ?_;rintro _ H ⟨G,I,J,L,rfl,sg,hb,hv,hw⟩;refine Ra z<|Wn<|Wq<|Ws<|Rm z<|R z (lnR a_k z<|a_.rep hb)<|Rm z<|Wn ?_
 obtain ⟨_,hux,hmh⟩:=bdS hmu;refine Wf (σ:=List e_) (ρ:=List e_) (fun (ki:Nat) (x4:List e_) a w=>∃  (S2:List Nat),Sat 35 [(1,vI x2),(5,sl I J L),(11,vI (xr.length:Int)),(12,vI ((ki:Nat):Int))] a∧Chg (· ∈ G) H w∧a_ w S2 (sl I J L) x4∧S2.Nodup∧(∀ k∈S2,k∈G∨H.z≤k)) (fun (x4:List e_) a w=>∃  (S2:List Nat),Sat 35 [(5,sl I J L)] a∧Chg (· ∈ G) H w∧a_ w S2 (sl I J L) x4∧S2.Nodup∧(∀ k∈S2,k∈G∨H.z≤k)) (fun r ex a w=>ex = .ret∧L_ prog fn (Q33 w0 B r) a w) hux ?_ ?_ ?_ ?_ ?_
 ·exact fun _ q=>⟨G,q.k<|s4 z z z z,cr G H,hb,hv,io sr⟩
 ·rintro ki x4 _ wy _ hkj ⟨S2,hSz,sc,h3,O,V⟩ W;refine Wu ?_ hSz;refine Ws<|R z (lss z z)<|Wn<|Wq<|Wc z (fun _=>?_) (fun hc=>(a_3 hkj hc).elim)
  refine Wk<|Wq<|Wb<|Ws<|Rm z<|Ra z<|Wn<|Ws<|Rm z<|Rm z ?_
  obtain ⟨aa,ab,Y⟩:=bdS W;refine RX z (at_ (α:=e_) a_k a_o z z z (a_.rep h3) ab) ?_;rintro _ ⟨_,_,_,rfl,ad,ae,_⟩;obtain ⟨rfl,_,_,_,_⟩:=b_I ae;refine R z (fd k_a z)<|R z (l1 g_3 z fid<|ad.at (j:=2) z)<|Rm z<|R z (add_ z z) ?_
  obtain ⟨xd,ek,a0⟩:=bdS Y;refine RX z (i_7 (α:=e_) a_k a_o z z h3 ek) ?_;rintro _ ⟨_,af,rfl⟩;refine R z (fd k_a z) ?_;obtain ⟨_,ah,a1⟩:=bdS a0;refine E0 (i_8 (α:=e_) (v':=(⟨xd.path,xd.rule,j_ aa.start x2,xd.end_⟩:e_)) z_3 z af z z z z ek ah h3 O (lb z) (fun _ _ _ h=>l_H h<|iA _ _)) ?_;rintro _ ai ⟨aj,sm,he,ak,al⟩;refine Wn<|Wg<|Rm z<|Rm z ?_
  obtain ⟨am,an,a2⟩:=bdS a1;refine RX z (at_ (α:=e_) a_k a_o z z z (a_.rep he) an) ?_;rintro _ ⟨_,_,_,rfl,ao,ap,_⟩;obtain ⟨rfl,_,_,_,_⟩:=b_I ap;refine R z (fd e_V z)<|R z (l1 g_3 z fid<|ao.at (j:=3) z)<|Rm z<|R z (add_ z z) ?_
  obtain ⟨xf,el,a3⟩:=bdS a2;refine RX z (i_7 (α:=e_) a_k a_o z z he el) ?_;rintro _ ⟨_,aq,rfl⟩;refine R z (fd e_V z) ?_;obtain ⟨ar,au,a4⟩:=bdS a3;refine E0 (i_8 (α:=e_) (v':=(⟨xf.path,xf.rule,xf.start,j_ am.end_ x2⟩:e_)) z_3 z aq z z z z el au he ak (lb z) (fun _ _ _ h=>j_C h<|iA _ _)) ?_;rintro _ av ⟨Sn,aw,ax,ay,az⟩;refine Wn<|Wg<|R z (inc_ hkj (lt_ (a_.len hb) M_) z z)<|Rm z<|Wl ?_
  have ho : ∀ k∈S2,k∈G∨H.z≤k:=or1 V (io sr)<|z_ lr;have hp : ∀ k∈aj,k∈G∨H.z≤k:=or1 al ho<|z_ sc.s;exact fun _ q=>⟨ar,(som a4).symm,⟨Sn,q.k<|s4 z z z z,(cM (cM (cM (cr G H) sc (io sr):Chg (· ∈ G) H wy) sm ho:Chg (· ∈ G) H ai) aw hp:Chg (· ∈ G) H av),ax,ay,(or1 az hp (z_<|lt_ sc.s sm.s) : ∀ k∈Sn,k∈G∨H.z≤k)⟩⟩
 ·rintro x4 _ aA ⟨S2,a6,aB,h3,O,V⟩;refine Wu ?_ a6;refine Ws<|R z (lss z z)<|Wn<|Wq<|Wc z (fun hc=>(a_4 hc).elim) (fun _=>?_)
  exact We<|fun a' ha'=>⟨rfl,⟨S2,Sat.weaken ha'<|s1 z,(cM (cr G H) aB (io sr):Chg (· ∈ G) H aA),h3,O,(or1 V (io sr) (z_ lr) : ∀ k∈S2,k∈G∨H.z≤k)⟩⟩
 ·rintro x4 aC _ rfl ⟨S2,_,aD,h3,O,V⟩;have a7:=elL hmh;revert aC;refine Wo<|Ws<|Rm z<|Ra z<|Wn ?_
  obtain rfl:=som a7;have hq : ∀ k∈G,w0.z≤k:=or1 hw (b_ lr)<|b_7 sa.s;exact Wr<|h_ hr z ⟨bM (bM sa sg<|b_ lr) aD hq,I,J,L,S2,z,h3,O,a_2 V hq<|lt_ sa.s sg.s⟩
 rintro _ _ _ _ rfl ⟨rfl,a8⟩;have a9:=elR hmh;obtain rfl:=som a9;exact ⟨a8,z⟩
theorem W_w1v {x1:List e_} {x2:List e_} {res:Bool} (hm:e_m x1 x2=some res) (hBw:B≤w0.z) (p1_0:repS w0 B (sl A0 N0 C0) x1) (p2_0:repS w0 B (sl A6 N6 C6) x2):o_ prog 49 [sl A0 N0 C0,sl A6 N6 C6] w0 (Q0 w0 B res):=by
 unfold e_m at hm
 refine goF func49 z z (lb z) fun fn hr=>Ws<|Ra z<|Wn<|Wq<|Ws<|Rm z<|R z (lnR a_k z p1_0)<|Rm z<|R z (lnR a_k z p2_0)<|R z (nq z z)<|Wn<|Wc z (fun G=>?_) (fun G=>?_)
 ·refine Ws<|Ra z<|Wn ?_
  obtain rfl:=som<|ifT hm G;exact Wr<|h_ hr z ⟨br w0,z⟩
 refine Wk<|Wq<|Ws<|Ra z<|Wn ?_
 obtain ⟨_,huc,I⟩:=bdS<|ifF hm G;refine Wf (σ:=Unit) (ρ:=Bool) (fun (k7:Nat) (_:Unit) a w=>Sat 26 [(0,sl A0 N0 C0),(1,sl A6 N6 C6),(5,vI ((k7:Nat):Int))] a∧Below w0.z w0 w) (fun (_:Unit) a w=>Sat 26 [] a∧Below w0.z w0 w) (fun r ex a w=>ex = .ret∧L_ prog fn (Q0 w0 B r) a w) huc ?_ ?_ ?_ ?_ ?_
 ·exact fun _ q=>⟨q.k<|s3 z z z,br w0⟩
 ·rintro k7 _ _ _ _ J ⟨hSd,s1⟩ hme;refine Wu ?_ hSd;refine Wq<|Ws<|Rm z<|Rm z<|R z (lnR a_k z<|p1_0.e s1)<|R z (lss z z)<|Wn<|Wc z (fun _=>?_) (fun hc=>(a_3 J hc).elim)
  refine Wk<|Wq<|Wb<|Wq (Wd (X:=noX) 0 (.rd 0<|.rd 1<|.rd 2<|.rd 3<|.rd 4<|.rd 5<|.rd 6<|.rd 7<|.rd 8 .done) mo (by kernel_rfl) fun ww s4 _=>dR z z (mv z)<|dR z z (mv z) ?_)
  obtain ⟨x0,ef,hmg⟩:=bdS hme;have L:=(s1.ag B).e s4;refine dRX z z (at_ (α:=e_) a_k a_o z z z (p1_0.g L) ef) ?_;rintro _ ⟨_,_,_,rfl,hh,hi,_⟩;obtain ⟨rfl,_,_,_,_⟩:=b_I hi;refine dR z z (lN (vs:=[Str.v x0.path,vI x0.rule,vI x0.start,vI x0.end_]) b_N a_o z z fid hh)<|dR z z (mv z)<|dR z z (mv z) ?_
  obtain ⟨x3,ej,hma⟩:=bdS hmg;refine dRX z z (at_ (α:=e_) a_k a_o z z z (p2_0.g L) ej) ?_;rintro _ ⟨_,_,_,rfl,hk,hl,_⟩;obtain ⟨rfl,_,_,_,_⟩:=b_I hl;refine dR z z (lN (vs:=[Str.v x3.path,vI x3.rule,vI x3.start,vI x3.end_]) b_N a_o z z fid hk)<|dR z z (j_K (a:=(x0:e_)) (b:=(x3:e_)) k_5 z z)<|pD<|Wo<|Wc z (fun H=>?_) (fun H=>?_)
  ·exact Ws<|Ra z<|Wn<|Wr<|rtO<|qL (som<|ifT hma H).symm<|h_ hr z ⟨bup s1 s4,z⟩
  exact Wk<|Wg<|Rm z<|R z (inc_ J (lt_ (repS.len p1_0) M_) z z)<|Ra z<|Wl (fun _ q=>⟨(),(som<|ifF hma H).symm,⟨q.k<|s3 z z z,bup s1 s4⟩⟩)
 ·rintro _ _ _ ⟨hSm,sb⟩;refine Wu ?_ hSm;refine Wq<|Ws<|Rm z<|Rm z<|R z (lnR a_k z<|p1_0.e sb)<|R z (lss z z)<|Wn<|Wc z (fun hc=>(a_4 hc).elim) (fun _=>?_)
  exact We<|fun a' ha'=>⟨rfl,⟨Sat.weaken ha' sn,sb⟩⟩
 ·rintro _ an _ rfl ⟨_,so⟩;have hmp:=elL I;revert an;refine Wo<|Ws<|Ra z<|Wn ?_
  obtain rfl:=som hmp;exact Wr<|h_ hr z ⟨so,z⟩
 rintro _ _ _ _ rfl ⟨rfl,hqq⟩;have hmr:=elR I;obtain rfl:=som hmr;exact ⟨hqq,z⟩
theorem W_w1w {x1:List e_} {x2:List e_} {res:Int} (hm:e_n x1 x2=some res) (hBw:B≤w0.z) (p1_0:repS w0 B (sl A0 N0 C0) x1) (p2_0:repS w0 B (sl A6 N6 C6) x2):o_ prog 50 [sl A0 N0 C0,sl A6 N6 C6] w0 (Q9 w0 B res):=by
 unfold e_n at hm
 refine goF func50 z z (lb z) fun fn hr=>Ws<|Ra z<|Wn<|Ws<|E z (m_y e_6 e_7) ?_
 rintro _ G ⟨rfl,se,hf⟩;refine Ra z<|Wn<|Wq<|Ws<|Rm z<|R z (lnR a_k z<|p1_0.e se)<|Rm z<|Wn ?_
 obtain ⟨_,a8,hmr⟩:=bdS hm;refine Wf (σ:=e_→Bool) (ρ:=Int) (fun (ks:Nat) (x6:(e_→Bool)) a w=>Sat 46 [(0,sl A0 N0 C0),(1,sl A6 N6 C6),(5,.map<|some w0.z),(14,sl A0 N0 C0),(15,vI (x1.length:Int)),(16,vI ((ks:Nat):Int))] a∧Chg (· ∈ [w0.z]) G w∧a_J e_6 e_7 w w0.z x6) (fun (x6:(e_→Bool)) a w=>Sat 46 [(0,sl A0 N0 C0),(1,sl A6 N6 C6),(5,.map<|some w0.z)] a∧Chg (· ∈ [w0.z]) G w∧a_J e_6 e_7 w w0.z x6) (fun r ex a w=>ex = .ret∧L_ prog fn (Q9 w0 B r) a w) a8 ?_ ?_ ?_ ?_ ?_
 ·exact fun _ q=>⟨q.k<|s6 z z z z z z,cr [w0.z] G,hf⟩
 ·rintro ks x6 _ wk _ hkt ⟨a9,sg,J⟩ aa;refine Wu ?_ a9;refine Ws<|R z (lss z z)<|Wn<|Wq<|Wc z (fun _=>?_) (fun hc=>(a_3 hkt hc).elim)
  refine Wk<|Wq<|Wb<|Ws ?_
  obtain ⟨x0,aB,ab⟩:=bdS aa;refine RX z (at_ (α:=e_) a_k a_o z z z (p1_0.g<|(se.ag B).c sg<|c_ (or0 (b_ lr)  (m_ hBw) : ∀ k∈[w0.z],¬ B k)) aB) ?_;rintro _ ⟨_,_,_,rfl,aC,aD,_⟩;obtain ⟨rfl,aE,aF,aG,aH⟩:=b_I aD;refine R z (lN (vs:=[Str.v x0.path,vI x0.rule,vI x0.start,vI x0.end_]) b_N a_o z z fid aC)<|E z (fa g_A) ?_
  rintro _ wu ⟨rfl,hv⟩;have hw:=hv.below;refine E0 (fs (cur':=[Str.v x0.path,vI x0.rule,vI x0.start,vI x0.end_]) a_o z z (hv.blk:Blk wu wk.z [(Str.v (⟨[]⟩:Str)),vI 0,vI 0,vI 0]) z (lb z) (oA z) z) ?_;rintro _ aI ⟨aJ,aK⟩;have hx:=aK.one;refine Wn<|Wg<|Rm z<|R z (lN (vs:=[Str.v x0.path,vI x0.rule,vI x0.start,vI x0.end_]) b_N a_o z z fid<|aJ.row 0 4 z)<|E0 (m_A (k:=(x0:e_)) i_d z z ⟨aE,aF,aG,aH⟩ z<|(J.e hw).c hx<|djs<|mm1 hf.lt sg.s) ?_
  rintro _ aL ⟨aM,aN⟩;refine Wn<|Wg<|R z (inc_ hkt (lt_ (repS.len p1_0) M_) z z)<|Rm z<|Wl ?_
  exact fun _ q=>⟨b_b x6 (x0:e_) true,(som ab).symm,⟨q.k<|s6 z z z z z z,(cM (cM (f_ (cM (cr [w0.z] G) sg (io sr):Chg (· ∈ [w0.z]) G wk) hw:Chg (· ∈ [w0.z]) G wu) hx (mor sg.s : ∀ k∈[wk.z],k∈[w0.z]∨G.z≤k):Chg (· ∈ [w0.z]) G aI) aN (io sr):Chg (· ∈ [w0.z]) G aL),aM⟩⟩
 ·rintro x6 _ aO ⟨ad,aP,J⟩;refine Wu ?_ ad;refine Ws<|R z (lss z z)<|Wn<|Wq<|Wc z (fun hc=>(a_4 hc).elim) (fun _=>?_)
  exact We<|fun a' ha'=>⟨rfl,⟨Sat.weaken ha'<|s3 z z z,(cM (cr [w0.z] G) aP (io sr):Chg (· ∈ [w0.z]) G aO),J⟩⟩
 ·rintro x6 aQ H rfl ⟨_,sh,J⟩;have ae:=elL hmr;revert aQ;refine Wo<|Wq<|Ws<|Rm z ?_
  have hl : ∀ k∈[w0.z],¬ B k:=or0 (b_ lr)  (m_ hBw);have hn:=(se.ag B).c sh<|c_ hl
  refine R z (lnR a_k z<|p2_0.g hn)<|Rm z<|Wn ?_
  obtain ⟨_,af,hmy⟩:=bdS ae;refine Wf (σ:=e_→Bool) (ρ:=Int) (fun (kz:Nat) (I:(e_→Bool)) a w=>Sat 46 [(0,sl A0 N0 C0),(5,.map<|some w0.z),(23,sl A6 N6 C6),(24,vI (x2.length:Int)),(25,vI ((kz:Nat):Int))] a∧Chg (· ∈ [w0.z]) H w∧a_J e_6 e_7 w w0.z I) (fun (I:(e_→Bool)) a w=>Sat 46 [(0,sl A0 N0 C0),(5,.map<|some w0.z)] a∧Chg (· ∈ [w0.z]) H w∧a_J e_6 e_7 w w0.z I) (fun r ex a w=>ex = .ret∧L_ prog fn (Q9 w0 B r) a w) af ?_ ?_ ?_ ?_ ?_
  ·exact fun _ q=>⟨q.k<|s5 z z z z z,cr [w0.z] H,J⟩
  ·rintro kz I _ wm _ O ⟨ah,si,L⟩ ai;refine Wu ?_ ah;refine Ws<|R z (lss z z)<|Wn<|Wq<|Wc z (fun _=>?_) (fun hc=>(a_3 O hc).elim)
   refine Wk<|Wq<|Wb<|Ws ?_
   obtain ⟨x3,aR,aj⟩:=bdS ai;refine RX z (at_ (α:=e_) a_k a_o z z z (p2_0.g<|hn.c si<|c_ hl) aR) ?_;rintro _ ⟨_,_,_,rfl,aS,aT,_⟩;obtain ⟨rfl,aU,aV,aW,aX⟩:=b_I aT;refine R z (lN (vs:=[Str.v x3.path,vI x3.rule,vI x3.start,vI x3.end_]) b_N a_o z z fid aS)<|E z (fa g_A) ?_
   rintro _ a0 ⟨rfl,a1⟩;have a2:=a1.below;refine E0 (fs (cur':=[Str.v x3.path,vI x3.rule,vI x3.start,vI x3.end_]) a_o z z (a1.blk:Blk a0 wm.z [(Str.v (⟨[]⟩:Str)),vI 0,vI 0,vI 0]) z (lb z) (oA z) z) ?_;rintro _ aY ⟨aZ,b0⟩;have a3:=b0.one;refine Wn<|Wg<|Rm z<|R z (lN (vs:=[Str.v x3.path,vI x3.rule,vI x3.start,vI x3.end_]) b_N a_o z z fid<|aZ.row 0 4 z)<|E0 (l_O (k:=(x3:e_)) i_d z z ⟨aU,aV,aW,aX⟩<|(L.e a2).c a3<|djs<|mm1 hf.lt<|lt_ sh.s si.s) ?_
   rintro _ b1 ⟨b2,b3⟩;refine Wn<|Wg<|R z (inc_ O (lt_ (repS.len p2_0) M_) z z)<|Rm z<|Wl ?_
   exact fun _ q=>⟨b_b I (x3:e_) false,(som aj).symm,⟨q.k<|s5 z z z z z,(cM (cM (f_ (cM (cr [w0.z] H) si (io sr):Chg (· ∈ [w0.z]) H wm) a2:Chg (· ∈ [w0.z]) H a0) a3 (mor si.s : ∀ k∈[wm.z],k∈[w0.z]∨H.z≤k):Chg (· ∈ [w0.z]) H aY) b3 (io sr):Chg (· ∈ [w0.z]) H b1),b2⟩⟩
  ·rintro I _ b4 ⟨ak,b5,L⟩;refine Wu ?_ ak;refine Ws<|R z (lss z z)<|Wn<|Wq<|Wc z (fun hc=>(a_4 hc).elim) (fun _=>?_)
   exact We<|fun a' ha'=>⟨rfl,⟨Sat.weaken ha'<|s2 z z,(cM (cr [w0.z] H) b5 (io sr):Chg (· ∈ [w0.z]) H b4),L⟩⟩
  ·rintro I b6 wa rfl ⟨_,so,L⟩;have al:=elL hmy;revert b6;refine Wo<|Ws<|Ra z<|Wn<|Wq<|Ws<|Rm z ?_
   have a4:=hn.c so<|c_ hl
   refine R z (lnR a_k z<|p1_0.g a4)<|Rm z<|Wn ?_
   obtain ⟨_,am,V⟩:=bdS al;refine Wf (σ:=Int) (ρ:=Int) (fun (kp:Nat) (x5:Int) a w=>Sat 46 [(5,.map<|some w0.z),(10,vI x5),(32,sl A0 N0 C0),(33,vI (x1.length:Int)),(34,vI ((kp:Nat):Int))] a∧Below wa.z wa w∧inI x5) (fun (x5:Int) a w=>Sat 46 [(10,vI x5)] a∧Below wa.z wa w∧inI x5) (fun r ex a w=>ex = .ret∧L_ prog fn (Q9 w0 B r) a w) am ?_ ?_ ?_ ?_ ?_
   ·exact fun _ q=>⟨q.k<|s5 z z z z z,br wa,ii z⟩
   ·rintro kp x5 _ b7 _ W ⟨an,sb,hd⟩ ao;refine Wu ?_ an;refine Ws<|R z (lss z z)<|Wn<|Wq<|Wc z (fun _=>?_) (fun hc=>(a_3 W hc).elim)
    refine Wk<|Wq<|Wb<|Ws ?_
    obtain ⟨x4,b8,ap⟩:=bdS ao;refine RX z (at_ (α:=e_) a_k a_o z z z (p1_0.g<|a4.e sb) b8) ?_;rintro _ ⟨_,_,_,rfl,b9,ba,_⟩;obtain ⟨rfl,bb,bc,be,bf⟩:=b_I ba;refine R z (lN (vs:=[Str.v x4.path,vI x4.rule,vI x4.start,vI x4.end_]) b_N a_o z z fid b9)<|E z (fa g_A) ?_
    rintro _ bg ⟨rfl,a5⟩;have a6:=a5.below;refine E0 (fs (cur':=[Str.v x4.path,vI x4.rule,vI x4.start,vI x4.end_]) a_o z z (a5.blk:Blk bg b7.z [(Str.v (⟨[]⟩:Str)),vI 0,vI 0,vI 0]) z (lb z) (oA z) z) ?_;rintro _ wj ⟨bh,bi⟩;have a7:=bi.one;refine Wn<|Ws<|Rm z<|R z (lN (vs:=[Str.v x4.path,vI x4.rule,vI x4.start,vI x4.end_]) b_N a_o z z fid<|bh.row 0 4 z)<|R z (m_z (k:=(x4:e_)) i_d z z ⟨bb,bc,be,bf⟩ fid<|((L.e sb).e a6).c a7<|djs<|mm1 hf.lt<|lt_ (lt_ sh.s so.s) sb.s)<|R z (not_ z)<|Wn ?_
    obtain ⟨bj,Y,aq⟩:=bdS ap;refine Wt (fun a w=>∃ (xc:Int),xc=bj∧Sat 46 [(5,.map<|some w0.z),(10,vI xc),(32,sl A0 N0 C0),(33,vI (x1.length:Int)),(34,vI ((kp:Nat):Int))] a∧Below wj.z wj w∧inI xc) ?_ ?_
    ·refine Wc z (fun hcq=>?_)<|fun hcq=>?_
     ·exact Wg<|Rm z<|R z (add_ z z)<|Ra z<|Wl (fun _ q=>⟨j_ x5 1,som<|ifT Y hcq,q.k<|s5 z z z z z,br wj,iA _ _⟩)
     exact a_g<|fun _ q=>⟨x5,som<|ifF Y hcq,q.k<|s5 z z z z z,br wj,hd⟩
    rintro bk _ ⟨xc,rfl,_,bm,bn⟩;revert bk;exact Wo<|Wg<|R z (inc_ W (lt_ (repS.len p1_0) M_) z z)<|Rm z<|Wl (fun _ q=>⟨xc,(som aq).symm,⟨q.k<|s5 z z z z z,bup (bM (bup sb a6) a7<|m1 sb.s) bm,bn⟩⟩)
   ·rintro x5 _ _ ⟨ar,bo,hd⟩;refine Wu ?_ ar;refine Ws<|R z (lss z z)<|Wn<|Wq<|Wc z (fun hc=>(a_4 hc).elim) (fun _=>?_)
    exact We<|fun a' ha'=>⟨rfl,⟨Sat.weaken ha'<|s1 z,bo,hd⟩⟩
   ·rintro x5 bp _ rfl ⟨_,bq,hd⟩;have au:=elL V;revert bp;refine Wo<|Ws<|Rm z<|Ra z<|Wn ?_
    obtain rfl:=som au;exact Wr<|h_ hr z ⟨bup (bM (bM se sh<|b_ lr) so<|b_ lr) bq,z,hd⟩
   rintro _ _ _ _ rfl ⟨rfl,av⟩;have aw:=elR V;obtain rfl:=som aw;exact ⟨av,z⟩
  rintro _ _ _ _ rfl ⟨rfl,ax⟩;have ay:=elR hmy;obtain rfl:=som ay;exact ⟨ax,z⟩
 rintro _ _ _ _ rfl ⟨rfl,az⟩;have aA:=elR hmr;obtain rfl:=som aA;exact ⟨az,z⟩
def k_h (w0:World) (B:Zone) (r:Bool) (v:Value) (w':World):Prop:=Bw w0 w'∧(fun G=>(vB G)=v) r
theorem n_l {x1:List UInt8} {res:Bool} (hm:f_r n x1=some res) (hBw:B≤w0.z) (hG:Gl w0 B) (p1_0:repS w0 B (sl A0 N0 C0) x1):o_ prog 8 [sl A0 N0 C0] w0 (k_h w0 B res):=by
 unfold f_r at hm
 refine goF func8 z z (lb z) fun fn hr=>Ws<|Ra z<|Wn<|Wq<|Ws<|Rm z ?_
 obtain ⟨_,bO,aF⟩:=bdS hm;refine E z (fc call9 z<|W_w1x (B:=B) bO hBw p1_0) ?_;rintro _ _ ⟨sg,rfl⟩;refine Wn<|Wc z (fun ae=>?_) (fun ae=>?_)
 ·refine Ws<|Ra z<|Wn ?_
  obtain rfl:=som<|ifT aF ae;exact Wr<|h_ hr z ⟨sg,z⟩
 refine Wk<|Ws<|Rm z ?_
 obtain ⟨_,bP,_,ry,_,_,bQ,bn⟩:=bd6S<|ifF aF ae;refine E z (fc call44 z<|W_w2j (B:=B) bQ (zt' hBw sg.s)<|p1_0.e sg) ?_;rintro _ wk ⟨so,aj,ak,al,_,az,O,V,_,bR,bS,bT,_,_,_,_,_,rfl,W,h1,hq,am,aS,Y,_,_⟩;refine Rm z ?_
 iterate 6 refine R z (ext_ z z) ?_
 refine E z (fa d_z) ?_;rintro _ bU ⟨rfl,aT⟩;have L:=aT.below;refine E0 (fs (cur':=[sl aj ak al]) t_ z z (aT.blk:Blk bU wk.z [sl none 0 0]) z (lb z) (oA z) z) ?_;rintro _ _ ⟨aU,bV⟩;have hb:=bV.one;refine Ra z<|Ra z<|Ra z<|Ra z<|Ra z<|Wn<|Ws<|R z (lN (vs:=[sl aj ak al]) y_ t_ z z fid<|aU.row 0 1 z)<|Rm z<|Rm z<|Rm z<|Rm z<|Rm z ?_
 have aV:=(W.e L).c hb<|ds<|mnr<|a_.lt W
 have an:=(h1.e L).c hb<|ds<|mnr<|a_.lt h1
 have aW:=(hq.e L).c hb<|ds<|mnr<|a_.lt hq
 have aX:=(Y.e L).c hb<|ds<|mnr<|a_.lt Y
 have ht:=lt_ sg.s so.s;have aY:=zt' hBw ht;have aZ:=lt_ L.s hb.s;obtain ⟨_,bW,ao,bX,bo⟩:=r_ bn;refine E z (fc call45 z<|W_w2z (B:=wk.z) bX (a_s aZ) (((((hG.e sg).e so).e L).c hb<|c_ (or0 (b_ lr)  (m_ aY) : ∀ k∈[wk.z],¬ B k)).mono aY) (or_ aV<|a_.lt W) (or_ an<|a_.lt h1) (or_ aW<|a_.lt hq) am aS<|or_ aX<|a_.lt Y) ?_;rintro _ ap ⟨sa,a0,a1,a2,_,a3,a4,a5,_,rfl,a6,hp,_,_⟩;refine Rm z ?_
 iterate 3 refine R z (ext_ z z) ?_
 refine Ra z<|Ra z<|Ra z<|Wn<|Ws<|Rm z<|Rm z<|Rm z<|Rm z ?_
 have b0:=aW.e sa;have hu:=lt_ aZ sa.s;obtain ⟨_,bY,bZ,bp⟩:=a_A bo;refine E z (fc call17 z<|W_w30 (B:=wk.z) bZ (a_s hu) (or_ b0<|a_.lt hq) am aS<|or_ (aX.e sa)<|a_.lt Y) ?_;rintro _ b1 ⟨s2,a7,a8,a9,_,rfl,aq,_,_⟩;refine Rm z<|R z (ext_ z z)<|R z (ext_ z z)<|Ra z<|Ra z<|Wn<|Ws<|R z (lN (vs:=[sl aj ak al]) y_ t_ z z fid<|((aU.e sa).e s2).row 0 1 z)<|Rm z ?_
 have b2:=lt_ hu s2.s;obtain ⟨_,c0,c1,bq⟩:=a_A bp;refine E z (fc call15 z<|W_w1e (B:=b1.z) c1 zr (repS.mono (or_ ((aV.e sa).e s2)<|a_.lt W)<|a_s b2)<|a_.rep aq) ?_;rintro _ wr ⟨s3,aa,ab,ad,_,rfl,b3,_,_⟩;refine Rm z<|R z (ext_ z z)<|R z (ext_ z z)<|Ra z<|Ra z<|Wn<|Wq<|Wq ?_
 obtain ⟨c2,aG,aH⟩:=bdS bq;refine Wt (fun a w=>∃ (ar:Bool),ar=c2∧Sat 129 [(4,sl az O V),(5,sl bR bS bT),(6,vI ry),(9,sl a0 a1 a2),(10,sl a3 a4 a5),(11,vB ao),(12,sl a7 a8 a9),(14,sl aa ab ad),(60,vB ar)] a∧Below wr.z wr w) ?_ ?_
 ·refine Wg<|Rm z<|Rm z<|Rm z ?_
  rcases bs bY with hcl | hcl
  ·exact Rh z hcl (mv z)<|R z (pT z hcl z)<|R z (k_i d_4 z z)<|Wl (fun _ q=>⟨ao != c0,som<|ifT aG hcl,q.k<|s9 z z z z z z z z z,br wr⟩)
  exact Nh z hcl<|R z (pF z hcl z)<|R z (k_i d_4 z z)<|Wl (fun _ q=>⟨ao != false,som<|ifF aG hcl,q.k<|s9 z z z z z z z z z,br wr⟩)
 rintro c3 b4 ⟨ar,rfl,_,G⟩;revert c3;refine Wo<|Wc z (fun af=>?_) (fun af=>?_)
 ·refine Ws<|Ra z<|Wn ?_
  obtain rfl:=som<|ifT aH af;exact Wr<|h_ hr z ⟨bup (bup (bup (bup (bM (bup (bup sg so) L) hb<|m1 ht) sa) s2) s3) G,z⟩
 have aI:=ifF aH af;refine Wk<|Wq<|Ws<|Rm z<|R z (not_ z)<|Wn<|Wc z (fun ah=>?_) (fun ah=>?_)
 ·refine Wq ?_;obtain ⟨c4,bt,bu⟩:=bdS<|ifT aI ah;refine Wt (fun a w=>∃ (au:Bool),au=c4∧Sat 129 [(2,vB au)] a∧Below b4.z b4 w) ?_ ?_
  ·refine Wg<|Rm z<|Rm z ?_
   have b5:=lt_ (lt_ s2.s s3.s) G.s;obtain ⟨c5,c6,aJ⟩:=bdS bt;refine E z (fc call13 z<|W_w1t (B:=ap.z) c6 (a_s b5) (or_ (((a6.e s2).e s3).e G)<|a_.lt a6)<|repS.mono (or_ (((b0.e s2).e s3).e G)<|a_.lt hq)<|a_s hu) ?_;rintro _ _ ⟨ss,rfl⟩;refine Rm z ?_
   rcases bs c5 with hch | hch
   ·refine Rh z hch (mv z)<|Rh z hch (mv z) ?_
    obtain ⟨c7,c8,bv⟩:=bdS<|ifT aJ hch;refine Eg z z hch z (fc call37 z<|W_w32 (B:=ap.z) c8 (a_s<|lt_ b5 ss.s) (or_ ((((hp.e s2).e s3).e G).e ss)<|a_.lt hp)<|repS.mono (or_ (((((an.e sa).e s2).e s3).e G).e ss)<|a_.lt h1)<|a_s hu) ?_;rintro _ _ ⟨c9,rfl⟩;exact R z (pT z hch z)<|Ra z<|Wl (fun _ q=>⟨c7,som bv,q.k<|s1 z,bup ss c9⟩)
   iterate 3 refine Nh z hch ?_
   exact R z (pF z hch z)<|Ra z<|Wl (fun _ q=>⟨false,som<|ifF aJ hch,q.k<|s1 z,ss⟩)
  rintro ca _ ⟨au,rfl,_,cb⟩;revert ca;refine Wo ?_;obtain rfl:=som bu;exact Wr<|h_ hr z ⟨bup (bup (bup (bup (bup (bM (bup (bup sg so) L) hb<|m1 ht) sa) s2) s3) G) cb,z⟩
 refine Wk<|Ws<|Rm z<|Rm z ?_
 have av:=(((an.e sa).e s2).e s3).e G;have aw:=lt_ (lt_ b2 s3.s) G.s;obtain ⟨_,cc,bw⟩:=bdS<|ifF aI ah;refine E z (fc call46 z<|W_w35 (B:=wk.z) cc (a_s aw) (or_ av<|a_.lt h1) am) ?_;rintro _ wv ⟨s4,b6,b7,b8,_,rfl,hn,_,_⟩;refine Ra z<|Wn<|Wq<|Ws<|Ra z<|Wn ?_
 obtain ⟨_,bx,aK⟩:=bdS bw;refine Wf (σ:=Unit) (ρ:=Bool) (fun (ax:Nat) (_:Unit) a w=>Sat 129 [(4,sl az O V),(6,vI ry),(9,sl a0 a1 a2),(10,sl a3 a4 a5),(12,sl a7 a8 a9),(14,sl aa ab ad),(16,sl b6 b7 b8),(17,vI ((ax:Nat):Int))] a∧Below wv.z wv w) (fun (_:Unit) a w=>Sat 129 [(4,sl az O V),(9,sl a0 a1 a2),(10,sl a3 a4 a5),(12,sl a7 a8 a9),(14,sl aa ab ad)] a∧Below wv.z wv w) (fun r ex a w=>ex = .ret∧L_ prog fn (k_h w0 B r) a w) bx ?_ ?_ ?_ ?_ ?_
 ·exact fun _ q=>⟨q.k<|s8 z z z z z z z z,br wv⟩
 ·rintro ax _ _ ay _ aL ⟨bz,sw⟩ bA;refine Wu ?_ bz;refine Wq<|Ws<|Rm z<|Rm z ?_
  have aA:=hn.e sw;refine R z (lnR a_k z<|or_ aA<|a_.lt hn)<|R z (lss z z)<|Wn<|Wc z (fun _=>?_) (fun hc=>(a_3 aL hc).elim)
  refine Wk<|Wq<|Wb<|Wq ?_
  obtain ⟨cd,bB,aM⟩:=bdS bA;refine Wt (fun a w=>∃ (aB:Bool),aB=cd∧Sat 129 [(4,sl az O V),(6,vI ry),(9,sl a0 a1 a2),(10,sl a3 a4 a5),(12,sl a7 a8 a9),(14,sl aa ab ad),(16,sl b6 b7 b8),(17,vI ((ax:Nat):Int)),(96,vB aB)] a∧Below ay.z ay w) ?_ ?_
  ·refine Wg<|Rm z<|Rm z ?_
   obtain ⟨ce,cf,aN⟩:=bdS bB;refine RX z (at_ (α:=e_) a_k a_o z z z (or_ aA<|a_.lt hn) cf) ?_;rintro _ ⟨_,_,_,rfl,cg,ch,_⟩;obtain ⟨rfl,_,_,_,_⟩:=b_I ch;refine R z (fd e_V z)<|R z (l1 g_3 z fid<|cg.at (j:=3) z)<|Rm z<|R z (a_9 z z)<|Rm z ?_
   rcases bs (decide<|ry<ce.end_) with H | H
   ·iterate 8 refine Nh z H ?_
    exact R z (pT z H z)<|Wl (fun _ q=>⟨true,som<|ifT aN H,q.k<|s9 z z z z z z z z z,br ay⟩)
   iterate 3 refine Rh z H (mv z) ?_
   obtain ⟨_,ci,bC⟩:=bdS<|ifF aN H;refine RXg z z H z (at_ (α:=e_) a_k a_o z z z (or_ aA<|a_.lt hn) ci) ?_;rintro _ ⟨_,_,_,rfl,cj,ck,_⟩;obtain ⟨rfl,cl,_,_,_⟩:=b_I ck;refine Rh z H (fd k_9 z)<|Rh z H (l1 g_9 z fid<|cj.at (j:=0) z) ?_
   obtain ⟨cm,cn,bD⟩:=bdS bC;refine Eg z z H z (fc call47 z<|W_w36 (B:=wk.z) cn (a_s<|lt_ (lt_ aw s4.s) sw.s) (or_ ((av.e s4).e sw)<|a_.lt h1) cl) ?_;rintro _ _ ⟨co,rfl,_⟩;exact Rh z H (lss z z)<|R z (pF z H z)<|Wl (fun _ q=>⟨decide<|cm<0,som bD,q.k<|s9 z z z z z z z z z,co⟩)
  rintro cp _ ⟨aB,rfl,_,b9⟩;revert cp;refine Wo<|Wc z (fun ai=>?_) (fun ai=>?_)
  ·exact Ws<|Ra z<|Wn<|Wr<|rtO<|qL (som<|ifT aM ai).symm<|h_ hr z ⟨bup (bup (bup (bup (bup (bup (bup (bM (bup (bup sg so) L) hb<|m1 ht) sa) s2) s3) G) s4) sw) b9,z⟩
  exact Wk<|Wg<|Rm z<|R z (inc_ aL (lt_ (a_.len hn) M_) z z)<|Ra z<|Wl (fun _ q=>⟨(),(som<|ifF aM ai).symm,⟨q.k<|s8 z z z z z z z z,bup sw b9⟩⟩)
 ·rintro _ _ _ ⟨bE,ba⟩;refine Wu ?_ bE;refine Wq<|Ws<|Rm z<|Rm z<|R z (lnR a_k z<|or_ (hn.e ba)<|a_.lt hn)<|R z (lss z z)<|Wn<|Wc z (fun hc=>(a_4 hc).elim) (fun _=>?_)
  exact We<|fun a' ha'=>⟨rfl,⟨Sat.weaken ha'<|s5 z z z z z,ba⟩⟩
 ·rintro _ cq _ rfl ⟨_,sc⟩;have bF:=elL aK;revert cq;refine Wo<|Ws<|Rm z ?_
  have bb:=(av.e s4).e sc;have bc:=lt_ (lt_ aw s4.s) sc.s;obtain ⟨_,cr,bG⟩:=bdS bF;refine E z (fc call48 z<|W_w1u (B:=wk.z) cr (a_s bc) (or_ bb<|a_.lt h1)<|ii z) ?_;rintro _ ct ⟨sd,_,_,_,_,rfl,cu,_,_⟩;obtain ⟨_,cv,bH⟩:=bdS bG;refine E z (fc call48 z<|W_w1u (B:=ct.z) cv zr (a_.rep cu)<|ii z) ?_;rintro _ aC ⟨se,_,_,_,_,rfl,be,_,_⟩;refine Ra z<|Wn<|Wq ?_
  obtain ⟨cw,bI,bJ⟩:=bdS bH;refine Wt (fun a w=>∃ (aD:Bool),aD=cw∧Sat 129 [(2,vB aD)] a∧Below aC.z aC w) ?_ ?_
  ·refine Wg<|Rm z<|Rm z ?_
   obtain ⟨cx,cy,aO⟩:=bdS bI;refine E z (fc call13 z<|W_w1t (B:=b1.z) cy (a_s<|lt_ (lt_ (lt_ (lt_ (lt_ s3.s G.s) s4.s) sc.s) sd.s) se.s) (repS.mono (or_ (((((((a6.e s2).e s3).e G).e s4).e sc).e sd).e se)<|a_.lt a6)<|a_s s2.s)<|or_ ((((((aq.e s3).e G).e s4).e sc).e sd).e se)<|a_.lt aq) ?_;rintro _ _ ⟨s6,rfl⟩;refine Rm z ?_
   rcases bs cx with hci | hci
   ·refine Rh z hci (mv z)<|Rh z hci (mv z) ?_
    have bf:=(((((((hp.e s2).e s3).e G).e s4).e sc).e sd).e se).e s6;have bg:=lt_ s2.s s3.s;obtain ⟨cz,cA,aP⟩:=bdS<|ifT aO hci;refine Eg z z hci z (fc call49 z<|W_w1v (B:=wr.z) cA (a_s<|lt_ (lt_ (lt_ (lt_ (lt_ G.s s4.s) sc.s) sd.s) se.s) s6.s) (repS.mono (or_ bf<|a_.lt hp)<|a_s bg)<|or_ ((((((b3.e G).e s4).e sc).e sd).e se).e s6)<|a_.lt b3) ?_;rintro _ _ ⟨sf,rfl⟩;refine R z (pT z hci z)<|Rm z ?_
    rcases bs cz with hcj | hcj
    ·refine Rh z hcj (mv z)<|Rh z hcj (mv z) ?_
     have bh:=(((bb.e sd).e se).e s6).e sf;have bi:=lt_ (lt_ bc sd.s) se.s;obtain ⟨cB,cC,aQ⟩:=bdS<|ifT aP hcj;refine Eg z z hcj z (fc call49 z<|W_w1v (B:=aC.z) cC (a_s<|lt_ s6.s sf.s) (or_ ((be.e s6).e sf)<|a_.lt be)<|repS.mono (or_ bh<|a_.lt h1)<|a_s bi) ?_;rintro _ _ ⟨sm,rfl⟩;refine R z (pT z hcj z)<|Rm z ?_
     rcases bs cB with I | I
     ·refine Rh z I (mv z)<|Rh z I (mv z) ?_
      have aE:=bh.e sm;obtain ⟨cD,cE,aR⟩:=bdS<|ifT aQ I;refine Eg z z I z (fc call50 z<|W_w1w (B:=wk.z) cE (a_s<|lt_ (lt_ (lt_ bi s6.s) sf.s) sm.s) (or_ aE<|a_.lt h1)<|or_ aE<|a_.lt h1) ?_;rintro _ _ ⟨sx,rfl,_⟩;refine Rh z I (mv z) ?_;have bj:=aE.e sx;refine Rh z I (lnR a_k z<|or_ bj<|a_.lt h1)<|Rh z I (eql z z)<|R z (pT z I z)<|Rm z ?_
      rcases bs (cD==(bP.length:Int)) with J | J
      ·refine Rh z J (mv z)<|Rh z J (mv z) ?_
       have bk:=((bf.e sf).e sm).e sx;obtain ⟨cF,cG,bK⟩:=bdS<|ifT aR J;refine Eg z z J z (fc call50 z<|W_w1w (B:=ap.z) cG (a_s<|lt_ (lt_ (lt_ (lt_ (lt_ (lt_ (lt_ (lt_ (lt_ bg G.s) s4.s) sc.s) sd.s) se.s) s6.s) sf.s) sm.s) sx.s) (or_ bk<|a_.lt hp)<|repS.mono (or_ bj<|a_.lt h1)<|a_s hu) ?_;rintro _ _ ⟨bm,rfl,_⟩;exact Rh z J (mv z)<|Rh z J (lnR a_k z<|or_ (bk.e bm)<|a_.lt hp)<|Rh z J (b_y z z)<|R z (pT z J z)<|Ra z<|Wl (fun _ q=>⟨decide<|cF≤(bW.length:Int),som bK,q.k<|s1 z,bup (bup (bup (bup s6 sf) sm) sx) bm⟩)
      iterate 6 refine Nh z J ?_
      exact R z (pF z J z)<|Ra z<|Wl (fun _ q=>⟨false,som<|ifF aR J,q.k<|s1 z,bup (bup (bup s6 sf) sm) sx⟩)
     iterate 6 refine Nh z I ?_
     exact R z (pF z I z)<|Rm z<|Nh z z<|Nh z z<|Nh z z<|Nh z z<|Nh z z<|Nh z z<|R z (pF z z z)<|Ra z<|Wl (fun _ q=>⟨false,som<|ifF aQ I,q.k<|s1 z,bup (bup s6 sf) sm⟩)
    iterate 3 refine Nh z hcj ?_
    exact R z (pF z hcj z)<|Rm z<|Nh z z<|Nh z z<|Nh z z<|Nh z z<|Nh z z<|Nh z z<|R z (pF z z z)<|Rm z<|Nh z z<|Nh z z<|Nh z z<|Nh z z<|Nh z z<|Nh z z<|R z (pF z z z)<|Ra z<|Wl (fun _ q=>⟨false,som<|ifF aP hcj,q.k<|s1 z,bup s6 sf⟩)
   iterate 3 refine Nh z hci ?_
   exact R z (pF z hci z)<|Rm z<|Nh z z<|Nh z z<|Nh z z<|R z (pF z z z)<|Rm z<|Nh z z<|Nh z z<|Nh z z<|Nh z z<|Nh z z<|Nh z z<|R z (pF z z z)<|Rm z<|Nh z z<|Nh z z<|Nh z z<|Nh z z<|Nh z z<|Nh z z<|R z (pF z z z)<|Ra z<|Wl (fun _ q=>⟨false,som<|ifF aO hci,q.k<|s1 z,s6⟩)
  rintro cH _ ⟨aD,rfl,_,cI⟩;revert cH;refine Wo ?_;obtain rfl:=som bJ;exact Wr<|h_ hr z ⟨bup (bup (bup (bup (bup (bup (bup (bup (bup (bM (bup (bup sg so) L) hb<|m1 ht) sa) s2) s3) G) s4) sc) sd) se) cI,z⟩
 rintro _ _ _ _ rfl ⟨rfl,bL⟩;have bN:=elR aK;obtain rfl:=som bN;exact ⟨bL,z⟩
end Go.Vw
