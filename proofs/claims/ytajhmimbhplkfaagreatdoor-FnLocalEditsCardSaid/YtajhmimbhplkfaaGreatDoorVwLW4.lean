
import Derived.Test.YtajhmimbhplkfaaGreatDoorVwLW3
set_option linter.unusedVariables false
namespace Go.Vw
open Go.RowKit Dat Go.Proofs
open Go.Proofs.Tryz
open Go.Vw renaming b_3→Wq,b_r→Wg,WC.of_KC→Wo,b_4→Wl,d_8→Wc,d_B→Wr,g_6→Wu,h_A→pT,h_B→pF,i_4→fd,c_t→l1,i_5→lN,b_R→mv,d_o→asg,f_T→lnR,g_c→lss,i_a→eql,i_6→ext_,h_D→bP,g_8→add_,f_P→inc_,e_o→not_,f_U→at_,e_P→fc,b_N→fs,e_O→fb,e_f→fa,h_u→sr,h_y→cr,h_z→cM,d_e→bM,h_n→iS,h_m→iA,h_p→br,c_0→oA,h_q→bs,ltge→lg,inor→io,g_b→nq,i_7→lnT,i_8→sb_,h_s→ar_,h_r→al_,h_t→ds,i_H→m1,h_w→nr_,h_v→nl_,f_R→aa_,d_d→an_,d_C→Wb,f_Q→u8,h_h→pD,f_A→We,h_o→Wt,f_M→fS,e_K→or_,i_2→Wf,h_K→qL,h_g→Wd,h_E→fN,f_S→na_,h_x→nj,e_U→f0,h_C→rX,h_F→tl_,h_G→ic
variable {A0:Option Addr} {N0 C0:Nat} {B:Zone} {w0:World} {n:Nat} {A6:Option Addr} {N6 C6:Nat} {A9:Option Addr} {A8:Option Addr} {AA:Option Addr} {AB:Option Addr} {N9 C9:Nat} {N8 C8:Nat} {NA CA:Nat} {NB CB:Nat} {AC:Option Addr} {AD:Option Addr} {NC CC:Nat} {ND CD:Nat} {A2:Option Addr} {A3:Option Addr} {A1:Option Addr} {A4:Option Addr} {N2 C2:Nat} {N3 C3:Nat} {N1 C1:Nat} {N4 C4:Nat} {A7:Option Addr} {N7 C7:Nat} {A5:Option Addr} {N5 C5:Nat} {AF:Option Addr} {NF CF:Nat}
theorem o_j {x1:List UInt8} {res:Bool} (hm:f_L n x1=some res) (hBw:B≤w0.z) (hG:Gl w0 B) (p1_0:repS w0 B (sl A0 N0 C0) x1):m_ prog 3 [sl A0 N0 C0] w0 (o_i w0 B res):=by
 unfold f_L at hm
 refine goF func3 z z (lb z) fun fn hr=>Ws<|Ra z<|Wn<|Wq<|Ws<|Rm z ?_
 obtain ⟨_,aY,a7⟩:=bdS hm;refine E z (fc call9 z<|W_w20 (B:=B) aY hBw p1_0) ?_;rintro _ _ ⟨sh,rfl⟩;refine Wn<|Wc z (fun a0=>?_) (fun a0=>?_)
 ·refine Ws<|Ra z<|Wn ?_
  obtain rfl:=som<|ifT a7 a0;exact Wr<|h_ hr z ⟨sh,z⟩
 refine Wk<|Ws<|Rm z ?_
 obtain ⟨_,_,_,_,aZ,aP⟩:=bd4S<|ifF a7 a0;refine E z (fc call10 z<|W_w2j (B:=B) aZ (zt' hBw sh.s)<|p1_0.e sh) ?_;rintro _ wl ⟨ss,ao,np,cq,_,_,_,_,_,_,_,_,_,rfl,hi,he,a3,ht,_,_⟩;refine Rm z ?_
 iterate 4 refine R z (ext_ z z) ?_
 refine E z (fa f_X) ?_;rintro _ b0 ⟨rfl,aj⟩;have hf:=aj.below;have ak:Blk b0 wl.z [sl none 0 0]:=aj.blk;refine E0 (fs (cur':=[sl ao np cq]) s_ z z ak z (lb z) (oA z) z) ?_;rintro _ _ ⟨al,b1⟩;have V:=b1.one;refine Ra z<|Ra z<|Ra z<|Wn<|Ws<|R z (lN (vs:=[sl ao np cq]) v_ s_ z z fid<|al.row 0 1 z)<|Rm z<|Rm z<|Rm z ?_
 have am:=(hi.e hf).c V<|ds<|mnr<|a_.lt hi
 have an:=(he.e hf).c V<|ds<|mnr<|a_.lt he
 have ap:=(ht.e hf).c V<|ds<|mnr<|a_.lt ht
 have hw:=lt_ sh.s ss.s;have aq:=zt' hBw hw;have ar:=lt_ hf.s V.s;obtain ⟨_,_,b2,aQ⟩:=a_c aP;refine E z (fc call11 z<|W_w37 (B:=wl.z) b2 (a_V ar) (((((hG.e sh).e ss).e hf).c V<|c_ (or0 (b_ lr)  (j_ aq) : ∀ k∈[wl.z],¬ B k)).mono aq) (or_ am<|a_.lt hi) (or_ an<|a_.lt he) a3<|or_ ap<|a_.lt ht) ?_;rintro _ au ⟨sa,_,_,_,_,rfl,hu,_,_⟩;refine Rm z<|R z (ext_ z z)<|R z (ext_ z z)<|Ra z<|Ra z<|Wn<|Wq<|Ws ?_
 have av:=al.e sa;refine R z (lN (vs:=[sl ao np cq]) v_ s_ z z fid<|av.row 0 1 z)<|Rm z<|Rm z<|Rm z ?_
 have aw:=am.e sa;have a4:=an.e sa;have ax:=ap.e sa;have hx:=lt_ ar sa.s;obtain ⟨_,_,b3,a8⟩:=a_c aQ;refine E z (fc call12 z<|W_w3a (B:=wl.z) b3 (a_V hx) (or_ aw<|a_.lt hi) (or_ a4<|a_.lt he) a3<|or_ ax<|a_.lt ht) ?_;rintro _ _ ⟨s3,_,_,_,_,rfl,_,_,_⟩;refine Rm z<|R z (ext_ z z)<|R z (ext_ z z)<|Ra z<|Ra z<|Wn<|Ws<|Rm z<|Rm z<|R z (o_z d_4 z z)<|Wn<|Wc z (fun a1=>?_) (fun a1=>?_)
 ·refine Ws<|Ra z<|Wn ?_
  obtain rfl:=som<|ifT a8 a1;exact Wr<|h_ hr z ⟨bup (bup (bM (bup (bup sh ss) hf) V<|m1 hw) sa) s3,z⟩
 have a9:=ifF a8 a1;refine Wk<|Wq<|Ws<|Rm z<|R z (not_ z)<|Wn<|Wc z (fun a2=>?_) (fun a2=>?_)
 ·refine Ws<|Rm z<|Rm z ?_
  obtain ⟨_,b4,aR⟩:=bdS<|ifT a9 a2;refine E z (fc call13 z<|W_w1z (B:=au.z) b4 (a_V s3.s) (or_ (hu.e s3)<|a_.lt hu)<|repS.mono (or_ (a4.e s3)<|a_.lt he)<|a_V hx) ?_;rintro _ _ ⟨b5,rfl⟩;refine Ra z<|Wn ?_
  obtain rfl:=som aR;exact Wr<|h_ hr z ⟨bup (bup (bup (bM (bup (bup sh ss) hf) V<|m1 hw) sa) s3) b5,z⟩
 refine Wk<|Ws ?_
 have ay:=av.e s3;refine R z (lN (vs:=[sl ao np cq]) v_ s_ z z fid<|ay.row 0 1 z)<|Rm z<|Rm z ?_
 have az:=aw.e s3;have aA:=a4.e s3;have aB:=lt_ hx s3.s;obtain ⟨rr,_,b6,aS⟩:=a_c<|ifF a9 a2;refine E z (fc call14 z<|h_X (B:=wl.z) b6 (a_V aB) (or_ az<|a_.lt hi) (or_ aA<|a_.lt he) a3) ?_;rintro _ b7 ⟨sb,rfl,_,_,aC,_⟩;refine Rm z<|R z (ext_ z z)<|R z (ext_ z z)<|E z (fa d_l) ?_
 rintro _ b8 ⟨rfl,aD⟩;have hj:=aD.below;refine E0 (fs (cur':=[Str.v rr.path,vI rr.rule,vI rr.start,vI rr.end_]) a_L z z (aD.blk:Blk b8 b7.z [(Str.v (⟨[]⟩:Str)),vI 0,vI 0,vI 0]) z (lb z) (oA z) z) ?_;rintro _ _ ⟨b9,ba⟩;have hk:=ba.one;refine Ra z<|Wn<|Ws ?_
 have aE:=((ay.e sb).e hj).c hk<|djs<|mm1 ak.lt<|lt_ (lt_ (lt_ V.s sa.s) s3.s) sb.s
 refine R z (lN (vs:=[sl ao np cq]) v_ s_ z z fid<|aE.row 0 1 z)<|Rm z ?_
 have hy:=lt_ aB sb.s;have aF:=((az.e sb).e hj).c hk<|ds<|mno (a_.lt hi) hy
 have aG:=((aA.e sb).e hj).c hk<|ds<|mno (a_.lt he) hy
 have aH:=lt_ (lt_ hy hj.s) hk.s;obtain ⟨aI,_,bb,aT⟩:=a_c aS;refine E z (fc call15 z<|W_w3b (B:=wl.z) bb (a_V aH) (or_ aF<|a_.lt hi)<|or_ aG<|a_.lt he) ?_;rintro _ bc ⟨sg,_,_,_,_,rfl,hv,_,_⟩;refine Rm z<|R z (ext_ z z)<|R z (ext_ z z)<|Ra z<|Ra z<|Wn<|Ws<|Rm z<|R z (fd b_D z) ?_
 have hz:=b9.e sg;refine R z (l1 g_3 z fid<|hz.at z)<|R z (fd c_p z)<|R z (l1 g_3 z fid<|hz.at z)<|R z (fd b_D z)<|R z (l1 g_3 z fid<|hz.at z)<|R z (sb_ z z) ?_
 obtain ⟨aJ,be,aU⟩:=bdS aT;refine E z (fc call16 z<|W_w3c (B:=bc.z) be zr (a_.rep hv) aC<|iS _ _) ?_;rintro _ _ ⟨sc,rfl,_⟩;refine Ra z<|Wn<|Ws<|Rm z<|R z (fd b_D z) ?_
 have W:=hz.e sc;refine R z (l1 g_3 z fid<|W.at z)<|R z (fd c_p z)<|R z (l1 g_3 z fid<|W.at z)<|R z (fd b_D z)<|R z (l1 g_3 z fid<|W.at z)<|R z (sb_ z z)<|Rm z ?_
 obtain ⟨_,bf,bg,aV⟩:=a_c aU;refine E z (fc call17 z<|W_w1y (B:=wl.z) bg (a_V<|lt_ (lt_ aH sg.s) sc.s) (or_ ((aG.e sg).e sc)<|a_.lt he) aC (iS _ _)<|or_ ((((((ax.e s3).e sb).e hj).c hk<|ds<|mno (a_.lt ht) hy).e sg).e sc)<|a_.lt ht) ?_;rintro _ a5 ⟨sn,_,_,_,_,rfl,aK,_,_⟩;refine Rm z<|R z (ext_ z z)<|R z (ext_ z z)<|Ra z<|Ra z<|Wn<|Wq ?_
 obtain ⟨bh,aa,aW⟩:=bdS aV;refine Wt (fun a w=>∃ (a6:Bool),a6=bh∧Sat 132 [(2,vB a6)] a∧Below a5.z a5 w) ?_ ?_
 ·refine Wd (X:=noX) 0 (.rd 0<|.rd 1<|.rd 2<|.rd 3<|.ef 4<|.rd 5<|.rd 6<|.rd 7<|.rd 8<|.ef 9<|.rd 10<|.rd 11<|.rd 12<|.rd 13<|.rd 14<|.rd 15<|.rd 16<|.rd 17<|.rd 18<|.rd 19<|.rd 20<|.rd 21<|.rd 22<|.rd 23<|.rd 24<|.rd 25<|.rd 26<|.rd 27<|.rd 28<|.rd 29<|.rd 30<|.rd 31<|.rd 32<|.rd 33<|.rd 34<|.rd 35<|.rd 36<|.rd 37<|.rd 38<|.rd 39<|.rd 40<|.rd 41<|.rd 42<|.rd 43<|.rd 44<|.rd 45<|.rd 46 .done) mo (by kernel_rfl) fun bz s2 _=>dR z z (mv z)<|dR z z (mv z) ?_
  rcases bs bf with L | L
  ·refine dRg z z z L z (mv z)<|dRg z z z L z (mv z) ?_
   have aL:=lt_ s3.s sb.s;have aM:=(((((((hu.e s3).e sb).e hj).c hk<|ds<|mno (a_.lt hu) aL).e sg).e sc).e sn).e s2;have aN:=lt_ (lt_ (lt_ (lt_ (lt_ aL hj.s) hk.s) sg.s) sc.s) sn.s;obtain ⟨bi,bj,ab⟩:=bdS<|ifT aa L;refine dEg z z z L z (fc call13 z<|W_w1z (B:=a5.z) bj (a_V s2.s) (repS.mono (or_ aM<|a_.lt hu)<|a_V aN)<|or_ (aK.e s2)<|a_.lt aK) (.inr fun _ _ h=>A_<|h.1) ?_;rintro _ _ ⟨s6,rfl⟩;refine dR z z (pT z L z)<|dR z z (mv z) ?_
   rcases bs bi with O | O
   ·refine dRg z z z O z (lN (vs:=[sl ao np cq]) v_ s_ z z fid<|(((((aE.e sg).e sc).e sn).e s2).e s6).row 0 1 z)<|dRg z z z O z (mv z) ?_
    obtain ⟨bk,bm,ad⟩:=bdS<|ifT ab O;refine dEg z z z O z (fc call18 z<|j_C (B:=au.z) bm (a_V<|lt_ (lt_ aN s2.s) s6.s) (repS.mono (or_ (((((aF.e sg).e sc).e sn).e s2).e s6)<|a_.lt hi)<|a_V hx)<|or_ (aM.e s6)<|a_.lt hu) (.inr fun _ _ h=>A_<|h.1) ?_;rintro _ _ ⟨sm,rfl⟩;refine dR z z (pT z O z)<|dR z z (mv z) ?_
    rcases bs bk with H | H
    ·have ae:=ifT ad H;refine dRg z z z H z (mv z) ?_;have Y:=((((hv.e sc).e sn).e s2).e s6).e sm;refine dRg z z z H z (lnR e_Z z<|or_ Y<|a_.lt hv)<|dRg z z z H z (eql z z)<|dRg z z z H z (mv z) ?_
     rcases bs ((aI.length:Int)==0) with G | G
     ·iterate 3 refine dRn z z z G z ?_
      iterate 4 refine dRu z z z z ?_
      refine dRn z z z G z<|dRn z z z G z ?_
      iterate 8 refine dRu z z z z ?_
      refine dRn z z z G z<|dRn z z z G z ?_
      iterate 8 refine dRu z z z z ?_
      exact dRn z z z G z<|dRg z z z H z (pT z G z)<|dR z z (pT z H z)<|dR z z (asg z)<|pD (fun _ q=>⟨true,som<|ifT ae G,q.k<|s1 z,bup (bup s2 s6) sm⟩)
     have af:=ifF ae G;refine dRg z z z G z (mv z)<|dRg z z z G z (b_e z z)<|dRg z z z G z (mv z) ?_
     rcases bs (decide<|0≤aJ) with hcd | hcd
     ·have ah:=ifT af hcd;refine dRg z z z hcd z (mv z)<|dRg z z z hcd z (mv z)<|dRg z z z hcd z (lnR e_Z z<|or_ Y<|a_.lt hv)<|dRg z z z hcd z (lss z z)<|dRg z z z G z (pT z hcd z)<|dRg z z z G z (mv z) ?_
      rcases bs (decide<|aJ<(aI.length:Int)) with I | I
      ·refine dRg z z z I z (mv z)<|dRg z z z I z (mv z) ?_
       obtain ⟨bn,bo,ai⟩:=bdS<|ifT ah I;refine c_1 z z z I z (at_ (α:=K_) e_Z a_L z z z (or_ Y<|a_.lt hv) bo) ?_;rintro _ ⟨_,_,_,rfl,bp,bq,_⟩;obtain ⟨rfl,_,_,_,_⟩:=i_S bq;refine dRg z z z I z (fd b_D z)<|dRg z z z I z (l1 g_3 z fid<|bp.at (j:=2) z)<|dRg z z z I z (fd b_D z) ?_
       have aO:=(((W.e sn).e s2).e s6).e sm;refine dRg z z z I z (l1 g_3 z fid<|aO.at z)<|dRg z z z I z (b_S z z)<|dRg z z z G z (pT z I z)<|dRg z z z G z (mv z) ?_
       rcases bs (decide<|bn.start≤rr.start) with J | J
       ·refine dRg z z z J z (mv z)<|dRg z z z J z (mv z) ?_
        obtain ⟨br,bt,aX⟩:=bdS<|ifT ai J;refine c_1 z z z J z (at_ (α:=K_) e_Z a_L z z z (or_ Y<|a_.lt hv) bt) ?_;rintro _ ⟨_,_,_,rfl,bu,bv,_⟩;obtain ⟨rfl,_,_,_,_⟩:=i_S bv;exact dRg z z z J z (fd c_p z)<|dRg z z z J z (l1 g_3 z fid<|bu.at (j:=3) z)<|dRg z z z J z (fd c_p z)<|dRg z z z J z (l1 g_3 z fid<|aO.at z)<|dRg z z z J z (b_e z z)<|dRg z z z G z (pT z J z)<|dRg z z z H z (pF z G z)<|dR z z (pT z H z)<|dR z z (asg z)<|pD (fun _ q=>⟨decide<|rr.end_≤br.end_,som aX,q.k<|s1 z,bup (bup s2 s6) sm⟩)
       iterate 8 refine dRn z z z J z ?_
       exact dRg z z z G z (pF z J z)<|dRg z z z H z (pF z G z)<|dR z z (pT z H z)<|dR z z (asg z)<|pD (fun _ q=>⟨false,som<|ifF ai J,q.k<|s1 z,bup (bup s2 s6) sm⟩)
      iterate 8 refine dRn z z z I z ?_
      refine dRg z z z G z (pF z I z)<|dRg z z z G z (mv z) ?_
      iterate 8 refine dRn z z z z z ?_
      exact dRg z z z G z (pF z z z)<|dRg z z z H z (pF z G z)<|dR z z (pT z H z)<|dR z z (asg z)<|pD (fun _ q=>⟨false,som<|ifF ah I,q.k<|s1 z,bup (bup s2 s6) sm⟩)
     iterate 4 refine dRn z z z hcd z ?_
     refine dRg z z z G z (pF z hcd z)<|dRg z z z G z (mv z) ?_
     iterate 8 refine dRn z z z z z ?_
     refine dRg z z z G z (pF z z z)<|dRg z z z G z (mv z) ?_
     iterate 8 refine dRn z z z z z ?_
     exact dRg z z z G z (pF z z z)<|dRg z z z H z (pF z G z)<|dR z z (pT z H z)<|dR z z (asg z)<|pD (fun _ q=>⟨false,som<|ifF af hcd,q.k<|s1 z,bup (bup s2 s6) sm⟩)
    iterate 4 refine dRn z z z H z ?_
    iterate 28 refine dRu z z z z ?_
    exact dRn z z z H z<|dR z z (pF z H z)<|dR z z (asg z)<|pD (fun _ q=>⟨false,som<|ifF ad H,q.k<|s1 z,bup (bup s2 s6) sm⟩)
   refine dRn z z z O z<|dRn z z z O z<|dEn z z z O z<|dR z z (pF z O z)<|dR z z (mv z) ?_
   iterate 4 refine dRn z z z z z ?_
   iterate 28 refine dRu z z z z ?_
   exact dRn z z z z z<|dR z z (pF z z z)<|dR z z (asg z)<|pD (fun _ q=>⟨false,som<|ifF ab O,q.k<|s1 z,bup s2 s6⟩)
  refine dRn z z z L z<|dRn z z z L z<|dEn z z z L z<|dR z z (pF z L z)<|dR z z (mv z)<|dRn z z z z z<|dRn z z z z z<|dEn z z z z z<|dR z z (pF z z z)<|dR z z (mv z) ?_
  iterate 4 refine dRn z z z z z ?_
  iterate 28 refine dRu z z z z ?_
  exact dRn z z z z z<|dR z z (pF z z z)<|dR z z (asg z)<|pD (fun _ q=>⟨false,som<|ifF aa L,q.k<|s1 z,s2⟩)
 rintro bw _ ⟨a6,rfl,_,bx⟩;revert bw;refine Wo ?_;obtain rfl:=som aW;exact Wr<|h_ hr z ⟨bup (bup (bup (bup (bM (bup (bup (bup (bup (bM (bup (bup sh ss) hf) V<|m1 hw) sa) s3) sb) hj) hk<|m1<|lt_ (lt_ (lt_ (lt_ (lt_ hw hf.s) V.s) sa.s) s3.s) sb.s) sg) sc) sn) bx,z⟩
end Go.Vw
