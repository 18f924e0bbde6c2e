
import Derived.Test.YtajhmimbhplkfaaGreatDoorVwLW1
set_option linter.unusedVariables false
namespace Go.Vw
open Go.RowKit Dat Go.Proofs
open Go.Proofs.Tryz
open Go.Vw renaming b_3→Wq,b_r→Wg,WC.of_KC→Wo,b_4→Wl,d_8→Wc,d_B→Wr,g_6→Wu,h_A→pT,h_B→pF,i_4→fd,c_t→l1,i_5→lN,b_R→mv,d_o→asg,f_T→lnR,g_c→lss,i_a→eql,i_6→ext_,h_D→bP,g_8→add_,f_P→inc_,e_o→not_,f_U→at_,e_P→fc,b_N→fs,e_O→fb,e_f→fa,h_u→sr,h_y→cr,h_z→cM,d_e→bM,h_n→iS,h_m→iA,h_p→br,c_0→oA,h_q→bs,ltge→lg,inor→io,g_b→nq,i_7→lnT,i_8→sb_,h_s→ar_,h_r→al_,h_t→ds,i_H→m1,h_w→nr_,h_v→nl_,f_R→aa_,d_d→an_,d_C→Wb,f_Q→u8,h_h→pD,f_A→We,h_o→Wt,f_M→fS,e_K→or_,i_2→Wf,h_K→qL,h_g→Wd,h_E→fN,f_S→na_,h_x→nj,e_U→f0,h_C→rX,h_F→tl_,h_G→ic
variable {A0:Option Addr} {N0 C0:Nat} {B:Zone} {w0:World} {n:Nat} {A6:Option Addr} {N6 C6:Nat} {A9:Option Addr} {A8:Option Addr} {AA:Option Addr} {AB:Option Addr} {N9 C9:Nat} {N8 C8:Nat} {NA CA:Nat} {NB CB:Nat} {AC:Option Addr} {AD:Option Addr} {NC CC:Nat} {ND CD:Nat} {A2:Option Addr} {A3:Option Addr} {A1:Option Addr} {A4:Option Addr} {N2 C2:Nat} {N3 C3:Nat} {N1 C1:Nat} {N4 C4:Nat} {A7:Option Addr} {N7 C7:Nat} {A5:Option Addr} {N5 C5:Nat} {AF:Option Addr} {NF CF:Nat}
theorem W_w2c {x1:f_} {x2:e_} {res:Bool} (hm:g_w x1 x2=some res) (hBw:B≤w0.z) (p1_0:repS w0 B (sl A0 N0 C0) x1.rules) (p2_0:x2.name.b.length≤LEN) (p2_1:inI x2.kind) (p2_2:inI x2.size) (p2_4:repS w0 B (sl A2 N2 C2) x2.bytes) (p2_5:repS w0 B (sl A3 N3 C3) x2.names) (p2_6:repS w0 B (sl A1 N1 C1) x2.tags) (p2_7:repS w0 B (sl A4 N4 C4) x2.kids):m_ prog 174 [(.agg #[sl A0 N0 C0]),(.agg #[Str.v x2.name,vI x2.kind,vI x2.size,vB x2.little,sl A2 N2 C2,sl A3 N3 C3,sl A1 N1 C1,sl A4 N4 C4])] w0 (Q0 w0 B res):=by
 unfold g_w at hm
 refine goF func174 z z (lb z) fun fn hr=>Ws<|E z (fb z) ?_
 rintro _ aa ⟨rfl,aK⟩;have h1:=aK.below;have ab:Blk aa w0.z [sl A0 N0 C0]:=aK.blk;refine E z (fb z) ?_;rintro _ H ⟨rfl,aL⟩;have G:=aL.below;have h3:Blk H aa.z (vR x2 A2 N2 C2 A3 N3 C3 A1 N1 C1 A4 N4 C4):=aL.blk;refine Ra z<|Wn<|Wq<|Ws<|R z (fd a_C z)<|R z (l1 g_3 z fid<|h3.at z)<|Wn<|Wb<|Ws<|R z (eql z z)<|Ra z<|Wn<|Wc z (fun a0=>?_) (fun a0=>?_)
 ·refine Wq ?_;obtain ⟨bz,b4,b5⟩:=bdS<|ifT hm a0;refine Wt (fun a w=>∃ (ad:Bool),ad=bz∧Sat 114 [(4,vB ad)] a∧Below H.z H w) ?_ ?_
  ·refine Wg<|R z (lN (vs:=vR x2 A2 N2 C2 A3 N3 C3 A1 N1 C1 A4 N4 C4) I_ o_ z z fid<|h3.row 0 8 z) ?_
   have hw:=(h1.ag B).e G;have aM:=lt_ h1.s G.s;obtain ⟨bA,bB,ao⟩:=bdS b4;refine E z (fc call205 z<|d_m (B:=B) bB (zt' hBw aM) p2_0 p2_1 p2_2 (p2_4.g hw) (p2_5.g hw) (p2_6.g hw) (p2_7.g hw)<|ii z) ?_;rintro _ _ ⟨sg,rfl⟩;refine Rm z ?_
   rcases bs bA with hca | hca
   ·refine Rh z hca (fd a_K z) ?_;have aN:=h3.e sg;refine Rh z hca (l1 g_3 z fid<|aN.at z) ?_;obtain ⟨bC,bD,ap⟩:=bdS<|ifT ao hca;refine Eg z z hca z (fc call103 z<|b_m (B:=B) bD (zt' hBw<|lt_ aM sg.s) p2_2 (ii z)<|ii z) ?_;rintro _ _ ⟨sx,rfl⟩;refine R z (pT z hca z)<|Rm z ?_
    rcases bs bC with L | L
    ·have aq:=ifT ap L;refine Rh z L (fd c_D z) ?_;have aO:=aN.e sx;refine Rh z L (l1 g_4 z fid<|aO.at z)<|Rh z L (not_ z)<|Rh z L (mv z) ?_
     rcases bs (!x2.little) with hcb | hcb
     ·iterate 3 refine Nh z hcb ?_
      exact Rh z L (pT z hcb z)<|R z (pT z L z)<|Ra z<|Wl (fun _ q=>⟨true,som<|ifT aq hcb,q.k<|s1 z,bup sg sx⟩)
     exact Rh z hcb (fd a_K z)<|Rh z hcb (l1 g_3 z fid<|aO.at z)<|Rh z hcb (a_1 z z)<|Rh z L (pF z hcb z)<|R z (pT z L z)<|Ra z<|Wl (fun _ q=>⟨decide<|1<x2.size,som<|ifF aq hcb,q.k<|s1 z,bup sg sx⟩)
    iterate 4 refine Nh z L ?_
    exact Nv z<|Nv z<|Nv z<|Nh z L<|R z (pF z L z)<|Ra z<|Wl (fun _ q=>⟨false,som<|ifF ap L,q.k<|s1 z,bup sg sx⟩)
   iterate 3 refine Nh z hca ?_
   exact R z (pF z hca z)<|Rm z<|Nh z z<|Nh z z<|Nh z z<|Nh z z<|Nv z<|Nv z<|Nv z<|Nh z z<|R z (pF z z z)<|Ra z<|Wl (fun _ q=>⟨false,som<|ifF ao hca,q.k<|s1 z,sg⟩)
  rintro bE _ ⟨ad,rfl,_,bF⟩;revert bE;refine Wo ?_;obtain rfl:=som b5;exact Wr<|rtO<|h_ hr z ⟨bup (bup h1 G) bF,z⟩
 have ar:=ifF hm a0;refine Ws<|R z (eql z z)<|Ra z<|Wn<|Wc z (fun a1=>?_) (fun a1=>?_)
 ·refine Wq ?_;obtain ⟨bG,b6,b7⟩:=bdS<|ifT ar a1;refine Wt (fun a w=>∃ (ae:Bool),ae=bG∧Sat 114 [(4,vB ae)] a∧Below H.z H w) ?_ ?_
  ·refine Wg<|R z (lN (vs:=vR x2 A2 N2 C2 A3 N3 C3 A1 N1 C1 A4 N4 C4) I_ o_ z z fid<|h3.row 0 8 z) ?_
   have hl:=(h1.ag B).e G;have aP:=lt_ h1.s G.s;obtain ⟨bH,bI,au⟩:=bdS b6;refine E z (fc call205 z<|d_m (B:=B) bI (zt' hBw aP) p2_0 p2_1 p2_2 (p2_4.g hl) (p2_5.g hl) (p2_6.g hl) (p2_7.g hl)<|ii z) ?_;rintro _ _ ⟨sn,rfl⟩;refine Rm z ?_
   rcases bs bH with V | V
   ·refine Rh z V (fd a_W z)<|Rh z V (l1 X_ z fid<|(h3.e sn).at z) ?_
    have aQ:=p2_4.g<|hl.e sn
    refine Rh z V (lnR n_ z aQ) ?_;obtain ⟨bJ,bK,b8⟩:=bdS<|ifT au V;refine Eg z z V z (fc call103 z<|b_m (B:=B) bK (zt' hBw<|lt_ aP sn.s) (a_U<|repS.len aQ) (ii z)<|ii z) ?_;rintro _ _ ⟨bL,rfl⟩;exact R z (pT z V z)<|Ra z<|Wl (fun _ q=>⟨bJ,som b8,q.k<|s1 z,bup sn bL⟩)
   iterate 4 refine Nh z V ?_
   exact R z (pF z V z)<|Ra z<|Wl (fun _ q=>⟨false,som<|ifF au V,q.k<|s1 z,sn⟩)
  rintro bM _ ⟨ae,rfl,_,bN⟩;revert bM;refine Wo ?_;obtain rfl:=som b7;exact Wr<|rtO<|h_ hr z ⟨bup (bup h1 G) bN,z⟩
 have av:=ifF ar a1;refine Ws<|R z (eql z z)<|Ra z<|Wn<|Wc z (fun a2=>?_) (fun a2=>?_)
 ·refine Wq ?_;obtain ⟨bO,b9,ba⟩:=bdS<|ifT av a2;refine Wt (fun a w=>∃ (af:Bool),af=bO∧Sat 114 [(4,vB af)] a∧Below H.z H w) ?_ ?_
  ·refine Wg<|R z (lN (vs:=vR x2 A2 N2 C2 A3 N3 C3 A1 N1 C1 A4 N4 C4) I_ o_ z z fid<|h3.row 0 8 z) ?_
   have hy:=(h1.ag B).e G;have aR:=lt_ h1.s G.s;obtain ⟨bP,bQ,aw⟩:=bdS b9;refine E z (fc call205 z<|d_m (B:=B) bQ (zt' hBw aR) p2_0 p2_1 p2_2 (p2_4.g hy) (p2_5.g hy) (p2_6.g hy) (p2_7.g hy)<|ii z) ?_;rintro _ _ ⟨sz,rfl⟩;refine Rm z ?_
   rcases bs bP with hcc | hcc
   ·refine Rh z hcc (fd a_K z)<|Rh z hcc (l1 g_3 z fid<|(h3.e sz).at z) ?_
    obtain ⟨bR,bS,bb⟩:=bdS<|ifT aw hcc;refine Eg z z hcc z (fc call103 z<|b_m (B:=B) bS (zt' hBw<|lt_ aR sz.s) p2_2 (ii z)<|ii z) ?_;rintro _ _ ⟨bT,rfl⟩;exact R z (pT z hcc z)<|Ra z<|Wl (fun _ q=>⟨bR,som bb,q.k<|s1 z,bup sz bT⟩)
   iterate 3 refine Nh z hcc ?_
   exact R z (pF z hcc z)<|Ra z<|Wl (fun _ q=>⟨false,som<|ifF aw hcc,q.k<|s1 z,sz⟩)
  rintro bU _ ⟨af,rfl,_,bV⟩;revert bU;refine Wo ?_;obtain rfl:=som ba;exact Wr<|rtO<|h_ hr z ⟨bup (bup h1 G) bV,z⟩
 have ax:=ifF av a2;refine Ws<|R z (eql z z)<|Ra z<|Wn<|Wc z (fun a3=>?_) (fun a3=>?_)
 ·refine Wq ?_;obtain ⟨bW,bc,be⟩:=bdS<|ifT ax a3;refine Wt (fun a w=>∃ (ah:Bool),ah=bW∧Sat 114 [(4,vB ah)] a∧Below H.z H w) ?_ ?_
  ·refine Wd (X:=noX) 0 (.rd 0<|.ef 1<|.rd 2<|.rd 3<|.rd 4<|.rd 5<|.rd 6<|.rd 7<|.ef 8<|.rd 9<|.rd 10<|.rd 11 .done) mo (by kernel_rfl) fun cO sh _=>?_
   have aS:=h3.e sh;refine dR z z (lN (vs:=vR x2 A2 N2 C2 A3 N3 C3 A1 N1 C1 A4 N4 C4) I_ o_ z z fid<|aS.row 0 8 z) ?_;have ho:=((h1.ag B).e G).e sh;have aT:=lt_ (lt_ h1.s G.s) sh.s;obtain ⟨bX,bY,ay⟩:=bdS bc;refine dE z z (fc call205 z<|d_m (B:=B) bY (zt' hBw aT) p2_0 p2_1 p2_2 (p2_4.g ho) (p2_5.g ho) (p2_6.g ho) (p2_7.g ho)<|ii z) (.inr fun _ _ h=>A_<|h.1) ?_;rintro _ _ ⟨si,rfl⟩;refine dR z z (mv z) ?_
   rcases bs bX with I | I
   ·refine dRg z z z I z (lN (vs:=[sl A0 N0 C0]) v_ s_ z z fid<|(((ab.e G).e sh).e si).row 0 1 z)<|dRg z z z I z (fd N_ z)<|dRg z z z I z (l1 C_ z fid<|(aS.e si).at z) ?_
    obtain ⟨_,bZ,bf⟩:=bdS<|ifT ay I;have aU:=ho.e si;refine c_1 z z z I z (at_ (α:=Int) w_ z_3 z z z (p2_7.g aU) bZ) ?_;rintro _ ⟨_,_,_,rfl,c0,c1,_⟩;obtain ⟨rfl,c2⟩:=Q_ c1;refine dRg z z z I z (l1 g_3 z fid<|c0.at0 z) ?_;obtain ⟨c3,c4,bg⟩:=bdS bf;refine dEg z z z I z (fc call206 z<|j_e (B:=B) c4 (zt' hBw<|lt_ aT si.s) (p1_0.g aU) c2) (.inr fun _ _ h=>A_<|h.1) ?_;rintro _ _ ⟨c5,rfl,_⟩;exact dRg z z z I z (a_1 z z)<|dR z z (pT z I z)<|dR z z (asg z)<|pD (fun _ q=>⟨decide<|0<c3,som bg,q.k<|s1 z,bup (bup sh si) c5⟩)
   iterate 5 refine dRn z z z I z ?_
   exact dEn z z z I z<|dRn z z z I z<|dR z z (pF z I z)<|dR z z (asg z)<|pD (fun _ q=>⟨false,som<|ifF ay I,q.k<|s1 z,bup sh si⟩)
  rintro c6 _ ⟨ah,rfl,_,c7⟩;revert c6;refine Wo ?_;obtain rfl:=som be;exact Wr<|rtO<|h_ hr z ⟨bup (bup h1 G) c7,z⟩
 have az:=ifF ax a3;refine Ws<|R z (eql z z)<|Ra z<|Wn<|Wc z (fun a4=>?_) (fun a4=>?_)
 ·refine Wq ?_;obtain ⟨c8,bh,bi⟩:=bdS<|ifT az a4;refine Wt (fun a w=>∃ (ai:Bool),ai=c8∧Sat 114 [(4,vB ai)] a∧Below H.z H w) ?_ ?_
  ·refine Wd (X:=noX) 0 (.rd 0<|.ef 1<|.rd 2<|.rd 3<|.rd 4<|.rd 5<|.rd 6<|.rd 7<|.ef 8<|.rd 9<|.rd 10<|.rd 11 .done) mo (by kernel_rfl) fun cP sj _=>?_
   have aV:=h3.e sj;refine dR z z (lN (vs:=vR x2 A2 N2 C2 A3 N3 C3 A1 N1 C1 A4 N4 C4) I_ o_ z z fid<|aV.row 0 8 z) ?_;have hp:=((h1.ag B).e G).e sj;have aW:=lt_ (lt_ h1.s G.s) sj.s;obtain ⟨c9,ca,aA⟩:=bdS bh;refine dE z z (fc call205 z<|d_m (B:=B) ca (zt' hBw aW) p2_0 p2_1 p2_2 (p2_4.g hp) (p2_5.g hp) (p2_6.g hp) (p2_7.g hp)<|ii z) (.inr fun _ _ h=>A_<|h.1) ?_;rintro _ _ ⟨sk,rfl⟩;refine dR z z (mv z) ?_
   rcases bs c9 with J | J
   ·refine dRg z z z J z (lN (vs:=[sl A0 N0 C0]) v_ s_ z z fid<|(((ab.e G).e sj).e sk).row 0 1 z)<|dRg z z z J z (fd N_ z)<|dRg z z z J z (l1 C_ z fid<|(aV.e sk).at z) ?_
    obtain ⟨_,cb,bj⟩:=bdS<|ifT aA J;have aX:=hp.e sk;refine c_1 z z z J z (at_ (α:=Int) w_ z_3 z z z (p2_7.g aX) cb) ?_;rintro _ ⟨_,_,_,rfl,cc,cd,_⟩;obtain ⟨rfl,ce⟩:=Q_ cd;refine dRg z z z J z (l1 g_3 z fid<|cc.at0 z) ?_;obtain ⟨cf,cg,bk⟩:=bdS bj;refine dEg z z z J z (fc call206 z<|j_e (B:=B) cg (zt' hBw<|lt_ aW sk.s) (p1_0.g aX) ce) (.inr fun _ _ h=>A_<|h.1) ?_;rintro _ _ ⟨ch,rfl,_⟩;exact dRg z z z J z (a_1 z z)<|dR z z (pT z J z)<|dR z z (asg z)<|pD (fun _ q=>⟨decide<|0<cf,som bk,q.k<|s1 z,bup (bup sj sk) ch⟩)
   iterate 5 refine dRn z z z J z ?_
   exact dEn z z z J z<|dRn z z z J z<|dR z z (pF z J z)<|dR z z (asg z)<|pD (fun _ q=>⟨false,som<|ifF aA J,q.k<|s1 z,bup sj sk⟩)
  rintro ci _ ⟨ai,rfl,_,cj⟩;revert ci;refine Wo ?_;obtain rfl:=som bi;exact Wr<|rtO<|h_ hr z ⟨bup (bup h1 G) cj,z⟩
 have aB:=ifF az a4;refine Ws<|R z (eql z z)<|Ra z<|Wn<|Wc z (fun a5=>?_) (fun a5=>?_)
 ·refine Wq ?_;obtain ⟨ck,bm,bn⟩:=bdS<|ifT aB a5;refine Wt (fun a w=>∃ (aj:Bool),aj=ck∧Sat 114 [(4,vB aj)] a∧Below H.z H w) ?_ ?_
  ·refine Wg<|R z (lN (vs:=vR x2 A2 N2 C2 A3 N3 C3 A1 N1 C1 A4 N4 C4) I_ o_ z z fid<|h3.row 0 8 z)<|R z (fd c_8 z)<|R z (l1 b_i z fid<|h3.at z) ?_
   have hq:=(h1.ag B).e G;have ak:=p2_5.g hq;refine R z (lnR a_j z ak) ?_;have aY:=lt_ h1.s G.s;obtain ⟨cl,cm,aC⟩:=bdS bm;refine E z (fc call205 z<|d_m (B:=B) cm (zt' hBw aY) p2_0 p2_1 p2_2 (p2_4.g hq) ak (p2_6.g hq) (p2_7.g hq)<|a_U<|repS.len ak) ?_;rintro _ _ ⟨sr,rfl⟩;refine Rm z ?_
   rcases bs cl with hcd | hcd
   ·refine Rh z hcd (fd c_8 z)<|Rh z hcd (l1 b_i z fid<|(h3.e sr).at z) ?_
    obtain ⟨cn,co,bo⟩:=bdS<|ifT aC hcd;refine Eg z z hcd z (fc call207 z<|W_w2a (B:=B) co (zt' hBw<|lt_ aY sr.s)<|p2_5.g<|hq.e sr) ?_;rintro _ _ ⟨cp,rfl⟩;exact R z (pT z hcd z)<|Ra z<|Wl (fun _ q=>⟨cn,som bo,q.k<|s1 z,bup sr cp⟩)
   iterate 3 refine Nh z hcd ?_
   exact R z (pF z hcd z)<|Ra z<|Wl (fun _ q=>⟨false,som<|ifF aC hcd,q.k<|s1 z,sr⟩)
  rintro cq _ ⟨aj,rfl,_,cr⟩;revert cq;refine Wo ?_;obtain rfl:=som bn;exact Wr<|rtO<|h_ hr z ⟨bup (bup h1 G) cr,z⟩
 have aD:=ifF aB a5;refine Ws<|R z (eql z z)<|Ra z<|Wn<|Wc z (fun a6=>?_) (fun a6=>?_)
 ·refine Wq ?_;obtain ⟨ct,bp,bq⟩:=bdS<|ifT aD a6;refine Wt (fun a w=>∃ (al:Bool),al=ct∧Sat 114 [(4,vB al)] a∧Below H.z H w) ?_ ?_
  ·refine Wg<|R z (lN (vs:=vR x2 A2 N2 C2 A3 N3 C3 A1 N1 C1 A4 N4 C4) I_ o_ z z fid<|h3.row 0 8 z) ?_
   have ht:=(h1.ag B).e G;have aZ:=lt_ h1.s G.s;obtain ⟨cu,cv,aE⟩:=bdS bp;refine E z (fc call205 z<|d_m (B:=B) cv (zt' hBw aZ) p2_0 p2_1 p2_2 (p2_4.g ht) (p2_5.g ht) (p2_6.g ht) (p2_7.g ht)<|ii z) ?_;rintro _ _ ⟨sm,rfl⟩;refine Rm z ?_
   rcases bs cu with hce | hce
   ·refine Rh z hce (lN (vs:=[sl A0 N0 C0]) v_ s_ z z fid<|((ab.e G).e sm).row 0 1 z)<|Rh z hce (lN (vs:=vR x2 A2 N2 C2 A3 N3 C3 A1 N1 C1 A4 N4 C4) I_ o_ z z fid<|(h3.e sm).row 0 8 z) ?_
    have hu:=ht.e sm;obtain ⟨cw,cx,bt⟩:=bdS<|ifT aE hce;refine Eg z z hce z (fc call208 z<|W_w2b (B:=B) cx (zt' hBw<|lt_ aZ sm.s) (p1_0.g hu) p2_0 p2_1 p2_2 (p2_4.g hu) (p2_5.g hu) (p2_6.g hu)<|p2_7.g hu) ?_;rintro _ _ ⟨cy,rfl⟩;exact R z (pT z hce z)<|Ra z<|Wl (fun _ q=>⟨cw,som bt,q.k<|s1 z,bup sm cy⟩)
   iterate 3 refine Nh z hce ?_
   exact R z (pF z hce z)<|Ra z<|Wl (fun _ q=>⟨false,som<|ifF aE hce,q.k<|s1 z,sm⟩)
  rintro cz _ ⟨al,rfl,_,cA⟩;revert cz;refine Wo ?_;obtain rfl:=som bq;exact Wr<|rtO<|h_ hr z ⟨bup (bup h1 G) cA,z⟩
 refine Wq<|Ws<|R z (eql z z)<|Ra z<|Wn ?_
 obtain ⟨cB,aF,aG⟩:=bdS<|ifF aD a6;refine Wt (fun a w=>∃ (am:Bool),am=cB∧Sat 114 [(3,pt aa.z),(6,vI x2.kind),(92,vB am)] a∧Below H.z H w) ?_ ?_
 ·refine Wc z (fun a7=>?_)<|fun a7=>?_
  ·exact a_e<|fun _ q=>⟨x2.kind==8,som<|ifT aF a7,q.k<|s3 z z z,br H⟩
  exact Wg<|R z (eql z z)<|Ra z<|Wl (fun _ q=>⟨x2.kind==9,som<|ifF aF a7,q.k<|s3 z z z,br H⟩)
 rintro cC b0 ⟨am,rfl,_,sf⟩;revert cC;refine Wo<|Wc z (fun a8=>?_) (fun a8=>?_)
 ·refine Ws<|R z (lN (vs:=vR x2 A2 N2 C2 A3 N3 C3 A1 N1 C1 A4 N4 C4) I_ o_ z z fid<|(h3.e sf).row 0 8 z) ?_
  have Y:=((h1.ag B).e G).e sf;obtain ⟨_,cD,bu⟩:=bdS<|ifT aG a8;refine E z (fc call205 z<|d_m (B:=B) cD (zt' hBw<|lt_ (lt_ h1.s G.s) sf.s) p2_0 p2_1 p2_2 (p2_4.g Y) (p2_5.g Y) (p2_6.g Y) (p2_7.g Y)<|ii z) ?_;rintro _ _ ⟨cE,rfl⟩;refine Ra z<|Wn ?_
  obtain rfl:=som bu;exact Wr<|rtO<|h_ hr z ⟨bup (bup (bup h1 G) sf) cE,z⟩
 have aH:=ifF aG a8;refine Ws<|R z (eql z z)<|Ra z<|Wn<|Wc z (fun a9=>?_) (fun a9=>?_)
 ·refine Wq ?_;obtain ⟨cF,bv,bw⟩:=bdS<|ifT aH a9;refine Wt (fun a w=>∃ (an:Bool),an=cF∧Sat 114 [(4,vB an)] a∧Below b0.z b0 w) ?_ ?_
  ·refine Wg ?_;have b1:=h3.e sf;refine R z (lN (vs:=vR x2 A2 N2 C2 A3 N3 C3 A1 N1 C1 A4 N4 C4) I_ o_ z z fid<|b1.row 0 8 z) ?_;have hv:=((h1.ag B).e G).e sf;obtain ⟨cG,cH,aI⟩:=bdS bv;refine E z (fc call205 z<|d_m (B:=B) cH (zt' hBw<|lt_ (lt_ h1.s G.s) sf.s) p2_0 p2_1 p2_2 (p2_4.g hv) (p2_5.g hv) (p2_6.g hv) (p2_7.g hv)<|ii z) ?_;rintro _ _ ⟨ss,rfl⟩;refine Rm z ?_
   rcases bs cG with W | W
   ·have aJ:=ifT aI W;refine Rh z W (fd a_W z) ?_;have b2:=b1.e ss;refine Rh z W (l1 X_ z fid<|b2.at z) ?_;have b3:=p2_4.g<|hv.e ss
    refine Rh z W (lnR n_ z b3)<|Rh z W (eql z z)<|R z (pT z W z)<|Rm z ?_
    rcases bs ((x2.bytes.length:Int)==1) with O | O
    ·refine Rh z O (fd a_W z)<|Rh z O (l1 X_ z fid<|b2.at z) ?_
     obtain ⟨cI,cJ,bx⟩:=bdS<|ifT aJ O;refine RXg z z O z (at_ (α:=UInt8) n_ z_5 z z z b3 cJ) ?_;rintro _ ⟨_,_,_,rfl,cK,cL,_⟩;obtain rfl:=u8 cL;exact Rh z O (l1 g_5 z fid<|cK.at0 z)<|Rh z O (nq z z)<|R z (pT z O z)<|Ra z<|Wl (fun _ q=>⟨(byteI cI) != (byteI (92:UInt8)),som bx,q.k<|s1 z,ss⟩)
    iterate 5 refine Nh z O ?_
    exact R z (pF z O z)<|Ra z<|Wl (fun _ q=>⟨false,som<|ifF aJ O,q.k<|s1 z,ss⟩)
   iterate 4 refine Nh z W ?_
   exact R z (pF z W z)<|Rm z<|Nh z z<|Nh z z<|Nh z z<|Nh z z<|Nh z z<|R z (pF z z z)<|Ra z<|Wl (fun _ q=>⟨false,som<|ifF aI W,q.k<|s1 z,ss⟩)
  rintro cM _ ⟨an,rfl,_,cN⟩;revert cM;refine Wo ?_;obtain rfl:=som bw;exact Wr<|rtO<|h_ hr z ⟨bup (bup (bup h1 G) sf) cN,z⟩
 refine Wk<|Ws<|Ra z<|Wn ?_
 obtain rfl:=som<|ifF aH a9;exact Wr<|h_ hr z ⟨bup (bup h1 G) sf,z⟩
theorem W_w2d {x1:f_} {x2:Int} {res:Bool} (hm:g_x x1 x2=some res) (hBw:B≤w0.z) (p1_0:repS w0 B (sl A0 N0 C0) x1.rules) (p2_0:inI x2):m_ prog 122 [(.agg #[sl A0 N0 C0]),vI x2] w0 (Q0 w0 B res):=by
 unfold g_x at hm
 refine goF func122 z z (lb z) fun fn hr=>Ws<|E z (fb z) ?_
 rintro _ aL ⟨rfl,a6⟩;have h1:=a6.below;have he:Blk aL w0.z [sl A0 N0 C0]:=a6.blk;refine Ra z<|Wn<|Wq<|Ws<|Rm z<|R z (fd a_4 z)<|R z (l1 a_6 z fid<|he.at z)<|R z (lnR a_7 z<|p1_0.e h1)<|R z (sb_ z z) ?_
 obtain ⟨_,aM,W⟩:=bdS hm;refine E z (fc call103 z<|b_m (B:=B) aM (zt' hBw h1.s) p2_0 (ii z)<|iS _ _) ?_;rintro _ I ⟨G,rfl⟩;refine R z (not_ z)<|Wn<|Wc z (fun hci=>?_) (fun hci=>?_)
 ·refine Ws<|Ra z<|Wn ?_
  obtain rfl:=som<|ifT W hci;exact Wr<|h_ hr z ⟨bup h1 G,z⟩
 refine Wk<|Ws<|R z (fd a_4 z) ?_
 have hj:=he.e G;refine R z (l1 a_6 z fid<|hj.at z)<|Rm z ?_
 obtain ⟨xk,aN,an⟩:=bdS<|ifF W hci;have hl:=(h1.ag B).e G;refine RX z (at_ (α:=e_) a_7 o_ z z z (p1_0.g hl) aN) ?_;rintro _ ⟨_,_,_,rfl,aO,aP,_⟩;obtain ⟨am,nn,co,ap,nq,cr,au,ns,ct,av,nw,cx,rfl,a7,aQ,aR,aS,aT,aU,hf⟩:=a_P aP;refine R z (lN (vs:=vR xk am nn co ap nq cr au ns ct av nw cx) I_ o_ z z fid aO)<|E z (fa b_E) ?_
 rintro _ aV ⟨rfl,a8⟩;have h2:=a8.below;refine E0 (fs (cur':=vR xk am nn co ap nq cr au ns ct av nw cx) o_ z z (a8.blk:Blk aV I.z [(Str.v (⟨[]⟩:Str)),vI 0,vI 0,vB false,sl none 0 0,sl none 0 0,sl none 0 0,sl none 0 0]) z (lb z) (oA z) z) ?_;rintro _ J ⟨hg,aW⟩;have h3:=aW.one;refine Wn<|Wq<|Ws<|Ra z<|Wn ?_
 obtain ⟨_,ao,Y⟩:=bdS an;refine Wf (σ:=Unit) (ρ:=Bool) (fun (a9:Nat) (_:Unit) a w=>Sat 58 [(1,vI x2),(2,pt w0.z),(5,pt I.z),(6,vI ((a9:Nat):Int))] a∧Below J.z J w) (fun (_:Unit) a w=>Sat 58 [(1,vI x2),(2,pt w0.z),(5,pt I.z)] a∧Below J.z J w) (fun r ex a w=>ex = .ret∧L_ prog fn (Q0 w0 B r) a w) ao ?_ ?_ ?_ ?_ ?_
 ·exact fun _ q=>⟨q.k<|s4 z z z z,br J⟩
 ·rintro a9 _ _ _ _ a0 ⟨aq,sa⟩ ar;refine Wu ?_ aq;refine Wq<|Ws<|Rm z<|Rm z<|R z (lss z z)<|Wn<|Wc z (fun _=>?_) (fun hc=>(h_H a0 hc).elim)
  refine Wk<|Wq<|Wb<|Wq (Wd (X:=noX) 0 (.rd 0<|.rd 1<|.rd 2<|.rd 3<|.rd 4<|.rd 5<|.rd 6<|.rd 7<|.rd 8 .done) mo (by kernel_rfl) fun bh sb _=>dR z z (fd a_4 z)<|dR z z (l1 a_6 z fid<|((((hj.e h2).c h3<|djs<|mm1 he.lt G.s).e sa).e sb).at z)<|dR z z (mv z) ?_)
  obtain ⟨_,aX,a1⟩:=bdS ar;have aa:=lt_ h1.s G.s;refine dRX z z (at_ (α:=e_) a_7 o_ z z z (p1_0.g<|(((hl.e h2).c h3<|c_ (or0 (b_ lr)  (j_<|zt' hBw aa) : ∀ k∈[I.z],¬ B k)).e sa).e sb) aX) ?_;rintro _ ⟨_,_,_,rfl,aY,aZ,_⟩;obtain ⟨_,_,_,_,_,_,_,_,_,_,_,_,rfl,_,_,_,_,_,_,_⟩:=a_P aZ;refine dR z z (fd e_Y z)<|dR z z (l1 g_9 z fid<|aY.at (j:=0) z)<|dR z z (fd e_Y z)<|dR z z (l1 g_9 z fid<|((hg.e sa).e sb).at z)<|dR z z (b_j z z)<|pD<|Wo<|Wc z (fun hcy=>?_) (fun hcy=>?_)
  ·exact Ws<|Ra z<|Wn<|Wr<|rtO<|qL (som<|ifT a1 hcy).symm<|h_ hr z ⟨bup (bup (bM (bup (bup h1 G) h2) h3<|m1 aa) sa) sb,z⟩
  exact Wk<|Wg<|Rm z<|R z (inc_ a0 (tl_ p2_0) z z)<|Ra z<|Wl (fun _ q=>⟨(),(som<|ifF a1 hcy).symm,⟨q.k<|s4 z z z z,bup sa sb⟩⟩)
 ·rintro _ _ _ ⟨aw,b0⟩;refine Wu ?_ aw;refine Wq<|Ws<|Rm z<|Rm z<|R z (lss z z)<|Wn<|Wc z (fun hc=>(h_I hc).elim) (fun _=>?_)
  exact We<|fun a' ha'=>⟨rfl,⟨Sat.weaken ha'<|s3 z z z,b0⟩⟩
 ·rintro _ b1 wc rfl ⟨_,s5⟩;have ax:=elL Y;revert b1;refine Wo<|Wq<|Ws<|Ra z<|Wn ?_
  obtain ⟨_,ay,a2⟩:=bdS ax;refine Wf (σ:=Unit) (ρ:=Bool) (fun (ab:Nat) (_:Unit) a w=>Sat 58 [(1,vI x2),(2,pt w0.z),(5,pt I.z),(7,vI ((ab:Nat):Int))] a∧Below wc.z wc w) (fun (_:Unit) a w=>Sat 58 [(2,pt w0.z),(5,pt I.z)] a∧Below wc.z wc w) (fun r ex a w=>ex = .ret∧L_ prog fn (Q0 w0 B r) a w) ay ?_ ?_ ?_ ?_ ?_
  ·exact fun _ q=>⟨q.k<|s4 z z z z,br wc⟩
  ·rintro ab _ _ _ _ a3 ⟨az,sd⟩ aA;refine Wu ?_ az;refine Wq<|Ws<|Rm z<|R z (fd N_ z) ?_
   have ad:=(hg.e s5).e sd;refine R z (l1 C_ z fid<|ad.at z) ?_;have hz:=lt_ h1.s G.s;have ae:=hf.g<|(((h2.ag B).c h3<|c_ (or0 (b_ lr)  (j_<|zt' hBw hz) : ∀ k∈[I.z],¬ B k)).e s5).e sd
   refine R z (lnR w_ z ae)<|R z (lss z z)<|Wn<|Wc z (fun _=>?_) (fun hc=>(a_h a3 hc).elim)
   refine Wk<|Wq<|Wb<|Ws<|R z (fd N_ z)<|R z (l1 C_ z fid<|ad.at z)<|Rm z ?_
   obtain ⟨_,b2,aB⟩:=bdS aA;refine RX z (at_ (α:=Int) w_ z_3 z z z ae b2) ?_;rintro _ ⟨_,_,_,rfl,b3,b4,_⟩;obtain ⟨rfl,b5⟩:=Q_ b4;refine R z (l1 g_3 z fid<|b3.at0 z)<|Rm z<|R z (sb_ z z) ?_
   obtain ⟨_,b6,a4⟩:=bdS aB;refine E z (fc call103 z<|b_m (B:=B) b6 (zt' hBw<|lt_ (lt_ (lt_ (lt_ hz h2.s) h3.s) s5.s) sd.s) b5 (ii z)<|iS _ _) ?_;rintro _ _ ⟨af,rfl⟩;refine R z (not_ z)<|Wn<|Wc z (fun L=>?_) (fun L=>?_)
   ·exact Ws<|Ra z<|Wn<|Wr<|rtO<|qL (som<|ifT a4 L).symm<|h_ hr z ⟨bup (bup (bup (bM (bup (bup h1 G) h2) h3<|m1 hz) s5) sd) af,z⟩
   exact Wk<|Wg<|Rm z<|R z (inc_ a3 (lt_ (repS.len hf) P_) z z)<|Ra z<|Wl (fun _ q=>⟨(),(som<|ifF a4 L).symm,⟨q.k<|s4 z z z z,bup sd af⟩⟩)
  ·rintro _ _ _ ⟨aC,O⟩;refine Wu ?_ aC;refine Wq<|Ws<|Rm z<|R z (fd N_ z)<|R z (l1 C_ z fid<|((hg.e s5).e O).at z) ?_
   refine R z (lnR w_ z<|hf.g<|(((h2.ag B).c h3<|c_ (or0 (b_ lr)  (j_<|zt' hBw<|lt_ h1.s G.s) : ∀ k∈[I.z],¬ B k)).e s5).e O)<|R z (lss z z)<|Wn<|Wc z (fun hc=>(a_i hc).elim) (fun _=>?_)
   exact We<|fun a' ha'=>⟨rfl,⟨Sat.weaken ha'<|s2 z z,O⟩⟩
  ·rintro _ b7 ah rfl ⟨_,s8⟩;have aD:=elL a2;revert b7;refine Wo<|Wq ?_
   obtain ⟨b8,aE,aF⟩:=bdS aD;refine Wt (fun a w=>∃ (V:Bool),V=b8∧Sat 58 [(4,vB V)] a∧Below ah.z ah w) ?_ ?_
   ·refine Wg<|R z (fd e_Y z) ?_
    have ai:=(hg.e s5).e s8;refine R z (l1 g_9 z fid<|ai.at z) ?_;have aj:=lt_ h1.s G.s;have ak:=lt_ (lt_ (lt_ (lt_ aj h2.s) h3.s) s5.s) s8.s;obtain ⟨b9,ba,a5⟩:=bdS aE;refine E z (fc call173 z<|j_d (B:=B) ba (zt' hBw ak) a7) ?_;rintro _ _ ⟨s7,rfl⟩;refine Rm z ?_
    rcases bs b9 with H | H
    ·refine Rh z H (lN (vs:=[sl A0 N0 C0]) v_ s_ z z fid<|(((((hj.e h2).c h3<|djs<|mm1 he.lt G.s).e s5).e s8).e s7).row 0 1 z)<|Rh z H (lN (vs:=vR xk am nn co ap nq cr au ns ct av nw cx) I_ o_ z z fid<|(ai.e s7).row 0 8 z) ?_
     have al : ∀ k∈[I.z],¬ B k:=or0 (b_ lr)  (j_<|zt' hBw aj);have hh:=((((h2.ag B).c h3<|c_ al).e s5).e s8).e s7;obtain ⟨bb,bc,aG⟩:=bdS<|ifT a5 H;refine Eg z z H z (fc call174 z<|W_w2c (B:=B) bc (zt' hBw<|lt_ ak s7.s) (p1_0.g<|((((hl.e h2).c h3<|c_ al).e s5).e s8).e s7) a7 aQ aR (aS.g hh) (aT.g hh) (aU.g hh)<|hf.g hh) ?_;rintro _ _ ⟨be,rfl⟩;exact R z (pT z H z)<|Ra z<|Wl (fun _ q=>⟨bb,som aG,q.k<|s1 z,bup s7 be⟩)
    iterate 3 refine Nh z H ?_
    exact R z (pF z H z)<|Ra z<|Wl (fun _ q=>⟨false,som<|ifF a5 H,q.k<|s1 z,s7⟩)
   rintro bf _ ⟨V,rfl,_,bg⟩;revert bf;refine Wo ?_;obtain rfl:=som aF;exact Wr<|h_ hr z ⟨bup (bup (bup (bM (bup (bup h1 G) h2) h3<|m1<|lt_ h1.s G.s) s5) s8) bg,z⟩
  rintro _ _ _ _ rfl ⟨rfl,aH⟩;have aI:=elR a2;obtain rfl:=som aI;exact ⟨aH,z⟩
 rintro _ _ _ _ rfl ⟨rfl,aJ⟩;have aK:=elR Y;obtain rfl:=som aK;exact ⟨aJ,z⟩
theorem W_w1a {x1:f_} {res:Bool} (hm:f_h x1=some res) (hBw:B≤w0.z) (p1_0:repS w0 B (sl A0 N0 C0) x1.rules):m_ prog 64 [(.agg #[sl A0 N0 C0])] w0 (Q0 w0 B res):=by
 unfold f_h at hm
 refine goF func64 z z (lb z) fun fn hr=>Ws<|E z (fb z) ?_
 rintro _ H ⟨rfl,O⟩;have G:=O.below;have h2:Blk H w0.z [sl A0 N0 C0]:=O.blk;refine Ra z<|Wn<|Wq<|Ws<|Ra z<|Wn ?_
 obtain ⟨_,hug,L⟩:=bdS hm;refine Wf (σ:=Unit) (ρ:=Bool) (fun (ka:Nat) (_:Unit) a w=>Sat 19 [(1,pt w0.z),(3,vI ((ka:Nat):Int))] a∧Below H.z H w) (fun (_:Unit) a w=>Sat 19 [(1,pt w0.z)] a∧Below H.z H w) (fun r ex a w=>ex = .ret∧L_ prog fn (Q0 w0 B r) a w) hug ?_ ?_ ?_ ?_ ?_
 ·exact fun _ q=>⟨q.k<|s2 z z,br H⟩
 ·rintro ka _ _ _ _ I ⟨hSh,s3⟩ hmi;refine Wu ?_ hSh;refine Wq<|Ws<|Rm z<|R z (fd a_4 z) ?_
  have hb:=h2.e s3;refine R z (l1 a_6 z fid<|hb.at z) ?_;have hd:=p1_0.g<|(G.ag B).e s3
  refine R z (lnR a_7 z hd)<|R z (lss z z)<|Wn<|Wc z (fun _=>?_) (fun hc=>(a_h I hc).elim)
  refine Wk<|Wq<|Wb<|Ws<|R z (lN (vs:=[sl A0 N0 C0]) v_ s_ z z fid<|hb.row 0 1 z)<|Rm z ?_
  obtain ⟨_,ej,hmc⟩:=bdS hmi;refine E z (fc call122 z<|W_w2d (B:=B) ej (zt' hBw<|lt_ G.s s3.s) hd<|ic (Nat.le_of_lt I)<|lt_ (repS.len p1_0) P_) ?_;rintro _ _ ⟨se,rfl⟩;refine R z (not_ z)<|Wn<|Wc z (fun J=>?_) (fun J=>?_)
  ·exact Ws<|Ra z<|Wn<|Wr<|rtO<|qL (som<|ifT hmc J).symm<|h_ hr z ⟨bup (bup G s3) se,z⟩
  exact Wk<|Wg<|Rm z<|R z (inc_ I (lt_ (repS.len p1_0) P_) z z)<|Ra z<|Wl (fun _ q=>⟨(),(som<|ifF hmc J).symm,⟨q.k<|s2 z z,bup s3 se⟩⟩)
 ·rintro _ _ _ ⟨hSk,s7⟩;refine Wu ?_ hSk;refine Wq<|Ws<|Rm z<|R z (fd a_4 z)<|R z (l1 a_6 z fid<|(h2.e s7).at z)<|R z (lnR a_7 z<|p1_0.g<|(G.ag B).e s7)<|R z (lss z z)<|Wn<|Wc z (fun hc=>(a_i hc).elim) (fun _=>?_)
  exact We<|fun a' ha'=>⟨rfl,⟨Sat.weaken ha'<|s1 z,s7⟩⟩
 ·rintro _ al _ rfl ⟨_,s4⟩;have hmm:=elL L;revert al;refine Wo<|Ws<|R z (fd a_4 z)<|R z (l1 a_6 z fid<|(h2.e s4).at z) ?_
  have hf:=p1_0.g<|(G.ag B).e s4
  refine R z (lnR a_7 z hf) ?_;obtain ⟨_,en,hmo⟩:=bdS hmm;refine E z (fc call103 z<|b_m (B:=B) en (zt' hBw<|lt_ G.s s4.s) (a_U<|repS.len hf) (ii z)<|ii z) ?_;rintro _ _ ⟨sp,rfl⟩;refine Ra z<|Wn ?_
  obtain rfl:=som hmo;exact Wr<|h_ hr z ⟨bup (bup G s4) sp,z⟩
 rintro _ _ _ _ rfl ⟨rfl,hqq⟩;have hmr:=elR L;obtain rfl:=som hmr;exact ⟨hqq,z⟩
theorem h_V {x1:f_} {res:Int} (hm:e_A x1=some res) (hBw:B≤w0.z) (p1_0:repS w0 B (sl A0 N0 C0) x1.rules):m_ prog 65 [(.agg #[sl A0 N0 C0])] w0 (Q9 w0 B res):=by
 unfold e_A at hm
 refine goF func65 z z (lb z) fun fn hr=>Ws<|E z (fb z) ?_
 rintro _ H ⟨rfl,G⟩;have h1:=G.below;refine Ra z<|Wn<|Ws<|R z (fd a_4 z)<|R z (l1 a_6 z fid<|(G.blk:Blk H w0.z [sl A0 N0 C0]).at z)<|R z (lnR a_7 z<|p1_0.e h1)<|R z (sb_ z z)<|Ra z<|Wn ?_
 obtain rfl:=som hm;exact Wr<|h_ hr z ⟨h1,z,iS _ _⟩
theorem W_w2e {x1:List UInt8} {x2:Bool} {res:Int} (hm:g_y x1 x2=some res) (hBw:B≤w0.z) (p1_0:repS w0 B (sl A0 N0 C0) x1):m_ prog 145 [sl A0 N0 C0,vB x2] w0 (Q9 w0 B res):=by
 unfold g_y at hm
 refine goF func145 z z (lb z) fun fn hr=>Ws<|Ra z<|Wn<|Ws<|Ra z<|Wn<|Wq<|Ws<|Rm z<|R z (lnR n_ z p1_0)<|R z (a_1 z z)<|Wn<|Wc z (fun H=>?_) (fun H=>?_)
 ·refine Ws<|Ra z<|Wn ?_
  obtain rfl:=som<|ifT hm H;exact Wr<|h_ hr z ⟨br w0,z,ii z⟩
 refine Wk<|Wq<|Ws<|Ra z<|Wn ?_
 obtain ⟨_,hue,L⟩:=bdS<|ifF hm H;refine Wf (σ:=Int) (ρ:=Int) (fun (k1:Nat) (x0:Int) a w=>Sat 33 [(0,sl A0 N0 C0),(1,vB x2),(5,vI x0),(6,vI ((k1:Nat):Int))] a∧Below w0.z w0 w∧inI x0) (fun (x0:Int) a w=>Sat 33 [(5,vI x0)] a∧Below w0.z w0 w∧inI x0) (fun r ex a w=>ex = .ret∧L_ prog fn (Q9 w0 B r) a w) hue ?_ ?_ ?_ ?_ ?_
 ·exact fun _ q=>⟨q.k<|s4 z z z z,br w0,ii z⟩
 ·rintro k1 x0 _ G _ I ⟨hSf,s7,h3⟩ hmg;refine Wu ?_ hSf;refine Wq<|Ws<|Rm z<|Rm z ?_
  have ha:=p1_0.e s7;refine R z (lnR n_ z ha)<|R z (lss z z)<|Wn<|Wc z (fun _=>?_) (fun hc=>(a_h I hc).elim)
  refine Wk<|Wq<|Wb<|Ws<|Rm z<|Ra z<|Wn<|Wq<|Ws<|Rm z<|Wn ?_
  obtain ⟨uh,hub,hmi⟩:=bdS hmg;refine Wt (fun a w=>∃ (x4:Int),x4=uh∧Sat 33 [(0,sl A0 N0 C0),(1,vB x2),(5,vI x0),(6,vI ((k1:Nat):Int)),(7,vI x4)] a∧Below G.z G w∧inI x4) ?_ ?_
  ·refine Wc z (fun J=>?_)<|fun J=>?_
   ·exact Wg<|Rm z<|R z (lnR n_ z ha)<|R z (sb_ z z)<|Rm z<|R z (sb_ z z)<|Ra z<|Wl (fun _ q=>⟨D_ (D_ (x1.length:Int) 1) ((k1:Nat):Int),som<|ifT hub J,q.k<|s5 z z z z z,br G,iS _ _⟩)
   exact a_e<|fun _ q=>⟨((k1:Nat):Int),som<|ifF hub J,q.k<|s5 z z z z z,br G,ic (Nat.le_of_lt I)<|lt_ (repS.len p1_0) P_⟩
  rintro aj _ ⟨x4,rfl,_,sc,_⟩;revert aj;refine Wo<|Wg<|Rm z<|R z (c_E z z)<|Rm z<|Rm z ?_
  obtain ⟨xk,el,hmm⟩:=bdS hmi;refine RX z (at_ (α:=UInt8) n_ z_5 z z z (p1_0.g<|(s7.ag B).e sc) el) ?_;rintro _ ⟨_,_,_,rfl,hn,ho,_⟩;obtain rfl:=u8 ho;exact R z (l1 g_5 z fid<|hn.at0 z)<|R z (b_O d_5 d_3 z)<|R z (add_ z z)<|Ra z<|Wn<|Wg<|Rm z<|R z (inc_ I (lt_ (repS.len p1_0) P_) z z)<|Ra z<|Wl (fun _ q=>⟨g_ (a_9 x0 256)<|byteI xk,(som hmm).symm,⟨q.k<|s4 z z z z,bup s7 sc,iA _ _⟩⟩)
 ·rintro x0 _ _ ⟨hSp,sd,h3⟩;refine Wu ?_ hSp;refine Wq<|Ws<|Rm z<|Rm z<|R z (lnR n_ z<|p1_0.e sd)<|R z (lss z z)<|Wn<|Wc z (fun hc=>(a_i hc).elim) (fun _=>?_)
  exact We<|fun a' ha'=>⟨rfl,⟨Sat.weaken ha'<|s1 z,sd,h3⟩⟩
 ·rintro x0 aq _ rfl ⟨_,sr,h3⟩;have hms:=elL L;revert aq;refine Wo<|Ws<|Rm z<|Ra z<|Wn ?_
  obtain rfl:=som hms;exact Wr<|h_ hr z ⟨sr,z,h3⟩
 rintro _ _ _ _ rfl ⟨rfl,hqt⟩;have hmu:=elR L;obtain rfl:=som hmu;exact ⟨hqt,z⟩
def Q15 (w0:World) (B:Zone) (r:Int×Int×Bool) (v:Value) (w':World):Prop:=Bw w0 w'∧un3 (fun G H I=>v = .tuple #[vI G,vI H,vB I]∧inI G∧inI H) r
theorem g_0 {x1:f_} {x2:Int} {x3:List UInt8} {x4:Int} {res:Int×Int×Bool} (hm:c_j x1 x2 x3 x4=some res) (hBw:B≤w0.z) (p1_0:repS w0 B (sl A0 N0 C0) x1.rules) (p2_0:inI x2) (p3_0:repS w0 B (sl A7 N7 C7) x3) (p4_0:inI x4):m_ prog 125 [(.agg #[sl A0 N0 C0]),vI x2,sl A7 N7 C7,vI x4] w0 (Q15 w0 B res):=by
 unfold c_j at hm
 refine goF func125 z z (lb z) fun fn hr=>Ws<|E z (fb z) ?_
 rintro _ I ⟨rfl,L⟩;have G:=L.below;refine Ra z<|Ra z<|Ra z<|Wn<|Ws<|R z (fd a_4 z)<|R z (l1 a_6 z fid<|(L.blk:Blk I w0.z [sl A0 N0 C0]).at z)<|Rm z ?_
 obtain ⟨O,em,J⟩:=bdS hm;refine RX z (at_ (α:=e_) a_7 o_ z z z (p1_0.e G) em) ?_;rintro _ ⟨_,_,_,rfl,ht,hu,_⟩;obtain ⟨aa,nb,cc,ad,ne,cf,ah,ng,ci,aj,nk,cl,rfl,_,_,_,_,_,_,_⟩:=a_P hu;refine R z (lN (vs:=vR O aa nb cc ad ne cf ah ng ci aj nk cl) I_ o_ z z fid ht)<|E z (fa b_E) ?_
 rintro _ wr ⟨rfl,hn⟩;have h1:=hn.below;refine E0 (fs (cur':=vR O aa nb cc ad ne cf ah ng ci aj nk cl) o_ z z (hn.blk:Blk wr I.z [(Str.v (⟨[]⟩:Str)),vI 0,vI 0,vB false,sl none 0 0,sl none 0 0,sl none 0 0,sl none 0 0]) z (lb z) (oA z) z) ?_;rintro _ _ ⟨ho,ss⟩;have h2:=ss.one;refine Wn<|Wq<|Ws<|Rm z ?_
 have hp:=((G.ag B).e h1).c h2<|c_ (or0 (b_ lr)  (j_<|zt' hBw G.s) : ∀ k∈[I.z],¬ B k)
 refine R z (lnR n_ z<|p3_0.g hp)<|Rm z<|R z (sb_ z z)<|R z (fd a_K z)<|R z (l1 g_3 z fid<|ho.at z)<|R z (lss z z)<|Wn<|Wc z (fun H=>?_) (fun H=>?_)
 ·refine Ws<|Rm z<|Ra z<|Ra z<|Ra z<|Wn ?_
  obtain rfl:=som<|ifT J H;exact Wr<|y_ hr z z z ⟨bM (bup G h1) h2<|m1 G.s,z,ii z,p4_0⟩
 refine Wk<|Wq (Wd (X:=noX) 0 (.rd 0<|.rd 1<|.rd 2<|.rd 3<|.rd 4<|.rd 5<|.rd 6<|.rd 7<|.rd 8<|.rd 10<|.rd 11<|.rd 12<|.rd 13<|.ef 9<|.rd 14<|.rd 15<|.rd 16 .done) mo (by kernel_rfl) fun a1 s3 _=>?_)
 iterate 3 refine dR z z (mv z) ?_
 refine dR z z (fd a_K z) ?_;have h6:=ho.e s3;refine dR z z (l1 g_3 z fid<|h6.at z)<|dR z z (add_ z z) ?_
 obtain ⟨_,ex,hmy⟩:=bdS<|ifF J H;refine dRX z z (rX n_ z_5 z z (p3_0.g<|hp.e s3) z z ex) ?_;rintro _ ⟨_,_,_,rfl,hz⟩;refine dR z z (fd c_D z)<|dR z z (l1 g_4 z fid<|h6.at z)<|dR z z (mv z)<|dR z z (fd a_K z)<|dR z z (l1 g_3 z fid<|h6.at z)<|dR z z (add_ z z) ?_
 obtain ⟨_,W,V⟩:=bdS hmy;refine dE z z (fc call145 z<|W_w2e (B:=B) W (zt' hBw<|lt_ (lt_ (lt_ G.s h1.s) h2.s) s3.s) hz) (.inr fun _ _ h=>A_<|h.1) ?_;rintro _ _ ⟨Y,rfl,a0⟩
 iterate 3 refine dR z z (asg z) ?_
 refine pD<|Wo ?_
 obtain rfl:=som V;exact Wr<|y_ hr z z z ⟨bup (bup (bM (bup G h1) h2<|m1 G.s) s3) Y,z,a0,iA _ _⟩
def Q16 (w0:World) (B:Zone) (r:Int×Int×Int) (v:Value) (w':World):Prop:=Bw w0 w'∧un3 (fun G H I=>v = .tuple #[vI G,vI H,vI I]∧inI G∧inI H∧inI I) r
theorem W_w2f {x1:f_} {x2:e_} {x3:List UInt8} {x4:Int} {res:Int×Int×Int} (hm:e_1 x1 x2 x3 x4=some res) (hBw:B≤w0.z) (p1_0:repS w0 B (sl A0 N0 C0) x1.rules) (p2_0:x2.name.b.length≤LEN) (p2_1:inI x2.kind) (p2_2:inI x2.size) (p2_4:repS w0 B (sl A2 N2 C2) x2.bytes) (p2_5:repS w0 B (sl A3 N3 C3) x2.names) (p2_6:repS w0 B (sl A1 N1 C1) x2.tags) (p2_7:repS w0 B (sl A4 N4 C4) x2.kids) (p3_0:repS w0 B (sl A7 N7 C7) x3) (p4_0:inI x4):m_ prog 123 [(.agg #[sl A0 N0 C0]),.agg #[Str.v x2.name,vI x2.kind,vI x2.size,vB x2.little,sl A2 N2 C2,sl A3 N3 C3,sl A1 N1 C1,sl A4 N4 C4],sl A7 N7 C7,vI x4] w0 (Q16 w0 B res):=by
 unfold e_1 at hm
 refine goF func123 z z (lb z) fun fn hr=>Ws<|E z (fb z) ?_
 rintro _ wb ⟨rfl,a9⟩;have h3:=a9.below;refine E z (fb z) ?_;rintro _ H ⟨rfl,aa⟩;have I:=aa.below;have hf:Blk H wb.z (vR x2 A2 N2 C2 A3 N3 C3 A1 N1 C1 A4 N4 C4):=aa.blk;refine Ra z<|Ra z<|Ra z<|Wn<|Wq<|Ws<|R z (fd a_C z)<|R z (l1 g_3 z fid<|hf.at z)<|Wn<|Wb<|Ws<|R z (eql z z)<|Ra z<|Wn<|Wc z (fun hcg=>?_) (fun hcg=>?_)
 ·refine Wq (Wd (X:=noX) 0 (.rd 0<|.rd 1<|.rd 2<|.rd 3<|.rd 4<|.rd 5<|.rd 6 .done) mo (by kernel_rfl) fun b5 sh _=>dR z z (mv z)<|dR z z (fd N_ z)<|dR z z (l1 C_ z fid<|(hf.e sh).at z) ?_);have ab:=p2_7.g<|((h3.ag B).e I).e sh
  refine dR z z (lnR w_ z ab) ?_
  iterate 3 refine dR z z (asg z) ?_
  refine pD<|Wo ?_
  obtain rfl:=som<|ifT hm hcg;exact Wr<|rtO<|y_ hr z z z ⟨bup (bup h3 I) sh,z,p4_0,a_U<|repS.len ab,ii z⟩
 have W:=ifF hm hcg;refine Ws<|R z (eql z z)<|Ra z<|Wn<|Wc z (fun hci=>?_) (fun hci=>?_)
 ·refine Ws<|Rm z<|Ra z<|Ra z<|Ra z<|Wn ?_
  obtain rfl:=som<|ifT W hci;exact Wr<|rtO<|y_ hr z z z ⟨bup h3 I,z,p4_0,ii z,ii z⟩
 refine Ws<|R z (eql z z)<|Ra z<|Wn ?_
 obtain ⟨aC,Y,hmc⟩:=bdS<|ifF W hci;refine Wt (fun a w=>Sum.inl ()=aC∧Sat 81 [(3,vI x4)] a∧Below H.z H w) ?_ ?_
 ·refine Wc z (fun hcj=>?_)<|fun hcj=>?_
  ·refine Wq ?_;obtain ⟨aD,a0,a1⟩:=bdS<|ifT Y hcj;refine Wt (fun a w=>∃ (xk:Bool),xk=aD∧Sat 81 [(3,vI x4),(37,vB xk)] a∧Below H.z H w) ?_ ?_
   ·refine Wg<|Rm z<|Rm z ?_
    have ad:=p3_0.g<|(h3.ag B).e I
    refine R z (lnR n_ z ad)<|R z (lss z z)<|Rm z ?_
    rcases bs (decide<|x4<(x3.length:Int)) with G | G
    ·refine Rh z G (mv z)<|Rh z G (mv z) ?_
     obtain ⟨aE,aF,al⟩:=bdS<|ifT a0 G;refine RXg z z G z (at_ (α:=UInt8) n_ z_5 z z z ad aF) ?_;rintro _ ⟨_,_,_,rfl,aG,aH,_⟩;obtain rfl:=u8 aH;exact Rh z G (l1 g_5 z fid<|aG.at0 z)<|Rh z G (eql z z)<|R z (pT z G z)<|Wl (fun _ q=>⟨(byteI aE)==(byteI (1:UInt8)),som al,q.k<|s2 z z,br H⟩)
    iterate 5 refine Nh z G ?_
    exact R z (pF z G z)<|Wl (fun _ q=>⟨false,som<|ifF a0 G,q.k<|s2 z z,br H⟩)
   rintro aI _ ⟨xk,rfl,_,ae⟩;revert aI;refine Wo<|Wc z (fun hcl=>?_) (fun hcl=>?_)
   ·refine Ws<|Rm z<|R z (add_ z z)<|Ra z<|Ra z<|Ra z<|Wn ?_
    obtain rfl:=som<|ifT a1 hcl;have am:=elR hmc;obtain rfl:=som am;exact Wr<|rtO<|y_ hr z z z ⟨bup (bup h3 I) ae,z,iA _ _,ii z,ii z⟩
   exact a_e<|fun _ q=>⟨som<|ifF a1 hcl,q.k<|s1 z,ae⟩
  refine Wq<|Ws<|R z (eql z z)<|Ra z<|Wn ?_
  obtain ⟨aJ,a2,an⟩:=bdS<|ifF Y hcj;refine Wt (fun a w=>∃ (xm:Bool),xm=aJ∧Sat 81 [(2,sl A7 N7 C7),(3,vI x4),(4,pt w0.z),(5,pt wb.z),(40,vB xm)] a∧Below H.z H w) ?_ ?_
  ·refine Wc z (fun hcn=>?_)<|fun hcn=>?_
   ·exact a_e<|fun _ q=>⟨x2.kind==5,som<|ifT a2 hcn,q.k<|s5 z z z z z,br H⟩
   exact Wg<|R z (eql z z)<|Ra z<|Wl (fun _ q=>⟨x2.kind==7,som<|ifF a2 hcn,q.k<|s5 z z z z z,br H⟩)
  rintro aK wo ⟨xm,rfl,_,s6⟩;revert aK;refine Wo ?_;obtain ⟨aL,a3,hmp⟩:=bdS an;refine Wt (fun a w=>Sum.inl ()=aL∧Sat 81 [(3,vI x4)] a∧Below wo.z wo w) ?_ ?_
  ·refine Wc z (fun hcq=>?_)<|fun hcq=>?_
   ·refine Wq (Wd (X:=noX) 0 (.rd 0<|.rd 1<|.rd 2<|.rd 3<|.rd 4<|.rd 5<|.rd 6<|.ef 7<|.rd 8<|.rd 9<|.rd 10<|.rd 11<|.rd 12<|.rd 13<|.rd 14 .done) mo (by kernel_rfl) fun b6 s7 _=>dR z z (lN (vs:=[sl A0 N0 C0]) v_ s_ z z fid<|((((a9.blk:Blk wb w0.z [sl A0 N0 C0]).e I).e s6).e s7).row 0 1 z)<|dR z z (fd N_ z) ?_);have ht:=(hf.e s6).e s7;refine dR z z (l1 C_ z fid<|ht.at z) ?_;obtain ⟨_,aM,ao⟩:=bdS<|ifT a3 hcq;have hd:=(((h3.ag B).e I).e s6).e s7;refine dRX z z (at_ (α:=Int) w_ z_3 z z z (p2_7.g hd) aM) ?_;rintro _ ⟨_,_,_,rfl,aN,aO,_⟩;obtain ⟨rfl,aP⟩:=Q_ aO;refine dR z z (l1 g_3 z fid<|aN.at0 z)<|dR z z (mv z)<|dR z z (mv z) ?_
    have af:=lt_ (lt_ (lt_ h3.s I.s) s6.s) s7.s;obtain ⟨rr,ah,_,aQ,ap⟩:=p_ ao;refine dE z z (fc call125 z<|g_0 (B:=B) aQ (zt' hBw af) (p1_0.g hd) aP (p3_0.g hd) p4_0) (.inr fun _ _ h=>A_<|h.1) ?_;rintro _ O ⟨s9,rfl,hu,ai⟩;refine dR z z (mv z) ?_
    iterate 3 refine dR z z (ext_ z z) ?_
    iterate 3 refine dR z z (asg z) ?_
    refine pD<|Wo<|Wb<|Ws<|Rm z<|R z (not_ z)<|Ra z<|Wn ?_
    obtain ⟨aR,a4,hms⟩:=bdS ap;refine Wt (fun a w=>Sum.inl ()=aR∧Sat 81 [(3,vI x4)] a∧Below O.z O w) ?_ ?_
    ·refine Wc z (fun hcv=>?_)<|fun hcv=>?_
     ·exact a_e<|fun _ q=>⟨som<|ifT a4 hcv,q.k<|s1 z,br O⟩
     refine Wq ?_;obtain ⟨aS,a5,a6⟩:=bdS<|ifF a4 hcv;refine Wt (fun a w=>∃ (xw:Bool),xw=aS∧Sat 81 [(3,vI x4),(5,pt wb.z),(11,vI rr),(12,vI ah),(58,vB xw)] a∧Below O.z O w) ?_ ?_
     ·refine Wg<|R z (fd a_C z)<|R z (l1 g_3 z fid<|(ht.e s9).at z)<|R z (eql z z)<|Rm z ?_
      rcases bs (x2.kind==5) with L | L
      ·exact Rh z L (mv z)<|Rh z L (b_S z z)<|R z (pT z L z)<|Ra z<|Wl (fun _ q=>⟨decide<|rr≤40,som<|ifT a5 L,q.k<|s5 z z z z z,br O⟩)
      exact Nh z L<|Nh z L<|R z (pF z L z)<|Ra z<|Wl (fun _ q=>⟨false,som<|ifF a5 L,q.k<|s5 z z z z z,br O⟩)
     rintro aT wx ⟨xw,rfl,_,sa⟩;revert aT;refine Wo<|Wc z (fun hcy=>?_) (fun hcy=>?_)
     ·refine Ws<|Rm z<|Rm z<|Ra z<|Ra z<|Ra z<|Wn ?_
      obtain rfl:=som<|ifT a6 hcy;have aq:=elR hms;obtain rfl:=som aq;have ar:=elR hmp;obtain rfl:=som ar;have au:=elR hmc;obtain rfl:=som au;exact Wr<|rtO<|rtO<|y_ hr z z z ⟨bup (bup (bup (bup (bup h3 I) s6) s7) s9) sa,z,ai,hu,ii z⟩
     refine Wq ?_;obtain ⟨aU,a7,a8⟩:=bdS<|ifF a6 hcy;refine Wt (fun a w=>∃ (xz:Bool),xz=aU∧Sat 81 [(3,vI x4),(11,vI rr),(12,vI ah),(68,vB xz)] a∧Below wx.z wx w) ?_ ?_
     ·refine Wg<|R z (fd a_C z) ?_
      have aj:=(ht.e s9).e sa;refine R z (l1 g_3 z fid<|aj.at z)<|R z (eql z z)<|Rm z ?_
      rcases bs (x2.kind==7) with J | J
      ·refine Rh z J (lN (vs:=vR x2 A2 N2 C2 A3 N3 C3 A1 N1 C1 A4 N4 C4) I_ o_ z z fid<|aj.row 0 8 z)<|Rh z J (mv z) ?_
       have he:=(hd.e s9).e sa;obtain ⟨aV,aW,av⟩:=bdS<|ifT a7 J;refine Eg z z J z (fc call109 z<|d_N (B:=B) aW (zt' hBw<|lt_ (lt_ af s9.s) sa.s) p2_0 p2_1 p2_2 (p2_4.g he) (p2_5.g he) (p2_6.g he) (p2_7.g he) hu<|ii z) ?_;rintro _ _ ⟨aX,rfl,_⟩;exact Rh z J (b_e z z)<|R z (pT z J z)<|Ra z<|Wl (fun _ q=>⟨decide<|0≤aV,som av,q.k<|s4 z z z z,aX⟩)
      iterate 4 refine Nh z J ?_
      exact R z (pF z J z)<|Ra z<|Wl (fun _ q=>⟨false,som<|ifF a7 J,q.k<|s4 z z z z,br wx⟩)
     rintro aY _ ⟨xz,rfl,_,ak⟩;revert aY;refine Wo<|Wc z (fun V=>?_) (fun V=>?_)
     ·refine Ws<|Rm z<|Rm z<|Ra z<|Ra z<|Ra z<|Wn ?_
      obtain rfl:=som<|ifT a8 V;have aw:=elR hms;obtain rfl:=som aw;have ax:=elR hmp;obtain rfl:=som ax;have ay:=elR hmc;obtain rfl:=som ay;exact Wr<|rtO<|rtO<|y_ hr z z z ⟨bup (bup (bup (bup (bup (bup h3 I) s6) s7) s9) sa) ak,z,ai,ii z,hu⟩
     exact a_e<|fun _ q=>⟨som<|ifF a8 V,q.k<|s1 z,bup sa ak⟩
    rintro aZ _ ⟨rfl,_,b0⟩;have az:=elL hms;revert aZ;exact fun _ q=>⟨som az,q.k<|s1 z,bup (bup s7 s9) b0⟩
   exact a_e<|fun _ q=>⟨som<|ifF a3 hcq,q.k<|s1 z,br wo⟩
  rintro b1 _ ⟨rfl,_,b2⟩;have aA:=elL hmp;revert b1;exact fun _ q=>⟨som aA,q.k<|s1 z,bup s6 b2⟩
 rintro b3 _ ⟨rfl,_,b4⟩;have aB:=elL hmc;revert b3;refine Wo<|Ws<|Rm z<|Ra z<|Ra z<|Ra z<|Wn ?_
 obtain rfl:=som aB;exact Wr<|y_ hr z z z ⟨bup (bup h3 I) b4,z,p4_0,ii z,ii z⟩
def Q17 (w0:World) (B:Zone) (r:Val×Int×Int) (v:Value) (w':World):Prop:=Bw w0 w'∧un3 (fun G H I=>∃ J L O S1 a2 V W S2,v = .tuple #[(.agg #[vI G.number,sl J L O,sl a2 V W]),vI H,vI I]∧inI G.number∧a_ w' S1 (sl J L O) G.bytes∧a_ w' S2 (sl a2 V W) G.items∧inI H∧inI I∧(S1++S2).Nodup∧(∀ k∈(S1++S2),w0.z≤k)) r
theorem W_w2g {x1:e_} {x2:List UInt8} {x3:Int} {res:Val×Int×Int} (hm:g_z x1 x2 x3=some res) (hBw:B≤w0.z) (p1_0:x1.name.b.length≤LEN) (p1_1:inI x1.kind) (p1_2:inI x1.size) (I:repS w0 B (sl A9 N9 C9) x1.bytes) (a3:repS w0 B (sl A8 N8 C8) x1.names) (a4:repS w0 B (sl AA NA CA) x1.tags) (a5:repS w0 B (sl AB NB CB) x1.kids) (p2_0:repS w0 B (sl A6 N6 C6) x2) (p3_0:inI x3):m_ prog 126 [(.agg #[Str.v x1.name,vI x1.kind,vI x1.size,vB x1.little,sl A9 N9 C9,sl A8 N8 C8,sl AA NA CA,sl AB NB CB]),sl A6 N6 C6,vI x3] w0 (Q17 w0 B res):=by
 unfold g_z at hm
 refine goF func126 z z (lb z) fun fn hr=>Ws<|E z (fb z) ?_
 rintro _ J ⟨rfl,he⟩;have G:=he.below;have h5:Blk J w0.z (vR x1 A9 N9 C9 A8 N8 C8 AA NA CA AB NB CB):=he.blk;refine E z (fa a_d) ?_;rintro _ H ⟨rfl,hf⟩;have h1:=hf.below;have L:Blk H J.z [vI 0,sl none 0 0,sl none 0 0]:=hf.blk;refine Ra z<|Ra z<|Wn<|Wq<|Ws<|Ra z<|Wn ?_
 obtain ⟨_,hun,hmg⟩:=bdS hm;refine Wf (σ:=Unit) (ρ:=Val×Int×Int) (fun (kh:Nat) (_:Unit) a w=>Sat 47 [(1,sl A6 N6 C6),(2,vI x3),(3,pt w0.z),(6,pt J.z),(9,vI ((kh:Nat):Int))] a∧Below H.z H w) (fun (_:Unit) a w=>Sat 47 [(2,vI x3),(3,pt w0.z),(6,pt J.z)] a∧Below H.z H w) (fun r ex a w=>ex = .ret∧L_ prog fn (Q17 w0 B r) a w) hun ?_ ?_ ?_ ?_ ?_
 ·exact fun _ q=>⟨q.k<|s5 z z z z z,br H⟩
 ·rintro kh _ _ _ _ hki ⟨hSo,s2⟩ hmj;refine Wu ?_ hSo;refine Wq<|Ws<|Rm z<|R z (fd a_W z) ?_
  have hk:=(h5.e h1).e s2;refine R z (l1 X_ z fid<|hk.at z) ?_;have ha:=((G.ag B).e h1).e s2;refine R z (lnR n_ z<|I.g ha)<|R z (lss z z)<|Wn<|Wc z (fun _=>?_) (fun hc=>(a_h hki hc).elim)
  refine Wk<|Wq<|Wb<|Wq<|Ws<|Rm z<|Rm z<|R z (add_ z z)<|Rm z<|R z (lnR n_ z<|p2_0.g ha)<|R z (b_e z z)<|Wn<|Wc z (fun hcb=>?_) (fun hcb=>?_)
  ·refine Ws<|R z (bP (parts:=[]) (cs:=[vI 0,sl none 0 0,sl none 0 0]) a_3 z z)<|Rm z<|E0 (fs (cur':=[vI 0,sl none 0 0,sl none 0 0]) i_ z z (L.e s2) z (lb z) (oA z) z) ?_
   rintro _ _ ⟨hp,sq⟩;exact Ra z<|Ra z<|Wn<|Wr<|rtO<|qL (som<|ifT hmj hcb).symm<|y_ hr (q_ x_ i_ z hp z) z z ⟨bM (bup (bup G h1) s2) sq.one<|m1 G.s,none,0,0,[],none,0,0,[],z,ii z,onL,onL,p3_0,ii z,nd0,al0⟩
  refine Wk<|Wq (Wd (X:=noX) 0 (.rd 0<|.rd 1<|.rd 2<|.rd 3<|.rd 4<|.rd 5<|.rd 6<|.rd 7<|.rd 8<|.rd 9<|.rd 10<|.rd 11 .done) mo (by kernel_rfl) fun a6 s6 _=>?_)
  iterate 3 refine dR z z (mv z) ?_
  refine dR z z (add_ z z) ?_;obtain ⟨_,er,hms⟩:=bdS<|ifF hmj hcb;have hl:=ha.e s6;refine dRX z z (at_ (α:=UInt8) n_ z_5 z z z (p2_0.g hl) er) ?_;rintro _ ⟨_,_,_,rfl,ht,hu,_⟩;obtain rfl:=u8 hu;refine dR z z (l1 g_5 z fid<|ht.at0 z)<|dR z z (fd a_W z)<|dR z z (l1 X_ z fid<|(hk.e s6).at z)<|dR z z (mv z) ?_
  obtain ⟨_,ev,hmm⟩:=bdS hms;refine dRX z z (at_ (α:=UInt8) n_ z_5 z z z (I.g hl) ev) ?_;rintro _ ⟨_,_,_,rfl,hw,hx,_⟩;obtain rfl:=u8 hx;refine dR z z (l1 g_5 z fid<|hw.at0 z)<|dR z z (nq z z)<|pD<|Wo<|Wc z (fun hcc=>?_) (fun hcc=>?_)
  ·refine Ws<|R z (bP (parts:=[]) (cs:=[vI 0,sl none 0 0,sl none 0 0]) a_3 z z)<|Rm z<|Rm z<|R z (add_ z z)<|E0 (fs (cur':=[vI 0,sl none 0 0,sl none 0 0]) i_ z z ((L.e s2).e s6) z (lb z) (oA z) z) ?_
   rintro _ _ ⟨hy,sz⟩;exact Ra z<|Ra z<|Wn<|Wr<|rtO<|qL (som<|ifT hmm hcc).symm<|y_ hr (q_ x_ i_ z hy z) z z ⟨bM (bup (bup (bup G h1) s2) s6) sz.one<|m1 G.s,none,0,0,[],none,0,0,[],z,ii z,onL,onL,iA _ _,ii z,nd0,al0⟩
  exact Wk<|Wg<|Rm z<|R z (inc_ hki (lt_ (repS.len I) P_) z z)<|Ra z<|Wl (fun _ q=>⟨(),(som<|ifF hmm hcc).symm,⟨q.k<|s5 z z z z z,bup s2 s6⟩⟩)
 ·rintro _ _ _ ⟨O,sd⟩;refine Wu ?_ O;refine Wq<|Ws<|Rm z<|R z (fd a_W z)<|R z (l1 X_ z fid<|((h5.e h1).e sd).at z)<|R z (lnR n_ z<|I.g<|((G.ag B).e h1).e sd)<|R z (lss z z)<|Wn<|Wc z (fun hc=>(a_i hc).elim) (fun _=>?_)
  exact We<|fun a' ha'=>⟨rfl,⟨Sat.weaken ha'<|s3 z z z,sd⟩⟩
 ·rintro _ a0 _ rfl ⟨_,s7⟩;have V:=elL hmg;revert a0;refine Wo<|Wq (Wd (X:=(· ∈ [J.z])) 0 (.rd 0<|.rd 1<|.rd 2<|.rd 3<|.rd 4<|.rd 5<|.ef 6<|.rd 7<|.rd 8 .done) mo (by kernel_rfl) fun a7 s8 _=>dR z z (bP (parts:=[]) (cs:=[vI 0,sl none 0 0,sl none 0 0]) a_3 z z)<|dR z z (mv z)<|dR z z (fd a_W z)<|dR z z (l1 X_ z (djs<|mmr h5.lt)<|(((h5.e h1).e s7).e s8).at z)<|dR z z (lnR n_ z<|I.g<|(((G.ag B).e h1).e s7).e s8)<|dR z z (add_ z z)<|dE0 z (fs (cur':=[vI 0,sl none 0 0,sl none 0 0]) i_ z z ((L.e s7).e s8) z (lb z) (oA z) z) (.inr fun _ _ h=>chgIn (List.mem_singleton.2 z) h.2) ?_)
  rintro _ _ ⟨a1,a2⟩;refine dR z z (asg z)<|dR z z (asg z)<|pD<|Wo ?_
  obtain rfl:=som V;exact Wr<|y_ hr (q_ x_ i_ z a1 z) z z ⟨bM (bup (bup (bup G h1) s7) s8) a2.one<|m1 G.s,none,0,0,[],none,0,0,[],z,ii z,onL,onL,iA _ _,ii z,nd0,al0⟩
 rintro _ _ _ _ rfl ⟨rfl,W⟩;have Y:=elR hmg;obtain rfl:=som Y;exact ⟨W,z⟩
theorem W_w1b {x1:List UInt8} {x2:Int} {x3:Int} {res:Val×Int×Int} (hm:f_i x1 x2 x3=some res) (hBw:B≤w0.z) (p1_0:repS w0 B (sl A0 N0 C0) x1) (p2_0:inI x2) (p3_0:inI x3):m_ prog 127 [sl A0 N0 C0,vI x2,vI x3] w0 (Q17 w0 B res):=by
 unfold f_i at hm
 refine goF func127 z z (lb z) fun fn hr=>Ws<|E z (fa a_d) ?_
 rintro _ we ⟨rfl,O⟩;have G:=O.below;have h2:Blk we w0.z [vI 0,sl none 0 0,sl none 0 0]:=O.blk;refine Ra z<|Ra z<|Wn<|Wq<|Ws<|Rm z<|R z (lnR n_ z<|p1_0.e G)<|Rm z<|R z (sb_ z z)<|Rm z<|R z (lss z z)<|Wn<|Wc z (fun H=>?_) (fun H=>?_)
 ·refine Ws<|R z (bP (parts:=[]) (cs:=[vI 0,sl none 0 0,sl none 0 0]) a_3 z z)<|Rm z<|E0 (fs (cur':=[vI 0,sl none 0 0,sl none 0 0]) i_ z z h2 z (lb z) (oA z) z) ?_
  rintro _ _ ⟨hf,sg⟩;refine Ra z<|Ra z<|Wn ?_
  obtain rfl:=som<|ifT hm H;exact Wr<|y_ hr (q_ x_ i_ z hf z) z z ⟨bM G sg.one<|b_ lr,none,0,0,[],none,0,0,[],z,ii z,onL,onL,p2_0,ii z,nd0,al0⟩
 refine Wk<|Ws<|E z (f0 (α:=UInt8) R_) ?_
 rintro _ _ ⟨_,_,_,rfl,s1,hh⟩;refine Rm z<|Rm z<|Rm z<|Rm z<|R z (add_ z z) ?_
 obtain ⟨_,ei,hmj⟩:=bdS<|ifF hm H;refine RX z (rX n_ z_5 z z (p1_0.g<|(G.ag B).e s1) z z ei) ?_;rintro _ ⟨_,_,_,rfl,hk⟩;obtain ⟨_,el,hmm⟩:=bdS hmj;refine E z (fN (α:=UInt8) R_ el z z hh a_o hk) ?_;rintro _ _ ⟨V,I,J,L,rfl,s9,hn,ho,ha⟩;refine R z (bP (parts:=[(1,.tmp 24)]) (cs:=[vI 0,sl I J L,sl none 0 0]) a_3 z z)<|Rm z<|Rm z<|R z (add_ z z) ?_
 have hb:=mmr h2.lt;refine E0 (fs (cur':=[vI 0,sl I J L,sl none 0 0]) i_ z z ((h2.e s1).c s9<|djs hb) z (lb z) (oA z) z) ?_;rintro _ _ ⟨hp,sq⟩;have hc:=sq.one;refine Ra z<|Ra z<|Wn ?_
 obtain rfl:=som hmm;have hd:=m1 G.s;exact Wr<|y_ hr (q_ x_ i_ z hp z) z z ⟨bM (bM (bup G s1) s9 hd) hc<|b_ lr,I,J,L,V,none,0,0,[],z,ii z,hn.c hc (or1 ha hb (W_ (b_ h2.lt) s1.s) : ∀ k∈V,k∉[w0.z]),onL,iA _ _,ii z,na_ ho J_<|nmN _,aa_ (a_8 ha hd<|lt_ G.s s1.s) an_⟩
def Q18 (w0:World) (B:Zone) (r:(List UInt8)×Int×Bool) (v:Value) (w':World):Prop:=Bw w0 w'∧un3 (fun L G O=>∃ H I J S1,v = .tuple #[sl H I J,vI G,vB O]∧a_ w' S1 (sl H I J) L∧inI G∧S1.Nodup∧(∀ k∈S1,w0.z≤k)) r
theorem W_w2h {x1:List UInt8} {x2:Int} {x3:UInt8} {res:(List UInt8)×Int×Bool} (hm:g_A n x1 x2 x3=some res) (hBw:B≤w0.z) (p1_0:repS w0 B (sl A0 N0 C0) x1) (p2_0:inI x2):m_ prog 128 [sl A0 N0 C0,vI x2,vU<|byteI x3] w0 (Q18 w0 B res):=by
 unfold g_A at hm
 refine goF func128 z z (lb z) fun fn hr=>Ws<|Ra z<|Ra z<|Ra z<|Wn<|Ws<|E z (f0 (α:=UInt8) R_) ?_
 rintro _ G ⟨ai,aj,ak,rfl,s9,al⟩;refine Ra z<|Wn<|Wq<|Ws<|Rm z<|Ra z<|Wn ?_
 obtain ⟨_,a4,hmr⟩:=bdS hm;refine b_P (σ:=(List UInt8)×Int) (ρ:=(List UInt8)×Int×Bool) (fun s a w=>un2 (fun xb x5=>∃ a2 I J H,Sat 54 [(0,sl A0 N0 C0),(1,vI x2),(2,vU<|byteI x3),(9,sl a2 I J),(10,vI x5)] a∧Chg (· ∈ [w0.z]) G w∧a_ w H (sl a2 I J) xb∧H.Nodup∧(∀ k∈H,k∈[w0.z]∨G.z≤k)∧inI x5) s) (fun s a w=>un2 (fun xb x5=>∃ a2 I J H,Sat 54 [(1,vI x2)] a∧Chg (· ∈ [w0.z]) G w∧a_ w H (sl a2 I J) xb∧H.Nodup∧(∀ k∈H,k∈[w0.z]∨G.z≤k)∧inI x5) s) (fun r ex a w=>ex = .ret∧L_ prog fn (Q18 w0 B r) a w) a4 ?_ ?_ ?_ ?_
 ·exact fun _ q=>⟨ai,aj,ak,[w0.z],q.k<|s5 z z z z z,cr [w0.z] G,al,a_o,io sr,p2_0⟩
 ·rintro ⟨xb,x5⟩ _ wc _ ⟨a2,I,J,H,a5,s8,hd,he,hf,hi⟩ a6;refine Wu ?_ a5;refine Wq<|Wq ?_
  obtain ⟨am,a7,hms⟩:=bdS<|a_F a6;refine Wt (fun a w=>∃ (xj:Bool),xj=am∧Sat 54 [(0,sl A0 N0 C0),(1,vI x2),(2,vU<|byteI x3),(9,sl a2 I J),(10,vI x5),(22,vB xj)] a∧Below wc.z wc w) ?_ ?_
  ·refine Wg<|Rm z<|Rm z ?_
   have hu:=(s9.ag B).c s8<|c_ (or0 (b_ lr)  (j_ hBw) : ∀ k∈[w0.z],¬ B k)
   have hv:=p1_0.g hu;refine R z (lnR n_ z hv) ?_;obtain ⟨an,ao,hmw⟩:=bdS a7;refine E z (fc call103 z<|b_m (B:=B) ao (zt' hBw<|lt_ s9.s s8.s) p2_0 (ii z)<|a_U<|repS.len hv) ?_;rintro _ _ ⟨sk,rfl⟩;refine Rm z ?_
   rcases bs an with L | L
   ·exact Rh z L (mv z)<|Rh z L (mv z)<|Rh z L (lnR n_ z<|p1_0.g<|hu.e sk)<|Rh z L (lss z z)<|R z (pT z L z)<|Wl (fun _ q=>⟨decide<|x5<(x1.length:Int),som<|ifT hmw L,q.k<|s6 z z z z z z,sk⟩)
   iterate 4 refine Nh z L ?_
   exact R z (pF z L z)<|Wl (fun _ q=>⟨false,som<|ifF hmw L,q.k<|s6 z z z z z z,sk⟩)
  rintro ap wa ⟨xj,rfl,_,s7⟩;revert ap;refine Wo<|Wc z (fun hcl=>?_) (fun hcl=>?_)
  ·refine Wk<|Wq<|Wb<|Wq<|Ws<|Rm z<|Rm z ?_
   obtain ⟨_,aq,hmx⟩:=bdS<|ifT hms hcl;have hy:=((s9.ag B).c s8<|c_ (or0 (b_ lr)  (j_ hBw) : ∀ k∈[w0.z],¬ B k)).e s7;have hn:=p1_0.g hy;refine RX z (at_ (α:=UInt8) n_ z_5 z z z hn aq) ?_;rintro _ ⟨_,_,_,rfl,ar,au,_⟩;obtain rfl:=u8 au;refine R z (l1 g_5 z fid<|ar.at0 z)<|Rm z<|R z (eql z z)<|Wn<|Wc z (fun hcm=>?_) (fun hcm=>?_)
   ·refine Ws<|Rm z<|Rm z<|R z (add_ z z)<|Ra z<|Ra z<|Ra z<|Wn ?_
    exact Wr<|rtO<|qL (som<|ifT hmx hcm).symm<|y_ hr z z z ⟨bup (bM s9 s8<|b_ lr) s7,a2,I,J,H,z,hd.e s7,iA _ _,he,(or1 hf (b_ lr) (b_k s9.s) : ∀ k∈H,w0.z≤k)⟩
   refine Wk<|Wq<|Ws<|Rm z<|Rm z ?_
   obtain ⟨_,av,a8⟩:=bdS<|ifF hmx hcm;refine RX z (at_ (α:=UInt8) n_ z_5 z z z hn av) ?_;rintro _ ⟨_,_,_,rfl,aw,ax,_⟩;obtain rfl:=u8 ax;refine R z (l1 g_5 z fid<|aw.at0 z)<|R z (eql z z)<|Wn ?_
   obtain ⟨ay,huz,O⟩:=bdS a8;refine Wt (fun a w=>∃ (xg:Int),Sum.inl xg=ay∧Sat 54 [(0,sl A0 N0 C0),(1,vI x2),(2,vU<|byteI x3),(9,sl a2 I J),(10,vI xg)] a∧Below wa.z wa w∧inI xg) ?_ ?_
   ·refine Wc z (fun hco=>?_)<|fun hco=>?_
    ·have V:=ifT huz hco;refine Ws<|Rm z<|R z (add_ z z)<|Ra z<|Wn<|Ws<|Rm z<|Rm z<|R z (lnR n_ z hn)<|R z (eql z z)<|Wn<|Wc z (fun hcp=>?_) (fun hcp=>?_)
     ·obtain rfl:=som<|ifT V hcp;have a9:=elR O;exact We<|exO z (fun a' ha'=>b_t (som a9).symm ⟨a2,I,J,H,Sat.weaken ha'<|s1 z,(d_ (cM (cr [w0.z] G) s8 (io sr):Chg (· ∈ [w0.z]) G wc) s7:Chg (· ∈ [w0.z]) G wa),hd.e s7,he,(or1 hf (io sr) (G_ lr) : ∀ k∈H,k∈[w0.z]∨G.z≤k),iA _ _⟩)
     exact a_e<|fun _ q=>⟨g_ x5 1,som<|ifF V hcp,q.k<|s5 z z z z z,br wa,iA _ _⟩
    exact a_e<|fun _ q=>⟨x5,som<|ifF huz hco,q.k<|s5 z z z z z,br wa,hi⟩
   rintro az W ⟨xg,rfl,_,sh,_⟩;have aa:=elL O;revert az;refine Wo<|Wg<|Rm z<|Rm z<|Rm z ?_
   obtain ⟨aA,aB,ab⟩:=bdS aa;refine RX z (at_ (α:=UInt8) n_ z_5 z z z (p1_0.g<|hy.e sh) aB) ?_;rintro _ ⟨_,_,_,rfl,aC,aD,_⟩;obtain rfl:=u8 aD;refine R z (l1 g_5 z fid<|aC.at0 z)<|E z (fS [(.tmp 49)] R_ z z z (a_b z) (lb z)<|lb z) ?_
   rintro _ Y ⟨rfl,hq⟩;have ht:=hq.below;have aV:=a_J hq b_c;obtain ⟨aE,aF,ad⟩:=bdS ab;refine E z (b_0 (α:=UInt8) R_ aF z z (((hd.e s7).e sh).e ht) he (hq.blk:Blk Y W.z [vU (byteI aA)]) b_c an_ J_) ?_;rintro _ aG ⟨a0,aH,aI,aJ,rfl,aK,aL,aM,aN⟩;refine Ra z<|Wn<|Wg<|Rm z<|R z (add_ z z)<|Ra z<|Wl ?_
   have a1 : ∀ k∈H,k∈[w0.z]∨G.z≤k:=or1 hf (io sr)<|G_ lr;exact fun _ q=>⟨(aE,g_ xg 1),(som ad).symm,⟨aH,aI,aJ,a0,q.k<|s5 z z z z z,(cM (d_ (d_ (d_ (cM (cr [w0.z] G) s8 (io sr):Chg (· ∈ [w0.z]) G wc) s7:Chg (· ∈ [w0.z]) G wa) sh:Chg (· ∈ [w0.z]) G W) ht:Chg (· ∈ [w0.z]) G Y) aK a1:Chg (· ∈ [w0.z]) G aG),aL,aM,(or2 aN a1 an_ (G_<|lt_ (lt_ (lt_ s8.s s7.s) sh.s) ht.s) : ∀ k∈a0,k∈[w0.z]∨G.z≤k),iA _ _⟩⟩
  exact We<|fun a' ha'=>b_t (som<|ifF hms hcl).symm ⟨a2,I,J,H,Sat.weaken ha'<|s1 z,(d_ (cM (cr [w0.z] G) s8 (io sr):Chg (· ∈ [w0.z]) G wc) s7:Chg (· ∈ [w0.z]) G wa),hd.e s7,he,(or1 hf (io sr) (G_ lr) : ∀ k∈H,k∈[w0.z]∨G.z≤k),hi⟩
 ·rintro ⟨xb,x5⟩ aO aP rfl ⟨a2,I,J,H,_,a3,hd,he,hf,hi⟩;have ae:=elL hmr;revert aO;refine Wo<|Ws<|E z (f0 (α:=UInt8) R_) ?_
  rintro _ _ ⟨aQ,aR,aS,rfl,aT,aU⟩;refine Rm z<|Ra z<|Ra z<|Ra z<|Wn ?_
  obtain rfl:=som<|a_F ae;exact Wr<|y_ hr z z z ⟨bup (bM s9 a3<|b_ lr) aT,aQ,aR,aS,[aP.z],z,aU,p2_0,a_o,m1<|lt_ s9.s a3.s⟩
 rintro _ _ _ _ rfl ⟨rfl,af⟩;have ah:=elR hmr;obtain rfl:=som ah;exact ⟨af,z⟩
structure j_f (f:f_→Int→(List UInt8)→Int→Option (Val×Int×Int)):Prop where
  run : ∀ {A0 A7:Option Addr} {N0 C0 N7 C7:Nat} {B:Zone} {x1:f_} {x2:Int} {x3:List UInt8} {x4:Int} {res:Val×Int×Int} {w0:World} (hm:f x1 x2 x3 x4=some res) (hBw:B≤w0.z) (p1_0:repS w0 B (sl A0 N0 C0) x1.rules) (p2_0:inI x2) (p3_0:repS w0 B (sl A7 N7 C7) x3) (p4_0:inI x4),m_ prog 67 [(.agg #[sl A0 N0 C0]),vI x2,sl A7 N7 C7,vI x4] w0<|Q17 w0 B res
structure j_g (f:f_→e_→Int→Int→(List UInt8)→Int→Option (Val×Int×Int)):Prop where
  run : ∀ {A0 A2 A3 A1 A4 AG:Option Addr} {N0 C0 N2 C2 N3 C3 N1 C1 N4 C4 NG CG:Nat} {B:Zone} {x1:f_} {x2:e_} {x3:Int} {x4:Int} {x5:List UInt8} {x6:Int} {res:Val×Int×Int} {w0:World} (hm:f x1 x2 x3 x4 x5 x6=some res) (hBw:B≤w0.z) (p1_0:repS w0 B (sl A0 N0 C0) x1.rules) (p2_0:x2.name.b.length≤LEN) (p2_1:inI x2.kind) (p2_2:inI x2.size) (p2_4:repS w0 B (sl A2 N2 C2) x2.bytes) (p2_5:repS w0 B (sl A3 N3 C3) x2.names) (p2_6:repS w0 B (sl A1 N1 C1) x2.tags) (p2_7:repS w0 B (sl A4 N4 C4) x2.kids) (p3_0:inI x3) (p4_0:inI x4) (p5_0:repS w0 B (sl AG NG CG) x5) (p6_0:inI x6),m_ prog 129 [(.agg #[sl A0 N0 C0]),.agg #[Str.v x2.name,vI x2.kind,vI x2.size,vB x2.little,sl A2 N2 C2,sl A3 N3 C3,sl A1 N1 C1,sl A4 N4 C4],vI x3,vI x4,sl AG NG CG,vI x6] w0<|Q17 w0 B res
structure j_h (f:f_→e_→(List UInt8)→Int→Option (Val×Int×Int)):Prop where
  run : ∀ {A0 A2 A3 A1 A4 A7:Option Addr} {N0 C0 N2 C2 N3 C3 N1 C1 N4 C4 N7 C7:Nat} {B:Zone} {x1:f_} {x2:e_} {x3:List UInt8} {x4:Int} {res:Val×Int×Int} {w0:World} (hm:f x1 x2 x3 x4=some res) (hBw:B≤w0.z) (p1_0:repS w0 B (sl A0 N0 C0) x1.rules) (p2_0:x2.name.b.length≤LEN) (p2_1:inI x2.kind) (p2_2:inI x2.size) (p2_4:repS w0 B (sl A2 N2 C2) x2.bytes) (p2_5:repS w0 B (sl A3 N3 C3) x2.names) (p2_6:repS w0 B (sl A1 N1 C1) x2.tags) (p2_7:repS w0 B (sl A4 N4 C4) x2.kids) (p3_0:repS w0 B (sl A7 N7 C7) x3) (p4_0:inI x4),m_ prog 130 [(.agg #[sl A0 N0 C0]),.agg #[Str.v x2.name,vI x2.kind,vI x2.size,vB x2.little,sl A2 N2 C2,sl A3 N3 C3,sl A1 N1 C1,sl A4 N4 C4],sl A7 N7 C7,vI x4] w0<|Q17 w0 B res
structure j_i (f:f_→e_→(List UInt8)→Int→Option (Val×Int×Int)):Prop where
  run : ∀ {A0 A2 A3 A1 A4 A7:Option Addr} {N0 C0 N2 C2 N3 C3 N1 C1 N4 C4 N7 C7:Nat} {B:Zone} {x1:f_} {x2:e_} {x3:List UInt8} {x4:Int} {res:Val×Int×Int} {w0:World} (hm:f x1 x2 x3 x4=some res) (hBw:B≤w0.z) (p1_0:repS w0 B (sl A0 N0 C0) x1.rules) (p2_0:x2.name.b.length≤LEN) (p2_1:inI x2.kind) (p2_2:inI x2.size) (p2_4:repS w0 B (sl A2 N2 C2) x2.bytes) (p2_5:repS w0 B (sl A3 N3 C3) x2.names) (p2_6:repS w0 B (sl A1 N1 C1) x2.tags) (p2_7:repS w0 B (sl A4 N4 C4) x2.kids) (p3_0:repS w0 B (sl A7 N7 C7) x3) (p4_0:inI x4),m_ prog 131 [(.agg #[sl A0 N0 C0]),.agg #[Str.v x2.name,vI x2.kind,vI x2.size,vB x2.little,sl A2 N2 C2,sl A3 N3 C3,sl A1 N1 C1,sl A4 N4 C4],sl A7 N7 C7,vI x4] w0<|Q17 w0 B res
structure j_j (f:f_→e_→(List UInt8)→Int→Option (Val×Int×Int)):Prop where
  run : ∀ {A0 A2 A3 A1 A4 A7:Option Addr} {N0 C0 N2 C2 N3 C3 N1 C1 N4 C4 N7 C7:Nat} {B:Zone} {x1:f_} {x2:e_} {x3:List UInt8} {x4:Int} {res:Val×Int×Int} {w0:World} (hm:f x1 x2 x3 x4=some res) (hBw:B≤w0.z) (p1_0:repS w0 B (sl A0 N0 C0) x1.rules) (p2_0:x2.name.b.length≤LEN) (p2_1:inI x2.kind) (p2_2:inI x2.size) (p2_4:repS w0 B (sl A2 N2 C2) x2.bytes) (p2_5:repS w0 B (sl A3 N3 C3) x2.names) (p2_6:repS w0 B (sl A1 N1 C1) x2.tags) (p2_7:repS w0 B (sl A4 N4 C4) x2.kids) (p3_0:repS w0 B (sl A7 N7 C7) x3) (p4_0:inI x4),m_ prog 132 [(.agg #[sl A0 N0 C0]),.agg #[Str.v x2.name,vI x2.kind,vI x2.size,vB x2.little,sl A2 N2 C2,sl A3 N3 C3,sl A1 N1 C1,sl A4 N4 C4],sl A7 N7 C7,vI x4] w0<|Q17 w0 B res
abbrev f_0 (n:Nat):Prop:=j_f (a_m n).spec_l11Read∧j_g (a_m n).spec_l11Items∧j_h (a_m n).spec_l11Choice∧j_i (a_m n).spec_l11Option∧j_j (a_m n).spec_l11Checked
theorem T_w02 (ih:f_0 n):j_f (g_B n<|a_m n):=by
 obtain ⟨_,bj,d6,d7,d8⟩:=ih
 constructor
 intro A0 A7 N0 C0 N7 C7 B x1 x2 x3 x4 res w0 hm hBw p1_0 p2_0 p3_0 p4_0;unfold g_B at hm
 refine goF func67 z z (lb z) fun fn hr=>Ws<|E z (fb z) ?_
 rintro _ bk ⟨rfl,bm⟩;have h3:=bm.below;have hn:Blk bk w0.z [sl A0 N0 C0]:=bm.blk;refine E z (fa a_d) ?_;rintro _ H ⟨rfl,bn⟩;have h4:=bn.below;have h2:Blk H bk.z [vI 0,sl none 0 0,sl none 0 0]:=bn.blk;refine Ra z<|Ra z<|Wn<|Ws<|R z (fd a_4 z) ?_
 have ho:=hn.e h4;refine R z (l1 a_6 z fid<|ho.at z)<|Rm z ?_
 obtain ⟨xa,d9,b5⟩:=bdS hm;have I:=(h3.ag B).e h4;refine RX z (at_ (α:=e_) a_7 o_ z z z (p1_0.g I) d9) ?_;rintro _ ⟨_,_,_,rfl,da,db,_⟩;obtain ⟨ab,nc,cd,ae,nf,cg,ah,ni,cj,ak,nl,cm,rfl,hu,hv,hp,hq,hw,hx,ht⟩:=a_P db;refine R z (lN (vs:=vR xa ab nc cd ae nf cg ah ni cj ak nl cm) I_ o_ z z fid da)<|E z (fa b_E) ?_
 rintro _ dc ⟨rfl,bo⟩;have G:=bo.below;refine E0 (fs (cur':=vR xa ab nc cd ae nf cg ah ni cj ak nl cm) o_ z z (bo.blk:Blk dc H.z [(Str.v (⟨[]⟩:Str)),vI 0,vI 0,vB false,sl none 0 0,sl none 0 0,sl none 0 0,sl none 0 0]) z (lb z) (oA z) z) ?_;rintro _ _ ⟨J,dd⟩;have h1:=dd.one;refine Wn<|Wq<|Ws<|R z (fd a_C z)<|R z (l1 g_3 z fid<|J.at z)<|Wn<|Wb<|Ws<|R z (eql z z)<|Ra z<|Wn<|Wc z (fun ad=>?_) (fun ad=>?_)
 ·refine Ws<|R z (lN (vs:=[sl A0 N0 C0]) v_ s_ z z fid<|((ho.e G).c h1<|djs<|mm1 hn.lt h4.s).row 0 1 z)<|Rm z<|Rm z<|Rm z ?_
  have hz:=lt_ h3.s h4.s;have bp:=(I.e G).c h1<|c_ (or0 (b_ lr)  (j_<|zt' hBw hz) : ∀ k∈[H.z],¬ B k)
  obtain ⟨bq,_,_,de,b6⟩:=p_<|ifT b5 ad;refine E z (fc call125 z<|g_0 (B:=B) de (zt' hBw<|lt_ (lt_ hz G.s) h1.s) (p1_0.g bp) p2_0 (p3_0.g bp) p4_0) ?_;rintro _ _ ⟨sr,rfl,df,dg⟩;refine Rm z ?_
  iterate 3 refine R z (ext_ z z) ?_
  refine Ra z<|Ra z<|Ra z<|Wn<|Wq<|Ws<|Rm z<|R z (not_ z)<|Wn<|Wc z (fun af=>?_) (fun af=>?_)
  ·refine Ws<|R z (bP (parts:=[]) (cs:=[vI 0,sl none 0 0,sl none 0 0]) a_3 z z)<|Rm z<|E0 (fs (cur':=[vI 0,sl none 0 0,sl none 0 0]) i_ z z (((h2.e G).c h1<|djs<|mmr h2.lt).e sr) z (lb z) (oA z) z) ?_
   rintro _ _ ⟨dh,di⟩;refine Ra z<|Ra z<|Wn ?_
   obtain rfl:=som<|ifT b6 af;exact Wr<|rtO<|y_ hr (q_ x_ i_ z dh z) z z ⟨bM (bup (bM (bup (bup h3 h4) G) h1<|m1 hz) sr) di.one<|m1 h3.s,none,0,0,[],none,0,0,[],z,ii z,onL,onL,p4_0,ii z,nd0,al0⟩
  refine Wk<|Ws<|Rm z<|R z (bP (parts:=[(0,.tmp 43)]) (cs:=[vI bq,sl none 0 0,sl none 0 0]) a_3 z z)<|Rm z<|E0 (fs (cur':=[vI bq,sl none 0 0,sl none 0 0]) i_ z z (((h2.e G).c h1<|djs<|mmr h2.lt).e sr) z (lb z) (oA z) z) ?_
  rintro _ _ ⟨dj,dk⟩;refine Ra z<|Ra z<|Wn ?_
  obtain rfl:=som<|ifF b6 af;exact Wr<|rtO<|y_ hr (q_ x_ i_ z dj z) z z ⟨bM (bup (bM (bup (bup h3 h4) G) h1<|m1 hz) sr) dk.one<|m1 h3.s,none,0,0,[],none,0,0,[],z,df,onL,onL,dg,ii z,nd0,al0⟩
 have b7:=ifF b5 ad;refine Ws<|R z (eql z z)<|Ra z<|Wn<|Wc z (fun ai=>?_) (fun ai=>?_)
 ·refine Ws<|R z (lN (vs:=vR xa ab nc cd ae nf cg ah ni cj ak nl cm) I_ o_ z z fid<|J.row 0 8 z)<|Rm z<|Rm z ?_
  have aw:=lt_ h3.s h4.s;have br : ∀ k∈[H.z],¬ B k:=or0 (b_ lr)  (j_<|zt' hBw aw);have L:=(G.ag B).c h1<|c_ br
  have ax:=lt_ (lt_ aw G.s) h1.s;obtain ⟨dl,_,_,dm,cW⟩:=p_<|ifT b7 ai;refine E z (fc call126 z<|W_w2g (B:=B) dm (zt' hBw ax) hu hv hp (hq.g L) (hw.g L) (hx.g L) (ht.g L) (p3_0.g<|(I.e G).c h1<|c_ br) p4_0) ?_;rintro _ _ ⟨bs,bt,bu,bv,dn,bw,bx,bz,dp,rfl,dq,dr,ds,dt,du,ay,O⟩
  iterate 3 refine R z (ext_ z z) ?_
  refine E0 (fs (cur':=[vI dl.number,sl bt bu bv,sl bw bx bz]) i_ z z (((h2.e G).c h1<|djs<|mmr h2.lt).e bs) z (lb z) (oA z) z) ?_;rintro _ _ ⟨dv,dw⟩;have az:=dw.one;refine Ra z<|Ra z<|Wn ?_
  obtain rfl:=som cW;have bA:=lt_ G.s h1.s;exact Wr<|rtO<|y_ hr (q_ x_ i_ z dv z) z z ⟨bM (bup (bM (bup (bup h3 h4) G) h1<|m1 aw) bs) az<|m1 h3.s,bt,bu,bv,dn,bw,bx,bz,dp,z,dq,dr.c az<|k_ (al_ O) h2.lt bA,ds.c az<|k_ (ar_ O) h2.lt bA,dt,du,na_ (nl_ ay) (nr_ ay)<|nj ay,aa_ (l_ (al_ O) ax)<|l_ (ar_ O) ax⟩
 have b8:=ifF b7 ai;refine Ws<|R z (eql z z)<|Ra z<|Wn<|Wc z (fun aj=>?_) (fun aj=>?_)
 ·refine Ws<|Rm z<|Rm z<|R z (fd a_K z)<|R z (l1 g_3 z fid<|J.at z) ?_
  have aA:=lt_ h3.s h4.s;have aB:=lt_ (lt_ aA G.s) h1.s;obtain ⟨dx,_,_,dy,cX⟩:=p_<|ifT b8 aj;refine E z (fc call127 z<|W_w1b (B:=B) dy (zt' hBw aB) (p3_0.g<|(I.e G).c h1<|c_ (or0 (b_ lr)  (j_<|zt' hBw aA) : ∀ k∈[H.z],¬ B k)) p4_0 hp) ?_;rintro _ _ ⟨bB,bC,bD,bE,dz,bF,bG,bH,dA,rfl,dB,dC,dD,dF,dG,aC,V⟩
  iterate 3 refine R z (ext_ z z) ?_
  refine E0 (fs (cur':=[vI dx.number,sl bC bD bE,sl bF bG bH]) i_ z z (((h2.e G).c h1<|djs<|mmr h2.lt).e bB) z (lb z) (oA z) z) ?_;rintro _ _ ⟨dH,dI⟩;have aD:=dI.one;refine Ra z<|Ra z<|Wn ?_
  obtain rfl:=som cX;have bI:=lt_ G.s h1.s;exact Wr<|rtO<|y_ hr (q_ x_ i_ z dH z) z z ⟨bM (bup (bM (bup (bup h3 h4) G) h1<|m1 aA) bB) aD<|m1 h3.s,bC,bD,bE,dz,bF,bG,bH,dA,z,dB,dC.c aD<|k_ (al_ V) h2.lt bI,dD.c aD<|k_ (ar_ V) h2.lt bI,dF,dG,na_ (nl_ aC) (nr_ aC)<|nj aC,aa_ (l_ (al_ V) aB)<|l_ (ar_ V) aB⟩
 have b9:=ifF b8 aj;refine Ws<|R z (eql z z)<|Ra z<|Wn<|Wc z (fun al=>?_) (fun al=>?_)
 ·refine Ws<|Rm z<|Rm z<|R z (fd a_W z)<|R z (l1 X_ z fid<|J.at z) ?_
  obtain ⟨_,dJ,cY⟩:=bdS<|ifT b9 al;have W:=lt_ h3.s h4.s;have bJ : ∀ k∈[H.z],¬ B k:=or0 (b_ lr)  (j_<|zt' hBw W);refine RX z (at_ (α:=UInt8) n_ z_5 z z z (hq.g<|(G.ag B).c h1<|c_ bJ) dJ) ?_;rintro _ ⟨_,_,_,rfl,dK,dL,_⟩;obtain rfl:=u8 dL;refine R z (l1 g_5 z fid<|dK.at0 z) ?_;have bK:=lt_ (lt_ W G.s) h1.s;obtain ⟨_,_,_,dN,ba⟩:=p_ cY;refine E z (fc call128 z<|W_w2h (B:=B) dN (zt' hBw bK) (p3_0.g<|(I.e G).c h1<|c_ bJ) p4_0) ?_;rintro _ _ ⟨ss,aE,aF,aG,dO,rfl,dP,dS,dT,bL⟩;refine Rm z ?_
  iterate 3 refine R z (ext_ z z) ?_
  refine Ra z<|Ra z<|Ra z<|Wn<|Wq<|Ws<|Rm z<|R z (not_ z)<|Wn<|Wc z (fun am=>?_) (fun am=>?_)
  ·refine Ws<|R z (bP (parts:=[]) (cs:=[vI 0,sl none 0 0,sl none 0 0]) a_3 z z)<|Rm z<|E0 (fs (cur':=[vI 0,sl none 0 0,sl none 0 0]) i_ z z (((h2.e G).c h1<|djs<|mmr h2.lt).e ss) z (lb z) (oA z) z) ?_
   rintro _ _ ⟨dU,dV⟩;refine Ra z<|Ra z<|Wn ?_
   obtain rfl:=som<|ifT ba am;exact Wr<|rtO<|y_ hr (q_ x_ i_ z dU z) z z ⟨bM (bup (bM (bup (bup h3 h4) G) h1<|m1 W) ss) dV.one<|m1 h3.s,none,0,0,[],none,0,0,[],z,ii z,onL,onL,p4_0,ii z,nd0,al0⟩
  refine Wk<|Ws<|Rm z<|R z (bP (parts:=[(1,.tmp 82)]) (cs:=[vI 0,sl aE aF aG,sl none 0 0]) a_3 z z)<|Rm z<|E0 (fs (cur':=[vI 0,sl aE aF aG,sl none 0 0]) i_ z z (((h2.e G).c h1<|djs<|mmr h2.lt).e ss) z (lb z) (oA z) z) ?_
  rintro _ _ ⟨dW,dX⟩;have bN:=dX.one;refine Ra z<|Ra z<|Wn ?_
  obtain rfl:=som<|ifF ba am;exact Wr<|rtO<|y_ hr (q_ x_ i_ z dW z) z z ⟨bM (bup (bM (bup (bup h3 h4) G) h1<|m1 W) ss) bN<|m1 h3.s,aE,aF,aG,dO,none,0,0,[],z,ii z,dP.c bN<|k_ bL h2.lt<|lt_ G.s h1.s,onL,dS,ii z,na_ dT J_<|nmN _,aa_ (l_ bL bK) an_⟩
 have bb:=ifF b9 al;refine Ws<|R z (eql z z)<|Ra z<|Wn<|Wc z (fun an=>?_) (fun an=>?_)
 ·refine Ws<|R z (lN (vs:=[sl A0 N0 C0]) v_ s_ z z fid<|((ho.e G).c h1<|djs<|mm1 hn.lt h4.s).row 0 1 z)<|R z (lN (vs:=vR xa ab nc cd ae nf cg ah ni cj ak nl cm) I_ o_ z z fid<|J.row 0 8 z)<|R z (fd N_ z)<|R z (l1 C_ z fid<|J.at z) ?_
  have aH:=lt_ h3.s h4.s;have bO : ∀ k∈[H.z],¬ B k:=or0 (b_ lr)  (j_<|zt' hBw aH);have Y:=(G.ag B).c h1<|c_ bO
  have aI:=ht.g Y;refine R z (lnR w_ z aI)<|Rm z<|Rm z ?_
  have bQ:=(I.e G).c h1<|c_ bO
  have aJ:=lt_ (lt_ aH G.s) h1.s;obtain ⟨dY,_,_,dZ,cZ⟩:=p_<|ifT bb an;refine E z (fc call129 z<|bj.run (B:=B) dZ (zt' hBw aJ) (p1_0.g bQ) hu hv hp (hq.g Y) (hw.g Y) (hx.g Y) aI (ii z) (a_U<|repS.len aI) (p3_0.g bQ) p4_0) ?_;rintro _ _ ⟨bR,bS,bT,bU,e0,bV,bW,bX,e1,rfl,e2,e3,e4,e5,e6,aK,a0⟩
  iterate 3 refine R z (ext_ z z) ?_
  refine E0 (fs (cur':=[vI dY.number,sl bS bT bU,sl bV bW bX]) i_ z z (((h2.e G).c h1<|djs<|mmr h2.lt).e bR) z (lb z) (oA z) z) ?_;rintro _ _ ⟨e7,e8⟩;have aL:=e8.one;refine Ra z<|Ra z<|Wn ?_
  obtain rfl:=som cZ;have bY:=lt_ G.s h1.s;exact Wr<|rtO<|y_ hr (q_ x_ i_ z e7 z) z z ⟨bM (bup (bM (bup (bup h3 h4) G) h1<|m1 aH) bR) aL<|m1 h3.s,bS,bT,bU,e0,bV,bW,bX,e1,z,e2,e3.c aL<|k_ (al_ a0) h2.lt bY,e4.c aL<|k_ (ar_ a0) h2.lt bY,e5,e6,na_ (nl_ aK) (nr_ aK)<|nj aK,aa_ (l_ (al_ a0) aJ)<|l_ (ar_ a0) aJ⟩
 have bc:=ifF bb an;refine Ws<|R z (eql z z)<|Ra z<|Wn<|Wc z (fun ao=>?_) (fun ao=>?_)
 ·refine Ws<|R z (lN (vs:=[sl A0 N0 C0]) v_ s_ z z fid<|((ho.e G).c h1<|djs<|mm1 hn.lt h4.s).row 0 1 z)<|R z (lN (vs:=vR xa ab nc cd ae nf cg ah ni cj ak nl cm) I_ o_ z z fid<|J.row 0 8 z)<|Rm z<|Rm z ?_
  have aM:=lt_ h3.s h4.s;have bZ : ∀ k∈[H.z],¬ B k:=or0 (b_ lr)  (j_<|zt' hBw aM);have c0:=(I.e G).c h1<|c_ bZ
  have a1:=(G.ag B).c h1<|c_ bZ
  have aN:=lt_ (lt_ aM G.s) h1.s;obtain ⟨e9,_,_,ea,d0⟩:=p_<|ifT bc ao;refine E z (fc call130 z<|d6.run (B:=B) ea (zt' hBw aN) (p1_0.g c0) hu hv hp (hq.g a1) (hw.g a1) (hx.g a1) (ht.g a1) (p3_0.g c0) p4_0) ?_;rintro _ _ ⟨c1,c2,c3,c4,eb,c5,c6,c7,ec,rfl,ed,ee,eg,eh,ei,aO,a2⟩
  iterate 3 refine R z (ext_ z z) ?_
  refine E0 (fs (cur':=[vI e9.number,sl c2 c3 c4,sl c5 c6 c7]) i_ z z (((h2.e G).c h1<|djs<|mmr h2.lt).e c1) z (lb z) (oA z) z) ?_;rintro _ _ ⟨ej,ek⟩;have aP:=ek.one;refine Ra z<|Ra z<|Wn ?_
  obtain rfl:=som d0;have c8:=lt_ G.s h1.s;exact Wr<|rtO<|y_ hr (q_ x_ i_ z ej z) z z ⟨bM (bup (bM (bup (bup h3 h4) G) h1<|m1 aM) c1) aP<|m1 h3.s,c2,c3,c4,eb,c5,c6,c7,ec,z,ed,ee.c aP<|k_ (al_ a2) h2.lt c8,eg.c aP<|k_ (ar_ a2) h2.lt c8,eh,ei,na_ (nl_ aO) (nr_ aO)<|nj aO,aa_ (l_ (al_ a2) aN)<|l_ (ar_ a2) aN⟩
 have be:=ifF bc ao;refine Ws<|R z (eql z z)<|Ra z<|Wn<|Wc z (fun ap=>?_) (fun ap=>?_)
 ·refine Ws<|R z (lN (vs:=[sl A0 N0 C0]) v_ s_ z z fid<|((ho.e G).c h1<|djs<|mm1 hn.lt h4.s).row 0 1 z)<|R z (lN (vs:=vR xa ab nc cd ae nf cg ah ni cj ak nl cm) I_ o_ z z fid<|J.row 0 8 z)<|Rm z<|Rm z ?_
  have aQ:=lt_ h3.s h4.s;have c9 : ∀ k∈[H.z],¬ B k:=or0 (b_ lr)  (j_<|zt' hBw aQ);have ca:=(I.e G).c h1<|c_ c9
  have a3:=(G.ag B).c h1<|c_ c9
  have aR:=lt_ (lt_ aQ G.s) h1.s;obtain ⟨em,_,_,en,d1⟩:=p_<|ifT be ap;refine E z (fc call131 z<|d7.run (B:=B) en (zt' hBw aR) (p1_0.g ca) hu hv hp (hq.g a3) (hw.g a3) (hx.g a3) (ht.g a3) (p3_0.g ca) p4_0) ?_;rintro _ _ ⟨cb,cc,ce,cf,eo,ch,ci,ck,ep,rfl,er,es,eu,ew,ex,aS,a4⟩
  iterate 3 refine R z (ext_ z z) ?_
  refine E0 (fs (cur':=[vI em.number,sl cc ce cf,sl ch ci ck]) i_ z z (((h2.e G).c h1<|djs<|mmr h2.lt).e cb) z (lb z) (oA z) z) ?_;rintro _ _ ⟨ey,ez⟩;have aT:=ez.one;refine Ra z<|Ra z<|Wn ?_
  obtain rfl:=som d1;have cl:=lt_ G.s h1.s;exact Wr<|rtO<|y_ hr (q_ x_ i_ z ey z) z z ⟨bM (bup (bM (bup (bup h3 h4) G) h1<|m1 aQ) cb) aT<|m1 h3.s,cc,ce,cf,eo,ch,ci,ck,ep,z,er,es.c aT<|k_ (al_ a4) h2.lt cl,eu.c aT<|k_ (ar_ a4) h2.lt cl,ew,ex,na_ (nl_ aS) (nr_ aS)<|nj aS,aa_ (l_ (al_ a4) aR)<|l_ (ar_ a4) aR⟩
 have bf:=ifF be ap;refine Ws<|R z (eql z z)<|Ra z<|Wn<|Wc z (fun aq=>?_) (fun aq=>?_)
 ·refine Ws<|R z (lN (vs:=[sl A0 N0 C0]) v_ s_ z z fid<|((ho.e G).c h1<|djs<|mm1 hn.lt h4.s).row 0 1 z)<|R z (lN (vs:=vR xa ab nc cd ae nf cg ah ni cj ak nl cm) I_ o_ z z fid<|J.row 0 8 z)<|Rm z<|Rm z ?_
  have aU:=lt_ h3.s h4.s;have cn : ∀ k∈[H.z],¬ B k:=or0 (b_ lr)  (j_<|zt' hBw aU);have co:=(I.e G).c h1<|c_ cn
  have a5:=(G.ag B).c h1<|c_ cn
  have aV:=lt_ (lt_ aU G.s) h1.s;obtain ⟨eA,_,_,eB,d2⟩:=p_<|ifT bf aq;refine E z (fc call132 z<|d8.run (B:=B) eB (zt' hBw aV) (p1_0.g co) hu hv hp (hq.g a5) (hw.g a5) (hx.g a5) (ht.g a5) (p3_0.g co) p4_0) ?_;rintro _ _ ⟨cp,cq,cr,ct,eC,cu,cv,cw,eD,rfl,eE,eF,eG,eH,eI,aW,a6⟩
  iterate 3 refine R z (ext_ z z) ?_
  refine E0 (fs (cur':=[vI eA.number,sl cq cr ct,sl cu cv cw]) i_ z z (((h2.e G).c h1<|djs<|mmr h2.lt).e cp) z (lb z) (oA z) z) ?_;rintro _ _ ⟨eJ,eK⟩;have aX:=eK.one;refine Ra z<|Ra z<|Wn ?_
  obtain rfl:=som d2;have cx:=lt_ G.s h1.s;exact Wr<|rtO<|y_ hr (q_ x_ i_ z eJ z) z z ⟨bM (bup (bM (bup (bup h3 h4) G) h1<|m1 aU) cp) aX<|m1 h3.s,cq,cr,ct,eC,cu,cv,cw,eD,z,eE,eF.c aX<|k_ (al_ a6) h2.lt cx,eG.c aX<|k_ (ar_ a6) h2.lt cx,eH,eI,na_ (nl_ aW) (nr_ aW)<|nj aW,aa_ (l_ (al_ a6) aV)<|l_ (ar_ a6) aV⟩
 refine Wk<|Wq (Wd (X:=noX) 0 (.rd 0<|.rd 1<|.rd 2<|.rd 3<|.rd 4<|.rd 5<|.rd 6<|.ef 7<|.rd 8<|.rd 9<|.rd 10<|.rd 11<|.rd 12<|.rd 13<|.rd 14 .done) mo (by kernel_rfl) fun fk s6 _=>?_)
 have cy:=((ho.e G).c h1<|djs<|mm1 hn.lt h4.s).e s6;refine dR z z (lN (vs:=[sl A0 N0 C0]) v_ s_ z z fid<|cy.row 0 1 z)<|dR z z (fd N_ z) ?_
 have cz:=J.e s6;refine dR z z (l1 C_ z fid<|cz.at z) ?_;obtain ⟨_,eL,d3⟩:=bdS<|ifF bf aq;have hy:=lt_ h3.s h4.s;have cA : ∀ k∈[H.z],¬ B k:=or0 (b_ lr)  (j_<|zt' hBw hy);have cB:=((G.ag B).c h1<|c_ cA).e s6;refine dRX z z (at_ (α:=Int) w_ z_3 z z z (ht.g cB) eL) ?_;rintro _ ⟨_,_,_,rfl,eM,eN,_⟩;obtain ⟨rfl,eO⟩:=Q_ eN;refine dR z z (l1 g_3 z fid<|eM.at0 z)<|dR z z (mv z)<|dR z z (mv z) ?_
 have a7:=((I.e G).c h1<|c_ cA).e s6;have aY:=lt_ (lt_ (lt_ hy G.s) h1.s) s6.s;obtain ⟨_,_,_,eP,bg⟩:=p_ d3;refine dE z z (fc call125 z<|g_0 (B:=B) eP (zt' hBw aY) (p1_0.g a7) eO (p3_0.g a7) p4_0) (.inr fun _ _ h=>A_<|h.1) ?_;rintro _ _ ⟨s5,rfl,cC,cD⟩;refine dR z z (mv z) ?_
 iterate 3 refine dR z z (ext_ z z) ?_
 iterate 3 refine dR z z (asg z) ?_
 refine pD<|Wo<|Wq<|Wb<|Ws<|Rm z<|R z (not_ z)<|Ra z<|Wn<|Wc z (fun ar=>?_) (fun ar=>?_)
 ·refine Ws<|R z (bP (parts:=[]) (cs:=[vI 0,sl none 0 0,sl none 0 0]) a_3 z z)<|Rm z<|E0 (fs (cur':=[vI 0,sl none 0 0,sl none 0 0]) i_ z z ((((h2.e G).c h1<|djs<|mmr h2.lt).e s6).e s5) z (lb z) (oA z) z) ?_
  rintro _ _ ⟨eQ,eR⟩;refine Ra z<|Ra z<|Wn ?_
  obtain rfl:=som<|ifT bg ar;exact Wr<|rtO<|y_ hr (q_ x_ i_ z eQ z) z z ⟨bM (bup (bup (bM (bup (bup h3 h4) G) h1<|m1 hy) s6) s5) eR.one<|m1 h3.s,none,0,0,[],none,0,0,[],z,ii z,onL,onL,p4_0,ii z,nd0,al0⟩
 have bh:=ifF bg ar;refine Ws<|R z (fd a_C z) ?_
 have cE:=cz.e s5;refine R z (l1 g_3 z fid<|cE.at z)<|R z (eql z z)<|Ra z<|Wn<|Wc z (fun au=>?_) (fun au=>?_)
 ·refine Ws<|Rm z<|Rm z<|Rm z ?_
  have aZ:=lt_ aY s5.s;obtain ⟨eS,_,_,eT,d4⟩:=p_<|ifT bh au;refine E z (fc call127 z<|W_w1b (B:=B) eT (zt' hBw aZ) (p3_0.g<|a7.e s5) cD cC) ?_;rintro _ _ ⟨cF,cG,cH,cI,eU,cJ,cK,cL,eV,rfl,eW,eX,eY,eZ,f0,b0,a8⟩
  iterate 3 refine R z (ext_ z z) ?_
  refine E0 (fs (cur':=[vI eS.number,sl cG cH cI,sl cJ cK cL]) i_ z z (((((h2.e G).c h1<|djs<|mmr h2.lt).e s6).e s5).e cF) z (lb z) (oA z) z) ?_;rintro _ _ ⟨f1,f2⟩;have b1:=f2.one;refine Ra z<|Ra z<|Wn ?_
  obtain rfl:=som d4;have cM:=lt_ (lt_ (lt_ G.s h1.s) s6.s) s5.s;exact Wr<|rtO<|y_ hr (q_ x_ i_ z f1 z) z z ⟨bM (bup (bup (bup (bM (bup (bup h3 h4) G) h1<|m1 hy) s6) s5) cF) b1<|m1 h3.s,cG,cH,cI,eU,cJ,cK,cL,eV,z,eW,eX.c b1<|k_ (al_ a8) h2.lt cM,eY.c b1<|k_ (ar_ a8) h2.lt cM,eZ,f0,na_ (nl_ b0) (nr_ b0)<|nj b0,aa_ (l_ (al_ a8) aZ)<|l_ (ar_ a8) aZ⟩
 have bi:=ifF bh au;refine Ws<|Rm z<|R z (a_1 z z)<|Ra z<|Wn<|Wc z (fun av=>?_) (fun av=>?_)
 ·refine Ws<|R z (bP (parts:=[]) (cs:=[vI 0,sl none 0 0,sl none 0 0]) a_3 z z)<|Rm z<|E0 (fs (cur':=[vI 0,sl none 0 0,sl none 0 0]) i_ z z ((((h2.e G).c h1<|djs<|mmr h2.lt).e s6).e s5) z (lb z) (oA z) z) ?_
  rintro _ _ ⟨f3,f4⟩;refine Ra z<|Ra z<|Wn ?_
  obtain rfl:=som<|ifT bi av;exact Wr<|rtO<|y_ hr (q_ x_ i_ z f3 z) z z ⟨bM (bup (bup (bM (bup (bup h3 h4) G) h1<|m1 hy) s6) s5) f4.one<|m1 h3.s,none,0,0,[],none,0,0,[],z,ii z,onL,onL,p4_0,ii z,nd0,al0⟩
 refine Wk<|Ws<|R z (lN (vs:=[sl A0 N0 C0]) v_ s_ z z fid<|(cy.e s5).row 0 1 z)<|R z (lN (vs:=vR xa ab nc cd ae nf cg ah ni cj ak nl cm) I_ o_ z z fid<|cE.row 0 8 z)<|Rm z<|Rm z<|Rm z ?_
 have cN:=a7.e s5;have a9:=cB.e s5;have b2:=lt_ aY s5.s;obtain ⟨f5,_,_,f6,d5⟩:=p_<|ifF bi av;refine E z (fc call129 z<|bj.run (B:=B) f6 (zt' hBw b2) (p1_0.g cN) hu hv hp (hq.g a9) (hw.g a9) (hx.g a9) (ht.g a9) (ii z) cC (p3_0.g cN) cD) ?_;rintro _ _ ⟨cO,cP,cQ,cR,f7,cS,cT,cU,f8,rfl,f9,fe,ff,fg,fh,b3,aa⟩
 iterate 3 refine R z (ext_ z z) ?_
 refine E0 (fs (cur':=[vI f5.number,sl cP cQ cR,sl cS cT cU]) i_ z z (((((h2.e G).c h1<|djs<|mmr h2.lt).e s6).e s5).e cO) z (lb z) (oA z) z) ?_;rintro _ _ ⟨fi,fj⟩;have b4:=fj.one;refine Ra z<|Ra z<|Wn ?_
 obtain rfl:=som d5;have cV:=lt_ (lt_ (lt_ G.s h1.s) s6.s) s5.s;exact Wr<|y_ hr (q_ x_ i_ z fi z) z z ⟨bM (bup (bup (bup (bM (bup (bup h3 h4) G) h1<|m1 hy) s6) s5) cO) b4<|m1 h3.s,cP,cQ,cR,f7,cS,cT,cU,f8,z,f9,fe.c b4<|k_ (al_ aa) h2.lt cV,ff.c b4<|k_ (ar_ aa) h2.lt cV,fg,fh,na_ (nl_ b3) (nr_ b3)<|nj b3,aa_ (l_ (al_ aa) b2)<|l_ (ar_ aa) b2⟩
theorem T_w1c (ih:f_0 n):j_g (g_C n<|a_m n):=by
 obtain ⟨ai,_,_,_,_⟩:=ih
 constructor
 intro A0 A2 A3 A1 A4 AG N0 C0 N2 C2 N3 C3 N1 C1 N4 C4 NG CG B x1 x2 x3 x4 x5 x6 res w0 hm hBw p1_0 p2_0 p2_1 p2_2 p2_4 p2_5 p2_6 p2_7 p3_0 p4_0 p5_0 p6_0;unfold g_C at hm
 refine goF func129 z z (lb z) fun fn hr=>Ws<|E z (fb z) ?_
 rintro _ a3 ⟨rfl,aL⟩;have hd:=aL.below;have aj:Blk a3 w0.z [sl A0 N0 C0]:=aL.blk;refine E z (fb z) ?_;rintro _ wr ⟨rfl,aM⟩;have hb:=aM.below;have ak:Blk wr a3.z (vR x2 A2 N2 C2 A3 N3 C3 A1 N1 C1 A4 N4 C4):=aM.blk;refine E z (fa a_d) ?_;rintro _ G ⟨rfl,aN⟩;have h5:=aN.below;have hu:Blk G wr.z [vI 0,sl none 0 0,sl none 0 0]:=aN.blk;refine Ra z<|Ra z<|Wn<|Ws<|R z (bP (parts:=[]) (cs:=[vI 0,sl none 0 0,sl none 0 0]) a_3 z z)<|E z (fa a_d) ?_
 rintro _ cj ⟨rfl,aO⟩;have h3:=aO.below;have hv:Blk cj G.z [vI 0,sl none 0 0,sl none 0 0]:=aO.blk;refine E0 (fs (cur':=[vI 0,sl none 0 0,sl none 0 0]) i_ z z hv z (lb z) (oA z) z) ?_;rintro _ I ⟨ck,cl⟩;have H:=cl.one;refine Wn<|Wq<|Ws<|Ra z<|Wn ?_
 obtain ⟨_,c5,aH⟩:=bdS hm;refine Wf (σ:=Int×(List Val)) (ρ:=Val×Int×Int) (fun (al:Nat) s a w=>un2 (fun xc xp=>∃ L O ca J,Sat 52 [(2,vI x3),(3,vI x4),(4,sl AG NG CG),(5,vI xc),(6,pt w0.z),(7,pt a3.z),(12,pt wr.z),(15,pt G.z),(16,vI ((al:Nat):Int))] a∧Chg (· ∈ [G.z]) I w∧inI xc∧a_ w J (sl L O ca) xp∧J.Nodup∧(∀ k∈J,I.z≤k)∧Blk w G.z [vI 0,sl none 0 0,sl L O ca]) s) (fun s a w=>un2 (fun xc xp=>∃ L O ca J,Sat 52 [(5,vI xc),(12,pt wr.z),(15,pt G.z)] a∧Chg (· ∈ [G.z]) I w∧inI xc∧a_ w J (sl L O ca) xp∧J.Nodup∧(∀ k∈J,I.z≤k)∧Blk w G.z [vI 0,sl none 0 0,sl L O ca]) s) (fun r ex a w=>ex = .ret∧L_ prog fn (Q17 w0 B r) a w) c5 ?_ ?_ ?_ ?_ ?_
 ·exact fun _ q=>⟨none,0,0,[],q.k<|s9 z z z z z z z z z,cr [G.z] I,p6_0,onL,J_,an_,ck⟩
 ·rintro al ⟨xc,xp⟩ _ wg _ a2 ⟨L,O,ca,J,c6,s4,hh,hi,hw,he,hx⟩ c7;refine Wu ?_ c6;refine Wq<|Ws<|Rm z<|Rm z<|R z (lss z z)<|Wn<|Wc z (fun _=>?_) (fun hc=>(h_H a2 hc).elim)
  refine Wk<|Wq<|Wb<|Wq ?_
  obtain ⟨cm,aI,c8⟩:=bdS<|a_F c7;refine Wt (fun a w=>∃ (xj:Int) (a4:List UInt8) (a5:List Val) (xs:Int) (a6:Int),(xj,a4,a5,xs,a6)=cm ∧ ∃ ay nz V Sk W Y a0 Sl gq,Sat 52 [(2,vI x3),(3,vI x4),(4,sl AG NG CG),(6,pt w0.z),(7,pt a3.z),(12,pt wr.z),(15,pt G.z),(16,vI ((al:Nat):Int)),(17,pt gq),(18,vI xs),(19,vI a6)] a∧Below wg.z wg w∧inI xj∧a_ w Sk (sl ay nz V) a4∧Sk.Nodup∧(∀ k∈Sk,wg.z≤k)∧a_ w Sl (sl W Y a0) a5∧Sl.Nodup∧(∀ k∈Sl,wg.z≤k)∧(∀ k∈Sl,k∉Sk)∧inI xs∧inI a6∧Blk w gq [vI xj,sl ay nz V,sl W Y a0]∧wg.z≤gq∧(∀ k∈Sk,k∉[gq])∧(∀ k∈Sl,k∉[gq])) ?_ ?_
  ·refine Wd (X:=fun k=>k∈([]:List Nat)∨wg.z≤k) 0 (.rd 0<|.rd 1<|.rd 2<|.rd 3<|.rd 5<|.rd 6<|.br 4 (.br 7 (.rd 8<|.rd 9<|.rd 10<|.rd 11<|.ef 12<|.ef 13<|.rd 14<|.rd 15 .done) 12<|.ef 7<|.rd 8<|.rd 9<|.rd 10<|.rd 11<|.ef 13<|.rd 14<|.rd 15 .done) 12<|.ef 4<|.ef 7<|.rd 8<|.rd 9<|.rd 10<|.rd 11<|.ef 13<|.rd 14<|.rd 15 .done) mo (by kernel_rfl) fun aP s7 _=>?_
   have aQ:=lt_ hb.s h5.s;have aR:=mm1 aj.lt aQ;refine dR z z (lN (vs:=[sl A0 N0 C0]) v_ s_ z z (a_B nm0<|Nat.lt_of_lt_of_le aj.lt<|lt_ (lt_ (lt_ aQ h3.s) H.s) s4.s)<|((((((aj.e hb).e h5).e h3).c H<|djs aR).c s4<|djs aR).e s7).row 0 1 z) ?_;have aS:=mm1 ak.lt h5.s;refine dR z z (lN (vs:=vR x2 A2 N2 C2 A3 N3 C3 A1 N1 C1 A4 N4 C4) I_ o_ z z (a_B nm0<|Nat.lt_of_lt_of_le ak.lt<|lt_ (lt_ (lt_ h5.s h3.s) H.s) s4.s)<|(((((ak.e h5).e h3).c H<|djs aS).c s4<|djs aS).e s7).row 0 8 z) ?_
   iterate 4 refine dR z z (mv z) ?_
   refine e_M ?_ ?_
   ·have aT:=lt_ (lt_ hd.s hb.s) h5.s;have aU : ∀ k∈[G.z],¬ B k:=or0 (b_ lr)  (j_<|zt' hBw aT);have ht:=((((((hd.ag B).e hb).e h5).e h3).c H<|c_ aU).c s4<|c_ aU).e s7;have am:=lt_ (lt_ (lt_ (lt_ aT h3.s) H.s) s4.s) s7.s;obtain ⟨_,cn,aJ⟩:=bdS aI;refine dE z z (fc call109 z<|d_N (B:=B) cn (zt' hBw am) p2_0 p2_1 p2_2 (p2_4.g ht) (p2_5.g ht) (p2_6.g ht) (p2_7.g ht) p3_0<|ic (Nat.le_of_lt a2)<|tl_ p4_0) (.inr fun _ _ h=>A_<|h.1) ?_;rintro _ aV ⟨sf,rfl,aW⟩;refine e_M ?_ ?_
    ·have aX:=ht.e sf;obtain ⟨a7,co,cp,cq,c9⟩:=p_ aJ;refine dE z z (fc call67 z<|ai.run (B:=B) cq (zt' hBw<|lt_ am sf.s) (p1_0.g aX) aW (p5_0.g aX) hh) (.inr fun _ _ h=>A_<|h.1) ?_;rintro _ aY ⟨aZ,b0,b1,b2,ct,b3,b4,b5,cu,rfl,cv,b6,b7,cw,cx,an,b8⟩;refine dR z z (mv z) ?_
     iterate 3 refine dR z z (ext_ z z) ?_
     refine dE z z (fa a_d) (.inr fun _ _ h=>A_<|h.2.below) ?_;rintro _ cy ⟨rfl,b9⟩;have ao:=b9.below;have ap:=lt_ s7.s sf.s;have aq:=m1<|lt_ ap aZ.s
     refine dE0 z (fs (cur':=[vI a7.number,sl b0 b1 b2,sl b3 b4 b5]) i_ z z (b9.blk:Blk cy aY.z [vI 0,sl none 0 0,sl none 0 0]) z (lb z) (oA z) z) (.inr fun _ _ h=>d_g (atp aq) h.2) ?_;rintro _ _ ⟨cz,cA⟩;have ar:=cA.one;refine dR z z (asg z)<|dR z z (asg z)<|pD ?_
     have ba:=mnr<|a_.lt b6
     have bb:=mnr<|a_.lt b7
     exact fun _ q=>⟨a7.number,a7.bytes,a7.items,co,cp,som c9,b0,b1,b2,ct,b3,b4,b5,cu,aY.z,q.k<|sc z<|sc z<|sc z<|sc z<|sc z<|sc z<|sc z<|sc z<|sc z<|sc z<|sc z sn,bM (bup (bup (bup s7 sf) aZ) ao) ar aq,cv,(b6.e ao).c ar<|ds ba,nl_ an,l_ (al_ b8) ap,(b7.e ao).c ar<|ds bb,nr_ an,l_ (ar_ b8) ap,ds<|nj an,cw,cx,cz,atp aq,ds ba,ds bb⟩
    refine dE z z (fa a_d) (.inr fun _ _ h=>A_<|h.2.below) ?_;rintro _ cB ⟨rfl,bc⟩;have a9:=bc.below;have au:Blk cB aV.z [vI 0,sl none 0 0,sl none 0 0]:=bc.blk;have be:=(ht.e sf).e a9;obtain ⟨aa,cC,cD,cE,cb⟩:=p_ aJ;refine dE z z (fc call67 z<|ai.run (B:=B) cE (zt' hBw<|lt_ (lt_ am sf.s) a9.s) (p1_0.g be) aW (p5_0.g be) hh) (.inr fun _ _ h=>A_<|h.1) ?_;rintro _ _ ⟨bf,bg,bh,bi,cF,bj,bk,bm,cG,rfl,cH,cI,cJ,cK,cL,av,ab⟩;refine dR z z (mv z) ?_
    iterate 3 refine dR z z (ext_ z z) ?_
    have bn:=lt_ s7.s sf.s;have aw:=m1 bn;refine dE0 z (fs (cur':=[vI aa.number,sl bg bh bi,sl bj bk bm]) i_ z z (au.e bf) z (lb z) (oA z) z) (.inr fun _ _ h=>d_g (atp aw) h.2) ?_;rintro _ _ ⟨cN,cO⟩;have ax:=cO.one;refine dR z z (asg z)<|dR z z (asg z)<|pD ?_
    have bo:=k_ (al_ ab) au.lt lr;have bp:=lt_ bn a9.s;have bq:=k_ (ar_ ab) au.lt lr;exact fun _ q=>⟨aa.number,aa.bytes,aa.items,cC,cD,som cb,bg,bh,bi,cF,bj,bk,bm,cG,aV.z,q.k<|sc z<|sc z<|sc z<|sc z<|sc z<|sc z<|sc z<|sc z<|sc z<|sc z<|sc z sn,bM (bup (bup (bup s7 sf) a9) bf) ax aw,cH,cI.c ax bo,nl_ av,l_ (al_ ab) bp,cJ.c ax bq,nr_ av,l_ (ar_ ab) bp,ds<|nj av,cK,cL,cN,atp aw,bo,bq⟩
   refine dE z z (fa a_d) (.inr fun _ _ h=>A_<|h.2.below) ?_;rintro _ cP ⟨rfl,bs⟩;have ad:=bs.below;have az:Blk cP aP.z [vI 0,sl none 0 0,sl none 0 0]:=bs.blk;have bt:=lt_ (lt_ hd.s hb.s) h5.s;have bu : ∀ k∈[G.z],¬ B k:=or0 (b_ lr)  (j_<|zt' hBw bt);have a1:=(((((((hd.ag B).e hb).e h5).e h3).c H<|c_ bu).c s4<|c_ bu).e s7).e ad;have bv:=lt_ (lt_ (lt_ (lt_ (lt_ bt h3.s) H.s) s4.s) s7.s) ad.s;obtain ⟨_,cQ,cc⟩:=bdS aI;refine dE z z (fc call109 z<|d_N (B:=B) cQ (zt' hBw bv) p2_0 p2_1 p2_2 (p2_4.g a1) (p2_5.g a1) (p2_6.g a1) (p2_7.g a1) p3_0<|ic (Nat.le_of_lt a2)<|tl_ p4_0) (.inr fun _ _ h=>A_<|h.1) ?_;rintro _ _ ⟨sm,rfl,cR⟩;have bw:=a1.e sm;obtain ⟨ae,cS,cT,cU,cd⟩:=p_ cc;refine dE z z (fc call67 z<|ai.run (B:=B) cU (zt' hBw<|lt_ bv sm.s) (p1_0.g bw) cR (p5_0.g bw) hh) (.inr fun _ _ h=>A_<|h.1) ?_;rintro _ _ ⟨bx,bz,bA,bB,cV,bC,bD,bE,cW,rfl,cX,cY,cZ,d0,d1,aA,af⟩;refine dR z z (mv z) ?_
   iterate 3 refine dR z z (ext_ z z) ?_
   have aB:=m1 s7.s;refine dE0 z (fs (cur':=[vI ae.number,sl bz bA bB,sl bC bD bE]) i_ z z ((az.e sm).e bx) z (lb z) (oA z) z) (.inr fun _ _ h=>d_g (atp aB) h.2) ?_;rintro _ _ ⟨d2,d3⟩;have aC:=d3.one;refine dR z z (asg z)<|dR z z (asg z)<|pD ?_
   have bF:=k_ (al_ af) az.lt sm.s;have bG:=lt_ (lt_ s7.s ad.s) sm.s;have bH:=k_ (ar_ af) az.lt sm.s;exact fun _ q=>⟨ae.number,ae.bytes,ae.items,cS,cT,som cd,bz,bA,bB,cV,bC,bD,bE,cW,aP.z,q.k<|sc z<|sc z<|sc z<|sc z<|sc z<|sc z<|sc z<|sc z<|sc z<|sc z<|sc z sn,bM (bup (bup (bup s7 ad) sm) bx) aC aB,cX,cY.c aC bF,nl_ aA,l_ (al_ af) bG,cZ.c aC bH,nr_ aA,l_ (ar_ af) bG,ds<|nj aA,d0,d1,d2,atp aB,bF,bH⟩
  rintro d4 bI ⟨xj,a4,a5,xs,a6,rfl,ay,nz,V,Sk,W,Y,a0,Sl,gq,_,so,d5,d6,d7,aD,d8,d9,aE,da,bJ,db,dc,_,_,_⟩;have aK:=c_z c8;revert d4;refine Wo<|Wq<|Ws<|Rm z<|R z (nq z z)<|Wn<|Wc z (fun ah=>?_) (fun ah=>?_)
  ·refine Ws<|R z (bP (parts:=[]) (cs:=[vI 0,sl none 0 0,sl none 0 0]) a_3 z z)<|Rm z<|Rm z ?_
   have bK:=mmr hu.lt;refine E0 (fs (cur':=[vI 0,sl none 0 0,sl none 0 0]) i_ z z ((((hu.e h3).c H<|djs bK).c s4<|djs bK).e so) z (lb z) (oA z) z) ?_;rintro _ _ ⟨dd,de⟩;refine Ra z<|Ra z<|Wn ?_
   have bL:=lt_ hd.s hb.s;have bN:=m1<|lt_ bL h5.s
   exact Wr<|rtO<|qL (som<|ifT aK ah).symm<|y_ hr (q_ x_ i_ z dd z) z z ⟨bM (bup (bM (bM (bup (bup (bup hd hb) h5) h3) H bN) s4 bN) so) de.one<|m1 bL,none,0,0,[],none,0,0,[],z,ii z,onL,onL,bJ,db,nd0,al0⟩
  refine Wk<|Ws<|R z (fd b_d z) ?_
  have bO:=hx.e so;refine R z (l1 c_2 z fid<|bO.at z)<|R z (lN (vs:=[vI xj,sl ay nz V,sl W Y a0]) x_ i_ z z fid<|dc.row 0 3 z)<|E z (fS [(.tmp 45)] c_B z z z (a_b z) (lb z)<|lb z) ?_
  rintro _ bQ ⟨rfl,bR⟩;have hn:=bR.below;obtain ⟨df,dg,ce⟩:=bdS<|ifF aK ah;refine E z (b_0 (α:=Val) c_B dg z z ((hi.e so).e hn) hw (bR.blk:Blk bQ bI.z [vI xj,sl ay nz V,sl W Y a0]) (e_L (x:=(⟨xj,a4,a5⟩:Val)) (S1:=Sk) (S2:=Sl) d5 (d6.e hn)<|d8.e hn) (aa_ (b_X aD (a_.lt hi) lr)<|b_X aE (a_.lt hi) lr)<|na_ d7 d9<|ds da) ?_;rintro _ dh ⟨aF,bS,bT,bU,rfl,bV,di,dj,bW⟩;refine R z (fd b_d z) ?_;have bX:=k_ he hv.lt H.s;refine E0 (fs (cur':=[vI 0,sl none 0 0,sl bS bT bU]) e_i z z ((bO.e hn).c bV<|djs bX) z (lb z) (oA z) z) ?_;rintro _ dk ⟨dl,dm⟩;have bY:=dm.one;refine Wn<|Wg<|Rm z<|Ra z<|Wn<|Wg<|Rm z<|R z (inc_ a2 (tl_ p4_0) z z)<|Ra z<|Wl ?_
  have aG:=lt_ H.s s4.s;exact fun _ q=>⟨(xs,df),(som ce).symm,⟨bS,bT,bU,aF,q.k<|s9 z z z z z z z z z,(cM (cM (d_ (d_ (cM (cr [G.z] I) s4 (io sr):Chg (· ∈ [G.z]) I wg) so:Chg (· ∈ [G.z]) I bI) hn:Chg (· ∈ [G.z]) I bQ) bV (or0 he  (G_ lr) : ∀ k∈J,k∈[G.z]∨I.z≤k):Chg (· ∈ [G.z]) I dh) bY (io sr):Chg (· ∈ [G.z]) I dk),bJ,di.c bY (or2 bW bX (aa_ (k_ aD hv.lt aG)<|k_ aE hv.lt aG) (W_ (b_ hv.lt)<|lt_ (lt_ aG so.s) hn.s) : ∀ k∈aF,k∉[G.z]),dj,(or2 bW he (aa_ (l_ aD s4.s)<|l_ aE s4.s) (b_k<|lt_ (lt_ s4.s so.s) hn.s) : ∀ k∈aF,I.z≤k),dl⟩⟩
 ·rintro ⟨xc,xp⟩ _ dn ⟨L,O,ca,J,cf,dp,hh,hi,hw,he,hx⟩;refine Wu ?_ cf;refine Wq<|Ws<|Rm z<|Rm z<|R z (lss z z)<|Wn<|Wc z (fun hc=>(h_I hc).elim) (fun _=>?_)
  exact We<|fun a' ha'=>⟨rfl,⟨L,O,ca,J,Sat.weaken ha'<|s3 z z z,(cM (cr [G.z] I) dp (io sr):Chg (· ∈ [G.z]) I dn),hh,hi,hw,he,hx⟩⟩
 ·rintro ⟨xc,xp⟩ dq _ rfl ⟨L,O,ca,J,_,bZ,hh,hi,hw,he,hx⟩;have cg:=elL aH;revert dq;refine Wo<|Ws<|R z (lN (vs:=[vI 0,sl none 0 0,sl L O ca]) x_ i_ z z fid<|hx.row 0 3 z)<|Rm z ?_
  have c0:=mmr hu.lt;refine E0 (fs (cur':=[vI 0,sl none 0 0,sl L O ca]) i_ z z (((hu.e h3).c H<|djs c0).c bZ<|djs c0) z (lb z) (oA z) z) ?_;rintro _ _ ⟨dr,dt⟩;have c1:=dt.one;refine Ra z<|Ra z<|Wn ?_
  obtain rfl:=som<|a_F cg;have c2:=lt_ hd.s hb.s;have c3:=lt_ c2 h5.s;have c4:=m1 c3;exact Wr<|y_ hr (q_ x_ i_ z dr z) z z ⟨bM (bM (bM (bup (bup (bup hd hb) h5) h3) H c4) bZ c4) c1<|m1 c2,none,0,0,[],L,O,ca,J,z,ii z,onL,hi.c c1<|k_ he hu.lt<|lt_ h3.s H.s,hh,ii z,na_ J_ hw an_,aa_ an_<|l_ he<|lt_ (lt_ c3 h3.s) H.s⟩
 rintro _ _ _ _ rfl ⟨rfl,ch⟩;have ci:=elR aH;obtain rfl:=som ci;exact ⟨ch,z⟩
theorem T_w1d (ih:f_0 n):j_h (g_D n<|a_m n):=by
 obtain ⟨_,an,_,_,_⟩:=ih
 constructor
 intro A0 A2 A3 A1 A4 A7 N0 C0 N2 C2 N3 C3 N1 C1 N4 C4 N7 C7 B x1 x2 x3 x4 res w0 hm hBw p1_0 p2_0 p2_1 p2_2 p2_4 p2_5 p2_6 p2_7 p3_0 p4_0;unfold g_D at hm
 refine goF func130 z z (lb z) fun fn hr=>Ws<|E z (fb z) ?_
 rintro _ wy ⟨rfl,hz⟩;have hf:=hz.below;refine E z (fb z) ?_;rintro _ wq ⟨rfl,Y⟩;have h5:=Y.below;refine E z (fa a_d) ?_;rintro _ ao ⟨rfl,a0⟩;have h3:=a0.below;have h6:Blk ao wq.z [vI 0,sl none 0 0,sl none 0 0]:=a0.blk;refine Ra z<|Ra z<|Wn<|Wq (Wd (X:=noX) 0 (.rd 0<|.rd 1<|.rd 2<|.rd 3<|.rd 4<|.rd 5<|.rd 6<|.ef 7<|.rd 8<|.rd 9<|.rd 10<|.rd 11<|.rd 12<|.rd 13<|.rd 14 .done) mo (by kernel_rfl) fun aV G _=>?_)
 have a1:=(((hz.blk:Blk wy w0.z [sl A0 N0 C0]).e h5).e h3).e G;refine dR z z (lN (vs:=[sl A0 N0 C0]) v_ s_ z z fid<|a1.row 0 1 z)<|dR z z (fd N_ z) ?_
 have a2:=((Y.blk:Blk wq wy.z (vR x2 A2 N2 C2 A3 N3 C3 A1 N1 C1 A4 N4 C4)).e h3).e G;refine dR z z (l1 C_ z fid<|a2.at z) ?_;obtain ⟨_,ap,ak⟩:=bdS hm;have hh:=(((hf.ag B).e h5).e h3).e G;refine dRX z z (at_ (α:=Int) w_ z_3 z z z (p2_7.g hh) ap) ?_;rintro _ ⟨_,_,_,rfl,aq,ar,_⟩;obtain ⟨rfl,au⟩:=Q_ ar;refine dR z z (l1 g_3 z fid<|aq.at0 z)<|dR z z (mv z)<|dR z z (mv z) ?_
 have hi:=lt_ hf.s h5.s;have a3:=lt_ (lt_ hi h3.s) G.s;obtain ⟨a4,_,_,av,O⟩:=p_ ak;refine dE z z (fc call125 z<|g_0 (B:=B) av (zt' hBw a3) (p1_0.g hh) au (p3_0.g hh) p4_0) (.inr fun _ _ h=>A_<|h.1) ?_;rintro _ _ ⟨s1,rfl,ht,aw⟩;refine dR z z (mv z) ?_
 iterate 3 refine dR z z (ext_ z z) ?_
 iterate 3 refine dR z z (asg z) ?_
 refine pD<|Wo<|Wq<|Ws<|Rm z<|R z (not_ z)<|Wn<|Wc z (fun hcr=>?_) (fun hcr=>?_)
 ·refine Ws<|R z (bP (parts:=[]) (cs:=[vI 0,sl none 0 0,sl none 0 0]) a_3 z z)<|Rm z<|E0 (fs (cur':=[vI 0,sl none 0 0,sl none 0 0]) i_ z z ((h6.e G).e s1) z (lb z) (oA z) z) ?_
  rintro _ _ ⟨ax,ay⟩;refine Ra z<|Ra z<|Wn ?_
  obtain rfl:=som<|ifT O hcr;exact Wr<|y_ hr (q_ x_ i_ z ax z) z z ⟨bM (bup (bup (bup (bup hf h5) h3) G) s1) ay.one<|m1 hi,none,0,0,[],none,0,0,[],z,ii z,onL,onL,p4_0,ii z,nd0,al0⟩
 refine Wk<|Wq<|Ws ?_
 have a5:=a2.e s1;refine R z (lN (vs:=vR x2 A2 N2 C2 A3 N3 C3 A1 N1 C1 A4 N4 C4) I_ o_ z z fid<|a5.row 0 8 z)<|Rm z ?_
 have hg:=hh.e s1;have a6:=lt_ a3 s1.s;obtain ⟨_,az,V⟩:=bdS<|ifF O hcr;refine E z (fc call109 z<|d_N (B:=B) az (zt' hBw a6) p2_0 p2_1 p2_2 (p2_4.g hg) (p2_5.g hg) (p2_6.g hg) (p2_7.g hg) ht<|ii z) ?_;rintro _ _ ⟨s2,rfl,_⟩;refine R z (lss z z)<|Wn<|Wc z (fun hcs=>?_) (fun hcs=>?_)
 ·refine Ws<|R z (bP (parts:=[]) (cs:=[vI 0,sl none 0 0,sl none 0 0]) a_3 z z)<|Rm z<|E0 (fs (cur':=[vI 0,sl none 0 0,sl none 0 0]) i_ z z (((h6.e G).e s1).e s2) z (lb z) (oA z) z) ?_
  rintro _ _ ⟨aA,aB⟩;refine Ra z<|Ra z<|Wn ?_
  obtain rfl:=som<|ifT V hcs;exact Wr<|y_ hr (q_ x_ i_ z aA z) z z ⟨bM (bup (bup (bup (bup (bup hf h5) h3) G) s1) s2) aB.one<|m1 hi,none,0,0,[],none,0,0,[],z,ii z,onL,onL,p4_0,ii z,nd0,al0⟩
 refine Wk<|Ws<|R z (lN (vs:=[sl A0 N0 C0]) v_ s_ z z fid<|((a1.e s1).e s2).row 0 1 z)<|R z (lN (vs:=vR x2 A2 N2 C2 A3 N3 C3 A1 N1 C1 A4 N4 C4) I_ o_ z z fid<|(a5.e s2).row 0 8 z)<|Rm z<|Rm z<|Rm z ?_
 have I:=hg.e s2;have hj:=lt_ a6 s2.s;obtain ⟨a7,aC,aD,aE,al⟩:=p_<|ifF V hcs;refine E z (fc call129 z<|an.run (B:=B) aE (zt' hBw hj) (p1_0.g I) p2_0 p2_1 p2_2 (p2_4.g I) (p2_5.g I) (p2_6.g I) (p2_7.g I) ht (ii z) (p3_0.g I) aw) ?_;rintro _ H ⟨sk,J,L,ca,aF,ab,nc,cd,aG,rfl,aH,a9,aa,aI,aJ,hu,hl⟩;refine Rm z ?_
 iterate 3 refine R z (ext_ z z) ?_
 refine E z (fa a_d) ?_;rintro _ aK ⟨rfl,ad⟩;have hn:=ad.below;refine E0 (fs (cur':=[vI a7.number,sl J L ca,sl ab nc cd]) i_ z z (ad.blk:Blk aK H.z [vI 0,sl none 0 0,sl none 0 0]) z (lb z) (oA z) z) ?_;rintro _ wm ⟨ae,aL⟩;have ho:=aL.one;refine Ra z<|Ra z<|Wn<|Wq<|Ws<|Rm z<|R z (eql z z)<|Wn ?_
 obtain ⟨aM,W,am⟩:=bdS al;refine Wt (fun a w=>∃ (xe:Int),xe=aM∧Sat 56 [(8,pt wq.z),(14,pt H.z),(15,vI aC),(16,vI aD)] a∧Chg (· ∈ [H.z]) wm w∧inI xe∧Blk w H.z [vI xe,sl J L ca,sl ab nc cd]) ?_ ?_
 ·refine Wc z (fun hcv=>?_)<|fun hcv=>?_
  ·refine Wg<|Rm z<|R z (fd d_M z)<|E0 (fs (cur':=[vI a4,sl J L ca,sl ab nc cd]) z_3 z z ae z (lb z) (oA z) z) ?_
   rintro _ aN ⟨aO,aP⟩;refine Wl ?_;exact fun _ q=>⟨a4,som<|ifT W hcv,q.k<|s4 z z z z,(cM (cr [H.z] wm) aP.one (io sr):Chg (· ∈ [H.z]) wm aN),ht,aO⟩
  exact a_e<|fun _ q=>⟨a7.number,som<|ifF W hcv,q.k<|s4 z z z z,cr [H.z] wm,aH,ae⟩
 rintro aQ _ ⟨xe,rfl,_,sp,aR,aS⟩;revert aQ;refine Wo<|Ws<|R z (lN (vs:=[vI xe,sl J L ca,sl ab nc cd]) x_ i_ z z fid<|aS.row 0 3 z)<|Rm z<|Rm z ?_
 have hw:=lt_ (lt_ G.s s1.s) s2.s;have af:=mm1 h6.lt<|lt_ hw sk.s
 refine E0 (fs (cur':=[vI xe,sl J L ca,sl ab nc cd]) i_ z z (((((((h6.e G).e s1).e s2).e sk).e hn).c ho<|djs af).c sp<|djs af) z (lb z) (oA z) z) ?_;rintro _ _ ⟨aT,aU⟩;have hx:=aU.one;refine Ra z<|Ra z<|Wn ?_
 obtain rfl:=som am;have ah:=mnr<|a_.lt a9
 have ai:=mnr<|a_.lt aa
 have aj:=m1<|lt_ hj sk.s
 exact Wr<|y_ hr (q_ x_ i_ z aT z) z z ⟨bM (bM (bM (bup (bup (bup (bup (bup (bup (bup hf h5) h3) G) s1) s2) sk) hn) ho aj) sp aj) hx<|m1 hi,J,L,ca,aF,ab,nc,cd,aG,z,aR,(((a9.e hn).c ho<|ds ah).c sp<|ds ah).c hx<|k_ (al_ hl) h6.lt hw,(((aa.e hn).c ho<|ds ai).c sp<|ds ai).c hx<|k_ (ar_ hl) h6.lt hw,aI,aJ,na_ (nl_ hu) (nr_ hu)<|nj hu,aa_ (l_ (al_ hl) hj)<|l_ (ar_ hl) hj⟩
theorem T_w1e (ih:f_0 n):j_i (g_E n<|a_m n):=by
 obtain ⟨_,V,_,_,_⟩:=ih
 constructor
 intro A0 A2 A3 A1 A4 A7 N0 C0 N2 C2 N3 C3 N1 C1 N4 C4 N7 C7 B x1 x2 x3 x4 res w0 hm hBw p1_0 p2_0 p2_1 p2_2 p2_4 p2_5 p2_6 p2_7 p3_0 p4_0;unfold g_E at hm
 refine goF func131 z z (lb z) fun fn hr=>Ws<|E z (fb z) ?_
 rintro _ wc ⟨rfl,hd⟩;have h2:=hd.below;refine E z (fb z) ?_;rintro _ we ⟨rfl,hf⟩;have G:=hf.below;refine E z (fa a_d) ?_;rintro _ ws ⟨rfl,hg⟩;have h3:=hg.below;have h5:Blk ws we.z [vI 0,sl none 0 0,sl none 0 0]:=hg.blk;refine Ra z<|Ra z<|Wn<|Wq<|Wb<|Ws<|Rm z<|Rm z ?_
 have hh:=((h2.ag B).e G).e h3;have hi:=p3_0.g hh;refine R z (lnR n_ z hi)<|R z (b_e z z)<|Ra z<|Wn<|Wc z (fun H=>?_) (fun H=>?_)
 ·refine Ws<|R z (bP (parts:=[]) (cs:=[vI 0,sl none 0 0,sl none 0 0]) a_3 z z)<|Rm z<|E0 (fs (cur':=[vI 0,sl none 0 0,sl none 0 0]) i_ z z h5 z (lb z) (oA z) z) ?_
  rintro _ _ ⟨hw,sx⟩;refine Ra z<|Ra z<|Wn ?_
  obtain rfl:=som<|ifT hm H;exact Wr<|rtO<|y_ hr (q_ x_ i_ z hw z) z z ⟨bM (bup (bup h2 G) h3) sx.one<|m1<|lt_ h2.s G.s,none,0,0,[],none,0,0,[],z,ii z,onL,onL,p4_0,ii z,nd0,al0⟩
 refine Ws<|Rm z<|Rm z ?_
 obtain ⟨_,ey,hmj⟩:=bdS<|ifF hm H;refine RX z (at_ (α:=UInt8) n_ z_5 z z z hi ey) ?_;rintro _ ⟨_,_,_,rfl,hz,W,_⟩;obtain rfl:=u8 W;refine R z (l1 g_5 z fid<|hz.at0 z)<|R z (a_1 z z)<|Ra z<|Wn<|Wc z (fun I=>?_) (fun I=>?_)
 ·refine Ws<|R z (bP (parts:=[]) (cs:=[vI 0,sl none 0 0,sl none 0 0]) a_3 z z)<|Rm z<|E0 (fs (cur':=[vI 0,sl none 0 0,sl none 0 0]) i_ z z h5 z (lb z) (oA z) z) ?_
  rintro _ _ ⟨Y,a0⟩;refine Ra z<|Ra z<|Wn ?_
  obtain rfl:=som<|ifT hmj I;exact Wr<|rtO<|y_ hr (q_ x_ i_ z Y z) z z ⟨bM (bup (bup h2 G) h3) a0.one<|m1<|lt_ h2.s G.s,none,0,0,[],none,0,0,[],z,ii z,onL,onL,p4_0,ii z,nd0,al0⟩
 refine Wk<|Wq (Wd (X:=noX) 16384 (.rd 0<|.rd 1<|.rd 2<|.rd 3<|.rd 4<|.rd 5<|.rd 6<|.rd 7<|.rd 8<|.rd 9<|.ef 10<|.rd 11<|.rd 12<|.rd 13<|.ef 14<|.rd 15<|.rd 16 .done) mo (by kernel_rfl) fun ah s1 _=>dR z z (lN (vs:=[sl A0 N0 C0]) v_ s_ z z fid<|((((hd.blk:Blk wc w0.z [sl A0 N0 C0]).e G).e h3).e s1).row 0 1 z)<|dR z z (lN (vs:=vR x2 A2 N2 C2 A3 N3 C3 A1 N1 C1 A4 N4 C4) I_ o_ z z fid<|(((hf.blk:Blk we wc.z (vR x2 A2 N2 C2 A3 N3 C3 A1 N1 C1 A4 N4 C4)).e h3).e s1).row 0 8 z)<|dR z z (mv z)<|dR z z (mv z) ?_)
 obtain ⟨_,a1,L⟩:=bdS<|ifF hmj I;have h4:=hh.e s1;have hk:=p3_0.g h4;refine dRX z z (at_ (α:=UInt8) n_ z_5 z z z hk a1) ?_;rintro _ ⟨_,_,_,rfl,a2,a3,_⟩;obtain rfl:=u8 a3;refine dR z z (l1 g_5 z fid<|a2.at0 z)<|dR z z (b_O d_5 d_3 z)<|dR z z (mv z)<|dR z z (mv z)<|dR z z (add_ z z) ?_
 have hl:=lt_ h2.s G.s;have J:=lt_ (lt_ hl h3.s) s1.s;obtain ⟨a4,_,_,a5,O⟩:=p_ L;refine dE z z (fc call129 z<|V.run (B:=B) a5 (zt' hBw J) (p1_0.g h4) p2_0 p2_1 p2_2 (p2_4.g h4) (p2_5.g h4) (p2_6.g h4) (p2_7.g h4) (ii z) (i_U _) hk<|iA _ _) (.inr fun _ _ h=>A_<|h.1) ?_;rintro _ _ ⟨sm,an,no,cp,a6,aq,nr,ct,a7,rfl,a8,a9,aa,ab,ad,ha,h6⟩
 iterate 3 refine dR z z (ext_ z z) ?_
 refine dE0 z (fs (cur':=[vI a4.number,sl an no cp,sl aq nr ct]) i_ z z ((h5.e s1).e sm) z (lb z) (oA z) z) (.inl z) ?_;rintro _ _ ⟨ae,af⟩;have hb:=af.one;refine dR z z (asg z)<|dR z z (asg z)<|pD<|Wo ?_
 obtain rfl:=som O;exact Wr<|y_ hr (q_ x_ i_ z ae z) z z ⟨bM (bup (bup (bup (bup h2 G) h3) s1) sm) hb<|m1 hl,an,no,cp,a6,aq,nr,ct,a7,z,a8,a9.c hb<|k_ (al_ h6) h5.lt s1.s,aa.c hb<|k_ (ar_ h6) h5.lt s1.s,ab,ad,na_ (nl_ ha) (nr_ ha)<|nj ha,aa_ (l_ (al_ h6) J)<|l_ (ar_ h6) J⟩
theorem T_w1f (ih:f_0 n):j_j (g_F n<|a_m n):=by
 obtain ⟨_,a7,_,_,_⟩:=ih
 constructor
 intro A0 A2 A3 A1 A4 A7 N0 C0 N2 C2 N3 C3 N1 C1 N4 C4 N7 C7 B x1 x2 x3 x4 res w0 hm hBw p1_0 p2_0 p2_1 p2_2 p2_4 p2_5 p2_6 p2_7 p3_0 p4_0;unfold g_F at hm
 refine goF func132 z z (lb z) fun fn hr=>Ws<|E z (fb z) ?_
 rintro _ wu ⟨rfl,hv⟩;have hh:=hv.below;refine E z (fb z) ?_;rintro _ ww ⟨rfl,hx⟩;have H:=hx.below;refine E z (fa a_d) ?_;rintro _ a8 ⟨rfl,hy⟩;have h5:=hy.below;have h3:Blk a8 ww.z [vI 0,sl none 0 0,sl none 0 0]:=hy.blk;refine Ra z<|Ra z<|Wn<|Ws<|R z (lN (vs:=[sl A0 N0 C0]) v_ s_ z z fid<|(((hv.blk:Blk wu w0.z [sl A0 N0 C0]).e H).e h5).row 0 1 z)<|R z (lN (vs:=vR x2 A2 N2 C2 A3 N3 C3 A1 N1 C1 A4 N4 C4) I_ o_ z z fid<|((hx.blk:Blk ww wu.z (vR x2 A2 N2 C2 A3 N3 C3 A1 N1 C1 A4 N4 C4)).e h5).row 0 8 z)<|Rm z<|Rm z ?_
 have I:=((hh.ag B).e H).e h5;have hj:=lt_ hh.s H.s;have J:=lt_ hj h5.s;obtain ⟨rk,_,_,a9,hmz⟩:=p_ hm;refine E z (fc call129 z<|a7.run (B:=B) a9 (zt' hBw J) (p1_0.g I) p2_0 p2_1 p2_2 (p2_4.g I) (p2_5.g I) (p2_6.g I) (p2_7.g I) (ii z) (ii z) (p3_0.g I) p4_0) ?_;rintro _ V ⟨G,aa,nb,cc,W,ad,ne,cf,Y,rfl,a0,hn,ho,hp,ab,hi,h6⟩;refine Rm z ?_
 iterate 3 refine R z (ext_ z z) ?_
 refine E z (fa a_d) ?_;rintro _ ae ⟨rfl,a1⟩;have h1:=a1.below;refine E0 (fs (cur':=[vI rk.number,sl aa nb cc,sl ad ne cf]) i_ z z (a1.blk:Blk ae V.z [vI 0,sl none 0 0,sl none 0 0]) z (lb z) (oA z) z) ?_;rintro _ _ ⟨a2,af⟩;have h2:=af.one;refine Ra z<|Ra z<|Wn<|Wq<|Wb<|Ws<|Rm z<|R z (nq z z)<|Ra z<|Wn<|Wc z (fun hcm=>?_) (fun hcm=>?_)
 ·refine Ws<|R z (lN (vs:=[vI rk.number,sl aa nb cc,sl ad ne cf]) x_ i_ z z fid<|a2.row 0 3 z)<|Rm z<|Rm z<|E0 (fs (cur':=[vI rk.number,sl aa nb cc,sl ad ne cf]) i_ z z (((h3.e G).e h1).c h2<|djs<|mm1 h3.lt G.s) z (lb z) (oA z) z) ?_
  rintro _ _ ⟨ah,ai⟩;have hq:=ai.one;refine Ra z<|Ra z<|Wn ?_
  obtain rfl:=som<|ifT hmz hcm;exact Wr<|rtO<|y_ hr (q_ x_ i_ z ah z) z z ⟨bM (bM (bup (bup (bup (bup hh H) h5) G) h1) h2<|m1<|lt_ J G.s) hq<|m1 hj,aa,nb,cc,W,ad,ne,cf,Y,z,a0,((hn.e h1).c h2<|ds<|mnr<|a_.lt hn).c hq<|k_ (al_ h6) h3.lt lr,((ho.e h1).c h2<|ds<|mnr<|a_.lt ho).c hq<|k_ (ar_ h6) h3.lt lr,hp,ab,na_ (nl_ hi) (nr_ hi)<|nj hi,aa_ (l_ (al_ h6) J)<|l_ (ar_ h6) J⟩
 have L:=ifF hmz hcm;refine Ws<|Rm z<|Rm z ?_
 have hl:=lt_ J G.s;have a3:=((I.e G).e h1).c h2<|c_ (or0 (b_ lr)  (j_<|zt' hBw hl) : ∀ k∈[V.z],¬ B k)
 refine R z (lnR n_ z<|p3_0.g a3)<|R z (b_e z z)<|Ra z<|Wn<|Wc z (fun hcr=>?_) (fun hcr=>?_)
 ·refine Ws<|R z (bP (parts:=[]) (cs:=[vI 0,sl none 0 0,sl none 0 0]) a_3 z z)<|Rm z<|E0 (fs (cur':=[vI 0,sl none 0 0,sl none 0 0]) i_ z z (((h3.e G).e h1).c h2<|djs<|mm1 h3.lt G.s) z (lb z) (oA z) z) ?_
  rintro _ _ ⟨aj,ak⟩;refine Ra z<|Ra z<|Wn ?_
  obtain rfl:=som<|ifT L hcr;exact Wr<|rtO<|y_ hr (q_ x_ i_ z aj z) z z ⟨bM (bM (bup (bup (bup (bup hh H) h5) G) h1) h2<|m1 hl) ak.one<|m1 hj,none,0,0,[],none,0,0,[],z,ii z,onL,onL,hp,ii z,nd0,al0⟩
 refine Wq (Wd (X:=noX) 0 (.rd 0<|.rd 1<|.rd 2<|.rd 3<|.rd 4<|.rd 5<|.rd 6<|.rd 7<|.rd 8<|.ef 9<|.rd 10<|.rd 11 .done) mo (by kernel_rfl) fun ax s4 _=>dR z z (mv z)<|dR z z (mv z) ?_);obtain ⟨_,al,a5⟩:=bdS<|ifF L hcr;have a4:=p3_0.g<|a3.e s4
 refine dRX z z (at_ (α:=UInt8) n_ z_5 z z z a4 al) ?_;rintro _ ⟨_,_,_,rfl,am,an,_⟩;obtain rfl:=u8 an;refine dR z z (l1 g_5 z fid<|am.at0 z)<|dR z z (b_O d_5 d_3 z) ?_
 iterate 3 refine dR z z (mv z) ?_
 obtain ⟨_,ao,a6⟩:=bdS a5;refine dRX z z (rX n_ z_5 z z a4 z z ao) ?_;rintro _ ⟨_,_,_,rfl,ap⟩;obtain ⟨_,aq,O⟩:=bdS a6;refine dE z z (fc call111 z<|W_w19 (B:=B) aq (zt' hBw<|lt_ (lt_ (lt_ hl h1.s) h2.s) s4.s) ap) (.inr fun _ _ h=>A_<|h.1) ?_;rintro _ _ ⟨sg,rfl,_⟩;refine dR z z (nq z z)<|dR z z (asg z)<|pD<|Wo<|Wc z (fun hcs=>?_) (fun hcs=>?_)
 ·refine Ws<|R z (bP (parts:=[]) (cs:=[vI 0,sl none 0 0,sl none 0 0]) a_3 z z)<|Rm z<|E0 (fs (cur':=[vI 0,sl none 0 0,sl none 0 0]) i_ z z (((((h3.e G).e h1).c h2<|djs<|mm1 h3.lt G.s).e s4).e sg) z (lb z) (oA z) z) ?_
  rintro _ _ ⟨ar,au⟩;refine Ra z<|Ra z<|Wn ?_
  obtain rfl:=som<|ifT O hcs;exact Wr<|rtO<|y_ hr (q_ x_ i_ z ar z) z z ⟨bM (bup (bup (bM (bup (bup (bup (bup hh H) h5) G) h1) h2<|m1 hl) s4) sg) au.one<|m1 hj,none,0,0,[],none,0,0,[],z,ii z,onL,onL,hp,ii z,nd0,al0⟩
 refine Wk<|Ws<|R z (lN (vs:=[vI rk.number,sl aa nb cc,sl ad ne cf]) x_ i_ z z fid<|((a2.e s4).e sg).row 0 3 z)<|Rm z<|R z (add_ z z)<|E0 (fs (cur':=[vI rk.number,sl aa nb cc,sl ad ne cf]) i_ z z (((((h3.e G).e h1).c h2<|djs<|mm1 h3.lt G.s).e s4).e sg) z (lb z) (oA z) z) ?_
 rintro _ _ ⟨av,aw⟩;have ht:=aw.one;refine Ra z<|Ra z<|Wn ?_
 obtain rfl:=som<|ifF O hcs;exact Wr<|y_ hr (q_ x_ i_ z av z) z z ⟨bM (bup (bup (bM (bup (bup (bup (bup hh H) h5) G) h1) h2<|m1 hl) s4) sg) ht<|m1 hj,aa,nb,cc,W,ad,ne,cf,Y,z,a0,((((hn.e h1).c h2<|ds<|mnr<|a_.lt hn).e s4).e sg).c ht<|k_ (al_ h6) h3.lt lr,((((ho.e h1).c h2<|ds<|mnr<|a_.lt ho).e s4).e sg).c ht<|k_ (ar_ h6) h3.lt lr,iA _ _,ii z,na_ (nl_ hi) (nr_ hi)<|nj hi,aa_ (l_ (al_ h6) J)<|l_ (ar_ h6) J⟩
theorem c_X : ∀ n,f_0 n
  | 0=>⟨⟨fun hm=>by intros;exact nomatch (show none=some _ from hm)⟩,⟨fun hm=>by intros;exact nomatch (show none=some _ from hm)⟩,⟨fun hm=>by intros;exact nomatch (show none=some _ from hm)⟩,⟨fun hm=>by intros;exact nomatch (show none=some _ from hm)⟩,⟨fun hm=>by intros;exact nomatch (show none=some _ from hm)⟩⟩
  | n+1=>⟨T_w02<|c_X n,T_w1c<|c_X n,T_w1d<|c_X n,T_w1e<|c_X n,T_w1f<|c_X n⟩
theorem h_W:j_f (a_m n).spec_l11Read:=(c_X n).1
theorem W_w1c:j_g (a_m n).spec_l11Items:=(c_X n).2.1
theorem W_w1d:j_h (a_m n).spec_l11Choice:=(c_X n).2.2.1
theorem W_w1e:j_i (a_m n).spec_l11Option:=(c_X n).2.2.2.1
theorem W_w1f:j_j (a_m n).spec_l11Checked:=(c_X n).2.2.2.2

theorem W_w2i {x1:f_} {x2:Int} {x3:List UInt8} {x4:Int} {x5:Str} {res:Int×Int×Bool} (hm:e_2 n x1 x2 x3 x4 x5=some res) (hBw:B≤w0.z) (p1_0:repS w0 B (sl A0 N0 C0) x1.rules) (p2_0:inI x2) (p3_0:repS w0 B (sl A7 N7 C7) x3) (p4_0:inI x4) (p5_0:x5.b.length≤LEN):m_ prog 66 [(.agg #[sl A0 N0 C0]),vI x2,sl A7 N7 C7,vI x4,Str.v x5] w0 (Q15 w0 B res):=by
 unfold e_2 at hm
 refine goF func66 z z (lb z) fun fn hr=>Ws<|E z (fb z) ?_
 rintro _ wp ⟨rfl,a2⟩;have G:=a2.below;have hu:Blk wp w0.z [sl A0 N0 C0]:=a2.blk;refine Ra z<|Ra z<|Ra z<|Wn<|Ws<|R z (fd a_4 z)<|R z (l1 a_6 z fid<|hu.at z)<|Rm z ?_
 obtain ⟨H,az,an⟩:=bdS hm;refine RX z (at_ (α:=e_) a_7 o_ z z z (p1_0.e G) az) ?_;rintro _ ⟨_,_,_,rfl,aA,aB,_⟩;obtain ⟨I,na,cb,ac,nd,ce,af,ng,ch,ai,nj,ck,rfl,hv,hw,hx,hy,hz,L,O⟩:=a_P aB;refine R z (lN (vs:=vR H I na cb ac nd ce af ng ch ai nj ck) I_ o_ z z fid aA)<|E z (fa b_E) ?_
 rintro _ aC ⟨rfl,a3⟩;have h4:=a3.below;refine E0 (fs (cur':=vR H I na cb ac nd ce af ng ch ai nj ck) o_ z z (a3.blk:Blk aC wp.z [(Str.v (⟨[]⟩:Str)),vI 0,vI 0,vB false,sl none 0 0,sl none 0 0,sl none 0 0,sl none 0 0]) z (lb z) (oA z) z) ?_;rintro _ _ ⟨a4,aD⟩;have h5:=aD.one;refine Wn<|Ws ?_
 have a5:=(hu.e h4).c h5<|djs<|mmr hu.lt
 refine R z (lN (vs:=[sl A0 N0 C0]) v_ s_ z z fid<|a5.row 0 1 z)<|R z (lN (vs:=vR H I na cb ac nd ce af ng ch ai nj ck) I_ o_ z z fid<|a4.row 0 8 z)<|Rm z<|Rm z ?_
 have a6 : ∀ k∈[wp.z],¬ B k:=or0 (b_ lr)  (j_<|zt' hBw G.s);have V:=((G.ag B).e h4).c h5<|c_ a6
 have hl:=(h4.ag B).c h5<|c_ a6
 have a7:=lt_ (lt_ G.s h4.s) h5.s;obtain ⟨_,aE,aF,aG,ao⟩:=p_ an;refine E z (fc call123 z<|W_w2f (B:=B) aG (zt' hBw a7) (p1_0.g V) hv hw hx (hy.g hl) (hz.g hl) (L.g hl) (O.g hl) (p3_0.g V) p4_0) ?_;rintro _ wm ⟨s3,rfl,aH,W,aI⟩;refine Rm z ?_
 iterate 3 refine R z (ext_ z z) ?_
 refine Ra z<|Ra z<|Ra z<|Wn<|Wq<|Ws<|Ra z<|Wn ?_
 obtain ⟨_,ap,Y⟩:=bdS ao;refine Wf (σ:=Int) (ρ:=Int×Int×Bool) (fun (a8:Nat) (x6:Int) a w=>Sat 64 [(2,sl A7 N7 C7),(4,Str.v x5),(5,pt w0.z),(13,pt wp.z),(14,vI x6),(15,vI aE),(16,vI aF),(17,vI ((a8:Nat):Int))] a∧Below wm.z wm w∧inI x6) (fun (x6:Int) a w=>Sat 64 [] a∧Below wm.z wm w∧inI x6) (fun r ex a w=>ex = .ret∧L_ prog fn (Q15 w0 B r) a w) ap ?_ ?_ ?_ ?_ ?_
 ·exact fun _ q=>⟨q.k<|s8 z z z z z z z z,br wm,aH⟩
 ·rintro a8 x6 _ _ _ hkq ⟨aq,s1,hn⟩ ar;refine Wu ?_ aq;refine Wq<|Ws<|Rm z<|Rm z<|R z (lss z z)<|Wn<|Wc z (fun _=>?_) (fun hc=>(h_H hkq hc).elim)
  refine Wk<|Wq<|Wb<|Ws ?_
  have aa:=(a4.e s3).e s1;refine R z (lN (vs:=vR H I na cb ac nd ce af ng ch ai nj ck) I_ o_ z z fid<|aa.row 0 8 z)<|Rm z<|Rm z ?_
  have ho:=(hl.e s3).e s1;have ab:=lt_ (lt_ a7 s3.s) s1.s;obtain ⟨_,aJ,au⟩:=bdS ar;refine E z (fc call109 z<|d_N (B:=B) aJ (zt' hBw ab) hv hw hx (hy.g ho) (hz.g ho) (L.g ho) (O.g ho) aI<|ic (Nat.le_of_lt hkq)<|tl_ W) ?_;rintro _ _ ⟨s2,rfl,ad⟩;refine Ra z<|Wn<|Wq<|Ws<|R z (lN (vs:=vR H I na cb ac nd ce af ng ch ai nj ck) I_ o_ z z fid<|(aa.e s2).row 0 8 z)<|Rm z ?_
  have ht:=ho.e s2;have ae:=lt_ ab s2.s;obtain ⟨_,aK,a0⟩:=bdS au;refine E z (fc call124 z<|j_b (B:=B) aK (zt' hBw ae) hv hw hx (hy.g ht) (hz.g ht) (L.g ht) (O.g ht)<|ic (Nat.le_of_lt hkq)<|tl_ W) ?_;rintro _ _ ⟨s7,rfl,_⟩;refine Rm z<|R z (b_j z z)<|Wn<|Wc z (fun hcs=>?_) (fun hcs=>?_)
  ·exact Ws<|Rm z<|Rm z<|Ra z<|Ra z<|Ra z<|Wn<|Wr<|rtO<|qL (som<|ifT a0 hcs).symm<|y_ hr z z z ⟨bup (bup (bup (bup (bM (bup G h4) h5<|m1 G.s) s3) s1) s2) s7,z,ad,hn⟩
  refine Wk<|Ws<|R z (lN (vs:=[sl A0 N0 C0]) v_ s_ z z fid<|((((a5.e s3).e s1).e s2).e s7).row 0 1 z)<|Rm z<|Rm z<|Rm z ?_
  have ah:=(((V.e s3).e s1).e s2).e s7;have aj:=lt_ ae s7.s;obtain ⟨aL,aM,_,aN,a1⟩:=p_<|ifF a0 hcs;refine E z (fc call67 z<|h_W.run (B:=B) aN (zt' hBw aj) (p1_0.g ah) ad (p3_0.g ah) hn) ?_;rintro _ aO ⟨sr,aP,aQ,aR,_,aS,aT,aU,_,rfl,_,_,_,aV,_,_,_⟩;refine Rm z ?_
  iterate 3 refine R z (ext_ z z) ?_
  refine E z (fa a_d) ?_;rintro _ aW ⟨rfl,ak⟩;have al:=ak.below;refine E0 (fs (cur':=[vI aL.number,sl aP aQ aR,sl aS aT aU]) i_ z z (ak.blk:Blk aW aO.z [vI 0,sl none 0 0,sl none 0 0]) z (lb z) (oA z) z) ?_;rintro _ _ ⟨_,aX⟩;have am:=aX.one;refine Ra z<|Ra z<|Wn<|Wq<|Ws<|Rm z<|R z (nq z z)<|Wn<|Wc z (fun J=>?_) (fun J=>?_)
  ·exact Ws<|Ra z<|Ra z<|Ra z<|Wn<|Wr<|rtO<|qL (som<|ifT a1 J).symm<|y_ hr z z z ⟨bM (bup (bup (bup (bup (bup (bup (bM (bup G h4) h5<|m1 G.s) s3) s1) s2) s7) sr) al) am<|m1<|lt_ aj sr.s,z,ii z,ii z⟩
  exact Wk<|Wg<|Rm z<|Ra z<|Wn<|Wg<|Rm z<|R z (inc_ hkq (tl_ W) z z)<|Ra z<|Wl (fun _ q=>⟨aM,(som<|ifF a1 J).symm,⟨q.k<|s8 z z z z z z z z,bM (bup (bup (bup (bup s1 s2) s7) sr) al) am<|m1<|lt_ (lt_ (lt_ s1.s s2.s) s7.s) sr.s,aV⟩⟩)
 ·rintro x6 _ _ ⟨av,aY,hn⟩;refine Wu ?_ av;refine Wq<|Ws<|Rm z<|Rm z<|R z (lss z z)<|Wn<|Wc z (fun hc=>(h_I hc).elim) (fun _=>?_)
  exact We<|fun a' ha'=>⟨rfl,⟨Sat.weaken ha' sn,aY,hn⟩⟩
 ·rintro x6 aZ _ rfl ⟨_,b0,hn⟩;have aw:=elL Y;revert aZ;refine Wo<|Ws<|Ra z<|Ra z<|Ra z<|Wn ?_
  obtain rfl:=som aw;exact Wr<|y_ hr z z z ⟨bup (bup (bM (bup G h4) h5<|m1 G.s) s3) b0,z,ii z,ii z⟩
 rintro _ _ _ _ rfl ⟨rfl,ax⟩;have ay:=elR Y;obtain rfl:=som ay;exact ⟨ax,z⟩
def Q19 (w0:World) (B:Zone) (r:K_×Bool) (v:Value) (w':World):Prop:=Bw w0 w'∧un2 (fun G H=>v = .tuple #[(.agg #[Str.v G.path,vI G.rule,vI G.start,vI G.end_]),vB H]∧G.path.b.length≤LEN∧inI G.rule∧inI G.start∧inI G.end_) r
theorem h_X {x1:f_} {x2:List UInt8} {x3:Str} {res:K_×Bool} (hm:e_3 n x1 x2 x3=some res) (hBw:B≤w0.z) (p1_0:repS w0 B (sl A0 N0 C0) x1.rules) (p2_0:repS w0 B (sl A6 N6 C6) x2) (p3_0:x3.b.length≤LEN):m_ prog 14 [(.agg #[sl A0 N0 C0]),sl A6 N6 C6,Str.v x3] w0 (Q19 w0 B res):=by
 unfold e_3 at hm
 refine goF func14 z z (lb z) fun fn hr=>Ws<|E z (fb z) ?_
 rintro _ wg ⟨rfl,hx⟩;have h3:=hx.below;have hy:Blk wg w0.z [sl A0 N0 C0]:=hx.blk;refine E z (fa d_l) ?_;rintro _ ao ⟨rfl,hz⟩;have h6:=hz.below;have hd:Blk ao wg.z [(Str.v (⟨[]⟩:Str)),vI 0,vI 0,vI 0]:=hz.blk;refine Ra z<|Wn<|Ws<|Rm z ?_
 have hn:=lt_ h3.s h6.s;obtain ⟨_,ap,aq,ad⟩:=a_c hm;refine E z (fc call63 z<|W_w28 (B:=B) aq (zt' hBw hn) p3_0) ?_;rintro _ wh ⟨G,a1,a2,a3,rfl,hj⟩;refine Rm z<|R z (ext_ z z)<|R z (ext_ z z)<|Ra z<|Ra z<|Wn<|Wq<|Wq ?_
 obtain ⟨ar,J,L⟩:=bdS ad;refine Wt (fun a w=>∃ (xm:Bool),xm=ar∧Sat 80 [(1,sl A6 N6 C6),(2,Str.v x3),(3,pt w0.z),(6,pt wg.z),(8,sl a1 a2 a3),(35,vB xm)] a∧Below wh.z wh w) ?_ ?_
 ·refine Wg<|Rm z<|R z (not_ z)<|Rm z ?_
  rcases bs (!ap) with H | H
  ·iterate 3 refine Nh z H ?_
   exact R z (pT z H z)<|Rm z<|Nh z z<|Nh z z<|Nh z z<|R z (pT z z z)<|Wl (fun _ q=>⟨true,som<|ifT J H,q.k<|s6 z z z z z z,br wh⟩)
  refine Rh z H (lN (vs:=[sl A0 N0 C0]) v_ s_ z z fid<|((hy.e h6).e G).row 0 1 z) ?_;have a4:=((h3.ag B).e h6).e G;obtain ⟨au,av,O⟩:=bdS<|ifF J H;refine Eg z z H z (fc call64 z<|W_w1a (B:=B) av (zt' hBw<|lt_ hn G.s)<|p1_0.g a4) ?_;rintro _ _ ⟨so,rfl⟩;refine Rh z H (not_ z)<|R z (pF z H z)<|Rm z ?_
  rcases bs (!au) with I | I
  ·iterate 3 refine Nh z I ?_
   exact R z (pT z I z)<|Wl (fun _ q=>⟨true,som<|ifT O I,q.k<|s6 z z z z z z,so⟩)
  exact Rh z I (mv z)<|Rh z I (lnR n_ z<|p2_0.g<|a4.e so)<|Rh z I (a_1 z z)<|R z (pF z I z)<|Wl (fun _ q=>⟨decide<|400<(x2.length:Int),som<|ifF O I,q.k<|s6 z z z z z z,so⟩)
 rintro aw _ ⟨xm,rfl,_,s2⟩;revert aw;refine Wo<|Wc z (fun hcp=>?_) (fun hcp=>?_)
 ·refine Ws<|R z (bP (parts:=[]) (cs:=[(Str.v (⟨[]⟩:Str)),vI 0,vI 0,vI 0]) d_i z z)<|E0 (fs (cur':=[(Str.v (⟨[]⟩:Str)),vI 0,vI 0,vI 0]) a_L z z ((hd.e G).e s2) z (lb z) (oA z) z) ?_
  rintro _ _ ⟨ax,ay⟩;refine Ra z<|Wn ?_
  obtain rfl:=som<|ifT L hcp;exact Wr<|a_5 hr (q_ c_T a_L z ax z) z ⟨bM (bup (bup (bup h3 h6) G) s2) ay.one<|m1 h3.s,z,lb z,ii z,ii z,ii z⟩
 refine Wk<|Ws ?_
 have hq:=((hy.e h6).e G).e s2;refine R z (lN (vs:=[sl A0 N0 C0]) v_ s_ z z fid<|hq.row 0 1 z) ?_;have ht:=(((h3.ag B).e h6).e G).e s2;have hu:=lt_ (lt_ hn G.s) s2.s;obtain ⟨_,az,ae⟩:=bdS<|ifF L hcp;refine E z (fc call65 z<|h_V (B:=B) az (zt' hBw hu)<|p1_0.g ht) ?_;rintro _ wi ⟨s1,rfl,aA⟩;refine Ra z<|Wn<|Ws<|Ra z<|Wn<|Wq<|Ws<|Ra z<|Wn ?_
 obtain ⟨_,af,V⟩:=bdS ae;refine Wf (σ:=Int×Int) (ρ:=K_×Bool) (fun (a5:Nat) s a w=>un2 (fun x4 x5=>Sat 80 [(1,sl A6 N6 C6),(2,Str.v x3),(3,pt w0.z),(6,pt wg.z),(8,sl a1 a2 a3),(10,vI x4),(11,vI x5),(12,vI ((a5:Nat):Int))] a∧Below wi.z wi w∧inI x4∧inI x5) s) (fun s a w=>un2 (fun x4 x5=>Sat 80 [(1,sl A6 N6 C6),(2,Str.v x3),(3,pt w0.z),(6,pt wg.z),(10,vI x4),(11,vI x5)] a∧Below wi.z wi w∧inI x4∧inI x5) s) (fun r ex a w=>ex = .ret∧L_ prog fn (Q19 w0 B r) a w) af ?_ ?_ ?_ ?_ ?_
 ·exact fun _ q=>⟨q.k<|s8 z z z z z z z z,br wi,aA,ii z⟩
 ·rintro a5 ⟨x4,x5⟩ _ _ _ W ⟨ah,sb,he,hf⟩ ai;refine Wu ?_ ah;refine Wq<|Ws<|Rm z<|Rm z ?_
  have a6:=((s2.ag<|bl wh.z).e s1).e sb;refine R z (lnR a_j z<|hj.g a6)<|R z (lss z z)<|Wn<|Wc z (fun _=>?_) (fun hc=>(a_h W hc).elim)
  refine Wk<|Wq<|Wb<|Wq (Wd (X:=noX) 0 (.rd 0<|.rd 1<|.rd 2<|.rd 3<|.rd 4<|.rd 5<|.rd 6<|.rd 7<|.ef 8<|.rd 9<|.rd 10<|.rd 11<|.rd 12<|.rd 13<|.rd 14<|.rd 15 .done) mo (by kernel_rfl) fun b3 sc _=>dR z z (lN (vs:=[sl A0 N0 C0]) v_ s_ z z fid<|(((hq.e s1).e sb).e sc).row 0 1 z) ?_)
  iterate 5 refine dR z z (mv z) ?_
  obtain ⟨_,aB,aj⟩:=bdS<|a_F ai;refine dRX z z (at_ (α:=Str) a_j z_9 z z z (hj.g<|a6.e sc) aB) ?_;rintro _ ⟨_,_,_,rfl,aC,aD,_⟩;obtain ⟨rfl,aE⟩:=b_I aD;refine dR z z (l1 g_9 z fid<|aC.at0 z) ?_;have a7:=((ht.e s1).e sb).e sc;obtain ⟨aF,aG,_,aH,Y⟩:=p_ aj;refine dE z z (fc call66 z<|W_w2i (B:=B) aH (zt' hBw<|lt_ (lt_ (lt_ hu s1.s) sb.s) sc.s) (p1_0.g a7) he (p2_0.g a7) hf aE) (.inr fun _ _ h=>A_<|h.1) ?_;rintro _ _ ⟨sr,rfl,aI,aJ⟩;refine dR z z (mv z) ?_
  iterate 3 refine dR z z (ext_ z z) ?_
  iterate 3 refine dR z z (asg z) ?_
  refine pD<|Wo<|Wq<|Ws<|Rm z<|R z (not_ z)<|Wn<|Wc z (fun hcs=>?_) (fun hcs=>?_)
  ·refine Ws<|R z (bP (parts:=[]) (cs:=[(Str.v (⟨[]⟩:Str)),vI 0,vI 0,vI 0]) d_i z z)<|E0 (fs (cur':=[(Str.v (⟨[]⟩:Str)),vI 0,vI 0,vI 0]) a_L z z ((((((hd.e G).e s2).e s1).e sb).e sc).e sr) z (lb z) (oA z) z) ?_
   rintro _ _ ⟨aK,aL⟩;exact Ra z<|Wn<|Wr<|rtO<|qL (som<|ifT Y hcs).symm<|a_5 hr (q_ c_T a_L z aK z) z ⟨bM (bup (bup (bup (bup (bup (bup (bup h3 h6) G) s2) s1) sb) sc) sr) aL.one<|m1 h3.s,z,lb z,ii z,ii z,ii z⟩
  exact Wk<|Ws<|Rm z<|Ra z<|Wn<|Wg<|Rm z<|Ra z<|Wn<|Wg<|Rm z<|R z (inc_ W (lt_ (repS.len hj) P_) z z)<|Ra z<|Wl (fun _ q=>⟨(aF,aG),(som<|ifF Y hcs).symm,⟨q.k<|s8 z z z z z z z z,bup (bup sb sc) sr,aI,aJ⟩⟩)
 ·rintro ⟨x4,x5⟩ _ _ ⟨ak,a8,he,hf⟩;refine Wu ?_ ak;refine Wq<|Ws<|Rm z<|Rm z<|R z (lnR a_j z<|hj.g<|((s2.ag<|bl wh.z).e s1).e a8)<|R z (lss z z)<|Wn<|Wc z (fun hc=>(a_i hc).elim) (fun _=>?_)
  exact We<|fun a' ha'=>⟨rfl,⟨Sat.weaken ha'<|s6 z z z z z z,a8,he,hf⟩⟩
 ·rintro ⟨x4,x5⟩ aM _ rfl ⟨_,s9,he,hf⟩;have al:=elL V;revert aM;refine Wo<|Ws<|R z (lN (vs:=[sl A0 N0 C0]) v_ s_ z z fid<|((hq.e s1).e s9).row 0 1 z)<|Rm z<|Rm z<|Rm z ?_
  have a9:=(ht.e s1).e s9;have hv:=lt_ (lt_ hu s1.s) s9.s;obtain ⟨aN,aa,_,aO,a0⟩:=p_<|a_F al;refine E z (fc call67 z<|h_W.run (B:=B) aO (zt' hBw hv) (p1_0.g a9) he (p2_0.g a9) hf) ?_;rintro _ aP ⟨sa,aQ,aR,aS,_,aT,aU,aV,_,rfl,_,_,_,aW,_,_,_⟩;refine Rm z ?_
  iterate 3 refine R z (ext_ z z) ?_
  refine E z (fa a_d) ?_;rintro _ aX ⟨rfl,ab⟩;have hk:=ab.below;refine E0 (fs (cur':=[vI aN.number,sl aQ aR aS,sl aT aU aV]) i_ z z (ab.blk:Blk aX aP.z [vI 0,sl none 0 0,sl none 0 0]) z (lb z) (oA z) z) ?_;rintro _ _ ⟨_,aY⟩;have hl:=aY.one;refine Ra z<|Ra z<|Wn<|Wq<|Ws<|Rm z<|R z (nq z z)<|Wn<|Wc z (fun hcw=>?_) (fun hcw=>?_)
  ·refine Ws<|R z (bP (parts:=[]) (cs:=[(Str.v (⟨[]⟩:Str)),vI 0,vI 0,vI 0]) d_i z z) ?_
   refine E0 (fs (cur':=[(Str.v (⟨[]⟩:Str)),vI 0,vI 0,vI 0]) a_L z z (((((((hd.e G).e s2).e s1).e s9).e sa).e hk).c hl<|djs<|mm1 hd.lt<|lt_ (lt_ (lt_ (lt_ G.s s2.s) s1.s) s9.s) sa.s) z (lb z) (oA z) z) ?_;rintro _ _ ⟨aZ,b0⟩;refine Ra z<|Wn ?_
   obtain rfl:=som<|ifT a0 hcw;exact Wr<|a_5 hr (q_ c_T a_L z aZ z) z ⟨bM (bM (bup (bup (bup (bup (bup (bup (bup h3 h6) G) s2) s1) s9) sa) hk) hl<|m1<|lt_ hv sa.s) b0.one<|m1 h3.s,z,lb z,ii z,ii z,ii z⟩
  refine Wk<|Ws<|Rm z<|Rm z<|Rm z<|Rm z<|R z (bP (parts:=[(0,.tmp 75),(1,.tmp 76),(2,.tmp 77),(3,.tmp 78)]) (cs:=[Str.v x3,vI x4,vI x5,vI aa]) d_i z z) ?_
  refine E0 (fs (cur':=[Str.v x3,vI x4,vI x5,vI aa]) a_L z z (((((((hd.e G).e s2).e s1).e s9).e sa).e hk).c hl<|djs<|mm1 hd.lt<|lt_ (lt_ (lt_ (lt_ G.s s2.s) s1.s) s9.s) sa.s) z (lb z) (oA z) z) ?_;rintro _ _ ⟨b1,b2⟩;refine Ra z<|Wn ?_
  obtain rfl:=som<|ifF a0 hcw;exact Wr<|a_5 hr (q_ c_T a_L z b1 z) z ⟨bM (bM (bup (bup (bup (bup (bup (bup (bup h3 h6) G) s2) s1) s9) sa) hk) hl<|m1<|lt_ hv sa.s) b2.one<|m1 h3.s,z,p3_0,he,hf,aW⟩
 rintro _ _ _ _ rfl ⟨rfl,am⟩;have an:=elR V;obtain rfl:=som an;exact ⟨am,z⟩
def Q20 (w0:World) (B:Zone) (r:f_×(List UInt8)×Str×(List UInt8)) (v:Value) (w':World):Prop:=Bw w0 w'∧un4 (fun r1 r2 G r4=>∃ H I J S1 a2 L O S2 V W Y S3,v = .tuple #[(.agg #[.slice H I J]),sl a2 L O,Str.v G,sl V W Y]∧a_ w' S1 (sl H I J) r1.rules∧a_ w' S2 (sl a2 L O) r2∧G.b.length≤LEN∧a_ w' S3 (sl V W Y) r4∧(S1++(S2++S3)).Nodup∧(∀ k∈(S1++(S2++S3)),w0.z≤k)) r
theorem W_w2j {x1:List UInt8} {res:f_×(List UInt8)×Str×(List UInt8)} (hm:f_K n x1=some res) (hBw:B≤w0.z) (p1_0:repS w0 B (sl A0 N0 C0) x1):m_ prog 10 [sl A0 N0 C0] w0 (Q20 w0 B res):=by
 unfold f_K at hm
 refine goF func10 z z (lb z) fun fn hr=>Ws<|E z (fa f_X) ?_
 rintro _ cn ⟨rfl,aW⟩;have hz:=aW.below;have hn:Blk cn w0.z [sl none 0 0]:=aW.blk;refine Ra z<|Ra z<|Ra z<|Wn<|Ws<|Rm z ?_
 have aX:=zt' hBw hz.s;obtain ⟨_,co,c9⟩:=bdS hm;refine E z (fc call51 z<|W_w21 (B:=B) co aX<|p1_0.e hz) ?_;rintro _ wr ⟨J,H,aY,aZ,b0,rfl,hd,am,hu,cp,cq⟩;refine Ra z<|Wn<|Ws<|Rm z ?_
 have hc : ∀ k∈[H],¬ B k:=or0 (b_ am)  (j_ aX);have an:=lt_ hz.s J.s;obtain ⟨_,_,_,ct,ca⟩:=p_ c9;refine E z (fc call52 z<|W_w22 (B:=B) ct hd (zt' hBw an) (atp hc) hu cp cq) ?_;rintro _ we ⟨ss,ag,nh,ci,cu,rfl,h6,cv,cw,cx,cy,hf⟩;refine E z (fa f_X) ?_;rintro _ cz ⟨rfl,b1⟩;have ho:=b1.below;have hx:Blk cz we.z [sl none 0 0]:=b1.blk;refine E0 (fs (cur':=[sl ag nh ci]) s_ z z hx z (lb z) (oA z) z) ?_;rintro _ ao ⟨ap,cA⟩;have hj:=cA.one;refine Wn<|Ws<|Rm z<|R z (lN (vs:=[sl ag nh ci]) v_ s_ z z fid<|ap.row 0 1 z)<|R z (fd a_4 z)<|R z (l1 a_6 z fid<|ap.at z) ?_
 have aq:=(h6.e ho).c hj<|ds<|mnr<|a_.lt h6
 refine R z (lnR a_7 z<|or_ aq<|zin (B:=B) hf<|a_.lt h6)<|R z (sb_ z z) ?_
 have ar:=lt_ an ss.s;have b2:=((ss.agc B<|c_ hc).e ho).c hj<|c_ (or0 (b_ lr)  (j_<|zt' hBw ar) : ∀ k∈[we.z],¬ B k)
 have hl:=mm1 (Blk.lt hd) ss.s;have b3 : ∀ k∈[H],¬ (zn B wr.z we.z) k:=c_A hc (b_<|Blk.lt hd) lr;have b4:=lt_ (lt_ ar ho.s) hj.s;have b5:=lt_ ho.s hj.s;obtain ⟨au,_,_,cB,cb⟩:=p_ ca;refine E z (fc call53 z<|W_w0a.run (B:=zn B wr.z we.z) cB ((cx.e ho).c hj<|djs hl) (b_v (zt' hBw b4) b5) (atp b3) (repS.mono (hu.g b2) a_u) cv cw (or_ aq<|zin (B:=B) hf<|a_.lt h6) (iS _ _)<|ii z) ?_;rintro _ L ⟨sk,av,aw,ax,_,ay,az,aA,_,rfl,b6,a5,a6,cC,cD,cE,_,a7⟩;refine E z (fa a_d) ?_;rintro _ cF ⟨rfl,b7⟩;have I:=b7.below;refine E0 (fs (cur':=[vI au.number,sl av aw ax,sl ay az aA]) i_ z z (b7.blk:Blk cF L.z [vI 0,sl none 0 0,sl none 0 0]) z (lb z) (oA z) z) ?_;rintro _ cG ⟨b8,cH⟩;have hb:=cH.one;refine Wn<|Ws ?_
 have aB:=lt_ hj.s sk.s;have aC:=((ap.c sk<|atp hl).e I).c hb<|djs<|mm1 hx.lt aB
 refine R z (lN (vs:=[sl ag nh ci]) v_ s_ z z fid<|aC.row 0 1 z)<|R z (fd a_4 z)<|R z (l1 a_6 z fid<|aC.at z) ?_
 have ht:=k_ hf (Blk.lt hd) lr;have b9:=lt_ b5 sk.s;have aD:=((aq.c sk ht).e I).c hb<|ds<|mno (a_.lt h6) b9
 refine R z (lnR a_7 z<|or_ aD<|zin (B:=B) hf<|a_.lt h6)<|R z (sb_ z z)<|R z (lN (vs:=[vI au.number,sl av aw ax,sl ay az aA]) x_ i_ z z fid<|b8.row 0 3 z) ?_
 have ba:=(a5.e I).c hb<|ds<|mnr<|a_.lt a5
 have bb:=(a6.e I).c hb<|ds<|mnr<|a_.lt a6
 have aE:=lt_ b4 sk.s;have aF:=lt_ (lt_ aE I.s) hb.s;have aG:=lt_ (lt_ b9 I.s) hb.s;have bc:=lt_ I.s hb.s;obtain ⟨_,cI,cc⟩:=bdS cb;refine E z (fc call54 z<|W_w0b.run (B:=zn (zn B wr.z we.z) ao.z L.z) cI (b_v (b_v (zt' hBw aF) aG) bc) (repS.mono (or_ aD<|zin (B:=B) hf<|a_.lt h6)<|zns (zt a_u<|a_u)<|znD<|znI lr lr) (iS _ _) b6 (repS.mono (or_ ba<|zin (B:=B) (al_ a7)<|a_.lt a5)<|zns (zt a_u<|a_u)<|znI lr lr)<|repS.mono (or_ bb<|zin (B:=B) (ar_ a7)<|a_.lt a6)<|zns (zt a_u<|a_u)<|znI lr lr) ?_;rintro _ cJ ⟨s3,aH,aI,aJ,cK,rfl,O,cL,V⟩;refine Ra z<|Wn<|Ws<|Rm z ?_
 have be:=aC.e s3;refine R z (lN (vs:=[sl ag nh ci]) v_ s_ z z fid<|be.row 0 1 z)<|R z (lN (vs:=[vI au.number,sl av aw ax,sl ay az aA]) x_ i_ z z fid<|(b8.e s3).row 0 3 z) ?_
 have bf:=(((b2.c sk<|c_ hc).e I).c hb<|c_ (or0 (b_ lr)  (j_<|zt' hBw aE) : ∀ k∈[L.z],¬ B k)).e s3;have bg:=aD.e s3;have bh:=lt_ (lt_ ss.s ho.s) hj.s;have bi:=lt_ bh sk.s;have bj:=lt_ aF s3.s;have bk:=lt_ aG s3.s;obtain ⟨bm,_,_,cN,cd⟩:=p_ cc;refine E z (fc call55 z<|W_w24 (B:=zn (zn B wr.z we.z) ao.z L.z) cN (((cE.e I).c hb<|djs<|mm1 (Blk.lt hd) bi).e s3) (b_v (b_v (zt' hBw bj) bk)<|lt_ bc s3.s) (atp ((c_A (c_A hc (b_<|Blk.lt hd) lr) (b_<|Blk.lt hd) bh) : ∀ k∈[H],¬ (zn (zn B wr.z we.z) ao.z L.z) k)) (repS.mono (hu.g bf)<|zt a_u<|a_u) cC cD (repS.mono (or_ bg<|zin (B:=B) hf<|a_.lt h6)<|zns (zt a_u<|a_u)<|znD<|znI lr lr) b6 (repS.mono (or_ (ba.e s3)<|zin (B:=B) (al_ a7)<|a_.lt a5)<|zns (zt a_u<|a_u)<|znI lr lr)<|repS.mono (or_ (bb.e s3)<|zin (B:=B) (ar_ a7)<|a_.lt a6)<|zns (zt a_u<|a_u)<|znI lr lr) ?_;rintro _ _ ⟨s7,rfl,bn,cO,cP,cQ⟩;refine Ra z<|Wn<|Ws<|Rm z<|Rm z ?_
 have bo:=bf.c s7<|c_ hc
 have bp:=lt_ bj s7.s;obtain ⟨_,_,_,cR,ce⟩:=p_ cd;refine E z (fc call57 z<|b_7 (B:=B) cR cQ (zt' hBw bp) (atp hc) (hu.g bo) cO cP<|ii z) ?_;rintro _ _ ⟨s9,rfl,cS,cT,cU,cV⟩;have aK:=bo.c s9<|c_ hc
 have aL:=lt_ bp s9.s;obtain ⟨cW,cX,cY,cZ,cf⟩:=p_ ce;refine E z (fc call56 z<|h_T (B:=B) cZ cV (zt' hBw aL) (atp hc) (hu.g aK) cT cU cS) ?_;rintro _ _ ⟨sa,bq,br,bt,aM,rfl,bu,bv,bw,bx,d0,W⟩;refine Ra z<|Wn<|Wq<|Ws ?_
 have aN:=((be.c s7<|atp hl).c s9<|atp hl).c sa<|atp hl
 refine R z (lN (vs:=[sl ag nh ci]) v_ s_ z z fid<|aN.row 0 1 z)<|Rm z<|Rm z ?_
 have aO:=((bg.c s7 ht).c s9 ht).c sa ht;have Y:=lt_ (lt_ bi I.s) hb.s;have a0:=k_ V (Blk.lt hd) Y;have bz:=((O.c s7 a0).c s9 a0).c sa a0;have a8:=lt_ aL sa.s;have bA:=lt_ (lt_ bk s7.s) s9.s;have aP:=lt_ bA sa.s;have bB:=lt_ s7.s s9.s;have bC:=lt_ bB sa.s;obtain ⟨a9,d1,d2,cg⟩:=a_c cf;refine E z (fc call14 z<|h_X (B:=zn (zn B wr.z we.z) cG.z cJ.z) d2 (b_v (b_v (zt' hBw a8) aP) bC) (repS.mono (or_ aO<|zin (B:=B) hf<|a_.lt h6)<|zns (zt a_u<|a_u)<|znD<|znI lr lr) (repS.mono (or_ bz<|zin (B:=B) V<|a_.lt O)<|zns (zt a_u<|a_u)<|znI lr lr) bn) ?_;rintro _ aa ⟨G,rfl,_,bD,_,_⟩;refine Rm z<|R z (ext_ z z)<|R z (ext_ z z)<|E z (fa d_l) ?_
 rintro _ d3 ⟨rfl,bE⟩;have h2:=bE.below;have aQ:Blk d3 aa.z [(Str.v (⟨[]⟩:Str)),vI 0,vI 0,vI 0]:=bE.blk;refine E0 (fs (cur':=[Str.v a9.path,vI a9.rule,vI a9.start,vI a9.end_]) a_L z z aQ z (lb z) (oA z) z) ?_;rintro _ ab ⟨d4,d5⟩;have h1:=d5.one;refine Ra z<|Wn<|Wq ?_
 obtain ⟨u64,aU,ch⟩:=bdS cg;refine Wt (fun a w=>∃ (aR:Bool) (a1:Int) (a2:Int),(aR,a1,a2)=u64∧Sat 66 [(2,pt w0.z),(6,pt H),(7,pt we.z),(9,sl aH aI aJ),(10,Str.v bm),(11,sl bq br bt),(12,pt aa.z),(52,vB aR)] a∧Chg (· ∈ [H]) ab w∧inI a1∧inI a2∧Blk w H [sl aY aZ b0,vI a1,vI a2]) ?_ ?_
 ·refine Wg<|Rm z<|Rm z ?_
  rcases bs d1 with hcm | hcm
  ·refine Rh z hcm (mv z) ?_;have bF:=lt_ a8 G.s;obtain ⟨d6,d7,d8,d9,cj⟩:=p_<|ifT aU hcm;refine Eg z z hcm z (fc call58 z<|h_S (B:=B) d9 (((bx.e G).e h2).c h1<|djs<|mm1 (Blk.lt hd)<|lt_ (lt_ (lt_ (lt_ (lt_ Y s3.s) s7.s) s9.s) sa.s) G.s) (zt' hBw<|lt_ (lt_ bF h2.s) h1.s) (atp hc) (hu.g<|(((aK.c sa<|c_ hc).e G).e h2).c h1<|c_ (or0 (b_ lr)  (j_<|zt' hBw bF) : ∀ k∈[aa.z],¬ B k)) bv bw<|ii z) ?_;rintro _ da ⟨db,rfl,dc,dd,de⟩;refine Rh z hcm (not_ z)<|R z (pT z hcm z)<|Wl ?_
   exact fun _ q=>⟨!d6,d7,d8,som cj,q.k<|s8 z z z z z z z z,(cM (cr [H] ab) db (io sr):Chg (· ∈ [H]) ab da),dc,dd,de⟩
  iterate 3 refine Nh z hcm ?_
  exact R z (pF z hcm z)<|Wl (fun _ q=>⟨false,cX,cY,som<|ifF aU hcm,q.k<|s8 z z z z z z z z,cr [H] ab,bv,bw,((bx.e G).e h2).c h1<|djs<|mm1 (Blk.lt hd)<|lt_ (lt_ (lt_ (lt_ (lt_ Y s3.s) s7.s) s9.s) sa.s) G.s⟩)
 rintro df wp ⟨aR,a1,a2,rfl,_,s4,bG,bH,bI⟩;revert df;refine Wo ?_;obtain ⟨dg,aV,ck⟩:=bdS<|b_C ch;refine Wt (fun a w=>∃ (aS:List UInt8) (ad:Int) (ae:Int),(aS,ad,ae)=dg ∧ ∃ af ah ai Sy,Sat 66 [(2,pt w0.z),(7,pt we.z),(9,sl aH aI aJ),(10,Str.v bm),(11,sl af ah ai)] a∧Chg (· ∈ [H]) wp w∧a_ w Sy (sl af ah ai) aS∧Sy.Nodup∧(∀ k∈Sy,k∈aM∨wp.z≤k)∧inI ad∧inI ae∧Blk w H [sl aY aZ b0,vI ad,vI ae]) ?_ ?_
 ·refine Wc z (fun al=>?_)<|fun al=>?_
  ·refine Wd (X:=fun k=>k∈[H]∨wp.z≤k) 0 (.rd 0<|.rd 1<|.rd 2<|.rd 3<|.rd 4<|.rd 5<|.rd 6<|.ef 7<|.ef 8<|.rd 9 .done) mo (by kernel_rfl) fun bJ sq _=>?_
   have bK:=lt_ (lt_ (lt_ (lt_ (lt_ (lt_ (lt_ aB I.s) hb.s) s3.s) s7.s) s9.s) sa.s) G.s;have bL:=((((aN.e G).e h2).c h1<|djs<|mm1 hx.lt bK).c s4<|atp hl).e sq;have bN:=lt_ (lt_ (lt_ bK h2.s) h1.s) s4.s;refine dR z z (lN (vs:=[sl ag nh ci]) v_ s_ z z (a_B (atp hl)<|Nat.lt_of_lt_of_le hx.lt bN)<|bL.row 0 1 z)<|dR z z (fd k_Y z) ?_
   have aT:=mm1 (Blk.lt hd)<|lt_ (lt_ (lt_ (lt_ (lt_ Y s3.s) s7.s) s9.s) sa.s) G.s
   have bO:=(d4.c s4<|atp aT).e sq;have bP:=lt_ h1.s s4.s;refine dR z z (l1 g_3 z (a_B (atp aT)<|Nat.lt_of_lt_of_le aQ.lt bP)<|bO.at z)<|dR z z (mv z)<|dR z z (lN (vs:=[sl ag nh ci]) v_ s_ z z (a_B (atp hl)<|Nat.lt_of_lt_of_le hx.lt bN)<|bL.row 0 1 z)<|dR z z (fd k_Y z)<|dR z z (l1 g_3 z (a_B (atp aT)<|Nat.lt_of_lt_of_le aQ.lt bP)<|bO.at z) ?_
   have bQ:=lt_ a8 G.s;have bR:=lt_ aP G.s;have bS:=((((aO.e G).e h2).c h1<|ds<|mno (a_.lt h6) bR).c s4 ht).e sq;have bT:=lt_ (lt_ (lt_ (lt_ bQ h2.s) h1.s) s4.s) sq.s;have bU:=lt_ (lt_ (lt_ (lt_ bR h2.s) h1.s) s4.s) sq.s;obtain ⟨_,dh,di,dj,cl⟩:=p_<|ifT aV al;refine dE z z (fc call53 z<|W_w0a.run (B:=zn B wr.z we.z) dj (bI.e sq) (b_v (zt' hBw bT) bU) (atp b3) (repS.mono (hu.g<|(((((aK.c sa<|c_ hc).e G).e h2).c h1<|c_ (or0 (b_ lr)  (j_<|zt' hBw bQ) : ∀ k∈[aa.z],¬ B k)).c s4<|c_ hc).e sq) a_u) bG bH (or_ bS<|zin (B:=B) hf<|a_.lt h6) bD<|ii z) (.inr fun _ _ h=>h.1.mono fun k _ hk=>(io sr) k hk) ?_;rintro _ bV ⟨a3,_,_,_,_,_,_,_,_,rfl,dk,bW,bX,dl,dm,dn,_,bY⟩;obtain ⟨dp,dq,cm⟩:=bdS cl;refine dE z z (fc call54 z<|W_w0b.run (B:=zn (zn B wr.z we.z) bJ.z bV.z) dq (b_v (b_v (zt' hBw<|lt_ bT a3.s)<|lt_ bU a3.s) lr) (repS.mono (or_ (bS.c a3 ht)<|zin (B:=B) hf<|a_.lt h6)<|zns (zt a_u<|a_u)<|znD<|znI lr lr) bD dk (repS.mono (or_ bW<|zin (B:=B) (al_ bY)<|a_.lt bW)<|zns (zt a_u<|a_u)<|znI lr lr)<|repS.mono (or_ bX<|zin (B:=B) (ar_ bY)<|a_.lt bX)<|zns (zt a_u<|a_u)<|znI lr lr) (.inr fun _ _ h=>A_<|h.1) ?_;rintro _ dr ⟨bZ,dt,du,dv,c0,rfl,dw,dx,dy⟩;refine dR z z (asg z)<|pD ?_
   exact fun _ q=>⟨dp,dh,di,som cm,dt,du,dv,c0,q.k<|s5 z z z z z,(d_ (cM (d_ (cr [H] wp) sq:Chg (· ∈ [H]) wp bJ) a3 (io sr):Chg (· ∈ [H]) wp bV) bZ:Chg (· ∈ [H]) wp dr),dw,dx,(or0 dy  (G_<|lt_ sq.s a3.s) : ∀ k∈c0,k∈aM∨wp.z≤k),dl,dm,dn.e bZ⟩
  exact a_e<|fun _ q=>⟨cW,a1,a2,som<|ifF aV al,bq,br,bt,aM,q.k<|s5 z z z z z,cr [H] wp,(((bu.e G).e h2).c h1<|ds<|mno (a_.lt bu) G.s).c s4<|k_ W (Blk.lt hd)<|lt_ (lt_ (lt_ Y s3.s) s7.s) s9.s,d0,io sr,bG,bH,bI⟩
 rintro dz _ ⟨aS,ad,ae,rfl,af,ah,ai,Sy,_,a4,dA,dB,aj,_,_,_⟩;revert dz;refine Wo<|Ws ?_
 refine R z (lN (vs:=[sl ag nh ci]) v_ s_ z z fid<|(((((aN.e G).e h2).c h1<|djs<|mm1 hx.lt<|lt_ (lt_ (lt_ (lt_ (lt_ (lt_ (lt_ aB I.s) hb.s) s3.s) s7.s) s9.s) sa.s) G.s).c s4<|atp hl).c a4<|atp hl).row 0 1 z)<|Rm z<|Rm z<|Rm z ?_
 have hv:=k_ (b_ am) hn.lt lr;have c1:=lt_ J.s ss.s;have c2:=lt_ (lt_ (lt_ c1 ho.s) hj.s) sk.s;have c3:=lt_ (lt_ c2 I.s) hb.s;have c4:=lt_ (lt_ (lt_ c3 s3.s) s7.s) s9.s;have c5:=lt_ (lt_ c4 sa.s) G.s;refine E0 (fs (cur':=[sl ag nh ci]) s_ z z ((((((((((((((((hn.e J).c ss<|djs hv).e ho).c hj<|djs<|mm1 hn.lt c1).c sk<|djs hv).e I).c hb<|djs<|mm1 hn.lt c2).e s3).c s7<|djs hv).c s9<|djs hv).c sa<|djs hv).e G).e h2).c h1<|djs<|mm1 hn.lt c5).c s4<|djs hv).c a4<|djs hv) z (lb z) (oA z) z) ?_;rintro _ _ ⟨dC,dD⟩;have ak:=dD.one;refine Ra z<|Ra z<|Ra z<|Wn ?_
 obtain rfl:=som<|b_C ck;have c6:=lt_ aP G.s;have c7:=lt_ bC G.s;have hw:=l_ (b_ am) hz.s;have c8:=lt_ a8 G.s;exact Wr<|ret4 hr (q_ v_ s_ z dC z) z z z ⟨bM (bM (bM (bM (bup (bup (bM (bM (bM (bup (bM (bup (bM (bM (bup (bM (bup hz J) ss hw) ho) hj<|m1 ar) sk hw) I) hb<|m1 aE) s3) s7 hw) s9 hw) sa hw) G) h2) h1<|m1 c8) s4 hw) a4 hw) ak<|b_ lr,ag,nh,ci,cu,aH,aI,aJ,cK,af,ah,ai,Sy,z,(((((aO.e G).e h2).c h1<|ds<|mno (a_.lt h6) c6).c s4 ht).c a4 ht).c ak<|k_ hf hn.lt J.s,(((((bz.e G).e h2).c h1<|ds<|mno (a_.lt O) c7).c s4 a0).c a4 a0).c ak<|k_ V hn.lt c3,bn,dA.c ak (or1 aj (k_ W hn.lt c4) (W_ (b_ hn.lt)<|lt_ (lt_ (lt_ c5 h2.s) h1.s) s4.s) : ∀ k∈Sy,k∉[w0.z]),na_ cy (na_ cL dB<|ds<|o1no aj (b_X W (a_.lt O) bB) (a_.lt O)<|lt_ (lt_ (lt_ c7 h2.s) h1.s) s4.s)<|nmA (ds<|b_X V (a_.lt h6) aG)<|ds<|o1no aj (b_X W (a_.lt h6) bA) (a_.lt h6)<|lt_ (lt_ (lt_ c6 h2.s) h1.s) s4.s,aa_ (l_ hf an)<|aa_ (l_ V aF)<|a_8 aj (l_ W aL)<|lt_ (lt_ (lt_ c8 h2.s) h1.s) s4.s⟩
theorem W_w2k {x1:Str} {x2:UInt8} {res:(List Str)} (hm:f_m x1 x2=some res) (hBw:B≤w0.z) (p1_0:x1.b.length≤LEN):m_ prog 247 [Str.v x1,vU<|byteI x2] w0 (Q12 w0 B res):=by
 unfold f_m at hm
 refine goF func247 z z (lb z) fun fn hr=>Ws<|Ra z<|Wn<|Ws<|E z (f0 (α:=Str) b_5) ?_
 rintro _ H ⟨ai,aj,ak,rfl,sk,al⟩;refine Ra z<|Wn<|Ws<|Ra z<|Wn<|Wq<|Ws<|Ra z<|Wn ?_
 obtain ⟨_,a1,hmr⟩:=bdS hm;refine Wf (σ:=(List Str)×Int) (ρ:=List Str) (fun (kd:Nat) s a w=>un2 (fun O x5=>∃ a2 I J G,Sat 35 [(0,Str.v x1),(1,vU<|byteI x2),(5,sl a2 I J),(6,vI x5),(7,vI ((kd:Nat):Int))] a∧Chg (· ∈ [w0.z]) H w∧a_ w G (sl a2 I J) O∧G.Nodup∧(∀ k∈G,k∈[w0.z]∨H.z≤k)∧inI x5) s) (fun s a w=>un2 (fun O x5=>∃ a2 I J G,Sat 35 [(0,Str.v x1),(5,sl a2 I J),(6,vI x5)] a∧Chg (· ∈ [w0.z]) H w∧a_ w G (sl a2 I J) O∧G.Nodup∧(∀ k∈G,k∈[w0.z]∨H.z≤k)∧inI x5) s) (fun r ex a w=>ex = .ret∧L_ prog fn (Q12 w0 B r) a w) a1 ?_ ?_ ?_ ?_ ?_
 ·exact fun _ q=>⟨ai,aj,ak,[w0.z],q.k<|s5 z z z z z,cr [w0.z] H,al,a_o,io sr,ii z⟩
 ·rintro kd ⟨O,x5⟩ _ L _ hke ⟨a2,I,J,G,a3,ss,V,W,hb,hf⟩ a4;refine Wu ?_ a3;refine Wq<|Ws<|Rm z<|Rm z<|R z (lnT d_9 z)<|R z (lss z z)<|Wn<|Wc z (fun _=>?_) (fun hc=>(a_h hke hc).elim)
  refine Wk<|Wq<|Wb<|Ws<|Rm z<|Rm z ?_
  obtain ⟨_,eu,a5⟩:=bdS<|a_F a4;refine R z (c_a d_9 z z (a_E eu).1 (a_E eu).2.1)<|Rm z<|R z (eql z z)<|Wn ?_
  obtain ⟨am,huv,a6⟩:=bdS a5;refine Wt (fun a w=>∃ (xg:List Str) (xc:Int),(xg,xc)=am ∧ ∃ ah ni cj Sa,Sat 35 [(0,Str.v x1),(1,vU<|byteI x2),(5,sl ah ni cj),(6,vI xc),(7,vI ((kd:Nat):Int))] a∧Chg (· ∈ G) L w∧a_ w Sa (sl ah ni cj) xg∧Sa.Nodup∧(∀ k∈Sa,k∈G∨L.z≤k)∧inI xc) ?_ ?_
  ·refine Wc z (fun hcl=>?_)<|fun hcl=>?_
   ·refine Ws<|Rm z<|Rm z<|Rm z<|Rm z ?_
    obtain ⟨an,em,a7⟩:=bdS<|ifT huv hcl;refine R z (j_G d_9 z z z p1_0 em)<|E z (fS [(.tmp 24)] b_5 z z z (a_b z) (lb z)<|lb z) ?_
    rintro _ ww ⟨rfl,hn⟩;have ho:=hn.below;have aV:=a_J hn<|c_m<|e_V em p1_0
    obtain ⟨ao,ap,a8⟩:=bdS a7;refine E z (b_0 (α:=Str) b_5 ap z z (V.e ho) W (hn.blk:Blk ww L.z [Str.v an]) (c_m<|e_V em p1_0) an_ J_) ?_;rintro _ aq ⟨Sx,ar,au,av,rfl,aw,ax,ay,az⟩;refine Ra z<|Wn<|Wg<|Rm z<|R z (inc_ hke (lt_ p1_0 P_) z z)<|Ra z<|Wl ?_
    exact fun _ q=>⟨ao,((kd+1:Nat):Int),som a8,ar,au,av,Sx,q.k<|s5 z z z z z,(cM (d_ (cr G L) ho:Chg (· ∈ G) L ww) aw (io sr):Chg (· ∈ G) L aq),ax,ay,(or2 az (io sr) an_ (G_ ho.s) : ∀ k∈Sx,k∈G∨L.z≤k),ic (Nat.succ_le_of_lt hke)<|lt_ p1_0 P_⟩
   exact a_e<|fun _ q=>⟨O,x5,som<|ifF huv hcl,a2,I,J,G,q.k<|s5 z z z z z,cr G L,V,W,io sr,hf⟩
  rintro aA aB ⟨xg,xc,rfl,ah,ni,cj,Sa,_,aC,aD,aE,aF,aG⟩;revert aA;refine Wo<|Wg<|Rm z<|R z (inc_ hke (lt_ p1_0 P_) z z)<|Ra z<|Wl ?_
  have hy : ∀ k∈G,k∈[w0.z]∨H.z≤k:=or1 hb (io sr)<|G_ lr;exact fun _ q=>⟨(xg,xc),(som<|a_F a6).symm,⟨ah,ni,cj,Sa,q.k<|s5 z z z z z,(cM (cM (cr [w0.z] H) ss (io sr):Chg (· ∈ [w0.z]) H L) aC hy:Chg (· ∈ [w0.z]) H aB),aD,aE,(or1 aF hy (G_ ss.s) : ∀ k∈Sa,k∈[w0.z]∨H.z≤k),aG⟩⟩
 ·rintro ⟨O,x5⟩ _ aH ⟨a2,I,J,G,a9,aI,V,W,hb,hf⟩;refine Wu ?_ a9;refine Wq<|Ws<|Rm z<|Rm z<|R z (lnT d_9 z)<|R z (lss z z)<|Wn<|Wc z (fun hc=>(a_i hc).elim) (fun _=>?_)
  exact We<|fun a' ha'=>⟨rfl,⟨a2,I,J,G,Sat.weaken ha'<|s3 z z z,(cM (cr [w0.z] H) aI (io sr):Chg (· ∈ [w0.z]) H aH),V,W,(or1 hb (io sr) (G_ lr) : ∀ k∈G,k∈[w0.z]∨H.z≤k),hf⟩⟩
 ·rintro ⟨O,x5⟩ aJ aK rfl ⟨a2,I,J,G,_,sz,V,W,hb,hf⟩;have aa:=elL hmr;revert aJ;refine Wo<|Ws<|Rm z<|Rm z<|Rm z ?_
  obtain ⟨aL,ep,ab⟩:=bdS<|a_F aa;refine R z (j_G d_9 z z z p1_0 ep)<|E z (fS [(.tmp 32)] b_5 z z z (a_b z) (lb z)<|lb z) ?_
  rintro _ aM ⟨rfl,hq⟩;have ht:=hq.below;have aW:=a_J hq<|c_m<|e_V ep p1_0
  obtain ⟨_,aN,ad⟩:=bdS ab;refine E z (b_0 (α:=Str) b_5 aN z z (V.e ht) W (hq.blk:Blk aM aK.z [Str.v aL]) (c_m<|e_V ep p1_0) an_ J_) ?_;rintro _ _ ⟨Y,aO,aP,aQ,rfl,aR,aS,aT,aU⟩;refine Ra z<|Wn ?_
  obtain rfl:=som ad;have a0 : ∀ k∈G,w0.z≤k:=or1 hb (b_ lr)<|b_k sk.s;exact Wr<|h_ hr z ⟨bM (bup (bM sk sz<|b_ lr) ht) aR a0,aO,aP,aQ,Y,z,aS,aT,(or2 aU a0 an_ (b_k<|lt_ (lt_ sk.s sz.s) ht.s) : ∀ k∈Y,w0.z≤k)⟩
 rintro _ _ _ _ rfl ⟨rfl,ae⟩;have af:=elR hmr;obtain rfl:=som af;exact ⟨ae,z⟩
theorem j_k {x1:Str} {res:Bool} (hm:e_4 n x1=some res) (hBw:B≤w0.z) (p1_0:x1.b.length≤LEN):m_ prog 197 [Str.v x1] w0 (Q0 w0 B res):=by
 unfold e_4 at hm
 refine goF func197 z z (lb z) fun fn hr=>Ws<|Ra z<|Wn<|Wq<|Wq ?_
 obtain ⟨a8,huo,hmp⟩:=bdS hm;refine Wt (fun a w=>∃ (xg:Bool),xg=a8∧Sat 43 [(0,Str.v x1),(14,vB xg)] a∧Below w0.z w0 w) ?_ ?_
 ·refine Wg<|Rm z<|R z (lnT d_9 z)<|R z (lss z z)<|Rm z ?_
  rcases bs (decide<|(x1.b.length:Int)<1) with J | J
  ·iterate 3 refine Nh z J ?_
   exact R z (pT z J z)<|Wl (fun _ q=>⟨true,som<|ifT huo J,q.k<|s2 z z,br w0⟩)
  exact Rh z J (mv z)<|Rh z J (lnT d_9 z)<|Rh z J (a_1 z z)<|R z (pF z J z)<|Wl (fun _ q=>⟨decide<|12<(x1.b.length:Int),som<|ifF huo J,q.k<|s2 z z,br w0⟩)
 rintro a9 G ⟨xg,rfl,_,s9⟩;revert a9;refine Wo<|Wc z (fun hch=>?_) (fun hch=>?_)
 ·refine Ws<|Ra z<|Wn ?_
  obtain rfl:=som<|ifT hmp hch;exact Wr<|h_ hr z ⟨s9,z⟩
 refine Wk<|Wq<|Ws<|Rm z<|E z (n_x d_9 z) ?_
 rintro _ I ⟨rfl,sq,aa⟩;refine Wn ?_;obtain ⟨_,a1,hmr⟩:=bdS<|ifF hmp hch;refine b_P (σ:=Nat) (ρ:=Bool) (fun (x0:Nat) a w=>Sat 43 [(16,pt G.z)] a∧Chg (· ∈ [G.z]) I w∧b_l w G.z x1 x0) (fun (x0:Nat) a w=>Sat 43 [] a∧Chg (· ∈ [G.z]) I w∧b_l w G.z x1 x0) (fun r ex a w=>ex = .ret∧L_ prog fn (Q0 w0 B r) a w) a1 ?_ ?_ ?_ ?_
 ·exact fun _ q=>⟨q.k<|s1 z,cr [G.z] I,aa⟩
 ·rintro x0 _ ws _ ⟨a2,si,he⟩ hmt;refine Wu ?_ a2;refine Ws ?_
  rcases bs (decide<|x0<x1.b.length) with hca | hca
  ·refine E z (n_y z he<|of_decide_eq_true hca) ?_;rintro _ wb ⟨rfl,ab,su⟩;refine R z (ext_ z z)<|Wn<|Wq<|Wc z (fun _=>?_) (fun hc=>(bcon z hc).elim)
   refine Wk<|Wb<|Ws<|R z (ext_ z z)<|R z (ext_ z z)<|Ra z<|Ra z<|Wn<|Wq ?_
   obtain ⟨ad,huv,a3⟩:=bdS<|ifT hmt hca;refine Wt (fun a w=>∃ (xc:Bool),xc=ad∧Sat 43 [(3,vI (x0:Int)),(4,.int .i32<|(dec x1 x0).1),(5,vB xc),(16,pt G.z)] a∧Below wb.z wb w) ?_ ?_
   ·refine Wg<|Rm z<|R z (b_e z z)<|Rm z ?_
    rcases bs (decide<|97≤((dec x1 x0).1)) with L | L
    ·exact Rh z L (mv z)<|Rh z L (b_S z z)<|R z (pT z L z)<|Ra z<|Wl (fun _ q=>⟨decide<|((dec x1 x0).1)≤122,som<|ifT huv L,q.k<|s4 z z z z,br wb⟩)
    exact Nh z L<|Nh z L<|R z (pF z L z)<|Ra z<|Wl (fun _ q=>⟨false,som<|ifF huv L,q.k<|s4 z z z z,br wb⟩)
   rintro ae wd ⟨xc,rfl,_,sj⟩;revert ae;refine Wo<|Wq ?_
   obtain ⟨af,huw,a4⟩:=bdS a3;refine Wt (fun a w=>∃ (xf:Bool),xf=af∧Sat 43 [(3,vI (x0:Int)),(5,vB xc),(6,vB xf),(16,pt G.z)] a∧Below wd.z wd w) ?_ ?_
   ·refine Wg<|Rm z<|R z (b_e z z)<|Rm z ?_
    rcases bs (decide<|48≤((dec x1 x0).1)) with O | O
    ·exact Rh z O (mv z)<|Rh z O (b_S z z)<|R z (pT z O z)<|Ra z<|Wl (fun _ q=>⟨decide<|((dec x1 x0).1)≤57,som<|ifT huw O,q.k<|s4 z z z z,br wd⟩)
    exact Nh z O<|Nh z O<|R z (pF z O z)<|Ra z<|Wl (fun _ q=>⟨false,som<|ifF huw O,q.k<|s4 z z z z,br wd⟩)
   rintro ah W ⟨xf,rfl,_,sk⟩;revert ah;refine Wo<|Wq ?_
   obtain ⟨ai,hux,hmy⟩:=bdS a4;refine Wt (fun a w=>∃ (xl:Bool),xl=ai∧Sat 43 [(16,pt G.z),(42,vB xl)] a∧Below W.z W w) ?_ ?_
   ·refine Wg<|Rm z<|R z (not_ z)<|Rm z ?_
    rcases bs (!xc) with H | H
    ·have hmz:=ifT hux H;refine Rh z H (mv z)<|Rh z H (not_ z)<|Rh z H (mv z) ?_
     rcases bs (!xf) with V | V
     ·exact Nh z V<|Nh z V<|Rh z H (pT z V z)<|R z (pT z H z)<|Wl (fun _ q=>⟨true,som<|ifT hmz V,q.k<|s2 z z,br W⟩)
     exact Rh z V (mv z)<|Rh z V (eql z z)<|Rh z H (pF z V z)<|R z (pT z H z)<|Wl (fun _ q=>⟨(x0:Int)==0,som<|ifF hmz V,q.k<|s2 z z,br W⟩)
    iterate 3 refine Nh z H ?_
    exact Nv z<|Nv z<|Nh z H<|R z (pF z H z)<|Wl (fun _ q=>⟨false,som<|ifF hux H,q.k<|s2 z z,br W⟩)
   rintro aj ak ⟨xl,rfl,_,sm⟩;revert aj;refine Wo<|Wc z (fun hcn=>?_) (fun hcn=>?_)
   ·refine Ws<|Ra z<|Wn ?_
    have Y:=m1 s9.s;exact Wr<|rtO<|qL (som<|ifT hmy hcn).symm<|h_ hr z ⟨bup (bup (bup (bM (bM (bup s9 sq) si Y) su Y) sj) sk) sm,z⟩
   refine a_e ?_;exact fun _ q=>⟨x0+(dec x1 x0).2,(som<|ifF hmy hcn).symm,⟨q.k<|s1 z,(d_ (d_ (d_ (cM (cM (cr [G.z] I) si (io sr):Chg (· ∈ [G.z]) I ws) su (io sr):Chg (· ∈ [G.z]) I wb) sj:Chg (· ∈ [G.z]) I wd) sk:Chg (· ∈ [G.z]) I W) sm:Chg (· ∈ [G.z]) I ak),((ab.e sj).e sk).e sm⟩⟩
  refine E z (n_z z he<|of_decide_eq_false hca) ?_;rintro _ al ⟨rfl,a0⟩;refine R z (ext_ z z)<|Wn<|Wq<|Wc z (fun hc=>(bcon hc z).elim) (fun _=>?_)
  exact We<|fun a' ha'=>b_t (som<|ifF hmt hca).symm ⟨Sat.weaken ha' sn,(d_ (cM (cr [G.z] I) si (io sr):Chg (· ∈ [G.z]) I ws) a0:Chg (· ∈ [G.z]) I al),he.e a0⟩
 ·rintro x0 am _ rfl ⟨_,an,he⟩;have a5:=elL hmr;revert am;refine Wo<|Ws<|Ra z<|Wn ?_
  obtain rfl:=som a5;exact Wr<|h_ hr z ⟨bM (bup s9 sq) an<|m1 s9.s,z⟩
 rintro _ _ _ _ rfl ⟨rfl,a6⟩;have a7:=elR hmr;obtain rfl:=som a7;exact ⟨a6,z⟩
theorem W_w1g {x1:Str} {res:Int×Bool} (hm:f_n x1=some res) (hBw:B≤w0.z) (p1_0:x1.b.length≤LEN):m_ prog 198 [Str.v x1] w0 (Q13 w0 B res):=by
 unfold f_n at hm
 refine goF func198 z z (lb z) fun fn hr=>Ws<|Ra z<|Ra z<|Wn<|Wq<|Wq ?_
 obtain ⟨uv,huf,hmg⟩:=bdS hm;refine Wt (fun a w=>∃ (W:Bool),W=uv∧Sat 50 [(0,Str.v x1),(22,vB W)] a∧Below w0.z w0 w) ?_ ?_
 ·refine Wg<|Rm z<|R z (b_j z z)<|Rm z ?_
  rcases bs (x1.b==(⟨[]⟩:Str).b) with I | I
  ·iterate 3 refine Nh z I ?_
   exact R z (pT z I z)<|Rm z<|Nh z z<|Nh z z<|Nh z z<|Nh z z<|Nv z<|Nv z<|Nv z<|Nh z z<|R z (pT z z z)<|Wl (fun _ q=>⟨true,som<|ifT huf I,q.k<|s2 z z,br w0⟩)
  have hmh:=ifF huf I;refine Rh z I (mv z)<|Rh z I (lnT d_9 z)<|Rh z I (a_1 z z)<|R z (pF z I z)<|Rm z ?_
  rcases bs (decide<|13<(x1.b.length:Int)) with G | G
  ·iterate 4 refine Nh z G ?_
   exact Nv z<|Nv z<|Nv z<|Nh z G<|R z (pT z G z)<|Wl (fun _ q=>⟨true,som<|ifT hmh G,q.k<|s2 z z,br w0⟩)
  refine Rh z G (mv z) ?_;obtain ⟨xw,ei,hmj⟩:=bdS<|ifF hmh G;refine Rh z G (c_a d_9 z z (a_E ei).1 (a_E ei).2.1)<|Rh z G (eql z z)<|Rh z G (mv z) ?_
  rcases bs ((byteI xw)==(byteI (48:UInt8))) with J | J
  ·exact Rh z J (mv z)<|Rh z J (lnT d_9 z)<|Rh z J (a_1 z z)<|Rh z G (pT z J z)<|R z (pF z G z)<|Wl (fun _ q=>⟨decide<|1<(x1.b.length:Int),som<|ifT hmj J,q.k<|s2 z z,br w0⟩)
  iterate 3 refine Nh z J ?_
  exact Rh z G (pF z J z)<|R z (pF z G z)<|Wl (fun _ q=>⟨false,som<|ifF hmj J,q.k<|s2 z z,br w0⟩)
 rintro ax L ⟨W,rfl,_,s6⟩;revert ax;refine Wo<|Wc z (fun hca=>?_) (fun hca=>?_)
 ·refine Ws<|Ra z<|Ra z<|Wn ?_
  obtain rfl:=som<|ifT hmg hca;exact Wr<|a_5 hr z z ⟨s6,z,ii z⟩
 refine Wk<|Ws<|Ra z<|Wn<|Wq<|Ws<|Ra z<|Wn ?_
 obtain ⟨_,huy,hmk⟩:=bdS<|ifF hmg hca;refine Wf (σ:=Int) (ρ:=Int×Bool) (fun (kb:Nat) (x2:Int) a w=>Sat 50 [(0,Str.v x1),(4,vI x2),(5,vI ((kb:Nat):Int))] a∧Below L.z L w∧inI x2) (fun (x2:Int) a w=>Sat 50 [(4,vI x2)] a∧Below L.z L w∧inI x2) (fun r ex a w=>ex = .ret∧L_ prog fn (Q13 w0 B r) a w) huy ?_ ?_ ?_ ?_ ?_
 ·exact fun _ q=>⟨q.k<|s3 z z z,br L,ii z⟩
 ·rintro kb x2 _ O _ hkl ⟨hSz,sm,V⟩ Y;refine Wu ?_ hSz;refine Wq<|Ws<|Rm z<|Rm z<|R z (lnT d_9 z)<|R z (lss z z)<|Wn<|Wc z (fun _=>?_) (fun hc=>(a_h hkl hc).elim)
  refine Wk<|Wq<|Wb<|Wq<|Wq ?_
  obtain ⟨a6,a0,hmn⟩:=bdS Y;refine Wt (fun a w=>∃ (xc:Bool),xc=a6∧Sat 50 [(0,Str.v x1),(4,vI x2),(5,vI ((kb:Nat):Int)),(38,vB xc)] a∧Below O.z O w) ?_ ?_
  ·refine Wg<|Rm z<|Rm z ?_
   obtain ⟨a7,eo,hmp⟩:=bdS a0;refine R z (c_a d_9 z z (a_E eo).1 (a_E eo).2.1)<|R z (lss z z)<|Rm z ?_
   rcases bs (decide<|(byteI a7)<(byteI (48:UInt8))) with H | H
   ·iterate 4 refine Nh z H ?_
    exact R z (pT z H z)<|Wl (fun _ q=>⟨true,som<|ifT hmp H,q.k<|s4 z z z z,br O⟩)
   refine Rh z H (mv z)<|Rh z H (mv z) ?_
   obtain ⟨a8,eq,a1⟩:=bdS<|ifF hmp H;exact Rh z H (c_a d_9 z z (a_E eq).1 (a_E eq).2.1)<|Rh z H (a_1 z z)<|R z (pF z H z)<|Wl (fun _ q=>⟨decide<|(byteI (57:UInt8))<(byteI a8),som a1,q.k<|s4 z z z z,br O⟩)
  rintro a9 _ ⟨xc,rfl,_,sr⟩;revert a9;refine Wo<|Wc z (fun hcd=>?_) (fun hcd=>?_)
  ·exact Ws<|Ra z<|Ra z<|Wn<|Wr<|rtO<|qL (som<|ifT hmn hcd).symm<|a_5 hr z z ⟨bup (bup s6 sm) sr,z,ii z⟩
  refine Wk<|Wg<|Rm z<|R z (c_E z z)<|Rm z<|Rm z ?_
  obtain ⟨aa,es,a2⟩:=bdS<|ifF hmn hcd;exact R z (c_a d_9 z z (a_E es).1 (a_E es).2.1)<|R z (k_M z z)<|R z (b_O d_5 d_3 z)<|R z (add_ z z)<|Ra z<|Wn<|Wg<|Rm z<|R z (inc_ hkl (lt_ p1_0 P_) z z)<|Ra z<|Wl (fun _ q=>⟨g_ (a_9 10 x2)<|byteI<|mkB (byteI aa - byteI (48:UInt8)),(som a2).symm,⟨q.k<|s3 z z z,bup sm sr,iA _ _⟩⟩)
 ·rintro x2 _ _ ⟨a3,ab,V⟩;refine Wu ?_ a3;refine Wq<|Ws<|Rm z<|Rm z<|R z (lnT d_9 z)<|R z (lss z z)<|Wn<|Wc z (fun hc=>(a_i hc).elim) (fun _=>?_)
  exact We<|fun a' ha'=>⟨rfl,⟨Sat.weaken ha'<|s1 z,ab,V⟩⟩
 ·rintro x2 ad _ rfl ⟨_,st,V⟩;have hmu:=elL hmk;revert ad;refine Wo<|Wq<|Ws<|Rm z<|R z (a_1 z z)<|Wn<|Wc z (fun hce=>?_) (fun hce=>?_)
  ·refine Ws<|Ra z<|Ra z<|Wn ?_
   obtain rfl:=som<|ifT hmu hce;exact Wr<|a_5 hr z z ⟨bup s6 st,z,ii z⟩
  refine Wk<|Ws<|Rm z<|Ra z<|Ra z<|Wn ?_
  obtain rfl:=som<|ifF hmu hce;exact Wr<|a_5 hr z z ⟨bup s6 st,z,V⟩
 rintro _ _ _ _ rfl ⟨rfl,a4⟩;have a5:=elR hmk;obtain rfl:=som a5;exact ⟨a4,z⟩
theorem W_w2l {x1:Str} {res:Bool} (hm:e_D n x1=some res) (hBw:B≤w0.z) (p1_0:x1.b.length≤LEN):m_ prog 167 [Str.v x1] w0 (Q0 w0 B res):=by
 unfold e_D at hm
 refine goF func167 z z (lb z) fun fn hr=>Ws<|Ra z<|Wn<|Wq<|Wq ?_
 obtain ⟨ub,huc,L⟩:=bdS hm;refine Wt (fun a w=>∃ (x4:Bool),x4=ub∧Sat 25 [(0,Str.v x1),(18,vB x4)] a∧Below w0.z w0 w) ?_ ?_
 ·refine Wg<|Rm z ?_
  obtain ⟨rd,ee,O⟩:=bdS huc;refine E z (fc call197 z<|j_k (B:=B) ee hBw p1_0) ?_;rintro _ _ ⟨s3,rfl⟩;refine Rm z ?_
  rcases bs rd with G | G
  ·exact Nh z G<|Nh z G<|R z (pT z G z)<|Rm z<|Nh z z<|Nh z z<|R z (pT z z z)<|Rm z<|Nh z z<|Nh z z<|R z (pT z z z)<|Wl (fun _ q=>⟨true,som<|ifT O G,q.k<|s2 z z,s3⟩)
  have V:=ifF O G;refine Rh z G (mv z)<|Rh z G (b_j z z)<|R z (pF z G z)<|Rm z ?_
  rcases bs (x1.b==(⟨[42]⟩:Str).b) with H | H
  ·exact Nh z H<|Nh z H<|R z (pT z H z)<|Rm z<|Nh z z<|Nh z z<|R z (pT z z z)<|Wl (fun _ q=>⟨true,som<|ifT V H,q.k<|s2 z z,s3⟩)
  have hma:=ifF V H;refine Rh z H (mv z)<|Rh z H (b_j z z)<|R z (pF z H z)<|Rm z ?_
  rcases bs (x1.b==(⟨[63]⟩:Str).b) with I | I
  ·exact Nh z I<|Nh z I<|R z (pT z I z)<|Wl (fun _ q=>⟨true,som<|ifT hma I,q.k<|s2 z z,s3⟩)
  exact Rh z I (mv z)<|Rh z I (b_j z z)<|R z (pF z I z)<|Wl (fun _ q=>⟨x1.b==(⟨[43]⟩:Str).b,som<|ifF hma I,q.k<|s2 z z,s3⟩)
 rintro af _ ⟨x4,rfl,_,s5⟩;revert af;refine Wo<|Wc z (fun J=>?_) (fun J=>?_)
 ·refine Ws<|Ra z<|Wn ?_
  obtain rfl:=som<|ifT L J;exact Wr<|h_ hr z ⟨s5,z⟩
 refine Wk<|Ws<|Rm z ?_
 obtain ⟨_,_,eg,hmh⟩:=a_c<|ifF L J;refine E z (fc call198 z<|W_w1g (B:=B) eg (zt' hBw s5.s) p1_0) ?_;rintro _ _ ⟨si,rfl,_⟩;refine Rm z<|R z (ext_ z z)<|R z (ext_ z z)<|Ra z<|Ra z<|Wn<|Ws<|Rm z<|Ra z<|Wn ?_
 obtain rfl:=som hmh;exact Wr<|h_ hr z ⟨bup s5 si,z⟩
def Q21 (w0:World) (B:Zone) (r:(List Str)×Bool) (v:Value) (w':World):Prop:=Bw w0 w'∧un2 (fun J L=>∃ (G:Option Addr) (H I:Nat) (S1:List Nat),v = .tuple #[(sl G H I),(vB L)]∧a_ w' S1 (sl G H I) J∧S1.Nodup∧(∀ k∈S1,w0.heap.size≤k)) r
theorem o_f {w:World} {gp b:Nat} {s:Str} {l0 parts:List Str} (hs:s.b.length≤LEN) (hm:f_m s (47:UInt8)=some l0) (hsl:slc l0 1 (l0.length:Int)=some parts) (hp:Blk w gp [Str.v s]) (hb:b<w.heap.size) (hrow : ∀ g,c_M w b g→g<w.heap.size) :
    SeqStopsK (α:={x:Str // x∈parts∧x.b.length≤LEN}) Fence.wide 1 Tryz.prog 246 [pt gp].toArray (fun x=>#[x.1.v]) (KpS b) (fun xs=>xs.map (·.1)=parts) (fun _=>True) parts.length w:=by
  intro l J Jx W hW hJ hJx hY h0;have hpW:=hp.ext hW
  have hrowW : ∀ g,c_M W b g→g<W.heap.size:=fun g ⟨n,c,h⟩=>by
    have h':w.cell? ⟨b,0,none⟩=some (sl (some ⟨g,0,none⟩) n c):=(World.cell?_of_block (w:=w) (w':=W) (a:=⟨b,0,none⟩)<|hW.block b hb).symm.trans h;exact Nat.lt_of_lt_of_le (hrow g ⟨n,c,h'⟩) hW.size
  have hbW:=Nat.lt_of_lt_of_le hb hW.size
  have hc:m_ Tryz.prog 246 [.func (.yield l) #[] #[],pt gp] W (fun _ W'=>(∃ xs:List {x:Str // x∈parts∧x.b.length≤LEN},xs.map (·.1)=parts∧J xs W')∨(∃ pre,True∧Jx pre W')):=by
    obtain ⟨fn,hf,hbd,hN,hr⟩:=fnE Tryz.func246;refine j_F hf (hbd.trans rfl) (hN.trans rfl) (Nat.le_of_ble_eq_true rfl) ?_;refine b_3<|b_r ?_;refine R rfl (c_t g_9 rfl (fun h=>h)<|hpW.at rfl) ?_;refine E rfl (e_P Tryz.call247 rfl<|W_w2k (B:=W.heap.size) hm zr hs) ?_;rintro _ W1 ⟨s1,a1,n1,c1,S1,rfl,ho,nd,hge⟩;refine RX rfl (q_x a_j z_9 rfl ho rfl rfl hsl) ?_;intro v7 hv7;obtain ⟨ao7,c7,rfl,_⟩:=id hv7;refine R rfl (f_T a_j rfl<|hv7.repS (B:=W1.heap.size)<|fun k hk=>ho.lt k hk) ?_;refine R rfl (b_R rfl) ?_;refine b_4<|WC.of_KC ?_;have hJ1:J [] W1:=hJ [] W W1 none h0 (Below.grows s1) (fun r h=>by cases h);have hb1:b∉S1:=fun h=>absurd (hge b h)<|Nat.not_le.2 hbW
    have hr1 : ∀ g,c_M W1 b g→g∉S1:=fun g ⟨n,c,h⟩ hg=>by
      have h':W.cell? ⟨b,0,none⟩=some (sl (some ⟨g,0,none⟩) n c):=(World.cell?_of_block (w:=W) (w':=W1) (a:=⟨b,0,none⟩)<|s1.block b hbW).symm.trans h;exact absurd (hge g hg)<|Nat.not_le.2<|hrowW g ⟨n,c,h'⟩
    have hlenL:parts.length≤9223372036854775807:=Nat.le_trans (by obtain ⟨_,_,_,_,h,_⟩:=hv7;exact h) P_;refine d_C fun a ha=>?_
    refine Code.wp_mono (Q:=Exit.then noK<|fun ex a w=>(ex = .exit 0∧L_ Tryz.prog fn (fun _ W'=>(∃ xs:List {x:Str // x∈parts∧x.b.length≤LEN},xs.map (·.1)=parts∧J xs W')∨(∃ pre,True∧Jx pre W')) a w)∨(ex = .ret∧L_ Tryz.prog fn (fun _ W'=>(∃ xs:List {x:Str // x∈parts∧x.b.length≤LEN},xs.map (·.1)=parts∧J xs W')∨(∃ pre,True∧Jx pre W')) a w)) (fun ex a' w' q=>?_)<|wp_loop_ghost (fun m a w=>∃ (k:Nat) (pre:List {x:Str // x∈parts∧x.b.length≤LEN}),k+m=parts.length∧pre.map (·.1)=parts.take k∧Sat 18 [(9,vI (k:Int)),(8,vI (parts.length:Int)),(7,sl ao7 parts.length c7),(0,.func (.yield l) #[] #[])] a∧J pre w∧a_ w S1 (sl a1 n1 c1) l0∧(∀ g,c_M w b g→g∉S1)∧d_x w (· ∈ S1) (sl ao7 parts.length c7) parts) parts.length ?_ ?_
    · cases ex with
      | normal=>exact (show False from q).elim
      | exit i =>
        rcases q with ⟨h,q⟩ | ⟨h,_⟩
        · cases h;exact q
        · cases h
      | ret =>
        rcases q with ⟨h,_⟩ | ⟨_,q⟩
        · cases h
        · exact q
      | _=>rcases q with ⟨h,_⟩ | ⟨h,_⟩ <;> cases h
    · exact ⟨0,[],by omega,by simp,ha.weaken<|sc rfl<|sc rfl<|sc rfl<|sc rfl sn,hJ1,ho,hr1,hv7⟩
    · rintro m a w ⟨k,pre,hkm,hpre,hsat,hJw,how,hrw,hvw⟩
      refine g_6 (N:=18) (e:=[(9,vI (k:Int)),(8,vI (parts.length:Int)),(7,sl ao7 parts.length c7),(0,.func (.yield l) #[] #[])]) ?_ hsat;refine b_3<|b_r<|R rfl (g_c rfl rfl)<|b_4<|WC.of_KC ?_;refine b_3<|d_8 rfl (fun hc=>?_)<|fun hc=>?_
      · have hk:k<parts.length:=by simpa using hc
        obtain ⟨m,rfl⟩ : ∃ m',m=m'+1:=⟨m - 1,by omega⟩;refine a_e<|WC.of_KC ?_;refine b_3<|d_C ?_;refine b_3<|b_r ?_;have hrep:=hvw.repS (B:=w.heap.size)<|fun k hk=>how.lt k hk;have hidx:idx parts (k:Int)=some parts[k]:=by rw [k_L];simp [hk]
        refine RX rfl (f_U (α:=Str) a_j z_9 rfl rfl rfl hrep hidx) ?_;rintro _ ⟨bb,oo,cs,rfl,hc1,hrr,hlt⟩;obtain ⟨rfl,hxl⟩:=b_I hrr;refine R rfl (c_t g_9 rfl (fun h=>h)<|hc1.at0 rfl) ?_;refine R rfl (d_o rfl) ?_;refine b_4<|WC.of_KC ?_;refine b_3<|q_q ?_;refine i_F rfl (b_R rfl) ?_;refine i_F rfl (b_R rfl) ?_
        have hpl:pre.length=k:=by
          have:=congrArg List.length hpre
          simp at this;omega
        refine q_r (S:=fun v w'=>(v=vB true∧J (pre++[⟨parts[k],List.getElem_mem hk,hxl⟩]) w'∧KpS b w w')∨(v=vB false∧Jx (pre++[⟨parts[k],List.getElem_mem hk,hxl⟩]) w')) rfl rfl rfl (hY pre ⟨parts[k],List.getElem_mem hk,hxl⟩ w hJw (by omega)) (fun e w' h=>?_) ?_
        · rcases h with ⟨rfl,h⟩ | ⟨rfl,h⟩
          · exact ⟨_,rfl,.inl ⟨rfl,h⟩⟩
          · exact ⟨_,rfl,.inr ⟨rfl,h⟩⟩
        rintro v w' (⟨rfl,hJ',hK⟩ | ⟨rfl,hX⟩)
        · refine i_F rfl (e_o rfl) ?_
          refine m_x<|WC.of_KC ?_;refine d_8 rfl (fun h=>by cases h)<|fun _=>?_;refine a_e<|WC.of_KC ?_;refine b_r<|R rfl (f_P hk hlenL rfl rfl)<|R rfl (b_R rfl) ?_;obtain ⟨ho',hr'⟩:=hK.own how hb1 hrw
          have hv':d_x w' (· ∈ S1) (sl ao7 parts.length c7) parts:=hvw.stay fun g hg=>hK.chg.block g (how.lt g hg) fun hm=>by
            rcases hm with rfl | hm | ⟨o,ho2,hcl⟩
            · exact hb1 hg
            · exact hrw g hm hg
            · obtain ⟨cur,hB⟩:=f_f how g hg
              rw [hB.isCells ho2] at hcl;cases hcl
          refine b_4 fun a' ha'=>⟨m,Nat.lt_succ_self _,k+1,pre++[⟨parts[k],List.getElem_mem hk,hxl⟩],by omega,?_,ha'.weaken<|sc rfl<|sc rfl<|sc rfl<|sc rfl sn,hJ',ho',hr',hv'⟩
          rw [List.map_append,hpre,List.take_add_one,List.getElem?_eq_getElem hk];rfl
        · refine i_F rfl (e_o rfl) ?_
          refine m_x<|WC.of_KC ?_;refine d_8 rfl (fun _=>?_) (fun h=>by cases h);exact d_B<|rtO fun a' ha'=>.inr ⟨rfl,ret0 hr (.inr ⟨_,trivial,hX⟩) a' ha'⟩
      · have hk : ¬ k<parts.length:=by simpa using hc
        have:k=parts.length:=by omega
        subst this;refine f_A fun a' ha'=>.inl ⟨rfl,ret0 hr (.inl ⟨pre,?_,hJw⟩) a' ha'⟩
        rw [hpre,List.take_length]
  refine callsIn_wide.2<|hc.run.mono fun e w' ⟨v,he,h⟩=>⟨⟨v,he⟩,h⟩

theorem l_3 {w0 W W':World} {row:Option Nat} (h:Below w0.heap.size w0 W) (hg:W.grownBy W' row) (hr : ∀ r,row=some r→w0.heap.size≤r):Below w0.heap.size w0 W':=d_I h (k_n hg) fun k hk e=>absurd (hr k e)<|Nat.not_le.2 hk
def o_g (w0:World) (s:Str) (v:Value) (w':World):Prop:=v = .func (.func 246) #[] #[pt w0.heap.size]∧Blk w' w0.heap.size [Str.v s]∧Bw w0 w'
theorem o_h {w0:World} {s:Str}:m_ Tryz.prog 196 [Str.v s] w0 (o_g w0 s):=by
  obtain ⟨_,hf,hb,hN,hr⟩:=fnE Tryz.func196;refine j_F hf (hb.trans rfl) (hN.trans rfl) (Nat.le_of_ble_eq_true rfl) ?_;refine b_3<|b_r ?_;refine E rfl (e_O rfl) ?_;rintro _ G ⟨rfl,h1⟩;refine R rfl (d_o rfl) ?_;refine b_4<|WC.of_KC ?_;refine b_3<|b_r ?_;refine R rfl (k_J rfl) ?_;refine R rfl (d_o rfl) ?_;refine b_4<|WC.of_KC ?_;exact d_B<|h_ hr rfl ⟨rfl,(h1.blk:Blk G w0.heap.size [Str.v s]),h1.below⟩
theorem W_w2m {n:Nat} {B:Zone} {x1:Str} {res:(List Str)×Bool} {w0:World} (hm:i_I n x1=some res) (hBw:B≤w0.heap.size) (p1_0:x1.b.length≤LEN):m_ Tryz.prog 166 [(Str.v x1),.func (.func 167) #[] #[]] w0 (Q21 w0 B res):=by
  unfold i_I at hm
  obtain ⟨fn,hf,hb,hN,hr⟩:=fnE Tryz.func166;refine q_u hf (hb.trans rfl) (hN.trans rfl) (Nat.le_of_ble_eq_true rfl) ?_
  -- the cells
  refine b_3<|b_r ?_;refine E rfl (e_O rfl) ?_;rintro _ w1 ⟨rfl,h1⟩;have b3:Blk w1 w0.heap.size [.func (.func 167) #[] #[]]:=h1.blk;refine E rfl (e_f k_Z) ?_;rintro _ w2 ⟨rfl,h2⟩;have b4:Blk w2 w1.heap.size [.slice none 0 0]:=h2.blk;refine E rfl (e_f zero_4) ?_;rintro _ w3 ⟨rfl,h3⟩;have b5:Blk w3 w2.heap.size [vB false]:=h3.blk;refine b_4<|WC.of_KC ?_;refine b_3<|b_r ?_;refine E rfl (e_U (α:=Str) b_5) ?_;rintro _ w4 ⟨a,m,c,rfl,s4,ho4⟩;refine E rfl (e_f k_Z) ?_;rintro _ w5 ⟨rfl,h5⟩;have b6:Blk w5 w4.heap.size [.slice none 0 0]:=h5.blk;refine E0 (b_N (cur':=[.slice a m c]) e_j rfl rfl b6 rfl (Nat.le_of_ble_eq_true rfl) (c_0 rfl) rfl) ?_;rintro _ w6 ⟨c6,s6⟩;have t6:=s6.one;refine b_4<|WC.of_KC ?_
  -- what is known behind
  have g1:=h1.below;have g2:=h2.below;have g3:=h3.below;have g5:=h5.below;have z1:=h1.size;have z2:=h2.size;have z3:=h3.size;have z5:=h5.size;have z4:=s4.size;have z6:=s6.size
  have hz:w0.heap.size<w1.heap.size∧w1.heap.size<w2.heap.size∧w2.heap.size<w3.heap.size∧w3.heap.size<w4.heap.size∧w4.heap.size<w6.heap.size:=by
    have:=ho4.lt _ List.mem_cons_self
    omega
  have k3:Blk w6 w0.heap.size [.func (.func 167) #[] #[]]:=((((b3.ext g2).ext g3).ext s4).ext g5).chg s6 (by omega);have k4:Blk w6 w1.heap.size [.slice none 0 0]:=(((b4.ext g3).ext s4).ext g5).chg s6 (by omega);have k5:Blk w6 w2.heap.size [vB false]:=((b5.ext s4).ext g5).chg s6 (by omega);have kS:a_ w6 [w3.heap.size] (sl a m c) ([]:List Str):=(ho4.ext g5).chg s6 (fun k hk=>by have:=List.mem_singleton.1 hk;omega);have kB:Below w0.heap.size w0 w6:=d_e (bup (bup (bup (bup g1 g2) g3) s4) g5) t6 (fun k hk=>by have:=List.mem_singleton.1 hk;omega)
  clear b3 b4 b5 b6 ho4 h1 h2 h3 h5 s4 s6 t6 g1 g2 g3 g5 z1 z2 z3 z4 z5 z6
  -- the first look
  refine b_3<|b_3<|b_r ?_;refine R rfl (b_R rfl) ?_;refine R rfl (b_j rfl rfl) ?_;refine b_4<|WC.of_KC ?_;refine d_8 rfl (fun hc=>?_)<|fun hc=>?_
  · obtain rfl:=som (ifT hm hc)
    refine b_3<|b_r ?_;refine R rfl (c_t b_i rfl (fun h=>h)<|c6.at rfl) ?_;refine E0 (b_N (cur':=[.slice a m c]) e_j rfl rfl k4 rfl (Nat.le_of_ble_eq_true rfl) (c_0 rfl) rfl) ?_;rintro _ w7 ⟨c7,s7⟩;refine E0 (b_N (cur':=[vB true]) z_4 rfl rfl (k5.chg s7 (by omega)) rfl (Nat.le_of_ble_eq_true rfl) (c_0 rfl) rfl) ?_;rintro _ w8 ⟨c8,s8⟩;refine b_4<|WC.of_KC ?_;refine d_B fun a' ha'=>retM<|a_5 hr (d_K (n:=1) b_i rfl<|c7.chg s8 (by omega)) (d_K (n:=1) g_4 rfl c8) ⟨d_e (d_e kB s7.one (fun k hk=>by have:=List.mem_singleton.1 hk;omega)) s8.one (fun k hk=>by have:=List.mem_singleton.1 hk;omega),?_⟩ a' ha'
    exact ⟨a,m,c,_,rfl,(kS.chg s7 (fun k hk=>by have:=List.mem_singleton.1 hk;omega)).chg s8 (fun k hk=>by have:=List.mem_singleton.1 hk;omega),(by simp),fun k hk=>by have:=List.mem_singleton.1 hk;omega⟩
  replace hm:=ifF hm hc;refine a_e<|WC.of_KC ?_
  -- the first byte
  refine b_3<|b_3<|b_r ?_;refine R rfl (b_R rfl) ?_;obtain ⟨x13,e13,hm⟩:=bdS hm;refine R rfl (c_a d_9 rfl rfl (a_E e13).1 (a_E e13).2.1) ?_;refine R rfl (g_b rfl rfl) ?_;refine b_4<|WC.of_KC ?_;refine d_8 rfl (fun hc=>?_)<|fun hc=>?_
  · obtain rfl:=som (ifT hm hc)
    refine b_3<|b_r ?_;refine R rfl (c_t b_i rfl (fun h=>h)<|c6.at rfl) ?_;refine E0 (b_N (cur':=[.slice a m c]) e_j rfl rfl k4 rfl (Nat.le_of_ble_eq_true rfl) (c_0 rfl) rfl) ?_;rintro _ w7 ⟨c7,s7⟩;refine E0 (b_N (cur':=[vB false]) z_4 rfl rfl (k5.chg s7 (by omega)) rfl (Nat.le_of_ble_eq_true rfl) (c_0 rfl) rfl) ?_;rintro _ w8 ⟨c8,s8⟩;refine b_4<|WC.of_KC ?_;refine d_B fun a' ha'=>retM<|a_5 hr (d_K (n:=1) b_i rfl<|c7.chg s8 (by omega)) (d_K (n:=1) g_4 rfl c8) ⟨d_e (d_e kB s7.one (fun k hk=>by have:=List.mem_singleton.1 hk;omega)) s8.one (fun k hk=>by have:=List.mem_singleton.1 hk;omega),?_⟩ a' ha'
    exact ⟨a,m,c,_,rfl,(kS.chg s7 (fun k hk=>by have:=List.mem_singleton.1 hk;omega)).chg s8 (fun k hk=>by have:=List.mem_singleton.1 hk;omega),(by simp),fun k hk=>by have:=List.mem_singleton.1 hk;omega⟩
  replace hm:=ifF hm hc;refine a_e<|WC.of_KC ?_;obtain ⟨l0,hsp,hm⟩:=bdS hm;obtain ⟨parts,hsl,hm⟩:=bdS hm;obtain ⟨oks,hok,hm⟩:=bdS hm
  split at hm
  case isFalse=>cases hm
  rename_i hlim
  obtain rfl:=som hm;obtain ⟨hacc,hall⟩:=m_D hok
  -- the loop
  refine b_3<|b_3<|b_r ?_;refine R rfl (b_R rfl) ?_;refine E rfl (e_P Tryz.call196 rfl o_h) ?_;rintro _ w7 ⟨rfl,bp,s7⟩;refine b_4<|WC.of_KC ?_;replace k3:=k3.ext s7;replace k4:=k4.ext s7;replace k5:=k5.ext s7;replace c6:=c6.ext s7;replace kS:=kS.ext s7;replace kB:=bup kB<|s7.mono<|Nat.le_refl _;have z7:=s7.size
  have hrow : ∀ g,c_M w7 w4.heap.size g→g<w7.heap.size:=fun g hg=>by
    have h1:=m_A c6 hg;exact kS.lt _<|(i_G kS).2 g 0 none h1
  generalize w1.heap.size=q4 at *
  generalize w2.heap.size=q5 at *
  generalize w4.heap.size=q6 at *
  refine q_v (α:={x:Str // x∈parts∧x.b.length≤LEN}) (f:=fun x=>x.1) (gf:=246) (lb:=[pt w6.heap.size]) (b:=q6) (M:=parts.length) (S:=fun xs=>xs.map (·.1)=parts) (Sp:=fun _=>True) rfl Tryz.call246 rfl rfl (by omega)
    (o_f p1_0 hsp hsl bp (by omega) hrow)
    (fun pre W=>(∀ x∈pre,(e_D n x.1).getD false=true)∧(∃ (a:Option Addr) (m c:Nat) (S:List Nat),Blk W q6 [.slice a m c]∧a_ W S (sl a m c) (pre.map (·.1))∧S.Nodup∧(∀ k∈S,q5<k∧k ≠ q6))∧Blk W w0.heap.size [.func (.func 167) #[] #[]]∧Blk W q4 [.slice none 0 0]∧Blk W q5 [vB false]∧Below w0.heap.size w0 W)
    (fun pre W=>(∃ x∈pre,(e_D n x.1).getD false=false)∧(∃ (a:Option Addr) (m c:Nat) (S:List Nat),Blk W q4 [.slice a m c]∧a_ W S (sl a m c) ([]:List Str)∧S.Nodup∧(∀ k∈S,w0.heap.size≤k))∧Blk W q5 [vB false]∧Below w0.heap.size w0 W)
    ?_ ?_ ?_ ?_ ?_ ?_
  · rintro pre W W' row ⟨h1,⟨a,m,c,S,h2,h3,h4,h5⟩,h6,h7,h8,h9⟩ hg hr
    have hr':=fun r e=>(hr r e).2
    exact ⟨h1,⟨a,m,c,S,h2.grown hg hr',m_C h3 hg hr',h4,h5⟩,h6.grown hg hr',h7.grown hg hr',h8.grown hg hr',l_3 h9 hg fun r e=>Nat.le_trans (by omega) (hr r e).1⟩
  · rintro pre W W' row ⟨h1,⟨a,m,c,S,h2,h3,h4,h5⟩,h8,h9⟩ hg hr
    have hr':=fun r e=>(hr r e).2
    exact ⟨h1,⟨a,m,c,S,h2.grown hg hr',m_C h3 hg hr',h4,h5⟩,h8.grown hg hr',l_3 h9 hg fun r e=>Nat.le_trans (by omega) (hr r e).1⟩
  · exact ⟨fun x hx=>(by cases hx),⟨a,m,c,_,c6,kS,(by simp),fun k hk=>by have:=List.mem_singleton.1 hk;omega⟩,k3,k4,k5,kB⟩
  · rintro l pre ⟨x,hx,hxl⟩ W ⟨h1,⟨a,m,c,S,h2,h3,h4,h5⟩,h6,h7,h8,h9⟩ hlt
    refine q_p<|k_m<|k_m<|k_l rfl (fun _ _ h=>by cases h.1) ?_;refine R rfl (c_t g_157 rfl (fun h=>h)<|h6.at rfl) ?_;refine R rfl (b_R rfl) ?_;refine E rfl (k_K (caps:=[]) Tryz.call167 rfl rfl<|W_w2l (hacc x hx) zr hxl) ?_;rintro _ W1 ⟨s1,rfl⟩;refine R rfl (e_o rfl) ?_;refine b_4<|WCI.of_KC ?_;have y1:=s1.size;have hq6:=h2.lt;have hw0.heap.size:=h6.lt;have hq4:=h7.lt;have hq5:=h8.lt;refine q_m rfl (fun hc=>?_)<|fun hc=>?_
    · refine k_m (k_l rfl (fun _ _ h=>by cases h.1) ?_)
      refine E rfl (e_U (α:=Str) b_5) ?_;rintro _ W2 ⟨a2,m2,c2,rfl,s2,ho2⟩;refine E0 (b_N (cur':=[.slice a2 m2 c2]) e_j rfl rfl ((h7.ext s1).ext s2) rfl (Nat.le_of_ble_eq_true rfl) (c_0 rfl) rfl) ?_;rintro _ W3 ⟨c3,s3⟩;refine E0 (b_N (cur':=[vB false]) z_4 rfl rfl (((h8.ext s1).ext s2).chg s3 (by omega)) rfl (Nat.le_of_ble_eq_true rfl) (c_0 rfl) rfl) ?_;rintro _ W4 ⟨c4,s4⟩;refine b_4<|WCI.of_KC ?_;have hW:Below W.heap.size W W2:=bup s1 s2
      have hc4:Chg (fun k=>k=q4∨k=q5) W W4:=by
        have e1:Chg (fun k=>k=q4∨k=q5) W W2:=(Chg.refl _ W).ext hW;refine (e1.comp s3 fun k _ hk=>.inl hk).comp s4 fun k _ hk=>.inr hk
      refine q_o fun a' ha'=>⟨rfl,m_B hc4 fun k _ hk=>?_,⟨⟨x,hx,hxl⟩,by simp,by simpa using hc⟩,⟨a2,m2,c2,_,c3.chg s4 (by omega),(ho2.chg s3 fun k hk=>by have:=List.mem_singleton.1 hk;omega).chg s4 fun k hk=>by have:=List.mem_singleton.1 hk;omega,(by simp),fun k hk=>by have:=List.mem_singleton.1 hk;omega⟩,c4,?_⟩
      · rcases hk with rfl | rfl
        · exact ⟨_,h7⟩
        · exact ⟨_,h8⟩
      · exact d_I h9 hc4 fun k hk hm=>by rcases hm with rfl | rfl <;> omega
    · refine q_n (WCI.of_KC ?_)
      refine k_l rfl (fun _ _ h=>by cases h.1) ?_
      have hpsh:psh (pre.map (·.1)) x=some (pre.map (·.1)++[x]):=by
        unfold psh
        rw [if_pos (by rw [List.length_map];omega)]
      refine R rfl (c_t b_i rfl (fun h=>h)<|(h2.ext s1).at rfl) ?_;refine R rfl (b_R rfl) ?_;refine E rfl (f_M [(.tmp 25)] b_5 rfl rfl rfl (a_b rfl) (Nat.le_of_ble_eq_true rfl)<|Nat.le_of_ble_eq_true rfl) ?_;rintro _ W2 ⟨rfl,hb⟩;have s2:=hb.below;have y2:=s2.size;refine E rfl (b_0 (α:=Str) b_5 hpsh rfl rfl ((h3.ext s1).ext s2) h4 hb.blk (c_m hxl) d_d J_) ?_;rintro _ W3 ⟨S',a',n',c',rfl,s3,ho3,nd3,hs3⟩;have y3:=s3.size
      have n3 : ∀ k,k<W.heap.size→k≤q5∨k=q6→k∉S':=fun k hk hq hm=>by
        rcases hs3 k hm with h | h | h
        · have:=h5 k h;omega
        · cases h
        · omega
      refine E0 (b_N (cur':=[.slice a' n' c']) e_j rfl rfl (((h2.ext s1).ext s2).chg s3 (fun hm=>(h5 _ hm).2 rfl)) rfl (Nat.le_of_ble_eq_true rfl) (c_0 rfl) rfl) ?_;rintro _ W4 ⟨c4,s4⟩;have hW:Below W.heap.size W W2:=bup s1 s2
      have hc4:Chg (fun k=>k=q6∨k∈S) W W4:=by
        have e1:Chg (fun k=>k=q6∨k∈S) W W2:=(Chg.refl _ W).ext hW;refine (e1.comp s3 fun k _ hk=>.inr hk).comp s4 fun k _ hk=>.inl hk
      have ho4:a_ W4 S' (sl a' n' c') (pre.map (·.1)++[x]):=ho3.chg s4 fun k hk he=>n3 q6 hq6 (.inr rfl)<|he ▸ hk
      have hs4 : ∀ k∈S',k∈S∨W.heap.size≤k:=fun k hk=>by
        rcases hs3 k hk with h | h | h
        · exact .inl h
        · cases h
        · exact .inr (by omega)
      have k4 : ∀ k,k≤q5 → ¬ (k=q6∨k∈S):=fun k hk hm=>by
        rcases hm with rfl | hm
        · omega
        · have:=h5 k hm;omega
      refine b_4 fun a'' ha''=>⟨m_B hc4 fun k _ hk=>?_,KpS.of_chg h2 h3 c4 ho4 hs4 hc4,fun y hy=>?_,⟨a',n',c',S',c4,by simpa using ho4,nd3,fun k hk=>?_⟩,h6.chg hc4<|k4 _ (by omega),h7.chg hc4<|k4 _ (by omega),h8.chg hc4<|k4 _ (by omega),d_I h9 hc4 fun k hk hm=>k4 k (by omega) hm⟩
      · rcases hk with rfl | hk
        · exact ⟨_,h2⟩
        · exact f_f h3 k hk
      · rcases List.mem_append.1 hy with hy | hy
        · exact h1 y hy
        · obtain rfl:=List.mem_singleton.1 hy
          simpa using hc
      · rcases hs4 k hk with h | h
        · exact h5 k h
        · omega
  · rintro D xs W hD hxs ⟨h1,⟨a,m,c,S,h2,h3,h4,h5⟩,h6,h7,h8,h9⟩ hdef a0 ha0
    have hw0.heap.size:=h6.lt;have hq4:=h7.lt;have hq5:=h8.lt;refine tailD ?_ ha0;refine R rfl (c_t b_i rfl (fun h=>h)<|h2.at rfl) ?_;refine E0 (b_N (cur':=[.slice a m c]) e_j rfl rfl h7 rfl (Nat.le_of_ble_eq_true rfl) (c_0 rfl) rfl) ?_;rintro _ W1 ⟨c7,s7⟩;refine E0 (b_N (cur':=[vB true]) z_4 rfl rfl (h8.chg s7 (by omega)) rfl (Nat.le_of_ble_eq_true rfl) (c_0 rfl) rfl) ?_;rintro _ W2 ⟨c8,s8⟩;have hDlt:=(Array.getElem?_eq_some_iff.1 hdef).1;have hdef2:W2.heap[D]? = some (.deferred<|some []):=((s8.block D (Nat.lt_of_lt_of_le hDlt s7.size) (by omega)).trans (s7.block D hDlt (by omega))).trans hdef
    have hDS : ∀ k∈S,k ≠ D:=fun k hk e=>by
      obtain ⟨cur,hB⟩:=f_f h3 k hk;have:=(e ▸ hB).isCells hdef
      cases this
    have hoks:oks.all id=true:=hall.2 fun y hy=>by
      rw [← hxs] at hy
      obtain ⟨z,hz,rfl⟩:=List.mem_map.1 hy;exact h1 z hz
    rw [if_pos hoks]
    refine b_4 fun a' ha'=>⟨ha'.defers,hdef2,?_⟩
    have hp:=m_y W2 D<|.deferred none;obtain ⟨_,v,e1,e2⟩:=a_5 (R:=Q21 w0 B (parts,true)) hr (d_K (n:=1) b_i rfl<|(c7.chg s8 (by omega)).chg hp (by omega)) (d_K (n:=1) g_4 rfl<|c8.chg hp (by omega)) ⟨d_I (d_I (d_I h9 s7 fun k hk e=>by omega) s8 fun k hk e=>by omega) hp fun k hk e=>by omega,a,m,c,S,rfl,((hxs ▸ h3).chg s7 fun k hk e=>by have:=h5 k hk;omega).chg s8 (fun k hk e=>by have:=h5 k hk;omega) |>.chg hp fun k hk e=>hDS k hk e,h4,fun k hk=>by have:=h5 k hk;omega⟩ a' ha';exact ⟨v,e1,e2⟩
  · rintro D pre W hD _ ⟨⟨⟨x,hx,hxl⟩,hxm,hxb⟩,⟨a,m,c,S,h2,h3,h4,h5⟩,h8,h9⟩ hdef a0 ha0
    have hq4:=h2.lt;have hq5:=h8.lt
    have hDS : ∀ k∈S,k ≠ D:=fun k hk e=>by
      obtain ⟨cur,hB⟩:=f_f h3 k hk;have:=(e ▸ hB).isCells hdef
      cases this
    have hoks : ¬ oks.all id=true:=fun h=>by
      have:=hall.1 h x hx
      rw [this] at hxb;cases hxb
    rw [if_neg hoks]
    have hp:=m_y W D<|.deferred none;obtain ⟨_,v,e1,e2⟩:=a_5 (R:=Q21 w0 B ([],false)) hr (d_K (n:=1) b_i rfl<|h2.chg hp (by omega)) (d_K (n:=1) g_4 rfl<|h8.chg hp (by omega)) ⟨d_I h9 hp fun k hk e=>by omega,a,m,c,S,rfl,h3.chg hp fun k hk e=>hDS k hk e,h4,h5⟩ a0 ha0;exact retD ha0.defers hdef e1 e2
def Q22 (w0:World) (B:Zone) (r:(List Str)×Bool) (v:Value) (w':World):Prop:=Bw w0 w'∧un2 (fun J L=>∃ G H I S1,v = .tuple #[sl G H I,vB L]∧a_ w' S1 (sl G H I) J∧S1.Nodup∧(∀ k∈S1,w0.z≤k)) r
theorem W_w2n {x1:Str} {res:(List Str)×Bool} (hm:g_K n x1=some res) (hBw:B≤w0.z) (p1_0:x1.b.length≤LEN):m_ prog 115 [Str.v x1] w0 (Q22 w0 B res):=by
 unfold g_K at hm
 refine goF func115 z z (lb z) fun fn hr=>Ws<|Ra z<|Ra z<|Wn<|Ws<|Rm z ?_
 obtain ⟨_,_,H,G⟩:=a_c hm;refine E z (fc call166 z<|W_w2m (B:=B) H hBw p1_0) ?_;rintro _ _ ⟨s2,I,J,L,O,rfl,V,W,Y⟩;refine R z (ext_ z z)<|R z (ext_ z z)<|Ra z<|Ra z<|Wn ?_
 obtain rfl:=som G;exact Wr<|a_5 hr z z ⟨s2,I,J,L,O,z,V,W,Y⟩
theorem d_O {x1:Int} {x2:Int} {x3:Int} {res:Bool} (hm:c_k x1 x2 x3=some res) (hBw:B≤w0.z) (p1_0:inI x1) (p2_0:inI x2) (p3_0:inI x3):m_ prog 168 [vI x1,vI x2,vI x3] w0 (Q0 w0 B res):=by
 unfold c_k at hm
 refine goF func168 z z (lb z) fun fn hr=>Ws<|Ra z<|Wn<|Wq ?_
 obtain ⟨J,H,I⟩:=bdS hm;refine Wt (fun a w=>∃ (x4:Bool),x4=J∧Sat 15 [(6,vB x4)] a∧Below w0.z w0 w) ?_ ?_
 ·refine Wg<|Rm z<|Rm z<|R z (b_S z z)<|Rm z ?_
  rcases bs (decide<|x2≤x1) with G | G
  ·exact Rh z G (mv z)<|Rh z G (mv z)<|Rh z G (b_S z z)<|R z (pT z G z)<|Ra z<|Wl (fun _ q=>⟨decide<|x1≤x3,som<|ifT H G,q.k<|s1 z,br w0⟩)
  iterate 3 refine Nh z G ?_
  exact R z (pF z G z)<|Ra z<|Wl (fun _ q=>⟨false,som<|ifF H G,q.k<|s1 z,br w0⟩)
 rintro L _ ⟨x4,rfl,_,s6⟩;revert L;refine Wo ?_;obtain rfl:=som I;exact Wr<|h_ hr z ⟨s6,z⟩
theorem j_l {x1:f_} {x2:Int} {res:Bool} (hm:e_5 x1 x2=some res) (hBw:B≤w0.z) (p1_0:repS w0 B (sl A0 N0 C0) x1.rules) (p2_0:inI x2):m_ prog 199 [(.agg #[sl A0 N0 C0]),vI x2] w0 (Q0 w0 B res):=by
 unfold e_5 at hm
 refine goF func199 z z (lb z) fun fn hr=>Ws<|E z (fb z) ?_
 rintro _ H ⟨rfl,h2⟩;have h4:=h2.below;refine Ra z<|Wn<|Wq ?_
 obtain ⟨L,I,J⟩:=bdS hm;refine Wt (fun a w=>∃ (x3:Bool),x3=L∧Sat 14 [(4,vB x3)] a∧Below H.z H w) ?_ ?_
 ·refine Wg<|Rm z<|R z (b_e z z)<|Rm z ?_
  rcases bs (decide<|0≤x2) with G | G
  ·exact Rh z G (mv z)<|Rh z G (fd a_4 z)<|Rh z G (l1 a_6 z fid<|(h2.blk:Blk H w0.z [sl A0 N0 C0]).at z)<|Rh z G (lnR a_7 z<|p1_0.e h4)<|Rh z G (lss z z)<|R z (pT z G z)<|Ra z<|Wl (fun _ q=>⟨decide<|x2<(x1.rules.length:Int),som<|ifT I G,q.k<|s1 z,br H⟩)
  iterate 5 refine Nh z G ?_
  exact R z (pF z G z)<|Ra z<|Wl (fun _ q=>⟨false,som<|ifF I G,q.k<|s1 z,br H⟩)
 rintro O _ ⟨x3,rfl,_,sa⟩;revert O;refine Wo ?_;obtain rfl:=som J;exact Wr<|h_ hr z ⟨bup h4 sa,z⟩
theorem d_n {x1:e_} {x2:Bool} {x3:Bool} {x4:Bool} {x5:Bool} {x6:Int} {res:Bool} (hm:c_l x1 x2 x3 x4 x5 x6=some res) (hBw:B≤w0.z) (p1_0:x1.name.b.length≤LEN) (p1_1:inI x1.kind) (p1_2:inI x1.size) (a0:repS w0 B (sl A9 N9 C9) x1.bytes) (a1:repS w0 B (sl A8 N8 C8) x1.names) (a2:repS w0 B (sl AA NA CA) x1.tags) (a3:repS w0 B (sl AB NB CB) x1.kids) (p6_0:inI x6):m_ prog 248 [(.agg #[Str.v x1.name,vI x1.kind,vI x1.size,vB x1.little,sl A9 N9 C9,sl A8 N8 C8,sl AA NA CA,sl AB NB CB]),vB x2,vB x3,vB x4,vB x5,vI x6] w0 (Q0 w0 B res):=by
 unfold c_l at hm
 refine goF func248 z z (lb z) fun fn hr=>Ws<|E z (fb z) ?_
 rintro _ w9 ⟨rfl,hd⟩;have ha:=hd.below;have hb:Blk w9 w0.z (vR x1 A9 N9 C9 A8 N8 C8 AA NA CA AB NB CB):=hd.blk;refine Ra z<|Wn<|Wq ?_
 obtain ⟨ur,hus,hmt⟩:=bdS hm;refine Wt (fun a w=>∃ (xc:Bool),xc=ur∧Sat 57 [(12,vB xc)] a∧Below w9.z w9 w) ?_ ?_
 ·refine Wg<|Rm z<|Rm z ?_
  obtain ⟨ue,huf,hmu⟩:=bdS hus;refine d_a 18 ue 4 ?_ ?_
  ·rcases bs x2 with Y | Y
   ·iterate 3 refine Nh z Y ?_
    exact R z (pT z Y z)<|WLq 4 (ifT huf Y) z z z
   exact Rh z Y (fd a_K z)<|Rh z Y (l1 g_3 z fid<|hb.at z)<|Rh z Y (eql z z)<|R z (pF z Y z)<|WLq 4 (ifF huf Y) z z z
  refine Rm z ?_;obtain ⟨ug,huh,hmv⟩:=bdS hmu;refine d_a 27 ug 8 ?_ ?_
  ·rcases bs ue with G | G
   ·have hmi:=ifT huh G;refine Rh z G (mv z)<|Rh z G (mv z) ?_
    rcases bs x3 with O | O
    ·iterate 4 refine Nh z O ?_
     exact Rh z G (pT z O z)<|R z (pT z G z)<|WLq 8 (ifT hmi O) z z z
    exact Rh z O (fd a_W z)<|Rh z O (l1 X_ z fid<|hb.at z)<|Rh z O (lnR n_ z<|a0.e ha)<|Rh z O (eql z z)<|Rh z G (pF z O z)<|R z (pT z G z)<|WLq 8 (ifF hmi O) z z z
   exact Nh z G<|Nh z G<|Nv z<|Nv z<|Nv z<|Nv z<|Nh z G<|R z (pF z G z)<|WLq 8 (ifF huh G) z z z
  refine Rm z ?_;obtain ⟨uj,huk,hmw⟩:=bdS hmv;refine d_a 36 uj 8 ?_ ?_
  ·rcases bs ug with H | H
   ·have hml:=ifT huk H;refine Rh z H (mv z)<|Rh z H (mv z) ?_
    rcases bs x4 with V | V
    ·iterate 4 refine Nh z V ?_
     exact Rh z H (pT z V z)<|R z (pT z H z)<|WLq 8 (ifT hml V) z z z
    exact Rh z V (fd c_8 z)<|Rh z V (l1 b_i z fid<|hb.at z)<|Rh z V (lnR a_j z<|a1.e ha)<|Rh z V (eql z z)<|Rh z H (pF z V z)<|R z (pT z H z)<|WLq 8 (ifF hml V) z z z
   exact Nh z H<|Nh z H<|Nv z<|Nv z<|Nv z<|Nv z<|Nh z H<|R z (pF z H z)<|WLq 8 (ifF huk H) z z z
  refine Rm z ?_;obtain ⟨um,hun,hmo⟩:=bdS hmw;refine d_a 45 um 8 ?_ ?_
  ·rcases bs uj with I | I
   ·have hmp:=ifT hun I;refine Rh z I (mv z)<|Rh z I (mv z) ?_
    rcases bs x5 with W | W
    ·iterate 4 refine Nh z W ?_
     exact Rh z I (pT z W z)<|R z (pT z I z)<|WLq 8 (ifT hmp W) z z z
    exact Rh z W (fd b_1 z)<|Rh z W (l1 C_ z fid<|hb.at z)<|Rh z W (lnR w_ z<|a2.e ha)<|Rh z W (eql z z)<|Rh z I (pF z W z)<|R z (pT z I z)<|WLq 8 (ifF hmp W) z z z
   exact Nh z I<|Nh z I<|Nv z<|Nv z<|Nv z<|Nv z<|Nh z I<|R z (pF z I z)<|WLq 8 (ifF hun I) z z z
  refine Rm z ?_
  rcases bs um with J | J
  ·have hmq:=ifT hmo J;refine Rh z J (mv z)<|Rh z J (lss z z)<|Rh z J (mv z) ?_
   rcases bs (decide<|x6<0) with L | L
   ·iterate 5 refine Nh z L ?_
    exact Rh z J (pT z L z)<|R z (pT z J z)<|Ra z<|Wl (fun _ q=>⟨true,som<|ifT hmq L,q.k<|s1 z,br w9⟩)
   exact Rh z L (fd N_ z)<|Rh z L (l1 C_ z fid<|hb.at z)<|Rh z L (lnR w_ z<|a3.e ha)<|Rh z L (mv z)<|Rh z L (eql z z)<|Rh z J (pF z L z)<|R z (pT z J z)<|Ra z<|Wl (fun _ q=>⟨(x1.kids.length:Int)==x6,som<|ifF hmq L,q.k<|s1 z,br w9⟩)
  iterate 3 refine Nh z J ?_
  exact Nv z<|Nv z<|Nv z<|Nv z<|Nv z<|Nh z J<|R z (pF z J z)<|Ra z<|Wl (fun _ q=>⟨false,som<|ifF hmo J,q.k<|s1 z,br w9⟩)
 rintro ax _ ⟨xc,rfl,_,sy⟩;revert ax;refine Wo ?_;obtain rfl:=som hmt;exact Wr<|h_ hr z ⟨bup ha sy,z⟩
theorem j_m {x1:f_} {x2:Int} {res:Int} (hm:e_E x1 x2=some res) (hBw:B≤w0.z) (p1_0:repS w0 B (sl A0 N0 C0) x1.rules) (p2_0:inI x2):m_ prog 249 [(.agg #[sl A0 N0 C0]),vI x2] w0 (Q9 w0 B res):=by
 unfold e_E at hm
 refine goF func249 z z (lb z) fun fn hr=>Ws<|E z (fb z) ?_
 rintro _ J ⟨rfl,O⟩;have h2:=O.below;have h6:Blk J w0.z [sl A0 N0 C0]:=O.blk;refine Ra z<|Wn<|Wq<|Wq ?_
 obtain ⟨uf,hug,hma⟩:=bdS hm;refine Wt (fun a w=>∃ (L:Bool),L=uf∧Sat 37 [(1,vI x2),(2,pt w0.z),(27,vB L)] a∧Below J.z J w) ?_ ?_
 ·refine Wg<|R z (lN (vs:=[sl A0 N0 C0]) v_ s_ z z fid<|h6.row 0 1 z)<|Rm z ?_
  obtain ⟨rh,ei,hmb⟩:=bdS hug;refine E z (fc call199 z<|j_l (B:=B) ei (zt' hBw h2.s) (p1_0.e h2) p2_0) ?_;rintro _ _ ⟨s4,rfl⟩;refine R z (not_ z)<|Rm z ?_
  rcases bs (!rh) with H | H
  ·iterate 7 refine Nh z H ?_
   exact R z (pT z H z)<|Rm z<|Nh z z<|Nh z z<|Nh z z<|Nh z z<|Nh z z<|Nh z z<|Nh z z<|Nh z z<|R z (pT z z z)<|Wl (fun _ q=>⟨true,som<|ifT hmb H,q.k<|s3 z z z,s4⟩)
  refine Rh z H (fd a_4 z) ?_;have hc:=h6.e s4;refine Rh z H (l1 a_6 z fid<|hc.at z)<|Rh z H (mv z) ?_
  obtain ⟨xj,ek,hmd⟩:=bdS<|ifF hmb H;have he:=p1_0.g<|(h2.ag B).e s4
  refine RXg z z H z (at_ (α:=e_) a_7 o_ z z z he ek) ?_;rintro _ ⟨_,_,_,rfl,hl,hn,_⟩;obtain ⟨_,_,_,_,_,_,_,_,_,_,_,_,rfl,_,_,_,_,_,_,_⟩:=a_P hn;refine Rh z H (fd a_C z)<|Rh z H (l1 g_3 z fid<|hl.at (j:=1) z)<|Rh z H (nq z z)<|R z (pF z H z)<|Rm z ?_
  rcases bs (xj.kind != 1) with G | G
  ·iterate 8 refine Nh z G ?_
   exact R z (pT z G z)<|Wl (fun _ q=>⟨true,som<|ifT hmd G,q.k<|s3 z z z,s4⟩)
  refine Rh z G (fd a_4 z)<|Rh z G (l1 a_6 z fid<|hc.at z)<|Rh z G (mv z) ?_
  obtain ⟨_,em,hmo⟩:=bdS<|ifF hmd G;refine RXg z z G z (at_ (α:=e_) a_7 o_ z z z he em) ?_;rintro _ ⟨_,_,_,rfl,hp,hq,_⟩;obtain ⟨_,_,_,_,_,_,_,_,_,_,_,_,rfl,_,_,ht,_,_,_,_⟩:=a_P hq;refine Rh z G (fd a_K z)<|Rh z G (l1 g_3 z fid<|hp.at (j:=2) z) ?_
  obtain ⟨rr,es,hmu⟩:=bdS hmo;refine Eg z z G z (fc call168 z<|d_O (B:=B) es (zt' hBw<|lt_ h2.s s4.s) ht (ii z)<|ii z) ?_;rintro _ _ ⟨sv,rfl⟩;exact Rh z G (not_ z)<|R z (pF z G z)<|Wl (fun _ q=>⟨!rr,som hmu,q.k<|s3 z z z,bup s4 sv⟩)
 rintro aw _ ⟨L,rfl,_,s5⟩;revert aw;refine Wo<|Wc z (fun I=>?_) (fun I=>?_)
 ·refine Ws<|Ra z<|Wn ?_
  obtain rfl:=som<|ifT hma I;exact Wr<|h_ hr z ⟨bup h2 s5,z,ii z⟩
 refine Wk<|Ws<|R z (fd a_4 z)<|R z (l1 a_6 z fid<|(h6.e s5).at z)<|Rm z ?_
 obtain ⟨_,ex,hmy⟩:=bdS<|ifF hma I;refine RX z (at_ (α:=e_) a_7 o_ z z z (p1_0.g<|(h2.ag B).e s5) ex) ?_;rintro _ ⟨_,_,_,rfl,hz,W,_⟩;obtain ⟨_,_,_,_,_,_,_,_,_,_,_,_,rfl,_,_,_,_,_,_,_⟩:=a_P W;refine R z (fd a_K z)<|R z (l1 g_3 z fid<|hz.at (j:=2) z)<|R z (c_E z z) ?_
 obtain ⟨_,Y,V⟩:=bdS hmy;refine R z (i_9 z z<|nnS Y)<|R z (sb_ z z)<|Ra z<|Wn ?_
 obtain rfl:=som V;exact Wr<|h_ hr z ⟨bup h2 s5,z,iS _ _⟩
theorem W_w1h {x1:List Str} {x2:Str} {res:Bool} (hm:e_F x1 x2=some res) (hBw:B≤w0.z) (p1_0:repS w0 B (sl A0 N0 C0) x1) (p2_0:x2.b.length≤LEN):m_ prog 202 [sl A0 N0 C0,Str.v x2] w0 (Q0 w0 B res):=by
 unfold e_F at hm
 refine goF func202 z z (lb z) fun fn hr=>Ws<|Ra z<|Wn<|Wq<|Ws<|Rm z<|R z (lnR a_j z p1_0)<|Rm z<|Wn ?_
 obtain ⟨_,O,I⟩:=bdS hm;refine Wf (σ:=Unit) (ρ:=Bool) (fun (k3:Nat) (_:Unit) a w=>Sat 17 [(1,Str.v x2),(7,sl A0 N0 C0),(8,vI (x1.length:Int)),(9,vI ((k3:Nat):Int))] a∧Below w0.z w0 w) (fun (_:Unit) a w=>Sat 17 [] a∧Below w0.z w0 w) (fun r ex a w=>ex = .ret∧L_ prog fn (Q0 w0 B r) a w) O ?_ ?_ ?_ ?_ ?_
 ·exact fun _ q=>⟨q.k<|s4 z z z z,br w0⟩
 ·rintro k3 _ _ _ _ J ⟨V,H⟩ W;refine Wu ?_ V;refine Ws<|R z (lss z z)<|Wn<|Wq<|Wc z (fun _=>?_) (fun hc=>(a_h J hc).elim)
  refine Wk<|Wq<|Wb<|Ws ?_
  obtain ⟨_,Y,L⟩:=bdS W;refine RX z (at_ (α:=Str) a_j z_9 z z z (p1_0.e H) Y) ?_;rintro _ ⟨_,_,_,rfl,ha,hb,_⟩;obtain ⟨rfl,_⟩:=b_I hb;refine R z (l1 g_9 z fid<|ha.at0 z)<|Ra z<|Wn<|Ws<|Rm z<|Rm z<|R z (b_j z z)<|Wn<|Wc z (fun G=>?_) (fun G=>?_)
  ·exact Ws<|Ra z<|Wn<|Wr<|rtO<|qL (som<|ifT L G).symm<|h_ hr z ⟨H,z⟩
  exact Wk<|Wg<|R z (inc_ J (lt_ (repS.len p1_0) P_) z z)<|Rm z<|Wl (fun _ q=>⟨(),(som<|ifF L G).symm,⟨q.k<|s4 z z z z,H⟩⟩)
 ·rintro _ _ _ ⟨hSc,sd⟩;refine Wu ?_ hSc;refine Ws<|R z (lss z z)<|Wn<|Wq<|Wc z (fun hc=>(a_i hc).elim) (fun _=>?_)
  exact We<|fun a' ha'=>⟨rfl,⟨Sat.weaken ha' sn,sd⟩⟩
 ·rintro _ ae _ rfl ⟨_,sf⟩;have hmg:=elL I;revert ae;refine Wo<|Ws<|Ra z<|Wn ?_
  obtain rfl:=som hmg;exact Wr<|h_ hr z ⟨sf,z⟩
 rintro _ _ _ _ rfl ⟨rfl,hqh⟩;have hmi:=elR I;obtain rfl:=som hmi;exact ⟨hqh,z⟩
theorem W_w2o {x1:e_} {res:Bool} (hm:g_L n x1=some res) (hBw:B≤w0.z) (p1_0:x1.name.b.length≤LEN) (p1_1:inI x1.kind) (p1_2:inI x1.size) (W:repS w0 B (sl A9 N9 C9) x1.bytes) (J:repS w0 B (sl A8 N8 C8) x1.names) (Y:repS w0 B (sl AA NA CA) x1.tags) (V:repS w0 B (sl AB NB CB) x1.kids):m_ prog 250 [(.agg #[Str.v x1.name,vI x1.kind,vI x1.size,vB x1.little,sl A9 N9 C9,sl A8 N8 C8,sl AA NA CA,sl AB NB CB])] w0 (Q0 w0 B res):=by
 unfold g_L at hm
 refine goF func250 z z (lb z) fun fn hr=>Ws<|E z (fb z) ?_
 rintro _ O ⟨rfl,hi⟩;have h1:=hi.below;have ha:Blk O w0.z (vR x1 A9 N9 C9 A8 N8 C8 AA NA CA AB NB CB):=hi.blk;refine Ra z<|Wn<|Wq<|Wq ?_
 obtain ⟨uy,huz,hmj⟩:=bdS hm;refine Wt (fun a w=>∃ (xb:Bool),xb=uy∧Sat 44 [(1,pt w0.z),(23,vB xb)] a∧Below O.z O w) ?_ ?_
 ·refine Wg<|R z (lN (vs:=vR x1 A9 N9 C9 A8 N8 C8 AA NA CA AB NB CB) I_ o_ z z fid<|ha.row 0 8 z) ?_
  obtain ⟨ad,ae,hmk⟩:=bdS huz;refine E z (fc call248 z<|d_n (B:=B) ae (zt' hBw h1.s) p1_0 p1_1 p1_2 (W.e h1) (J.e h1) (Y.e h1) (V.e h1)<|ii z) ?_;rintro _ _ ⟨s6,rfl⟩;refine R z (not_ z)<|Rm z ?_
  rcases bs (!ad) with G | G
  ·iterate 7 refine Nh z G ?_
   exact R z (pT z G z)<|Rm z<|Nh z z<|Nh z z<|Nh z z<|Nh z z<|Nh z z<|R z (pT z z z)<|Wl (fun _ q=>⟨true,som<|ifT hmk G,q.k<|s2 z z,s6⟩)
  have hml:=ifF hmk G;refine Rh z G (fd N_ z) ?_;have hd:=ha.e s6;refine Rh z G (l1 C_ z fid<|hd.at z) ?_;have hn:=(h1.ag B).e s6;have he:=V.g hn;refine Rh z G (lnR w_ z he)<|Rh z G (fd c_8 z)<|Rh z G (l1 b_i z fid<|hd.at z)<|Rh z G (lnR a_j z<|J.g hn)<|Rh z G (nq z z)<|R z (pF z G z)<|Rm z ?_
  rcases bs ((x1.kids.length:Int) != (x1.names.length:Int)) with I | I
  ·iterate 5 refine Nh z I ?_
   exact R z (pT z I z)<|Wl (fun _ q=>⟨true,som<|ifT hml I,q.k<|s2 z z,s6⟩)
  refine Rh z I (fd N_ z)<|Rh z I (l1 C_ z fid<|hd.at z)<|Rh z I (lnR w_ z he) ?_
  obtain ⟨af,ah,a0⟩:=bdS<|ifF hml I;refine Eg z z I z (fc call168 z<|d_O (B:=B) ah (zt' hBw<|lt_ h1.s s6.s) (a_U<|repS.len he) (ii z)<|ii z) ?_;rintro _ _ ⟨ai,rfl⟩;exact Rh z I (not_ z)<|R z (pF z I z)<|Wl (fun _ q=>⟨!af,som a0,q.k<|s2 z z,bup s6 ai⟩)
 rintro aj L ⟨xb,rfl,_,s7⟩;revert aj;refine Wo<|Wc z (fun hcc=>?_) (fun hcc=>?_)
 ·refine Ws<|Ra z<|Wn ?_
  obtain rfl:=som<|ifT hmj hcc;exact Wr<|h_ hr z ⟨bup h1 s7,z⟩
 refine Wk<|Wq<|Ws<|R z (fd c_8 z) ?_
 have ho:=ha.e s7;refine R z (l1 b_i z fid<|ho.at z) ?_;have hp:=(h1.ag B).e s7;refine R z (lnR a_j z<|J.g hp)<|Rm z<|Wn ?_
 obtain ⟨_,a1,hmm⟩:=bdS<|ifF hmj hcc;refine Wf (σ:=Unit) (ρ:=Bool) (fun (kf:Nat) (_:Unit) a w=>Sat 44 [(1,pt w0.z),(25,sl A8 N8 C8),(26,vI (x1.names.length:Int)),(27,vI ((kf:Nat):Int))] a∧Below L.z L w) (fun (_:Unit) a w=>Sat 44 [] a∧Below L.z L w) (fun r ex a w=>ex = .ret∧L_ prog fn (Q0 w0 B r) a w) a1 ?_ ?_ ?_ ?_ ?_
 ·exact fun _ q=>⟨q.k<|s4 z z z z,br L⟩
 ·rintro kf _ _ wq _ hkr ⟨a2,s8⟩ a3;refine Wu ?_ a2;refine Ws<|R z (lss z z)<|Wn<|Wq<|Wc z (fun _=>?_) (fun hc=>(a_h hkr hc).elim)
  refine Wk<|Wq<|Wb<|Ws<|Rm z ?_
  obtain ⟨_,ak,a4⟩:=bdS a3;have ht:=hp.e s8;refine RX z (at_ (α:=Str) a_j z_9 z z z (J.g ht) ak) ?_;rintro _ ⟨_,_,_,rfl,al,am,_⟩;obtain ⟨rfl,hu⟩:=b_I am;refine R z (l1 g_9 z fid<|al.at0 z)<|Ra z<|Ra z<|Wn<|Wq ?_
  obtain ⟨an,a5,hms⟩:=bdS a4;refine Wt (fun a w=>∃ (xg:Bool),xg=an∧Sat 44 [(1,pt w0.z),(25,sl A8 N8 C8),(26,vI (x1.names.length:Int)),(27,vI ((kf:Nat):Int)),(42,vB xg)] a∧Below wq.z wq w) ?_ ?_
  ·refine Wg<|Rm z ?_
   have hv:=lt_ (lt_ h1.s s7.s) s8.s;obtain ⟨ao,ap,hmw⟩:=bdS a5;refine E z (fc call197 z<|j_k (B:=B) ap (zt' hBw hv) hu) ?_;rintro _ _ ⟨s9,rfl⟩;refine R z (not_ z)<|Rm z ?_
   rcases bs (!ao) with H | H
   ·iterate 6 refine Nh z H ?_
    exact R z (pT z H z)<|Wl (fun _ q=>⟨true,som<|ifT hmw H,q.k<|s5 z z z z z,s9⟩)
   refine Rh z H (fd c_8 z)<|Rh z H (l1 b_i z fid<|((ho.e s8).e s9).at z)<|Rh z H (mv z) ?_
   obtain ⟨_,aq,a6⟩:=bdS<|ifF hmw H;refine RXg z z H z (rX a_j z_9 z z (J.g<|ht.e s9) z z aq) ?_;rintro _ ⟨_,_,_,rfl,ar⟩;refine Rh z H (mv z) ?_;obtain ⟨au,av,a7⟩:=bdS a6;refine Eg z z H z (fc call202 z<|W_w1h (B:=B) av (zt' hBw<|lt_ hv s9.s) ar hu) ?_;rintro _ _ ⟨aw,rfl⟩;exact R z (pF z H z)<|Wl (fun _ q=>⟨au,som a7,q.k<|s5 z z z z z,bup s9 aw⟩)
  rintro ax _ ⟨xg,rfl,_,sx⟩;revert ax;refine Wo<|Wc z (fun hch=>?_) (fun hch=>?_)
  ·exact Ws<|Ra z<|Wn<|Wr<|rtO<|qL (som<|ifT hms hch).symm<|h_ hr z ⟨bup (bup (bup h1 s7) s8) sx,z⟩
  exact Wk<|Wg<|R z (inc_ hkr (lt_ (repS.len J) P_) z z)<|Rm z<|Wl (fun _ q=>⟨(),(som<|ifF hms hch).symm,⟨q.k<|s4 z z z z,bup s8 sx⟩⟩)
 ·rintro _ _ _ ⟨a8,ay⟩;refine Wu ?_ a8;refine Ws<|R z (lss z z)<|Wn<|Wq<|Wc z (fun hc=>(a_i hc).elim) (fun _=>?_)
  exact We<|fun a' ha'=>⟨rfl,⟨Sat.weaken ha' sn,ay⟩⟩
 ·rintro _ az _ rfl ⟨_,aA⟩;have a9:=elL hmm;revert az;refine Wo<|Ws<|Ra z<|Wn ?_
  obtain rfl:=som a9;exact Wr<|h_ hr z ⟨bup (bup h1 s7) aA,z⟩
 rintro _ _ _ _ rfl ⟨rfl,aa⟩;have ab:=elR hmm;obtain rfl:=som ab;exact ⟨aa,z⟩
theorem W_w2p {x1:f_} {x2:e_} {res:Bool} (hm:g_M x1 x2=some res) (hBw:B≤w0.z) (p1_0:repS w0 B (sl A0 N0 C0) x1.rules) (p2_0:x2.name.b.length≤LEN) (p2_1:inI x2.kind) (p2_2:inI x2.size) (p2_4:repS w0 B (sl A2 N2 C2) x2.bytes) (p2_5:repS w0 B (sl A3 N3 C3) x2.names) (p2_6:repS w0 B (sl A1 N1 C1) x2.tags) (p2_7:repS w0 B (sl A4 N4 C4) x2.kids):m_ prog 251 [(.agg #[sl A0 N0 C0]),(.agg #[Str.v x2.name,vI x2.kind,vI x2.size,vB x2.little,sl A2 N2 C2,sl A3 N3 C3,sl A1 N1 C1,sl A4 N4 C4])] w0 (Q0 w0 B res):=by
 unfold g_M at hm
 refine goF func251 z z (lb z) fun fn hr=>Ws<|E z (fb z) ?_
 rintro _ J ⟨rfl,hn⟩;have h4:=hn.below;refine E z (fb z) ?_;rintro _ wg ⟨rfl,ho⟩;have h3:=ho.below;have he:Blk wg J.z (vR x2 A2 N2 C2 A3 N3 C3 A1 N1 C1 A4 N4 C4):=ho.blk;refine Ra z<|Wn<|Wq<|Wq ?_
 obtain ⟨ah,a1,hmp⟩:=bdS hm;refine Wt (fun a w=>∃ (xh:Bool),xh=ah∧Sat 57 [(2,pt w0.z),(3,pt J.z),(21,vB xh)] a∧Below wg.z wg w) ?_ ?_
 ·refine Wg<|R z (lN (vs:=vR x2 A2 N2 C2 A3 N3 C3 A1 N1 C1 A4 N4 C4) I_ o_ z z fid<|he.row 0 8 z)<|R z (fd b_1 z)<|R z (l1 C_ z fid<|he.at z) ?_
  have h6:=(h4.ag B).e h3;have hq:=p2_6.g h6;refine R z (lnR w_ z hq)<|R z (add_ z z) ?_
  have ht:=lt_ h4.s h3.s;obtain ⟨ai,aj,hmr⟩:=bdS a1;refine E z (fc call248 z<|d_n (B:=B) aj (zt' hBw ht) p2_0 p2_1 p2_2 (p2_4.g h6) (p2_5.g h6) hq (p2_7.g h6)<|iA _ _) ?_;rintro _ _ ⟨s9,rfl⟩;refine R z (not_ z)<|Rm z ?_
  rcases bs (!ai) with I | I
  ·iterate 5 refine Nh z I ?_
   exact R z (pT z I z)<|Wl (fun _ q=>⟨true,som<|ifT hmr I,q.k<|s3 z z z,s9⟩)
  refine Rh z I (fd b_1 z)<|Rh z I (l1 C_ z fid<|(he.e s9).at z) ?_
  have hu:=p2_6.g<|h6.e s9
  refine Rh z I (lnR w_ z hu) ?_;obtain ⟨ak,al,a2⟩:=bdS<|ifF hmr I;refine Eg z z I z (fc call168 z<|d_O (B:=B) al (zt' hBw<|lt_ ht s9.s) (a_U<|repS.len hu) (ii z)<|ii z) ?_;rintro _ _ ⟨am,rfl⟩;exact Rh z I (not_ z)<|R z (pF z I z)<|Wl (fun _ q=>⟨!ak,som a2,q.k<|s3 z z z,bup s9 am⟩)
 rintro an _ ⟨xh,rfl,_,s7⟩;revert an;refine Wo<|Wc z (fun hci=>?_) (fun hci=>?_)
 ·refine Ws<|Ra z<|Wn ?_
  obtain rfl:=som<|ifT hmp hci;exact Wr<|h_ hr z ⟨bup (bup h4 h3) s7,z⟩
 refine Wk<|Wq (Wd (X:=noX) 0 (.rd 0<|.rd 1<|.rd 2<|.rd 3<|.rd 4<|.ef 5<|.rd 6 .done) mo (by kernel_rfl) fun aM s8 _=>dR z z (lN (vs:=[sl A0 N0 C0]) v_ s_ z z fid<|((((hn.blk:Blk J w0.z [sl A0 N0 C0]).e h3).e s7).e s8).row 0 1 z)<|dR z z (fd N_ z) ?_)
 have hv:=(he.e s7).e s8;refine dR z z (l1 C_ z fid<|hv.at z) ?_;obtain ⟨_,ao,a3⟩:=bdS<|ifF hmp hci;have hj:=(((h4.ag B).e h3).e s7).e s8;refine dRX z z (at_ (α:=Int) w_ z_3 z z z (p2_7.g hj) ao) ?_;rintro _ ⟨_,_,_,rfl,ap,aq,_⟩;obtain ⟨rfl,ar⟩:=Q_ aq;refine dR z z (l1 g_3 z fid<|ap.at0 z) ?_;have hw:=lt_ (lt_ (lt_ h4.s h3.s) s7.s) s8.s;obtain ⟨rk,au,a4⟩:=bdS a3;refine dE z z (fc call249 z<|j_m (B:=B) au (zt' hBw hw) (p1_0.g hj) ar) (.inr fun _ _ h=>A_<|h.1) ?_;rintro _ wa ⟨sb,rfl,av⟩;refine dR z z (asg z)<|pD<|Wo<|Wq<|Ws<|R z (fd b_1 z) ?_
 have hx:=hv.e sb;refine R z (l1 C_ z fid<|hx.at z) ?_;have hy:=hj.e sb;refine R z (lnR w_ z<|p2_6.g hy)<|Rm z<|Wn ?_
 obtain ⟨_,a5,hms⟩:=bdS a4;refine Wf (σ:=Unit) (ρ:=Bool) (fun (kf:Nat) (_:Unit) a w=>Sat 57 [(3,pt J.z),(5,vI rk),(29,sl A1 N1 C1),(30,vI (x2.tags.length:Int)),(31,vI ((kf:Nat):Int))] a∧Below wa.z wa w) (fun (_:Unit) a w=>Sat 57 [(5,vI rk)] a∧Below wa.z wa w) (fun r ex a w=>ex = .ret∧L_ prog fn (Q0 w0 B r) a w) a5 ?_ ?_ ?_ ?_ ?_
 ·exact fun _ q=>⟨q.k<|s5 z z z z z,br wa⟩
 ·rintro kf _ _ wz _ L ⟨a6,sc⟩ a7;refine Wu ?_ a6;refine Ws<|R z (lss z z)<|Wn<|Wq<|Wc z (fun _=>?_) (fun hc=>(a_h L hc).elim)
  refine Wk<|Wq<|Wb<|Ws<|Rm z ?_
  obtain ⟨aw,ax,a8⟩:=bdS a7;have Y:=hy.e sc;refine RX z (at_ (α:=Int) w_ z_3 z z z (p2_6.g Y) ax) ?_;rintro _ ⟨_,_,_,rfl,ay,az,_⟩;obtain ⟨rfl,aA⟩:=Q_ az;refine R z (l1 g_3 z fid<|ay.at0 z)<|Ra z<|Ra z<|Wn<|Wq ?_
  obtain ⟨aB,a9,O⟩:=bdS a8;refine Wt (fun a w=>∃ (xl:Bool),xl=aB∧Sat 57 [(3,pt J.z),(5,vI rk),(29,sl A1 N1 C1),(30,vI (x2.tags.length:Int)),(31,vI ((kf:Nat):Int)),(53,vB xl)] a∧Below wz.z wz w) ?_ ?_
  ·refine Wg<|Rm z<|Rm z ?_
   obtain ⟨aC,aD,V⟩:=bdS a9;refine E z (fc call168 z<|d_O (B:=B) aD (zt' hBw<|lt_ (lt_ hw sb.s) sc.s) aA (ii z) av) ?_;rintro _ _ ⟨sd,rfl⟩;refine R z (not_ z)<|Rm z ?_
   rcases bs (!aC) with H | H
   ·iterate 3 refine Nh z H ?_
    exact Nv z<|Nv z<|Nv z<|Nv z<|Nv z<|Nv z<|Nv z<|Nv z<|Nh z H<|R z (pT z H z)<|Wl (fun _ q=>⟨true,som<|ifT V H,q.k<|s6 z z z z z z,sd⟩)
   have W:=ifF V H;refine Rh z H (mv z)<|Rh z H (a_1 z z)<|Rh z H (mv z) ?_
   rcases bs (decide<|0<((kf:Nat):Int)) with G | G
   ·refine Rh z G (fd b_1 z)<|Rh z G (l1 C_ z fid<|((hx.e sc).e sd).at z)<|Rh z G (mv z)<|Rh z G (sb_ z z) ?_
    obtain ⟨aE,aF,aa⟩:=bdS<|ifT W G;refine RXg z z G z (at_ (α:=Int) w_ z_3 z z z (p2_6.g<|Y.e sd) aF) ?_;rintro _ ⟨_,_,_,rfl,aG,aH,_⟩;obtain ⟨rfl,_⟩:=Q_ aH;exact Rh z G (l1 g_3 z fid<|aG.at0 z)<|Rh z G (mv z)<|Rh z G (b_e z z)<|Rh z H (pT z G z)<|R z (pF z H z)<|Wl (fun _ q=>⟨decide<|aw≤aE,som aa,q.k<|s6 z z z z z z,sd⟩)
   iterate 8 refine Nh z G ?_
   exact Rh z H (pF z G z)<|R z (pF z H z)<|Wl (fun _ q=>⟨false,som<|ifF W G,q.k<|s6 z z z z z z,sd⟩)
  rintro aI _ ⟨xl,rfl,_,a0⟩;revert aI;refine Wo<|Wc z (fun hcm=>?_) (fun hcm=>?_)
  ·exact Ws<|Ra z<|Wn<|Wr<|rtO<|qL (som<|ifT O hcm).symm<|h_ hr z ⟨bup (bup (bup (bup (bup (bup h4 h3) s7) s8) sb) sc) a0,z⟩
  exact Wk<|Wg<|R z (inc_ L (lt_ (repS.len p2_6) P_) z z)<|Rm z<|Wl (fun _ q=>⟨(),(som<|ifF O hcm).symm,⟨q.k<|s5 z z z z z,bup sc a0⟩⟩)
 ·rintro _ _ _ ⟨ab,aJ⟩;refine Wu ?_ ab;refine Ws<|R z (lss z z)<|Wn<|Wq<|Wc z (fun hc=>(a_i hc).elim) (fun _=>?_)
  exact We<|fun a' ha'=>⟨rfl,⟨Sat.weaken ha'<|s1 z,aJ⟩⟩
 ·rintro _ aK _ rfl ⟨_,aL⟩;have ad:=elL hms;revert aK;refine Wo<|Ws<|Rm z<|R z (a_1 z z)<|Ra z<|Wn ?_
  obtain rfl:=som ad;exact Wr<|h_ hr z ⟨bup (bup (bup (bup (bup h4 h3) s7) s8) sb) aL,z⟩
 rintro _ _ _ _ rfl ⟨rfl,ae⟩;have af:=elR hms;obtain rfl:=som af;exact ⟨ae,z⟩
theorem W_w2q {x1:f_} {x2:e_} {res:Bool} (hm:g_N n x1 x2=some res) (hBw:B≤w0.z) (p1_0:repS w0 B (sl A0 N0 C0) x1.rules) (p2_0:x2.name.b.length≤LEN) (p2_1:inI x2.kind) (p2_2:inI x2.size) (p2_4:repS w0 B (sl A2 N2 C2) x2.bytes) (p2_5:repS w0 B (sl A3 N3 C3) x2.names) (p2_6:repS w0 B (sl A1 N1 C1) x2.tags) (p2_7:repS w0 B (sl A4 N4 C4) x2.kids):m_ prog 200 [(.agg #[sl A0 N0 C0]),(.agg #[Str.v x2.name,vI x2.kind,vI x2.size,vB x2.little,sl A2 N2 C2,sl A3 N3 C3,sl A1 N1 C1,sl A4 N4 C4])] w0 (Q0 w0 B res):=by
 unfold g_N at hm
 refine goF func200 z z (lb z) fun fn hr=>Ws<|E z (fb z) ?_
 rintro _ ww ⟨rfl,aA⟩;have h1:=aA.below;have hx:Blk ww w0.z [sl A0 N0 C0]:=aA.blk;refine E z (fb z) ?_;rintro _ J ⟨rfl,aB⟩;have G:=aB.below;have h6:Blk J ww.z (vR x2 A2 N2 C2 A3 N3 C3 A1 N1 C1 A4 N4 C4):=aB.blk;refine Ra z<|Wn<|Wq<|Ws<|R z (fd a_C z)<|R z (l1 g_3 z fid<|h6.at z)<|Wn<|Wb<|Ws<|R z (eql z z)<|Ra z<|Wn<|Wc z (fun hcy=>?_) (fun hcy=>?_)
 ·refine Wq ?_;obtain ⟨bf,aS,aT⟩:=bdS<|ifT hm hcy;refine Wt (fun a w=>∃ (xz:Bool),xz=bf∧Sat 102 [(4,vB xz)] a∧Below J.z J w) ?_ ?_
  ·refine Wg<|R z (lN (vs:=vR x2 A2 N2 C2 A3 N3 C3 A1 N1 C1 A4 N4 C4) I_ o_ z z fid<|h6.row 0 8 z) ?_
   have hq:=(h1.ag B).e G;have aC:=lt_ h1.s G.s;obtain ⟨bg,bh,af⟩:=bdS aS;refine E z (fc call248 z<|d_n (B:=B) bh (zt' hBw aC) p2_0 p2_1 p2_2 (p2_4.g hq) (p2_5.g hq) (p2_6.g hq) (p2_7.g hq)<|ii z) ?_;rintro _ _ ⟨se,rfl⟩;refine Rm z ?_
   rcases bs bg with hca | hca
   ·refine Rh z hca (fd a_K z) ?_;have aD:=h6.e se;refine Rh z hca (l1 g_3 z fid<|aD.at z) ?_;obtain ⟨bi,bj,ah⟩:=bdS<|ifT af hca;refine Eg z z hca z (fc call168 z<|d_O (B:=B) bj (zt' hBw<|lt_ aC se.s) p2_2 (ii z)<|ii z) ?_;rintro _ _ ⟨sr,rfl⟩;refine R z (pT z hca z)<|Rm z ?_
    rcases bs bi with L | L
    ·have ai:=ifT ah L;refine Rh z L (fd c_D z) ?_;have aE:=aD.e sr;refine Rh z L (l1 g_4 z fid<|aE.at z)<|Rh z L (not_ z)<|Rh z L (mv z) ?_
     rcases bs (!x2.little) with hcb | hcb
     ·iterate 3 refine Nh z hcb ?_
      exact Rh z L (pT z hcb z)<|R z (pT z L z)<|Ra z<|Wl (fun _ q=>⟨true,som<|ifT ai hcb,q.k<|s1 z,bup se sr⟩)
     exact Rh z hcb (fd a_K z)<|Rh z hcb (l1 g_3 z fid<|aE.at z)<|Rh z hcb (a_1 z z)<|Rh z L (pF z hcb z)<|R z (pT z L z)<|Ra z<|Wl (fun _ q=>⟨decide<|1<x2.size,som<|ifF ai hcb,q.k<|s1 z,bup se sr⟩)
    iterate 4 refine Nh z L ?_
    exact Nv z<|Nv z<|Nv z<|Nh z L<|R z (pF z L z)<|Ra z<|Wl (fun _ q=>⟨false,som<|ifF ah L,q.k<|s1 z,bup se sr⟩)
   iterate 3 refine Nh z hca ?_
   exact R z (pF z hca z)<|Rm z<|Nh z z<|Nh z z<|Nh z z<|Nh z z<|Nv z<|Nv z<|Nv z<|Nh z z<|R z (pF z z z)<|Ra z<|Wl (fun _ q=>⟨false,som<|ifF af hca,q.k<|s1 z,se⟩)
  rintro bk _ ⟨xz,rfl,_,bm⟩;revert bk;refine Wo ?_;obtain rfl:=som aT;exact Wr<|rtO<|h_ hr z ⟨bup (bup h1 G) bm,z⟩
 have aj:=ifF hm hcy;refine Ws<|R z (eql z z)<|Ra z<|Wn<|Wc z (fun Y=>?_) (fun Y=>?_)
 ·refine Wq ?_;obtain ⟨bn,aU,aV⟩:=bdS<|ifT aj Y;refine Wt (fun a w=>∃ (a8:Bool),a8=bn∧Sat 102 [(4,vB a8)] a∧Below J.z J w) ?_ ?_
  ·refine Wg<|R z (lN (vs:=vR x2 A2 N2 C2 A3 N3 C3 A1 N1 C1 A4 N4 C4) I_ o_ z z fid<|h6.row 0 8 z) ?_
   have hj:=(h1.ag B).e G;have aF:=lt_ h1.s G.s;obtain ⟨bo,bp,ak⟩:=bdS aU;refine E z (fc call248 z<|d_n (B:=B) bp (zt' hBw aF) p2_0 p2_1 p2_2 (p2_4.g hj) (p2_5.g hj) (p2_6.g hj) (p2_7.g hj)<|ii z) ?_;rintro _ _ ⟨sk,rfl⟩;refine Rm z ?_
   rcases bs bo with V | V
   ·refine Rh z V (fd a_W z)<|Rh z V (l1 X_ z fid<|(h6.e sk).at z) ?_
    have aG:=p2_4.g<|hj.e sk
    refine Rh z V (lnR n_ z aG) ?_;obtain ⟨bq,bt,aW⟩:=bdS<|ifT ak V;refine Eg z z V z (fc call168 z<|d_O (B:=B) bt (zt' hBw<|lt_ aF sk.s) (a_U<|repS.len aG) (ii z)<|ii z) ?_;rintro _ _ ⟨bu,rfl⟩;exact R z (pT z V z)<|Ra z<|Wl (fun _ q=>⟨bq,som aW,q.k<|s1 z,bup sk bu⟩)
   iterate 4 refine Nh z V ?_
   exact R z (pF z V z)<|Ra z<|Wl (fun _ q=>⟨false,som<|ifF ak V,q.k<|s1 z,sk⟩)
  rintro bv _ ⟨a8,rfl,_,bw⟩;revert bv;refine Wo ?_;obtain rfl:=som aV;exact Wr<|rtO<|h_ hr z ⟨bup (bup h1 G) bw,z⟩
 have al:=ifF aj Y;refine Ws<|R z (eql z z)<|Ra z<|Wn<|Wc z (fun a0=>?_) (fun a0=>?_)
 ·refine Wq ?_;obtain ⟨bx,aX,aY⟩:=bdS<|ifT al a0;refine Wt (fun a w=>∃ (a9:Bool),a9=bx∧Sat 102 [(4,vB a9)] a∧Below J.z J w) ?_ ?_
  ·refine Wg<|R z (lN (vs:=vR x2 A2 N2 C2 A3 N3 C3 A1 N1 C1 A4 N4 C4) I_ o_ z z fid<|h6.row 0 8 z) ?_
   have ht:=(h1.ag B).e G;have aH:=lt_ h1.s G.s;obtain ⟨bz,bA,am⟩:=bdS aX;refine E z (fc call248 z<|d_n (B:=B) bA (zt' hBw aH) p2_0 p2_1 p2_2 (p2_4.g ht) (p2_5.g ht) (p2_6.g ht) (p2_7.g ht)<|ii z) ?_;rintro _ _ ⟨ss,rfl⟩;refine Rm z ?_
   rcases bs bz with hcc | hcc
   ·refine Rh z hcc (fd a_K z)<|Rh z hcc (l1 g_3 z fid<|(h6.e ss).at z) ?_
    obtain ⟨bB,bC,aZ⟩:=bdS<|ifT am hcc;refine Eg z z hcc z (fc call168 z<|d_O (B:=B) bC (zt' hBw<|lt_ aH ss.s) p2_2 (ii z)<|ii z) ?_;rintro _ _ ⟨bD,rfl⟩;exact R z (pT z hcc z)<|Ra z<|Wl (fun _ q=>⟨bB,som aZ,q.k<|s1 z,bup ss bD⟩)
   iterate 3 refine Nh z hcc ?_
   exact R z (pF z hcc z)<|Ra z<|Wl (fun _ q=>⟨false,som<|ifF am hcc,q.k<|s1 z,ss⟩)
  rintro bE _ ⟨a9,rfl,_,bF⟩;revert bE;refine Wo ?_;obtain rfl:=som aY;exact Wr<|rtO<|h_ hr z ⟨bup (bup h1 G) bF,z⟩
 have an:=ifF al a0;refine Ws<|R z (eql z z)<|Ra z<|Wn<|Wc z (fun a1=>?_) (fun a1=>?_)
 ·refine Wq ?_;obtain ⟨bG,b0,b1⟩:=bdS<|ifT an a1;refine Wt (fun a w=>∃ (aa:Bool),aa=bG∧Sat 102 [(4,vB aa)] a∧Below J.z J w) ?_ ?_
  ·refine Wd (X:=noX) 0 (.rd 0<|.ef 1<|.rd 2<|.rd 3<|.rd 4<|.rd 5<|.rd 6<|.rd 7<|.ef 8<|.rd 9<|.rd 10<|.rd 11 .done) mo (by kernel_rfl) fun cl sf _=>?_
   have aI:=h6.e sf;refine dR z z (lN (vs:=vR x2 A2 N2 C2 A3 N3 C3 A1 N1 C1 A4 N4 C4) I_ o_ z z fid<|aI.row 0 8 z) ?_;have hl:=((h1.ag B).e G).e sf;have aJ:=lt_ (lt_ h1.s G.s) sf.s;obtain ⟨bH,bI,ao⟩:=bdS b0;refine dE z z (fc call248 z<|d_n (B:=B) bI (zt' hBw aJ) p2_0 p2_1 p2_2 (p2_4.g hl) (p2_5.g hl) (p2_6.g hl) (p2_7.g hl)<|ii z) (.inr fun _ _ h=>A_<|h.1) ?_;rintro _ _ ⟨sg,rfl⟩;refine dR z z (mv z) ?_
   rcases bs bH with H | H
   ·refine dRg z z z H z (lN (vs:=[sl A0 N0 C0]) v_ s_ z z fid<|(((hx.e G).e sf).e sg).row 0 1 z)<|dRg z z z H z (fd N_ z)<|dRg z z z H z (l1 C_ z fid<|(aI.e sg).at z) ?_
    obtain ⟨_,bJ,b2⟩:=bdS<|ifT ao H;have aK:=hl.e sg;refine c_1 z z z H z (at_ (α:=Int) w_ z_3 z z z (p2_7.g aK) bJ) ?_;rintro _ ⟨_,_,_,rfl,bK,bL,_⟩;obtain ⟨rfl,bM⟩:=Q_ bL;refine dRg z z z H z (l1 g_3 z fid<|bK.at0 z) ?_;obtain ⟨bN,bO,b3⟩:=bdS b2;refine dEg z z z H z (fc call249 z<|j_m (B:=B) bO (zt' hBw<|lt_ aJ sg.s) (p1_0.g aK) bM) (.inr fun _ _ h=>A_<|h.1) ?_;rintro _ _ ⟨bP,rfl,_⟩;exact dRg z z z H z (a_1 z z)<|dR z z (pT z H z)<|dR z z (asg z)<|pD (fun _ q=>⟨decide<|0<bN,som b3,q.k<|s1 z,bup (bup sf sg) bP⟩)
   iterate 5 refine dRn z z z H z ?_
   exact dEn z z z H z<|dRn z z z H z<|dR z z (pF z H z)<|dR z z (asg z)<|pD (fun _ q=>⟨false,som<|ifF ao H,q.k<|s1 z,bup sf sg⟩)
  rintro bQ _ ⟨aa,rfl,_,bR⟩;revert bQ;refine Wo ?_;obtain rfl:=som b1;exact Wr<|rtO<|h_ hr z ⟨bup (bup h1 G) bR,z⟩
 have ap:=ifF an a1;refine Ws<|R z (eql z z)<|Ra z<|Wn<|Wc z (fun a2=>?_) (fun a2=>?_)
 ·refine Wq ?_;obtain ⟨bS,b4,b5⟩:=bdS<|ifT ap a2;refine Wt (fun a w=>∃ (ab:Bool),ab=bS∧Sat 102 [(4,vB ab)] a∧Below J.z J w) ?_ ?_
  ·refine Wd (X:=noX) 0 (.rd 0<|.ef 1<|.rd 2<|.rd 3<|.rd 4<|.rd 5<|.rd 6<|.rd 7<|.ef 8<|.rd 9<|.rd 10<|.rd 11 .done) mo (by kernel_rfl) fun cm sh _=>?_
   have aL:=h6.e sh;refine dR z z (lN (vs:=vR x2 A2 N2 C2 A3 N3 C3 A1 N1 C1 A4 N4 C4) I_ o_ z z fid<|aL.row 0 8 z) ?_;have hn:=((h1.ag B).e G).e sh;have aM:=lt_ (lt_ h1.s G.s) sh.s;obtain ⟨bT,bU,aq⟩:=bdS b4;refine dE z z (fc call248 z<|d_n (B:=B) bU (zt' hBw aM) p2_0 p2_1 p2_2 (p2_4.g hn) (p2_5.g hn) (p2_6.g hn) (p2_7.g hn)<|ii z) (.inr fun _ _ h=>A_<|h.1) ?_;rintro _ _ ⟨si,rfl⟩;refine dR z z (mv z) ?_
   rcases bs bT with I | I
   ·refine dRg z z z I z (lN (vs:=[sl A0 N0 C0]) v_ s_ z z fid<|(((hx.e G).e sh).e si).row 0 1 z)<|dRg z z z I z (fd N_ z)<|dRg z z z I z (l1 C_ z fid<|(aL.e si).at z) ?_
    obtain ⟨_,bV,b6⟩:=bdS<|ifT aq I;have aN:=hn.e si;refine c_1 z z z I z (at_ (α:=Int) w_ z_3 z z z (p2_7.g aN) bV) ?_;rintro _ ⟨_,_,_,rfl,bW,bX,_⟩;obtain ⟨rfl,bY⟩:=Q_ bX;refine dRg z z z I z (l1 g_3 z fid<|bW.at0 z) ?_;obtain ⟨bZ,c0,b7⟩:=bdS b6;refine dEg z z z I z (fc call249 z<|j_m (B:=B) c0 (zt' hBw<|lt_ aM si.s) (p1_0.g aN) bY) (.inr fun _ _ h=>A_<|h.1) ?_;rintro _ _ ⟨c1,rfl,_⟩;exact dRg z z z I z (a_1 z z)<|dR z z (pT z I z)<|dR z z (asg z)<|pD (fun _ q=>⟨decide<|0<bZ,som b7,q.k<|s1 z,bup (bup sh si) c1⟩)
   iterate 5 refine dRn z z z I z ?_
   exact dEn z z z I z<|dRn z z z I z<|dR z z (pF z I z)<|dR z z (asg z)<|pD (fun _ q=>⟨false,som<|ifF aq I,q.k<|s1 z,bup sh si⟩)
  rintro c2 _ ⟨ab,rfl,_,c3⟩;revert c2;refine Wo ?_;obtain rfl:=som b5;exact Wr<|rtO<|h_ hr z ⟨bup (bup h1 G) c3,z⟩
 have ar:=ifF ap a2;refine Ws<|R z (eql z z)<|Ra z<|Wn<|Wc z (fun a3=>?_) (fun a3=>?_)
 ·refine Ws<|R z (lN (vs:=vR x2 A2 N2 C2 A3 N3 C3 A1 N1 C1 A4 N4 C4) I_ o_ z z fid<|h6.row 0 8 z) ?_
  have hu:=(h1.ag B).e G;obtain ⟨_,c4,b8⟩:=bdS<|ifT ar a3;refine E z (fc call250 z<|W_w2o (B:=B) c4 (zt' hBw<|lt_ h1.s G.s) p2_0 p2_1 p2_2 (p2_4.g hu) (p2_5.g hu) (p2_6.g hu)<|p2_7.g hu) ?_;rintro _ _ ⟨c5,rfl⟩;refine Ra z<|Wn ?_
  obtain rfl:=som b8;exact Wr<|rtO<|h_ hr z ⟨bup (bup h1 G) c5,z⟩
 have au:=ifF ar a3;refine Ws<|R z (eql z z)<|Ra z<|Wn<|Wc z (fun a4=>?_) (fun a4=>?_)
 ·refine Ws<|R z (lN (vs:=[sl A0 N0 C0]) v_ s_ z z fid<|(hx.e G).row 0 1 z)<|R z (lN (vs:=vR x2 A2 N2 C2 A3 N3 C3 A1 N1 C1 A4 N4 C4) I_ o_ z z fid<|h6.row 0 8 z) ?_
  have ho:=(h1.ag B).e G;obtain ⟨_,c6,b9⟩:=bdS<|ifT au a4;refine E z (fc call251 z<|W_w2p (B:=B) c6 (zt' hBw<|lt_ h1.s G.s) (p1_0.g ho) p2_0 p2_1 p2_2 (p2_4.g ho) (p2_5.g ho) (p2_6.g ho)<|p2_7.g ho) ?_;rintro _ _ ⟨c7,rfl⟩;refine Ra z<|Wn ?_
  obtain rfl:=som b9;exact Wr<|rtO<|h_ hr z ⟨bup (bup h1 G) c7,z⟩
 refine Wq<|Ws<|R z (eql z z)<|Ra z<|Wn ?_
 obtain ⟨c8,av,aw⟩:=bdS<|ifF au a4;refine Wt (fun a w=>∃ (ad:Bool),ad=c8∧Sat 102 [(3,pt ww.z),(6,vI x2.kind),(80,vB ad)] a∧Below J.z J w) ?_ ?_
 ·refine Wc z (fun a5=>?_)<|fun a5=>?_
  ·exact a_e<|fun _ q=>⟨x2.kind==8,som<|ifT av a5,q.k<|s3 z z z,br J⟩
  exact Wg<|R z (eql z z)<|Ra z<|Wl (fun _ q=>⟨x2.kind==9,som<|ifF av a5,q.k<|s3 z z z,br J⟩)
 rintro c9 aO ⟨ad,rfl,_,sd⟩;revert c9;refine Wo<|Wc z (fun a6=>?_) (fun a6=>?_)
 ·refine Ws<|R z (lN (vs:=vR x2 A2 N2 C2 A3 N3 C3 A1 N1 C1 A4 N4 C4) I_ o_ z z fid<|(h6.e sd).row 0 8 z) ?_
  have hv:=((h1.ag B).e G).e sd;obtain ⟨_,ca,ba⟩:=bdS<|ifT aw a6;refine E z (fc call248 z<|d_n (B:=B) ca (zt' hBw<|lt_ (lt_ h1.s G.s) sd.s) p2_0 p2_1 p2_2 (p2_4.g hv) (p2_5.g hv) (p2_6.g hv) (p2_7.g hv)<|ii z) ?_;rintro _ _ ⟨cb,rfl⟩;refine Ra z<|Wn ?_
  obtain rfl:=som ba;exact Wr<|rtO<|h_ hr z ⟨bup (bup (bup h1 G) sd) cb,z⟩
 have ax:=ifF aw a6;refine Ws<|R z (eql z z)<|Ra z<|Wn<|Wc z (fun a7=>?_) (fun a7=>?_)
 ·refine Wq ?_;obtain ⟨cc,bb,bc⟩:=bdS<|ifT ax a7;refine Wt (fun a w=>∃ (ae:Bool),ae=cc∧Sat 102 [(4,vB ae)] a∧Below aO.z aO w) ?_ ?_
  ·refine Wg ?_;have aP:=h6.e sd;refine R z (lN (vs:=vR x2 A2 N2 C2 A3 N3 C3 A1 N1 C1 A4 N4 C4) I_ o_ z z fid<|aP.row 0 8 z) ?_;have hp:=((h1.ag B).e G).e sd;obtain ⟨cd,ce,ay⟩:=bdS bb;refine E z (fc call248 z<|d_n (B:=B) ce (zt' hBw<|lt_ (lt_ h1.s G.s) sd.s) p2_0 p2_1 p2_2 (p2_4.g hp) (p2_5.g hp) (p2_6.g hp) (p2_7.g hp)<|ii z) ?_;rintro _ _ ⟨sm,rfl⟩;refine Rm z ?_
   rcases bs cd with W | W
   ·have az:=ifT ay W;refine Rh z W (fd a_W z) ?_;have aQ:=aP.e sm;refine Rh z W (l1 X_ z fid<|aQ.at z) ?_;have aR:=p2_4.g<|hp.e sm
    refine Rh z W (lnR n_ z aR)<|Rh z W (eql z z)<|R z (pT z W z)<|Rm z ?_
    rcases bs ((x2.bytes.length:Int)==1) with O | O
    ·refine Rh z O (fd a_W z)<|Rh z O (l1 X_ z fid<|aQ.at z) ?_
     obtain ⟨cf,cg,be⟩:=bdS<|ifT az O;refine RXg z z O z (at_ (α:=UInt8) n_ z_5 z z z aR cg) ?_;rintro _ ⟨_,_,_,rfl,ch,ci,_⟩;obtain rfl:=u8 ci;exact Rh z O (l1 g_5 z fid<|ch.at0 z)<|Rh z O (nq z z)<|R z (pT z O z)<|Ra z<|Wl (fun _ q=>⟨(byteI cf) != (byteI (92:UInt8)),som be,q.k<|s1 z,sm⟩)
    iterate 5 refine Nh z O ?_
    exact R z (pF z O z)<|Ra z<|Wl (fun _ q=>⟨false,som<|ifF az O,q.k<|s1 z,sm⟩)
   iterate 4 refine Nh z W ?_
   exact R z (pF z W z)<|Rm z<|Nh z z<|Nh z z<|Nh z z<|Nh z z<|Nh z z<|R z (pF z z z)<|Ra z<|Wl (fun _ q=>⟨false,som<|ifF ay W,q.k<|s1 z,sm⟩)
  rintro cj _ ⟨ae,rfl,_,ck⟩;revert cj;refine Wo ?_;obtain rfl:=som bc;exact Wr<|rtO<|h_ hr z ⟨bup (bup (bup h1 G) sd) ck,z⟩
 refine Wk<|Ws<|Ra z<|Wn ?_
 obtain rfl:=som<|ifF ax a7;exact Wr<|h_ hr z ⟨bup (bup h1 G) sd,z⟩
theorem W_w2r {x1:f_} {x2:Int} {res:Bool} (hm:g_O n x1 x2=some res) (hBw:B≤w0.z) (p1_0:repS w0 B (sl A0 N0 C0) x1.rules) (p2_0:inI x2):m_ prog 169 [(.agg #[sl A0 N0 C0]),vI x2] w0 (Q0 w0 B res):=by
 unfold g_O at hm
 refine goF func169 z z (lb z) fun fn hr=>Ws<|E z (fb z) ?_
 rintro _ bb ⟨rfl,ak⟩;have h2:=ak.below;have ho:Blk bb w0.z [sl A0 N0 C0]:=ak.blk;refine Ra z<|Wn<|Wq<|Ws<|R z (lN (vs:=[sl A0 N0 C0]) v_ s_ z z fid<|ho.row 0 1 z)<|Rm z ?_
 obtain ⟨_,bc,a6⟩:=bdS hm;refine E z (fc call199 z<|j_l (B:=B) bc (zt' hBw h2.s) (p1_0.e h2) p2_0) ?_;rintro _ J ⟨s5,rfl⟩;refine R z (not_ z)<|Wn<|Wc z (fun hcp=>?_) (fun hcp=>?_)
 ·refine Ws<|Ra z<|Wn ?_
  obtain rfl:=som<|ifT a6 hcp;exact Wr<|h_ hr z ⟨bup h2 s5,z⟩
 refine Wk<|Ws<|R z (fd a_4 z) ?_
 have al:=ho.e s5;refine R z (l1 a_6 z fid<|al.at z)<|Rm z ?_
 obtain ⟨L,be,aS⟩:=bdS<|ifF a6 hcp;have am:=(h2.ag B).e s5;refine RX z (at_ (α:=e_) a_7 o_ z z z (p1_0.g am) be) ?_;rintro _ ⟨_,_,_,rfl,bf,bg,_⟩;obtain ⟨aq,nr,cs,au,nt,cv,aw,nx,cy,ae,nf,cg,rfl,an,bh,bi,bj,bk,bm,hj⟩:=a_P bg;refine R z (lN (vs:=vR L aq nr cs au nt cv aw nx cy ae nf cg) I_ o_ z z fid bf)<|E z (fa b_E) ?_
 rintro _ bn ⟨rfl,ao⟩;have h4:=ao.below;have ap:Blk bn J.z [(Str.v (⟨[]⟩:Str)),vI 0,vI 0,vB false,sl none 0 0,sl none 0 0,sl none 0 0,sl none 0 0]:=ao.blk;refine E0 (fs (cur':=vR L aq nr cs au nt cv aw nx cy ae nf cg) o_ z z ap z (lb z) (oA z) z) ?_;rintro _ ar ⟨hk,bo⟩;have h3:=bo.one;refine Wn<|Wq<|Wq ?_
 obtain ⟨bp,aT,a7⟩:=bdS aS;refine Wt (fun a w=>∃ (xz:Bool),xz=bp∧Sat 65 [(1,vI x2),(2,pt w0.z),(5,pt J.z),(31,vB xz)] a∧Below ar.z ar w) ?_ ?_
 ·refine Wg<|R z (fd e_Y z)<|R z (l1 g_9 z fid<|hk.at z) ?_
  obtain ⟨bq,bt,a8⟩:=bdS aT;refine E z (fc call197 z<|j_k (B:=B) bt (zt' hBw<|lt_ (lt_ (lt_ h2.s s5.s) h4.s) h3.s) an) ?_;rintro _ _ ⟨sm,rfl⟩;refine R z (not_ z)<|Rm z ?_
  rcases bs (!bq) with G | G
  ·iterate 3 refine Nh z G ?_
   exact Nv z<|Nv z<|Nv z<|Nh z G<|R z (pT z G z)<|Wl (fun _ q=>⟨true,som<|ifT a8 G,q.k<|s4 z z z z,sm⟩)
  have a9:=ifF a8 G;refine Rh z G (fd c_D z) ?_;have av:=hk.e sm;refine Rh z G (l1 g_4 z fid<|av.at z)<|Rh z G (mv z) ?_
  rcases bs L.little with H | H
  ·exact Rh z H (fd a_C z)<|Rh z H (l1 g_3 z fid<|av.at z)<|Rh z H (nq z z)<|Rh z G (pT z H z)<|R z (pF z G z)<|Wl (fun _ q=>⟨L.kind != 1,som<|ifT a9 H,q.k<|s4 z z z z,sm⟩)
  iterate 3 refine Nh z H ?_
  exact Rh z G (pF z H z)<|R z (pF z G z)<|Wl (fun _ q=>⟨false,som<|ifF a9 H,q.k<|s4 z z z z,sm⟩)
 rintro bu wh ⟨xz,rfl,_,s1⟩;revert bu;refine Wo<|Wc z (fun O=>?_) (fun O=>?_)
 ·refine Ws<|Ra z<|Wn ?_
  obtain rfl:=som<|ifT a7 O;exact Wr<|h_ hr z ⟨bup (bM (bup (bup h2 s5) h4) h3<|m1<|lt_ h2.s s5.s) s1,z⟩
 refine Wk<|Wq<|Ws<|R z (fd a_4 z) ?_
 have ax:=((al.e h4).c h3<|djs<|mm1 ho.lt s5.s).e s1;refine R z (l1 a_6 z fid<|ax.at z)<|Rm z ?_
 obtain ⟨bv,bw,aU⟩:=bdS<|ifF a7 O;have hd:=lt_ h2.s s5.s;have ay : ∀ k∈[J.z],¬ B k:=or0 (b_ lr)  (j_<|zt' hBw hd);have az:=((am.e h4).c h3<|c_ ay).e s1;refine RX z (rX a_7 o_ z z (p1_0.g az) z z bw) ?_;rintro _ ⟨bx,bz,bA,rfl,Y⟩;refine R z (lnR a_7 z Y)<|Rm z<|Wn ?_
 obtain ⟨_,aV,aa⟩:=bdS aU;refine Wf (σ:=Unit) (ρ:=Bool) (fun (aA:Nat) (_:Unit) a w=>Sat 65 [(1,vI x2),(2,pt w0.z),(5,pt J.z),(35,sl bx bz bA),(36,vI (bv.length:Int)),(37,vI ((aA:Nat):Int))] a∧Below wh.z wh w) (fun (_:Unit) a w=>Sat 65 [(1,vI x2),(2,pt w0.z),(5,pt J.z)] a∧Below wh.z wh w) (fun r ex a w=>ex = .ret∧L_ prog fn (Q0 w0 B r) a w) aV ?_ ?_ ?_ ?_ ?_
 ·exact fun _ q=>⟨q.k<|s6 z z z z z z,br wh⟩
 ·rintro aA _ _ bB _ ab ⟨aW,sa⟩ aX;refine Wu ?_ aW;refine Ws<|R z (lss z z)<|Wn<|Wq<|Wc z (fun _=>?_) (fun hc=>(a_h ab hc).elim)
  refine Wk<|Wq<|Wb<|Ws ?_
  obtain ⟨aB,bC,ad⟩:=bdS aX;refine RX z (at_ (α:=e_) a_7 o_ z z z (Y.e sa) bC) ?_;rintro _ ⟨_,_,_,rfl,bD,bE,_⟩;obtain ⟨aC,aD,aE,aF,aG,aH,aI,aJ,aK,aL,aM,aN,rfl,_,_,_,_,_,_,_⟩:=a_P bE;refine R z (lN (vs:=vR aB aC aD aE aF aG aH aI aJ aK aL aM aN) I_ o_ z z fid bD)<|E z (fa b_E) ?_
  rintro _ bF ⟨rfl,aO⟩;have a0:=aO.below;refine E0 (fs (cur':=vR aB aC aD aE aF aG aH aI aJ aK aL aM aN) o_ z z (aO.blk:Blk bF bB.z [(Str.v (⟨[]⟩:Str)),vI 0,vI 0,vB false,sl none 0 0,sl none 0 0,sl none 0 0,sl none 0 0]) z (lb z) (oA z) z) ?_;rintro _ _ ⟨bG,bH⟩;have a1:=bH.one;refine Wn<|Ws<|R z (fd e_Y z)<|R z (l1 g_9 z fid<|bG.at z)<|R z (fd e_Y z)<|R z (l1 g_9 z fid<|((((hk.e s1).e sa).e a0).c a1<|djs<|mm1 ap.lt<|lt_ (lt_ h3.s s1.s) sa.s).at z)<|R z (b_j z z)<|Wn<|Wc z (fun V=>?_) (fun V=>?_)
  ·exact Ws<|Ra z<|Wn<|Wr<|rtO<|qL (som<|ifT ad V).symm<|h_ hr z ⟨bM (bup (bup (bup (bM (bup (bup h2 s5) h4) h3<|m1 hd) s1) sa) a0) a1<|m1<|lt_ (lt_ (lt_ (lt_ hd h4.s) h3.s) s1.s) sa.s,z⟩
  exact Wk<|Wg<|R z (inc_ ab (lt_ (repS.len Y) P_) z z)<|Rm z<|Wl (fun _ q=>⟨(),(som<|ifF ad V).symm,⟨q.k<|s6 z z z z z z,bM (bup sa a0) a1<|m1 sa.s⟩⟩)
 ·rintro _ _ _ ⟨aY,bI⟩;refine Wu ?_ aY;refine Ws<|R z (lss z z)<|Wn<|Wq<|Wc z (fun hc=>(a_i hc).elim) (fun _=>?_)
  exact We<|fun a' ha'=>⟨rfl,⟨Sat.weaken ha'<|s3 z z z,bI⟩⟩
 ·rintro _ bJ wi rfl ⟨_,sb⟩;have aZ:=elL aa;revert bJ;refine Wo<|Wq<|Ws<|R z (fd N_ z) ?_
  have aP:=(hk.e s1).e sb;refine R z (l1 C_ z fid<|aP.at z) ?_;have a2:=(((h4.ag B).c h3<|c_ ay).e s1).e sb;refine R z (lnR w_ z<|hj.g a2)<|Rm z<|Wn ?_
  obtain ⟨_,b0,af⟩:=bdS aZ;refine Wf (σ:=Unit) (ρ:=Bool) (fun (a3:Nat) (_:Unit) a w=>Sat 65 [(1,vI x2),(2,pt w0.z),(5,pt J.z),(48,sl ae nf cg),(49,vI (L.kids.length:Int)),(50,vI ((a3:Nat):Int))] a∧Below wi.z wi w) (fun (_:Unit) a w=>Sat 65 [(2,pt w0.z),(5,pt J.z)] a∧Below wi.z wi w) (fun r ex a w=>ex = .ret∧L_ prog fn (Q0 w0 B r) a w) b0 ?_ ?_ ?_ ?_ ?_
  ·exact fun _ q=>⟨q.k<|s6 z z z z z z,br wi⟩
  ·rintro a3 _ _ wl _ ah ⟨b1,a4⟩ b2;refine Wu ?_ b1;refine Ws<|R z (lss z z)<|Wn<|Wq<|Wc z (fun _=>?_) (fun hc=>(a_h ah hc).elim)
   refine Wk<|Wq<|Wb<|Ws ?_
   obtain ⟨aQ,bK,b3⟩:=bdS b2;refine RX z (at_ (α:=Int) w_ z_3 z z z (hj.g<|a2.e a4) bK) ?_;rintro _ ⟨_,_,_,rfl,bL,bN,_⟩;obtain ⟨rfl,_⟩:=Q_ bN;refine R z (l1 g_3 z fid<|bL.at0 z)<|Ra z<|Wn<|Wq ?_
   obtain ⟨bO,ai,aj⟩:=bdS b3;refine Wt (fun a w=>∃ (a5:Bool),a5=bO∧Sat 65 [(1,vI x2),(2,pt w0.z),(5,pt J.z),(48,sl ae nf cg),(49,vI (L.kids.length:Int)),(50,vI ((a3:Nat):Int)),(60,vB a5)] a∧Below wl.z wl w) ?_ ?_
   ·refine Wg<|Rm z<|R z (lss z z)<|Rm z ?_
    rcases bs (decide<|aQ<0) with I | I
    ·iterate 3 refine Nh z I ?_
     exact R z (pT z I z)<|Wl (fun _ q=>⟨true,som<|ifT ai I,q.k<|s7 z z z z z z z,br wl⟩)
    exact Rh z I (mv z)<|Rh z I (mv z)<|Rh z I (b_e z z)<|R z (pF z I z)<|Wl (fun _ q=>⟨decide<|x2≤aQ,som<|ifF ai I,q.k<|s7 z z z z z z z,br wl⟩)
   rintro bP _ ⟨a5,rfl,_,aR⟩;revert bP;refine Wo<|Wc z (fun W=>?_) (fun W=>?_)
   ·exact Ws<|Ra z<|Wn<|Wr<|rtO<|qL (som<|ifT aj W).symm<|h_ hr z ⟨bup (bup (bup (bup (bM (bup (bup h2 s5) h4) h3<|m1 hd) s1) sb) a4) aR,z⟩
   exact Wk<|Wg<|R z (inc_ ah (lt_ (repS.len hj) P_) z z)<|Rm z<|Wl (fun _ q=>⟨(),(som<|ifF aj W).symm,⟨q.k<|s6 z z z z z z,bup a4 aR⟩⟩)
  ·rintro _ _ _ ⟨b4,bQ⟩;refine Wu ?_ b4;refine Ws<|R z (lss z z)<|Wn<|Wq<|Wc z (fun hc=>(a_i hc).elim) (fun _=>?_)
   exact We<|fun a' ha'=>⟨rfl,⟨Sat.weaken ha'<|s2 z z,bQ⟩⟩
  ·rintro _ bR _ rfl ⟨_,sc⟩;have b5:=elL af;revert bR;refine Wo<|Ws<|R z (lN (vs:=[sl A0 N0 C0]) v_ s_ z z fid<|((ax.e sb).e sc).row 0 1 z)<|R z (lN (vs:=vR L aq nr cs au nt cv aw nx cy ae nf cg) I_ o_ z z fid<|(aP.e sc).row 0 8 z) ?_
   have hn:=a2.e sc;obtain ⟨_,bS,b6⟩:=bdS b5;refine E z (fc call200 z<|W_w2q (B:=B) bS (zt' hBw<|lt_ (lt_ (lt_ (lt_ (lt_ hd h4.s) h3.s) s1.s) sb.s) sc.s) (p1_0.g<|(az.e sb).e sc) an bh bi (bj.g hn) (bk.g hn) (bm.g hn)<|hj.g hn) ?_;rintro _ _ ⟨bT,rfl⟩;refine Ra z<|Wn ?_
   obtain rfl:=som b6;exact Wr<|h_ hr z ⟨bup (bup (bup (bup (bM (bup (bup h2 s5) h4) h3<|m1 hd) s1) sb) sc) bT,z⟩
  rintro _ _ _ _ rfl ⟨rfl,b7⟩;have b8:=elR af;obtain rfl:=som b8;exact ⟨b7,z⟩
 rintro _ _ _ _ rfl ⟨rfl,b9⟩;have ba:=elR aa;obtain rfl:=som ba;exact ⟨b9,z⟩
theorem W_w1i {x1:f_} {res:Bool} (hm:f_o n x1=some res) (hBw:B≤w0.z) (p1_0:repS w0 B (sl A0 N0 C0) x1.rules):m_ prog 116 [(.agg #[sl A0 N0 C0])] w0 (Q0 w0 B res):=by
 unfold f_o at hm
 refine goF func116 z z (lb z) fun fn hr=>Ws<|E z (fb z) ?_
 rintro _ wh ⟨rfl,O⟩;have G:=O.below;have V:Blk wh w0.z [sl A0 N0 C0]:=O.blk;refine Ra z<|Wn<|Wq<|Ws<|R z (fd a_4 z)<|R z (l1 a_6 z fid<|V.at z) ?_
 have W:=p1_0.e G;refine R z (lnR a_7 z W) ?_;obtain ⟨_,ei,hma⟩:=bdS hm;refine E z (fc call168 z<|d_O (B:=B) ei (zt' hBw G.s) (a_U<|repS.len W) (ii z)<|ii z) ?_;rintro _ H ⟨s1,rfl⟩;refine R z (not_ z)<|Wn<|Wc z (fun I=>?_) (fun I=>?_)
 ·refine Ws<|Ra z<|Wn ?_
  obtain rfl:=som<|ifT hma I;exact Wr<|h_ hr z ⟨bup G s1,z⟩
 refine Wk<|Wq<|Ws<|R z (fd a_4 z) ?_
 have hb:=V.e s1;refine R z (l1 a_6 z fid<|hb.at z) ?_;have hd:=(G.ag B).e s1;refine R z (lnR a_7 z<|p1_0.g hd)<|Rm z<|Wn ?_
 obtain ⟨_,huj,hmc⟩:=bdS<|ifF hma I;refine Wf (σ:=Unit) (ρ:=Bool) (fun (ke:Nat) (_:Unit) a w=>Sat 20 [(1,pt w0.z),(11,vI (x1.rules.length:Int)),(12,vI ((ke:Nat):Int))] a∧Below H.z H w) (fun (_:Unit) a w=>Sat 20 [] a∧Below H.z H w) (fun r ex a w=>ex = .ret∧L_ prog fn (Q0 w0 B r) a w) huj ?_ ?_ ?_ ?_ ?_
 ·exact fun _ q=>⟨q.k<|s3 z z z,br H⟩
 ·rintro ke _ _ _ _ J ⟨hSk,s4⟩ hml;refine Wu ?_ hSk;refine Ws<|R z (lss z z)<|Wn<|Wq<|Wc z (fun _=>?_) (fun hc=>(a_h J hc).elim)
  refine Wk<|Wq<|Wb<|Ws<|Rm z<|Ra z<|Wn<|Ws<|R z (lN (vs:=[sl A0 N0 C0]) v_ s_ z z fid<|(hb.e s4).row 0 1 z)<|Rm z ?_
  obtain ⟨_,em,hmf⟩:=bdS hml;refine E z (fc call169 z<|W_w2r (B:=B) em (zt' hBw<|lt_ (lt_ G.s s1.s) s4.s) (p1_0.g<|hd.e s4)<|ic (Nat.le_of_lt J)<|lt_ (repS.len p1_0) P_) ?_;rintro _ _ ⟨sg,rfl⟩;refine R z (not_ z)<|Wn<|Wc z (fun L=>?_) (fun L=>?_)
  ·exact Ws<|Ra z<|Wn<|Wr<|rtO<|qL (som<|ifT hmf L).symm<|h_ hr z ⟨bup (bup (bup G s1) s4) sg,z⟩
  exact Wk<|Wg<|R z (inc_ J (lt_ (repS.len p1_0) P_) z z)<|Rm z<|Wl (fun _ q=>⟨(),(som<|ifF hmf L).symm,⟨q.k<|s3 z z z,bup s4 sg⟩⟩)
 ·rintro _ _ _ ⟨hSn,so⟩;refine Wu ?_ hSn;refine Ws<|R z (lss z z)<|Wn<|Wq<|Wc z (fun hc=>(a_i hc).elim) (fun _=>?_)
  exact We<|fun a' ha'=>⟨rfl,⟨Sat.weaken ha' sn,so⟩⟩
 ·rintro _ ap _ rfl ⟨_,sq⟩;have hmr:=elL hmc;revert ap;refine Wo<|Ws<|Ra z<|Wn ?_
  obtain rfl:=som hmr;exact Wr<|h_ hr z ⟨bup (bup G s1) sq,z⟩
 rintro _ _ _ _ rfl ⟨rfl,hqs⟩;have hmt:=elR hmc;obtain rfl:=som hmt;exact ⟨hqs,z⟩
theorem j_n {x1:f_} {res:Int} (hm:f_p x1=some res) (hBw:B≤w0.z) (p1_0:repS w0 B (sl A0 N0 C0) x1.rules):m_ prog 96 [(.agg #[sl A0 N0 C0])] w0 (Q9 w0 B res):=by
 unfold f_p at hm
 refine goF func96 z z (lb z) fun fn hr=>Ws<|E z (fb z) ?_
 rintro _ H ⟨rfl,G⟩;have h1:=G.below;refine Ra z<|Wn<|Ws<|R z (fd a_4 z)<|R z (l1 a_6 z fid<|(G.blk:Blk H w0.z [sl A0 N0 C0]).at z)<|R z (lnR a_7 z<|p1_0.e h1)<|R z (sb_ z z)<|Ra z<|Wn ?_
 obtain rfl:=som hm;exact Wr<|h_ hr z ⟨h1,z,iS _ _⟩
theorem W_w1j {x1:f_} {x2:Int} {res:Bool} (hm:f_q n x1 x2=some res) (hBw:B≤w0.z) (p1_0:repS w0 B (sl A0 N0 C0) x1.rules) (p2_0:inI x2):m_ prog 190 [(.agg #[sl A0 N0 C0]),vI x2] w0 (Q0 w0 B res):=by
 unfold f_q at hm
 refine goF func190 z z (lb z) fun fn hr=>Ws<|E z (fb z) ?_
 rintro _ H ⟨rfl,h5⟩;have h1:=h5.below;have h6:Blk H w0.z [sl A0 N0 C0]:=h5.blk;refine Ra z<|Wn<|Wq ?_
 obtain ⟨u8,J,hma⟩:=bdS hm;refine Wt (fun a w=>∃ (x4:Bool),x4=u8∧Sat 12 [(4,vB x4)] a∧Below H.z H w) ?_ ?_
 ·refine Wg<|R z (lN (vs:=[sl A0 N0 C0]) v_ s_ z z fid<|h6.row 0 1 z) ?_
  obtain ⟨rb,ec,I⟩:=bdS J;refine E z (fc call116 z<|W_w1i (B:=B) ec (zt' hBw h1.s)<|p1_0.e h1) ?_;rintro _ _ ⟨s2,rfl⟩;refine Rm z ?_
  rcases bs rb with G | G
  ·refine Rh z G (lN (vs:=[sl A0 N0 C0]) v_ s_ z z fid<|(h6.e s2).row 0 1 z)<|Rh z G (mv z) ?_
   obtain ⟨rd,ee,hmf⟩:=bdS<|ifT I G;refine Eg z z G z (fc call199 z<|j_l (B:=B) ee (zt' hBw<|lt_ h1.s s2.s) (p1_0.g<|(h1.ag B).e s2) p2_0) ?_;rintro _ _ ⟨sg,rfl⟩;exact R z (pT z G z)<|Ra z<|Wl (fun _ q=>⟨rd,som hmf,q.k<|s1 z,bup s2 sg⟩)
  iterate 3 refine Nh z G ?_
  exact R z (pF z G z)<|Ra z<|Wl (fun _ q=>⟨false,som<|ifF I G,q.k<|s1 z,s2⟩)
 rintro ah _ ⟨x4,rfl,_,si⟩;revert ah;refine Wo ?_;obtain rfl:=som hma;exact Wr<|h_ hr z ⟨bup h1 si,z⟩
def Q23 (w0:World) (B:Zone) (r:V_) (v:Value) (w':World):Prop:=Bw w0 w'∧(fun G=>(.agg #[vI G.at_,vI G.code])=v∧inI G.at_∧inI G.code) r
theorem g_1 {x1:a_2} {b1 o1:Nat} {x2:Int} {x3:Int} {res:V_} (hm:d_A x1 x2 x3=some res) (hBw:B≤w0.z) (p1_0:repS w0 B (sl A0 N0 C0) x1.d.rules) (p1_1:repS w0 B (sl A5 N5 C5) x1.b) (p1_2:inI x1.applied) (hC1:Z_ w0 b1 o1 [sl A0 N0 C0,sl A5 N5 C5,vI x1.applied]) (hC1b:B b1) (p2_0:inI x2) (p3_0:inI x3):m_ prog 240 [(.pointer<|some ⟨b1,o1,none⟩),vI x2,vI x3] w0 (Q23 w0 B res):=by
 unfold d_A at hm
 refine goF func240 z z (lb z) fun fn hr=>Ws<|E z (fa b_u) ?_
 rintro _ I ⟨rfl,h2⟩;have G:=h2.below;have h3:Blk I w0.z [vI 0,vI 0]:=h2.blk;refine Wn<|Wq<|Ws<|Rm z<|Rm z<|R z (T_ z)<|R z (fd d_j z)<|R z (l1 X_ z fid<|(hC1.e G).at (j:=1) z)<|R z (lnR n_ z<|p1_1.e G)<|Rm z<|R z (sb_ z z)<|R z (a_1 z z)<|Wn<|Wc z (fun H=>?_) (fun H=>?_)
 ·refine Ws<|Rm z<|R z (bP (parts:=[(0,.tmp 16),(1,.const<|.int .i64 1)]) (cs:=[vI x2,vI 1]) c_o z z)<|E0 (fs (cur':=[vI x2,vI 1]) H_ z z h3 z (lb z) (oA z) z) ?_
  rintro _ _ ⟨h5,s6⟩;refine Wn ?_;obtain rfl:=som<|ifT hm H;exact Wr<|h_ hr (q_ a_f H_ z h5 z) ⟨bM G s6.one<|b_ lr,z,p2_0,ii z⟩
 refine Wk<|Ws<|Rm z<|Rm z<|R z (add_ z z)<|R z (bP (parts:=[(0,.tmp 20),(1,.const<|.int .i64 0)]) (cs:=[vI (g_ x2 x3),vI 0]) c_o z z)<|E0 (fs (cur':=[vI (g_ x2 x3),vI 0]) H_ z z h3 z (lb z) (oA z) z) ?_
 rintro _ _ ⟨J,s8⟩;refine Wn ?_;obtain rfl:=som<|ifF hm H;exact Wr<|h_ hr (q_ a_f H_ z J z) ⟨bM G s8.one<|b_ lr,z,iA _ _,ii z⟩
theorem j_o {x1:List UInt8} {x2:Bool} {res:Int} (hm:e_G x1 x2=some res) (hBw:B≤w0.z) (p1_0:repS w0 B (sl A0 N0 C0) x1):m_ prog 76 [sl A0 N0 C0,vB x2] w0 (Q9 w0 B res):=by
 unfold e_G at hm
 refine goF func76 z z (lb z) fun fn hr=>Ws<|Ra z<|Wn<|Wq<|Ws<|Rm z<|R z (lnR n_ z p1_0)<|R z (a_1 z z)<|Wn<|Wc z (fun H=>?_) (fun H=>?_)
 ·refine Ws<|Ra z<|Wn ?_
  obtain rfl:=som<|ifT hm H;exact Wr<|h_ hr z ⟨br w0,z,ii z⟩
 refine Wk<|Ws<|Ra z<|Wn<|Wq<|Ws<|Rm z<|R z (lnR n_ z p1_0)<|Rm z<|Wn ?_
 obtain ⟨_,huc,J⟩:=bdS<|ifF hm H;refine Wf (σ:=Int) (ρ:=Int) (fun (k5:Nat) (x0:Int) a w=>Sat 38 [(0,sl A0 N0 C0),(1,vB x2),(5,vI x0),(11,vI (x1.length:Int)),(12,vI ((k5:Nat):Int))] a∧Below w0.z w0 w∧inI x0) (fun (x0:Int) a w=>Sat 38 [(5,vI x0)] a∧Below w0.z w0 w∧inI x0) (fun r ex a w=>ex = .ret∧L_ prog fn (Q9 w0 B r) a w) huc ?_ ?_ ?_ ?_ ?_
 ·exact fun _ q=>⟨q.k<|s5 z z z z z,br w0,ii z⟩
 ·rintro k5 x0 _ G _ L ⟨hSd,s6,h2⟩ hme;refine Wu ?_ hSd;refine Ws<|R z (lss z z)<|Wn<|Wq<|Wc z (fun _=>?_) (fun hc=>(a_h L hc).elim)
  refine Wk<|Wq<|Wb<|Ws<|Rm z<|Ra z<|Wn<|Ws<|Rm z<|Wn ?_
  obtain ⟨uf,hua,hmg⟩:=bdS hme;refine Wt (fun a w=>∃ (x3:Int),x3=uf∧Sat 38 [(0,sl A0 N0 C0),(1,vB x2),(5,vI x3),(11,vI (x1.length:Int)),(12,vI ((k5:Nat):Int))] a∧Below G.z G w∧inI x3) ?_ ?_
  ·refine Wc z (fun I=>?_)<|fun I=>?_
   ·refine Wg<|Rm z<|R z (i_9 z z (by decide))<|Rm z<|Rm z ?_
    have hb:=p1_0.e s6;refine R z (lnR n_ z hb)<|R z (sb_ z z)<|Rm z<|R z (sb_ z z) ?_
    obtain ⟨xh,ei,hmj⟩:=bdS<|ifT hua I;refine RX z (at_ (α:=UInt8) n_ z_5 z z z hb ei) ?_;rintro _ ⟨_,_,_,rfl,hk,hl,_⟩;obtain rfl:=u8 hl;exact R z (l1 g_5 z fid<|hk.at0 z)<|R z (b_O d_5 d_3 z)<|R z (rd_or z z)<|Ra z<|Wl (fun _ q=>⟨a_w .i64 (· ||| ·) (b_F .i64 x0 8)<|byteI xh,som hmj,q.k<|s5 z z z z z,br G,f_V _ _ _⟩)
   refine Wg<|Rm z<|R z (i_9 z z (by decide))<|Rm z<|Rm z ?_
   obtain ⟨xm,en,hmo⟩:=bdS<|ifF hua I;refine RX z (at_ (α:=UInt8) n_ z_5 z z z (p1_0.e s6) en) ?_;rintro _ ⟨_,_,_,rfl,hp,hq,_⟩;obtain rfl:=u8 hq;exact R z (l1 g_5 z fid<|hp.at0 z)<|R z (b_O d_5 d_3 z)<|R z (rd_or z z)<|Ra z<|Wl (fun _ q=>⟨a_w .i64 (· ||| ·) (b_F .i64 x0 8)<|byteI xm,som hmo,q.k<|s5 z z z z z,br G,f_V _ _ _⟩)
  rintro ar _ ⟨x3,rfl,_,ss,ht⟩;revert ar;exact Wo<|Wg<|R z (inc_ L (lt_ (repS.len p1_0) P_) z z)<|Rm z<|Wl (fun _ q=>⟨x3,(som hmg).symm,⟨q.k<|s5 z z z z z,bup s6 ss,ht⟩⟩)
 ·rintro x0 _ _ ⟨hSu,sv,h2⟩;refine Wu ?_ hSu;refine Ws<|R z (lss z z)<|Wn<|Wq<|Wc z (fun hc=>(a_i hc).elim) (fun _=>?_)
  exact We<|fun a' ha'=>⟨rfl,⟨Sat.weaken ha'<|s1 z,sv,h2⟩⟩
 ·rintro x0 aw _ rfl ⟨_,sx,h2⟩;have hmy:=elL J;revert aw;refine Wo<|Ws<|Rm z<|Ra z<|Wn ?_
  obtain rfl:=som hmy;exact Wr<|h_ hr z ⟨sx,z,h2⟩
 rintro _ _ _ _ rfl ⟨rfl,hqz⟩;have O:=elR J;obtain rfl:=som O;exact ⟨hqz,z⟩
def Q24 (w0:World) (g1:Nat) (B:Zone) (A0:Option Addr) (N0 C0:Nat) (A5:Option Addr) (N5 C5:Nat) (x1:a_2) (r:Int×V_×Int) (v:Value) (w':World):Prop:=Chg (· ∈ [g1]) w0 w'∧un3 (fun H G I=>v = .tuple #[vI H,(.agg #[vI G.at_,vI G.code])]∧inI H∧inI G.at_∧inI G.code∧inI I∧Blk w' g1 [sl A0 N0 C0,sl A5 N5 C5,vI I]) r
theorem h_Y {x1:a_2} {g1:Nat} {x2:Int} {x3:Int} {res:Int×V_×Int} (hm:e_6 x1 x2 x3=some res) (hB1:Blk w0 g1 [sl A0 N0 C0,sl A5 N5 C5,vI x1.applied]) (hBw:B≤w0.z) (hBg : ¬ B g1) (p1_0:repS w0 B (sl A0 N0 C0) x1.d.rules) (p1_1:repS w0 B (sl A5 N5 C5) x1.b) (p1_2:inI x1.applied) (p2_0:inI x2) (p3_0:inI x3):m_ prog 238 [pt g1,vI x2,vI x3] w0 (Q24 w0 g1 B A0 N0 C0 A5 N5 C5 x1 res):=by
 unfold e_6 at hm
 refine goF func238 z z (lb z) fun fn hr=>Ws<|Ra z<|E z (fa b_u) ?_
 rintro _ wf ⟨rfl,ho⟩;have hb:=ho.below;have I:Blk wf w0.z [vI 0,vI 0]:=ho.blk;refine Wn<|Ws<|Rm z<|R z (T_ z)<|R z (fd h_Q z) ?_
 have hp:=hB1.e hb;refine R z (l1 g_3 z fid<|hp.at z)<|R z (add_ z z)<|R z (T_ z)<|R z (fd h_Q z)<|E0 (fs (cur':=[sl A0 N0 C0,sl A5 N5 C5,vI<|g_ x1.applied 1]) z_3 z z hp z (lb z) (oA z) z) ?_
 rintro _ J ⟨hq,al⟩;have h1:=al.one;refine Wn<|Ws<|Rm z<|R z (T_ z)<|R z (fd k_X z)<|R z (fd a_4 z)<|R z (l1 a_6 z fid<|hq.at z)<|Rm z ?_
 obtain ⟨xr,am,ai⟩:=bdS hm;have ht:=(hb.ag B).c h1<|c_<|b_ hBg
 refine RX z (at_ (α:=e_) a_7 o_ z z z (p1_0.g ht) am) ?_;rintro _ ⟨_,_,_,rfl,an,ao,_⟩;obtain ⟨au,ns,cv,aw,nx,cy,az,O,V,W,Y,a0,rfl,_,_,ap,_,_,_,_⟩:=a_P ao;refine R z (lN (vs:=vR xr au ns cv aw nx cy az O V W Y a0) I_ o_ z z fid an)<|E z (fa b_E) ?_
 rintro _ wg ⟨rfl,a1⟩;have h4:=a1.below;have a2:Blk wg J.z [(Str.v (⟨[]⟩:Str)),vI 0,vI 0,vB false,sl none 0 0,sl none 0 0,sl none 0 0,sl none 0 0]:=a1.blk;refine E0 (fs (cur':=vR xr au ns cv aw nx cy az O V W Y a0) o_ z z a2 z (lb z) (oA z) z) ?_;rintro _ a3 ⟨a4,aq⟩;have h2:=aq.one;refine Wn<|Ws<|Rm z<|Rm z<|R z (fd a_K z)<|R z (l1 g_3 z fid<|a4.at z) ?_
 have hc:=lt_ hb.s h1.s;have hh:=(hq.e h4).c h2<|djs<|mm1 (Blk.lt hB1) hc
 have hi:=(ht.e h4).c h2<|c_ (or0 (b_ lr)  (j_<|zt' hBw hc) : ∀ k∈[J.z],¬ B k)
 have hj:=lt_ (lt_ hc h4.s) h2.s;obtain ⟨H,ar,L⟩:=bdS ai;refine E z (fc call240 z<|g_1 (B:=w0.z) ar (a_V hj) (repS.mono (p1_0.g hi) hBw) (repS.mono (p1_1.g hi) hBw) (iA _ _) (hh.row 0 3 z) (Blk.lt hB1) p3_0 ap) ?_;rintro _ wa ⟨G,rfl,a5,a6⟩;refine E z (fa b_u) ?_;rintro _ wk ⟨rfl,a7⟩;have h5:=a7.below;refine E0 (fs (cur':=[vI H.at_,vI H.code]) H_ z z (a7.blk:Blk wk wa.z [vI 0,vI 0]) z (lb z) (oA z) z) ?_;rintro _ a8 ⟨hl,av⟩;have h6:=av.one;refine Wn<|Wq<|Ws<|R z (fd c_V z)<|R z (l1 g_3 z fid<|hl.at z)<|R z (nq z z)<|Wn<|Wc z (fun hcm=>?_) (fun hcm=>?_)
 ·refine Wq (Wd (X:=noX) 4 (.rd 0<|.rd 1<|.ef 2 .done) mo (by kernel_rfl) fun ax sd _=>dR z z (lN (vs:=[vI H.at_,vI H.code]) a_f H_ z z fid<|(hl.e sd).row 0 2 z)<|dR z z (asg z) ?_);have a9:=mmr<|Blk.lt hB1
  refine dE0 z (fs (cur':=[vI H.at_,vI H.code]) H_ z z (((((((I.c h1<|atp a9).e h4).c h2<|djs<|mm1 I.lt h1.s).e G).e h5).c h6<|djs<|mm1 I.lt<|lt_ (lt_ (lt_ h1.s h4.s) h2.s) G.s).e sd) z (lb z) (oA z) z) (.inl z) ?_;rintro _ ay ⟨aA,aB⟩;have aa:=aB.one;refine pD<|Wo ?_
  obtain rfl:=som<|ifT L hcm;have ab:=lt_ hj G.s;exact Wr<|a_5 hr z (q_ a_f H_ z aA z) ⟨(cM (d_ (cM (d_ (d_ (cM (d_ (cM (d_ (cr [g1] w0) hb:Chg (· ∈ [g1]) w0 wf) h1 (io sr):Chg (· ∈ [g1]) w0 J) h4:Chg (· ∈ [g1]) w0 wg) h2 (mor hc : ∀ k∈[J.z],k∈[g1]∨w0.z≤k):Chg (· ∈ [g1]) w0 a3) G:Chg (· ∈ [g1]) w0 wa) h5:Chg (· ∈ [g1]) w0 wk) h6 (mor ab : ∀ k∈[wa.z],k∈[g1]∨w0.z≤k):Chg (· ∈ [g1]) w0 a8) sd:Chg (· ∈ [g1]) w0 ax) aa (mor lr : ∀ k∈[w0.z],k∈[g1]∨w0.z≤k):Chg (· ∈ [g1]) w0 ay),z,ii z,a5,a6,iA _ _,((((hh.e G).e h5).c h6<|djs<|mm1 (Blk.lt hB1) ab).e sd).c aa<|djs a9⟩
 refine Wk<|Wq (Wd (X:=noX) 8192 (.rd 0<|.rd 1<|.rd 2<|.rd 3<|.rd 4<|.rd 5<|.rd 6<|.rd 7<|.rd 8<|.rd 9<|.rd 11<|.ef 10<|.rd 12<|.ef 13 .done) mo (by kernel_rfl) fun aC s7 _=>dR z z (mv z)<|dR z z (T_ z)<|dR z z (fd d_j z) ?_)
 have he:=lt_ hj G.s;have ad:=(((hh.e G).e h5).c h6<|djs<|mm1 (Blk.lt hB1) he).e s7;refine dR z z (l1 X_ z fid<|ad.at z)<|dR z z (mv z)<|dR z z (fd c_C z) ?_
 have ae:=hl.e s7;refine dR z z (l1 g_3 z fid<|ae.at z) ?_;obtain ⟨_,aD,aj⟩:=bdS<|ifF L hcm;refine dRX z z (rX n_ z_5 z z (p1_1.g<|(((hi.e G).e h5).c h6<|c_ (or0 (b_ lr)  (j_<|zt' hBw he) : ∀ k∈[wa.z],¬ B k)).e s7) z z aD) ?_;rintro _ ⟨_,_,_,rfl,aE⟩;refine dR z z (fd c_D z)<|dR z z (l1 g_4 z fid<|((((a4.e G).e h5).c h6<|djs<|mm1 a2.lt<|lt_ h2.s G.s).e s7).at z)<|dR z z (lN (vs:=[vI H.at_,vI H.code]) a_f H_ z z fid<|ae.row 0 2 z) ?_
 obtain ⟨_,aF,ak⟩:=bdS aj;refine dE z z (fc call76 z<|j_o (B:=B) aF (zt' hBw<|lt_ (lt_ (lt_ he h5.s) h6.s) s7.s) aE) (.inr fun _ _ h=>A_<|h.1) ?_;rintro _ aG ⟨sn,rfl,aH⟩;refine dR z z (asg z) ?_;have af:=mmr<|Blk.lt hB1
 refine dE0 z (fs (cur':=[vI H.at_,vI H.code]) H_ z z ((((((((I.c h1<|atp af).e h4).c h2<|djs<|mm1 I.lt h1.s).e G).e h5).c h6<|djs<|mm1 I.lt<|lt_ (lt_ (lt_ h1.s h4.s) h2.s) G.s).e s7).e sn) z (lb z) (oA z) z) (.inl z) ?_;rintro _ aI ⟨aJ,aK⟩;have ah:=aK.one;refine pD<|Wo ?_
 obtain rfl:=som ak;exact Wr<|a_5 hr z (q_ a_f H_ z aJ z) ⟨(cM (d_ (d_ (cM (d_ (d_ (cM (d_ (cM (d_ (cr [g1] w0) hb:Chg (· ∈ [g1]) w0 wf) h1 (io sr):Chg (· ∈ [g1]) w0 J) h4:Chg (· ∈ [g1]) w0 wg) h2 (mor hc : ∀ k∈[J.z],k∈[g1]∨w0.z≤k):Chg (· ∈ [g1]) w0 a3) G:Chg (· ∈ [g1]) w0 wa) h5:Chg (· ∈ [g1]) w0 wk) h6 (mor he : ∀ k∈[wa.z],k∈[g1]∨w0.z≤k):Chg (· ∈ [g1]) w0 a8) s7:Chg (· ∈ [g1]) w0 aC) sn:Chg (· ∈ [g1]) w0 aG) ah (mor lr : ∀ k∈[w0.z],k∈[g1]∨w0.z≤k):Chg (· ∈ [g1]) w0 aI),z,aH,a5,a6,iA _ _,(ad.e sn).c ah<|djs af⟩
theorem W_w2s {x1:a_2} {b1 o1:Nat} {x2:e_} {x3:Int} {res:V_} (hm:g_P x1 x2 x3=some res) (hBw:B≤w0.z) (p1_0:repS w0 B (sl A0 N0 C0) x1.d.rules) (p1_1:repS w0 B (sl A5 N5 C5) x1.b) (p1_2:inI x1.applied) (hC1:Z_ w0 b1 o1 [sl A0 N0 C0,sl A5 N5 C5,vI x1.applied]) (hC1b:B b1) (p2_0:x2.name.b.length≤LEN) (p2_1:inI x2.kind) (p2_2:inI x2.size) (p2_4:repS w0 B (sl A2 N2 C2) x2.bytes) (p2_5:repS w0 B (sl A3 N3 C3) x2.names) (p2_6:repS w0 B (sl A1 N1 C1) x2.tags) (p2_7:repS w0 B (sl A4 N4 C4) x2.kids) (p3_0:inI x3):m_ prog 239 [(.pointer<|some ⟨b1,o1,none⟩),.agg #[Str.v x2.name,vI x2.kind,vI x2.size,vB x2.little,sl A2 N2 C2,sl A3 N3 C3,sl A1 N1 C1,sl A4 N4 C4],vI x3] w0 (Q23 w0 B res):=by
 unfold g_P at hm
 refine goF func239 z z (lb z) fun fn hr=>Ws<|E z (fb z) ?_
 rintro _ I ⟨rfl,hb⟩;have G:=hb.below;refine E z (fa b_u) ?_;rintro _ H ⟨rfl,hd⟩;have h3:=hd.below;have L:Blk H I.z [vI 0,vI 0]:=hd.blk;refine Wn<|Wq<|Ws<|R z (fd a_W z) ?_
 have he:=(hb.blk:Blk I w0.z (vR x2 A2 N2 C2 A3 N3 C3 A1 N1 C1 A4 N4 C4)).e h3;refine R z (l1 X_ z fid<|he.at z) ?_;have O:=(G.ag B).e h3;refine R z (lnR n_ z<|p2_4.g O)<|Rm z<|Wn ?_
 obtain ⟨_,hum,hmc⟩:=bdS hm;refine Wf (σ:=Unit) (ρ:=V_) (fun (k5:Nat) (_:Unit) a w=>Sat 50 [(0,.pointer<|some ⟨b1,o1,none⟩),(2,vI x3),(4,pt w0.z),(6,pt I.z),(10,sl A2 N2 C2),(11,vI (x2.bytes.length:Int)),(12,vI ((k5:Nat):Int))] a∧Below H.z H w) (fun (_:Unit) a w=>Sat 50 [(2,vI x3),(4,pt w0.z),(6,pt I.z)] a∧Below H.z H w) (fun r ex a w=>ex = .ret∧L_ prog fn (Q23 w0 B r) a w) hum ?_ ?_ ?_ ?_ ?_
 ·exact fun _ q=>⟨q.k<|s7 z z z z z z z,br H⟩
 ·rintro k5 _ _ _ _ hkf ⟨hSn,s1⟩ hmo;refine Wu ?_ hSn;refine Ws<|R z (lss z z)<|Wn<|Wq<|Wc z (fun _=>?_) (fun hc=>(a_h hkf hc).elim)
  refine Wk<|Wq<|Wb<|Ws<|Rm z ?_
  obtain ⟨_,ep,hmg⟩:=bdS hmo;have hh:=O.e s1;refine RX z (at_ (α:=UInt8) n_ z_5 z z z (p2_4.g hh) ep) ?_;rintro _ ⟨_,_,_,rfl,hq,ht,_⟩;obtain rfl:=u8 ht;refine R z (l1 g_5 z fid<|hq.at0 z)<|Ra z<|Ra z<|Wn<|Wq<|Ws<|Rm z<|Rm z<|R z (add_ z z)<|Rm z<|R z (T_ z)<|R z (fd d_j z) ?_
  have hi:=((hC1.e G).e h3).e s1;refine R z (l1 X_ z fid<|hi.at (j:=1) z) ?_;have hj:=p1_1.g hh;refine R z (lnR n_ z hj)<|R z (eql z z)<|Wn<|Wc z (fun J=>?_) (fun J=>?_)
  ·refine Ws<|Rm z<|R z (bP (parts:=[(0,.tmp 26),(1,.const<|.int .i64 1)]) (cs:=[vI x3,vI 1]) c_o z z)<|E0 (fs (cur':=[vI x3,vI 1]) H_ z z (L.e s1) z (lb z) (oA z) z) ?_
   rintro _ _ ⟨hu,sr⟩;exact Wn<|Wr<|rtO<|qL (som<|ifT hmg J).symm<|h_ hr (q_ a_f H_ z hu z) ⟨bM (bup (bup G h3) s1) sr.one<|m1 G.s,z,p3_0,ii z⟩
  refine Wk<|Ws<|Rm z<|R z (T_ z)<|R z (fd d_j z)<|R z (l1 X_ z fid<|hi.at (j:=1) z)<|Rm z<|Rm z<|R z (add_ z z) ?_
  obtain ⟨_,es,hmk⟩:=bdS<|ifF hmg J;refine RX z (at_ (α:=UInt8) n_ z_5 z z z hj es) ?_;rintro _ ⟨_,_,_,rfl,hv,hw,_⟩;obtain rfl:=u8 hw;refine R z (l1 g_5 z fid<|hv.at0 z)<|Rm z<|R z (nq z z)<|Wn<|Wc z (fun hca=>?_) (fun hca=>?_)
  ·refine Ws<|Rm z<|Rm z<|R z (add_ z z)<|R z (bP (parts:=[(0,.tmp 41),(1,.const<|.int .i64 2)]) (cs:=[(vI<|g_ x3 ((k5:Nat):Int)),vI 2]) c_o z z)<|E0 (fs (cur':=[(vI<|g_ x3 ((k5:Nat):Int)),vI 2]) H_ z z (L.e s1) z (lb z) (oA z) z) ?_
   rintro _ _ ⟨hx,sy⟩;exact Wn<|Wr<|rtO<|qL (som<|ifT hmk hca).symm<|h_ hr (q_ a_f H_ z hx z) ⟨bM (bup (bup G h3) s1) sy.one<|m1 G.s,z,iA _ _,ii z⟩
  exact Wk<|Wg<|R z (inc_ hkf (lt_ (repS.len p2_4) P_) z z)<|Rm z<|Wl (fun _ q=>⟨(),(som<|ifF hmk hca).symm,⟨q.k<|s7 z z z z z z z,s1⟩⟩)
 ·rintro _ _ _ ⟨hSz,a0⟩;refine Wu ?_ hSz;refine Ws<|R z (lss z z)<|Wn<|Wq<|Wc z (fun hc=>(a_i hc).elim) (fun _=>?_)
  exact We<|fun a' ha'=>⟨rfl,⟨Sat.weaken ha'<|s3 z z z,a0⟩⟩
 ·rintro _ a1 _ rfl ⟨_,s6⟩;have V:=elL hmc;revert a1;refine Wo<|Ws<|Rm z<|R z (fd a_W z)<|R z (l1 X_ z fid<|(he.e s6).at z)<|R z (lnR n_ z<|p2_4.g<|O.e s6)<|R z (add_ z z)<|R z (bP (parts:=[(0,.tmp 48),(1,.const<|.int .i64 0)]) (cs:=[(vI<|g_ x3 (x2.bytes.length:Int)),vI 0]) c_o z z)<|E0 (fs (cur':=[(vI<|g_ x3 (x2.bytes.length:Int)),vI 0]) H_ z z (L.e s6) z (lb z) (oA z) z) ?_
  rintro _ _ ⟨a2,a3⟩;refine Wn ?_;obtain rfl:=som V;exact Wr<|h_ hr (q_ a_f H_ z a2 z) ⟨bM (bup (bup G h3) s6) a3.one<|m1 G.s,z,iA _ _,ii z⟩
 rintro _ _ _ _ rfl ⟨rfl,W⟩;have Y:=elR hmc;obtain rfl:=som Y;exact ⟨W,z⟩
theorem W_w1k {x1:List UInt8} {res:Int} (hm:f_r x1=some res) (hBw:B≤w0.z) (p1_0:repS w0 B (sl A0 N0 C0) x1):m_ prog 263 [sl A0 N0 C0] w0 (Q9 w0 B res):=by
 unfold f_r at hm
 refine goF func263 z z (lb z) fun fn hr=>Ws<|Ra z<|Wn<|Ws<|Ra z<|Wn<|Wq<|Ws<|Rm z<|R z (lnR n_ z p1_0)<|Rm z<|Wn ?_
 obtain ⟨_,I,G⟩:=bdS hm;refine Wf (σ:=Int) (ρ:=Int) (fun (k3:Nat) (x0:Int) a w=>Sat 19 [(3,vI x0),(6,sl A0 N0 C0),(7,vI (x1.length:Int)),(8,vI ((k3:Nat):Int))] a∧Below w0.z w0 w∧inI x0) (fun (x0:Int) a w=>Sat 19 [(3,vI x0)] a∧Below w0.z w0 w∧inI x0) (fun r ex a w=>ex = .ret∧L_ prog fn (Q9 w0 B r) a w) I ?_ ?_ ?_ ?_ ?_
 ·exact fun _ q=>⟨q.k<|s4 z z z z,br w0,ii z⟩
 ·rintro k3 x0 _ _ _ H ⟨J,s5,h1⟩ L;refine Wu ?_ J;refine Ws<|R z (lss z z)<|Wn<|Wq<|Wc z (fun _=>?_) (fun hc=>(a_h H hc).elim)
  refine Wk<|Wq<|Wb<|Ws ?_
  obtain ⟨O,ea,hmb⟩:=bdS L;refine RX z (at_ (α:=UInt8) n_ z_5 z z z (p1_0.e s5) ea) ?_;rintro _ ⟨_,_,_,rfl,hd,he,_⟩;obtain rfl:=u8 he;exact R z (l1 g_5 z fid<|hd.at0 z)<|Ra z<|Wn<|Wg<|Rm z<|Rm z<|R z (b_O d_5 d_3 z)<|R z (add_ z z)<|Ra z<|Wn<|Wg<|R z (inc_ H (lt_ (repS.len p1_0) P_) z z)<|Rm z<|Wl (fun _ q=>⟨g_ x0<|byteI O,(som hmb).symm,⟨q.k<|s4 z z z z,s5,iA _ _⟩⟩)
 ·rintro x0 _ _ ⟨hSc,sf,h1⟩;refine Wu ?_ hSc;refine Ws<|R z (lss z z)<|Wn<|Wq<|Wc z (fun hc=>(a_i hc).elim) (fun _=>?_)
  exact We<|fun a' ha'=>⟨rfl,⟨Sat.weaken ha'<|s1 z,sf,h1⟩⟩
 ·rintro x0 ag _ rfl ⟨_,sh,h1⟩;have hmi:=elL G;revert ag;refine Wo<|Ws<|Rm z<|R z (g_a z z (by decide))<|Ra z<|Wn ?_
  obtain rfl:=som hmi;exact Wr<|h_ hr z ⟨sh,z,f_N h1⟩
 rintro _ _ _ _ rfl ⟨rfl,hqj⟩;have hmk:=elR G;obtain rfl:=som hmk;exact ⟨hqj,z⟩
theorem W_w1l {x1:List UInt8} {x2:Int} {x3:UInt8} {res:(List UInt8)×Int×Bool} (hm:f_s n x1 x2 x3=some res) (hBw:B≤w0.z) (p1_0:repS w0 B (sl A0 N0 C0) x1) (p2_0:inI x2):m_ prog 232 [sl A0 N0 C0,vI x2,vU<|byteI x3] w0 (Q18 w0 B res):=by
 unfold f_s at hm
 refine goF func232 z z (lb z) fun fn hr=>Ws<|Ra z<|Ra z<|Ra z<|Wn<|Ws<|E z (f0 (α:=UInt8) R_) ?_
 rintro _ wg ⟨aj,nk,cl,rfl,s8,hv⟩;refine Ra z<|Wn<|Wq<|Wq ?_
 obtain ⟨ao,huw,hmx⟩:=bdS hm;refine Wt (fun a w=>∃ (xm:Bool),xm=ao∧Sat 58 [(0,sl A0 N0 C0),(1,vI x2),(2,vU<|byteI x3),(9,sl aj nk cl),(19,vB xm)] a∧Below wg.z wg w) ?_ ?_
 ·refine Wg<|Rm z<|R z (lss z z)<|Rm z ?_
  rcases bs (decide<|x2<0) with I | I
  ·iterate 4 refine Nh z I ?_
   exact R z (pT z I z)<|Wl (fun _ q=>⟨true,som<|ifT huw I,q.k<|s5 z z z z z,br wg⟩)
  exact Rh z I (mv z)<|Rh z I (mv z)<|Rh z I (lnR n_ z<|p1_0.e s8)<|Rh z I (a_1 z z)<|R z (pF z I z)<|Wl (fun _ q=>⟨decide<|(x1.length:Int)<x2,som<|ifF huw I,q.k<|s5 z z z z z,br wg⟩)
 rintro ap G ⟨xm,rfl,_,s6⟩;revert ap;refine Wo<|Wc z (fun hcn=>?_) (fun hcn=>?_)
 ·refine Ws<|Rm z<|Rm z<|Ra z<|Ra z<|Ra z<|Wn ?_
  obtain rfl:=som<|ifT hmx hcn;exact Wr<|y_ hr z z z ⟨bup s8 s6,aj,nk,cl,[w0.z],z,hv.e s6,p2_0,a_o,b_ lr⟩
 refine Wk<|Wq<|Ws<|Rm z<|Ra z<|Wn ?_
 obtain ⟨_,aa,hmy⟩:=bdS<|ifF hmx hcn;refine b_P (σ:=(List UInt8)×Int) (ρ:=(List UInt8)×Int×Bool) (fun s a w=>un2 (fun xb V=>∃ J L O H,Sat 58 [(0,sl A0 N0 C0),(1,vI x2),(2,vU<|byteI x3),(9,sl J L O),(10,vI V)] a∧Chg (· ∈ [w0.z]) G w∧a_ w H (sl J L O) xb∧H.Nodup∧(∀ k∈H,k∈[w0.z]∨G.z≤k)∧inI V) s) (fun s a w=>un2 (fun xb V=>∃ J L O H,Sat 58 [(1,vI x2)] a∧Chg (· ∈ [w0.z]) G w∧a_ w H (sl J L O) xb∧H.Nodup∧(∀ k∈H,k∈[w0.z]∨G.z≤k)∧inI V) s) (fun r ex a w=>ex = .ret∧L_ prog fn (Q18 w0 B r) a w) aa ?_ ?_ ?_ ?_
 ·exact fun _ q=>⟨aj,nk,cl,[w0.z],q.k<|s5 z z z z z,cr [w0.z] G,hv.e s6,a_o,io sr,p2_0⟩
 ·rintro ⟨xb,V⟩ _ W _ ⟨J,L,O,H,ab,sa,hc,hd,he,ho⟩ ad;have hmz:=a_F ad;refine Wu ?_ ab;refine Wq<|Ws<|Rm z<|Rm z ?_
  have a4:=((s8.ag B).e s6).c sa<|c_ (or0 (b_ lr)  (j_ hBw) : ∀ k∈[w0.z],¬ B k)
  have hh:=p1_0.g a4;refine R z (lnR n_ z hh)<|R z (lss z z)<|Wn<|Wc z (fun hcp=>?_) (fun hcp=>?_)
  ·refine Wk<|Wq<|Wb<|Wq<|Ws<|Rm z<|Rm z ?_
   obtain ⟨_,aq,Y⟩:=bdS<|ifT hmz hcp;refine RX z (at_ (α:=UInt8) n_ z_5 z z z hh aq) ?_;rintro _ ⟨_,_,_,rfl,ar,au,_⟩;obtain rfl:=u8 au;refine R z (l1 g_5 z fid<|ar.at0 z)<|Rm z<|R z (eql z z)<|Wn<|Wc z (fun hcq=>?_) (fun hcq=>?_)
   ·refine Ws<|Rm z<|Rm z<|R z (add_ z z)<|Ra z<|Ra z<|Ra z<|Wn ?_
    exact Wr<|rtO<|qL (som<|ifT Y hcq).symm<|y_ hr z z z ⟨bM (bup s8 s6) sa<|b_ lr,J,L,O,H,z,hc,iA _ _,hd,(or1 he (b_ lr) (b_k<|lt_ s8.s s6.s) : ∀ k∈H,w0.z≤k)⟩
   refine Wk<|Wq<|Ws<|Rm z<|Rm z ?_
   obtain ⟨_,av,ae⟩:=bdS<|ifF Y hcq;refine RX z (at_ (α:=UInt8) n_ z_5 z z z hh av) ?_;rintro _ ⟨_,_,_,rfl,aw,ax,_⟩;obtain rfl:=u8 ax;refine R z (l1 g_5 z fid<|aw.at0 z)<|R z (eql z z)<|Wn ?_
   obtain ⟨ay,a0,a1⟩:=bdS ae;refine Wt (fun a w=>∃ (xf:Int),Sum.inl xf=ay∧Sat 58 [(0,sl A0 N0 C0),(1,vI x2),(2,vU<|byteI x3),(9,sl J L O),(10,vI xf)] a∧Below W.z W w∧inI xf) ?_ ?_
   ·refine Wc z (fun hcr=>?_)<|fun hcr=>?_
    ·have a2:=ifT a0 hcr;refine Ws<|Rm z<|R z (add_ z z)<|Ra z<|Wn<|Ws<|Rm z<|Rm z<|R z (lnR n_ z hh)<|R z (eql z z)<|Wn<|Wc z (fun hcs=>?_) (fun hcs=>?_)
     ·obtain rfl:=som<|ifT a2 hcs;have af:=elR a1;exact We<|exO z (fun a' ha'=>b_t (som af).symm ⟨J,L,O,H,Sat.weaken ha'<|s1 z,(cM (cr [w0.z] G) sa (io sr):Chg (· ∈ [w0.z]) G W),hc,hd,(or1 he (io sr) (G_ lr) : ∀ k∈H,k∈[w0.z]∨G.z≤k),iA _ _⟩)
     exact a_e<|fun _ q=>⟨g_ V 1,som<|ifF a2 hcs,q.k<|s5 z z z z z,br W,iA _ _⟩
    exact a_e<|fun _ q=>⟨V,som<|ifF a0 hcr,q.k<|s5 z z z z z,br W,ho⟩
   rintro az a5 ⟨xf,rfl,_,si,_⟩;have ah:=elL a1;revert az;refine Wo<|Wg<|Rm z<|Rm z<|Rm z ?_
   obtain ⟨aA,aB,ai⟩:=bdS ah;refine RX z (at_ (α:=UInt8) n_ z_5 z z z (p1_0.g<|a4.e si) aB) ?_;rintro _ ⟨_,_,_,rfl,aC,aD,_⟩;obtain rfl:=u8 aD;refine R z (l1 g_5 z fid<|aC.at0 z)<|E z (fS [(.tmp 53)] R_ z z z (a_b z) (lb z)<|lb z) ?_
   rintro _ a6 ⟨rfl,ht⟩;have hu:=ht.below;have aV:=a_J ht b_c;obtain ⟨aE,aF,ak⟩:=bdS ai;refine E z (b_0 (α:=UInt8) R_ aF z z ((hc.e si).e hu) hd (ht.blk:Blk a6 a5.z [vU (byteI aA)]) b_c an_ J_) ?_;rintro _ aG ⟨a7,aH,aI,aJ,rfl,aK,aL,aM,aN⟩;refine Ra z<|Wn<|Wg<|Rm z<|R z (add_ z z)<|Ra z<|Wl ?_
   have a8 : ∀ k∈H,k∈[w0.z]∨G.z≤k:=or1 he (io sr)<|G_ lr;exact fun _ q=>⟨(aE,g_ xf 1),(som ak).symm,⟨aH,aI,aJ,a7,q.k<|s5 z z z z z,(cM (d_ (d_ (cM (cr [w0.z] G) sa (io sr):Chg (· ∈ [w0.z]) G W) si:Chg (· ∈ [w0.z]) G a5) hu:Chg (· ∈ [w0.z]) G a6) aK a8:Chg (· ∈ [w0.z]) G aG),aL,aM,(or2 aN a8 an_ (G_<|lt_ (lt_ sa.s si.s) hu.s) : ∀ k∈a7,k∈[w0.z]∨G.z≤k),iA _ _⟩⟩
  exact We<|fun a' ha'=>b_t (som<|ifF hmz hcp).symm ⟨J,L,O,H,Sat.weaken ha'<|s1 z,(cM (cr [w0.z] G) sa (io sr):Chg (· ∈ [w0.z]) G W),hc,hd,(or1 he (io sr) (G_ lr) : ∀ k∈H,k∈[w0.z]∨G.z≤k),ho⟩
 ·rintro ⟨xb,V⟩ aO aP rfl ⟨J,L,O,H,_,a9,hc,hd,he,ho⟩;have al:=elL hmy;revert aO;refine Wo<|Ws<|E z (f0 (α:=UInt8) R_) ?_
  rintro _ _ ⟨aQ,aR,aS,rfl,aT,aU⟩;refine Rm z<|Ra z<|Ra z<|Ra z<|Wn ?_
  obtain rfl:=som<|a_F al;exact Wr<|y_ hr z z z ⟨bup (bM (bup s8 s6) a9<|b_ lr) aT,aQ,aR,aS,[aP.z],z,aU,p2_0,a_o,m1<|lt_ (lt_ s8.s s6.s) a9.s⟩
 rintro _ _ _ _ rfl ⟨rfl,am⟩;have an:=elR hmy;obtain rfl:=som an;exact ⟨am,z⟩
def Q25 (w0:World) (g1:Nat) (B:Zone) (A0:Option Addr) (N0 C0:Nat) (A5:Option Addr) (N5 C5:Nat) (x1:a_2) (r:V_×Int) (v:Value) (w':World):Prop:=Chg (· ∈ [g1]) w0 w'∧un2 (fun G H=>(.agg #[vI G.at_,vI G.code])=v∧inI G.at_∧inI G.code∧inI H∧Blk w' g1 [sl A0 N0 C0,sl A5 N5 C5,vI H]) r
structure j_p (f:a_2→Int→Int→Option (V_×Int)):Prop where
  run : ∀ {A0 A5:Option Addr} {N0 C0 N5 C5 g1:Nat} {B:Zone} {x1:a_2} {x2:Int} {x3:Int} {res:V_×Int} {w0:World} (hm:f x1 x2 x3=some res) (hB1:Blk w0 g1 [sl A0 N0 C0,sl A5 N5 C5,vI x1.applied]) (hBw:B≤w0.z) (hBg : ¬ B g1) (p1_0:repS w0 B (sl A0 N0 C0) x1.d.rules) (p1_1:repS w0 B (sl A5 N5 C5) x1.b) (p1_2:inI x1.applied) (p2_0:inI x2) (p3_0:inI x3),m_ prog 193 [pt g1,vI x2,vI x3] w0<|Q25 w0 g1 B A0 N0 C0 A5 N5 C5 x1 res
structure j_q (f:a_2→e_→Int→Option (V_×Int)):Prop where
  run : ∀ {A0 A5 A2 A3 A1 A4:Option Addr} {N0 C0 N5 C5 g1 N2 C2 N3 C3 N1 C1 N4 C4:Nat} {B:Zone} {x1:a_2} {x2:e_} {x3:Int} {res:V_×Int} {w0:World} (hm:f x1 x2 x3=some res) (hB1:Blk w0 g1 [sl A0 N0 C0,sl A5 N5 C5,vI x1.applied]) (hBw:B≤w0.z) (hBg : ¬ B g1) (p1_0:repS w0 B (sl A0 N0 C0) x1.d.rules) (p1_1:repS w0 B (sl A5 N5 C5) x1.b) (p1_2:inI x1.applied) (p2_0:x2.name.b.length≤LEN) (p2_1:inI x2.kind) (p2_2:inI x2.size) (p2_4:repS w0 B (sl A2 N2 C2) x2.bytes) (p2_5:repS w0 B (sl A3 N3 C3) x2.names) (p2_6:repS w0 B (sl A1 N1 C1) x2.tags) (p2_7:repS w0 B (sl A4 N4 C4) x2.kids) (p3_0:inI x3),m_ prog 241 [pt g1,.agg #[Str.v x2.name,vI x2.kind,vI x2.size,vB x2.little,sl A2 N2 C2,sl A3 N3 C3,sl A1 N1 C1,sl A4 N4 C4],vI x3] w0<|Q25 w0 g1 B A0 N0 C0 A5 N5 C5 x1 res
structure j_r (f:a_2→e_→Int→Option (V_×Int)):Prop where
  run : ∀ {A0 A5 A2 A3 A1 A4:Option Addr} {N0 C0 N5 C5 g1 N2 C2 N3 C3 N1 C1 N4 C4:Nat} {B:Zone} {x1:a_2} {x2:e_} {x3:Int} {res:V_×Int} {w0:World} (hm:f x1 x2 x3=some res) (hB1:Blk w0 g1 [sl A0 N0 C0,sl A5 N5 C5,vI x1.applied]) (hBw:B≤w0.z) (hBg : ¬ B g1) (p1_0:repS w0 B (sl A0 N0 C0) x1.d.rules) (p1_1:repS w0 B (sl A5 N5 C5) x1.b) (p1_2:inI x1.applied) (p2_0:x2.name.b.length≤LEN) (p2_1:inI x2.kind) (p2_2:inI x2.size) (p2_4:repS w0 B (sl A2 N2 C2) x2.bytes) (p2_5:repS w0 B (sl A3 N3 C3) x2.names) (p2_6:repS w0 B (sl A1 N1 C1) x2.tags) (p2_7:repS w0 B (sl A4 N4 C4) x2.kids) (p3_0:inI x3),m_ prog 242 [pt g1,.agg #[Str.v x2.name,vI x2.kind,vI x2.size,vB x2.little,sl A2 N2 C2,sl A3 N3 C3,sl A1 N1 C1,sl A4 N4 C4],vI x3] w0<|Q25 w0 g1 B A0 N0 C0 A5 N5 C5 x1 res
structure j_s (f:a_2→e_→Int→Option (V_×Int)):Prop where
  run : ∀ {A0 A5 A2 A3 A1 A4:Option Addr} {N0 C0 N5 C5 g1 N2 C2 N3 C3 N1 C1 N4 C4:Nat} {B:Zone} {x1:a_2} {x2:e_} {x3:Int} {res:V_×Int} {w0:World} (hm:f x1 x2 x3=some res) (hB1:Blk w0 g1 [sl A0 N0 C0,sl A5 N5 C5,vI x1.applied]) (hBw:B≤w0.z) (hBg : ¬ B g1) (p1_0:repS w0 B (sl A0 N0 C0) x1.d.rules) (p1_1:repS w0 B (sl A5 N5 C5) x1.b) (p1_2:inI x1.applied) (p2_0:x2.name.b.length≤LEN) (p2_1:inI x2.kind) (p2_2:inI x2.size) (p2_4:repS w0 B (sl A2 N2 C2) x2.bytes) (p2_5:repS w0 B (sl A3 N3 C3) x2.names) (p2_6:repS w0 B (sl A1 N1 C1) x2.tags) (p2_7:repS w0 B (sl A4 N4 C4) x2.kids) (p3_0:inI x3),m_ prog 243 [pt g1,.agg #[Str.v x2.name,vI x2.kind,vI x2.size,vB x2.little,sl A2 N2 C2,sl A3 N3 C3,sl A1 N1 C1,sl A4 N4 C4],vI x3] w0<|Q25 w0 g1 B A0 N0 C0 A5 N5 C5 x1 res
structure j_t (f:a_2→e_→Int→Option (V_×Int)):Prop where
  run : ∀ {A0 A5 A2 A3 A1 A4:Option Addr} {N0 C0 N5 C5 g1 N2 C2 N3 C3 N1 C1 N4 C4:Nat} {B:Zone} {x1:a_2} {x2:e_} {x3:Int} {res:V_×Int} {w0:World} (hm:f x1 x2 x3=some res) (hB1:Blk w0 g1 [sl A0 N0 C0,sl A5 N5 C5,vI x1.applied]) (hBw:B≤w0.z) (hBg : ¬ B g1) (p1_0:repS w0 B (sl A0 N0 C0) x1.d.rules) (p1_1:repS w0 B (sl A5 N5 C5) x1.b) (p1_2:inI x1.applied) (p2_0:x2.name.b.length≤LEN) (p2_1:inI x2.kind) (p2_2:inI x2.size) (p2_4:repS w0 B (sl A2 N2 C2) x2.bytes) (p2_5:repS w0 B (sl A3 N3 C3) x2.names) (p2_6:repS w0 B (sl A1 N1 C1) x2.tags) (p2_7:repS w0 B (sl A4 N4 C4) x2.kids) (p3_0:inI x3),m_ prog 244 [pt g1,.agg #[Str.v x2.name,vI x2.kind,vI x2.size,vB x2.little,sl A2 N2 C2,sl A3 N3 C3,sl A1 N1 C1,sl A4 N4 C4],vI x3] w0<|Q25 w0 g1 B A0 N0 C0 A5 N5 C5 x1 res
abbrev f_1 (n:Nat):Prop:=j_p (a_v n).impl_checker_value∧j_q (a_v n).impl_checker_array∧j_r (a_v n).impl_checker_choice∧j_s (a_v n).impl_checker_option∧j_t (a_v n).impl_checker_checked
end Go.Vw
