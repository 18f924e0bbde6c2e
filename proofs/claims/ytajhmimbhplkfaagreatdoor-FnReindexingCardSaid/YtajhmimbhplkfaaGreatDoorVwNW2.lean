
import Derived.Test.YtajhmimbhplkfaaGreatDoorVwNW1
set_option linter.unusedVariables false
namespace Go.Vw
open Go.RowKit Dat Go.Proofs
open Go.Proofs.Tryz
open Go.Vw renaming g_g→Wq,g_i→Wg,WC.of_KC→Wo,e_G→Wl,g_h→Wc,h_n→Wr,i_a→Wu,h_S→pT,h_T→pF,g_J→fd,g_K→l1,i_L→lN,f_0→mv,f_1→asg,h_U→lnR,g_Q→lss,g_P→eql,g_M→ext_,h_X→bP,g_N→add_,h_E→inc_,i_S→not_,h_V→at_,h_y→fc,e_O→fs,h_x→fb,h_w→fa,h_L→sr,h_Q→cr,h_R→cM,h_P→bM,h_B→iS,h_A→iA,h_D→br,h_F→oA,h_H→bs,ltge→lg,inor→io,i_R→nq,i_N→lnT,i_O→sb_,h_J→ar_,h_I→al_,h_K→ds,j_o→m1,h_N→nr_,h_M→nl_,g_o→aa_,d_v→an_,e_F→Wb,g_m→u8,h_t→pD,h_o→We,h_C→Wt,h_z→fS,e_E→or_,i_b→Wf,i_4→qL,h_s→Wd,h_Y→fN,g_p→na_,h_O→nj,h_Z→f0,h_W→rX,i_0→tl_,i_1→ic
variable {A0:Option Addr} {N0 C0:Nat} {B:Zone} {w0:World} {n:Nat} {A6:Option Addr} {N6 C6:Nat} {AB:Option Addr} {A8:Option Addr} {AC:Option Addr} {AD:Option Addr} {NB CB:Nat} {N8 C8:Nat} {NC CC:Nat} {ND CD:Nat} {A2:Option Addr} {A3:Option Addr} {A1:Option Addr} {A4:Option Addr} {N2 C2:Nat} {N3 C3:Nat} {N1 C1:Nat} {N4 C4:Nat} {A9:Option Addr} {AA:Option Addr} {N9 C9:Nat} {NA CA:Nat} {AE:Option Addr} {AF:Option Addr} {NE CE:Nat} {NF CF:Nat} {A7:Option Addr} {N7 C7:Nat} {AI:Option Addr} {NI CI:Nat} {A5:Option Addr} {N5 C5:Nat} {AL:Option Addr} {NL CL:Nat}
theorem T_w0d (aw:k_d n):i_l (f_h n<|d_M n):=by
 constructor
 intro A0 N0 C0 B x1 x2 res w0 hm hBw p1_0 p2_0;unfold f_h at hm
 refine goF func189 z z (lb z) fun fn hr=>Ws<|E z (fb z) ?_
 rintro _ wl ⟨rfl,ax⟩;have h5:=ax.below;have hx:Blk wl w0.z [sl A0 N0 C0]:=ax.blk;refine E z (fa a_b) ?_;rintro _ wi ⟨rfl,ay⟩;have h6:=ay.below;have J:Blk wi wl.z [vI 0,sl none 0 0,sl none 0 0]:=ay.blk;refine Wn<|Ws<|R z (fd X_ z) ?_
 have a3:=hx.e h6;refine R z (l1 a_0 z fid<|a3.at z)<|Rm z ?_
 obtain ⟨xr,bL,ao⟩:=bdS hm;have a4:=(h5.ag B).e h6;refine RX z (at_ (α:=g_) a_1 p_ z z z (p1_0.g a4) bL) ?_;rintro _ ⟨_,_,_,rfl,bN,bO,_⟩;obtain ⟨az,aA,aB,aC,aD,aE,aF,aG,aH,aI,aJ,aK,rfl,_,_,_,_,_,bQ,hp⟩:=a_z bO;refine R z (lN (vs:=vR xr az aA aB aC aD aE aF aG aH aI aJ aK) J_ p_ z z fid bN)<|E z (fa b_i) ?_
 rintro _ bR ⟨rfl,aL⟩;have h1:=aL.below;have a5:Blk bR wi.z [(Str.v (⟨[]⟩:Str)),vI 0,vI 0,vB false,sl none 0 0,sl none 0 0,sl none 0 0,sl none 0 0]:=aL.blk;refine E0 (fs (cur':=vR xr az aA aB aC aD aE aF aG aH aI aJ aK) p_ z z a5 z (lb z) (oA z) z) ?_;rintro _ wq ⟨ht,bS⟩;have G:=bS.one;refine Wn<|Wq<|Ws<|R z (fd a_x z)<|R z (l1 g_3 z fid<|ht.at z)<|Wn<|Wb<|Ws<|R z (eql z z)<|Ra z<|Wn<|Wc z (fun Y=>?_) (fun Y=>?_)
 ·refine Ws<|R z (fd a_t z)<|R z (l1 g_3 z fid<|ht.at z) ?_
  obtain ⟨_,bT,bw⟩:=bdS<|ifT ao Y;refine E z (j_R (α:=UInt8) R_ (fun _=>m_c) bT z z) ?_;rintro _ _ ⟨a6,a7,a8,rfl,aM,bU⟩;refine R z (bP (parts:=[(1,.tmp 19)]) (cs:=[vI 0,sl a6 a7 a8,sl none 0 0]) W_ z z)<|E0 (fs (cur':=[vI 0,sl a6 a7 a8,sl none 0 0]) i_ z z (((J.e h1).c G<|djs<|mmr J.lt).e aM) z (lb z) (oA z) z) ?_
  rintro _ _ ⟨bV,bW⟩;have aN:=bW.one;refine Wn ?_;obtain rfl:=som bw;have aO:=lt_ h5.s h6.s;exact Wr<|rtO<|h_ hr (q_ u_ i_ z bV z) ⟨bM (bup (bM (bup (bup h5 h6) h1) G<|m1 aO) aM) aN<|m1 h5.s,a6,a7,a8,[wq.z],none,0,0,[],z,ii z,bU.c aN<|mm1 J.lt<|lt_ h1.s G.s,onL,na_ a_h H_<|nmN _,aa_ (m1<|lt_ (lt_ aO h1.s) G.s) an_⟩
 have ap:=ifF ao Y;refine Ws<|R z (eql z z)<|Ra z<|Wn<|Wc z (fun a0=>?_) (fun a0=>?_)
 ·refine Wq<|Wd (X:=noX) 4096 (.rd 0<|.rd 1<|.rd 2<|.rd 3<|.rd 4<|.rd 5<|.rd 6<|.rd 7<|.rd 8<|.ef 9<|.ef 10<|.rd 11<|.ef 12 .done) mo (by kernel_rfl) fun cV sf _=>dR z z (fd a_L z) ?_;have aP:=ht.e sf;refine dR z z (l1 B_ z fid<|aP.at z) ?_;obtain ⟨aQ,bX,bx⟩:=bdS<|ifT ap a0;have a9:=lt_ h5.s h6.s;have aR : ∀ k∈[wi.z],¬ B k:=or0 (b_ lr)  (m_<|zt' hBw a9);have aS:=((h1.ag B).c G<|c_ aR).e sf;refine dRX z z (at_ (α:=Int) w_ z_3 z z z (bQ.g aS) bX) ?_;rintro _ ⟨_,_,_,rfl,bY,bZ,_⟩;obtain ⟨rfl,c0⟩:=O_ bZ;refine dR z z (l1 g_3 z fid<|bY.at0 z)<|dR z z (lN (vs:=[sl A0 N0 C0]) y_ t_ z z fid<|(((a3.e h1).c G<|djs<|mm1 hx.lt h6.s).e sf).row 0 1 z)<|dR z z (fd K_ z)<|dR z z (l1 B_ z fid<|aP.at z) ?_
  obtain ⟨_,c1,bz⟩:=bdS bx;refine dRX z z (at_ (α:=Int) w_ z_3 z z z (hp.g aS) c1) ?_;rintro _ ⟨_,_,_,rfl,c2,c3,_⟩;obtain ⟨rfl,c4⟩:=O_ c3;refine dR z z (l1 g_3 z fid<|c2.at0 z) ?_;have hy:=lt_ (lt_ (lt_ a9 h1.s) G.s) sf.s;obtain ⟨aT,c5,bA⟩:=bdS bz;refine dE z z (fc call189 z<|aw.run (B:=B) c5 (zt' hBw hy) (p1_0.g<|((a4.e h1).c G<|c_ aR).e sf) c4) (.inr fun _ _ h=>v_<|h.1) ?_;rintro _ wm ⟨sz,c6,c7,c8,ab,c9,ca,cb,ad,rfl,cd,aU,aV,ae,V⟩;refine dE z z (fS [(.tmp 32)] b_E z z z (a_d z) (lb z)<|lb z) (.inr fun _ _ h=>v_<|h.2.below) ?_;rintro _ ce ⟨rfl,af⟩;have aW:=af.below;have cW:Blk ce wm.z [vI aT.number,sl c6 c7 c8,sl c9 ca cb]:=af.blk;refine dR z z (bP (parts:=[(0,.tmp 26),(2,.tmp 33)]) (cs:=[vI aQ,sl none 0 0,sl (some ⟨wm.z,0,none⟩) 1 1]) W_ z z)<|dE0 z (fs (cur':=[vI aQ,sl none 0 0,sl (some ⟨wm.z,0,none⟩) 1 1]) i_ z z (((((J.e h1).c G<|djs<|mmr J.lt).e sf).e sz).e aW) z (lb z) (oA z) z) (.inl z) ?_
  rintro _ _ ⟨cf,cg⟩;have aX:=cg.one;refine pD<|Wo ?_
  obtain rfl:=som bA;have ah:=lt_ (lt_ h1.s G.s) sf.s;exact Wr<|rtO<|h_ hr (q_ u_ i_ z cf z) ⟨bM (bup (bup (bup (bM (bup (bup h5 h6) h1) G<|m1 a9) sf) sz) aW) aX<|m1 h5.s,none,0,0,[],some ⟨wm.z,0,none⟩,1,1,(wm.z::(ab++ad)),z,c0,onL,(a_E af<|c_R (x:=aT) (S1:=ab) (S2:=ad) cd aU aV).c aX (or1 c_Z (aa_ (k_ (al_ V) J.lt ah)<|k_ (ar_ V) J.lt ah) (P_ (b_ J.lt)<|lt_ ah sz.s) : ∀ k∈(wm.z::(ab++ad)),k∉[wl.z]),na_ H_ (g_r (na_ (nl_ ae) (nr_ ae)<|nj ae)<|aa_ (a_.lt aU)<|a_.lt aV) an_,aa_ an_<|a_2 c_Z (aa_ (l_ (al_ V) hy)<|l_ (ar_ V) hy)<|lt_ hy sz.s⟩
 refine Wq<|Ws<|R z (eql z z)<|Ra z<|Wn ?_
 obtain ⟨ch,aq,ar⟩:=bdS<|ifF ap a0;refine Wt (fun a w=>∃ (ai:Bool),ai=ch∧Sat 60 [(2,pt w0.z),(4,pt wl.z),(5,pt wi.z),(35,vB ai)] a∧Below wq.z wq w) ?_ ?_
 ·refine Wc z (fun a1=>?_)<|fun a1=>?_
  ·exact a_g<|fun _ q=>⟨xr.kind==6,som<|ifT aq a1,q.k<|s4 z z z z,br wq⟩
  exact Wg<|R z (eql z z)<|Ra z<|Wl (fun _ q=>⟨xr.kind==9,som<|ifF aq a1,q.k<|s4 z z z z,br wq⟩)
 rintro ci H ⟨ai,rfl,_,s3⟩;revert ci;refine Wo<|Wc z (fun a2=>?_) (fun a2=>?_)
 ·refine Ws<|R z (bP (parts:=[]) (cs:=[vI 0,sl none 0 0,sl none 0 0]) W_ z z)<|E z (fa a_b) ?_
  rintro _ cj ⟨rfl,aY⟩;have he:=aY.below;have hu:Blk cj H.z [vI 0,sl none 0 0,sl none 0 0]:=aY.blk;refine E0 (fs (cur':=[vI 0,sl none 0 0,sl none 0 0]) i_ z z hu z (lb z) (oA z) z) ?_;rintro _ I ⟨ck,cl⟩;have L:=cl.one;refine Wn<|Wq<|Ws<|Ra z<|Wn ?_
  obtain ⟨_,bB,au⟩:=bdS<|ifT ar a2;refine Wf (σ:=List Val) (ρ:=Val) (fun (aZ:Nat) (xn:List Val) a w=>∃ aa nb cc O,Sat 60 [(2,pt w0.z),(4,pt wl.z),(5,pt wi.z),(6,pt H.z),(7,vI ((aZ:Nat):Int))] a∧Chg (· ∈ [H.z]) I w∧a_ w O (sl aa nb cc) xn∧O.Nodup∧(∀ k∈O,I.z≤k)∧Blk w H.z [vI 0,sl none 0 0,sl aa nb cc]) (fun (xn:List Val) a w=>∃ aa nb cc O,Sat 60 [(4,pt wl.z),(6,pt H.z)] a∧Chg (· ∈ [H.z]) I w∧a_ w O (sl aa nb cc) xn∧O.Nodup∧(∀ k∈O,I.z≤k)∧Blk w H.z [vI 0,sl none 0 0,sl aa nb cc]) (fun r ex a w=>ex = .ret∧L_ prog fn (Q12 w0 B r) a w) bB ?_ ?_ ?_ ?_ ?_
  ·exact fun _ q=>⟨none,0,0,[],q.k<|s5 z z z z z,cr [H.z] I,onL,H_,an_,ck⟩
  ·rintro aZ xn _ cm _ av ⟨aa,nb,cc,O,bC,sg,hj,hv,hh,hw⟩ bD;refine Wu ?_ bC;refine Wq<|Ws<|Rm z<|R z (fd K_ z) ?_
   have b0:=mm1 a5.lt<|lt_ G.s s3.s
   have b1:=(((ht.e s3).e he).c L<|djs b0).c sg<|djs b0
   refine R z (l1 B_ z fid<|b1.at z) ?_;have b2:=lt_ h5.s h6.s;have b3 : ∀ k∈[wi.z],¬ B k:=or0 (b_ lr)  (m_<|zt' hBw b2);have b4:=lt_ (lt_ (lt_ b2 h1.s) G.s) s3.s;have W : ∀ k∈[H.z],¬ B k:=or0 (b_ lr)  (m_<|zt' hBw b4);have b5:=(((((h1.ag B).c G<|c_ b3).e s3).e he).c L<|c_ W).c sg<|c_ W
   refine R z (lnR w_ z<|hp.g b5)<|R z (lss z z)<|Wn<|Wc z (fun _=>?_) (fun hc=>(a_3 av hc).elim)
   refine Wk<|Wq<|Wb (Wd (X:=noX) 5120 (.rd 0<|.rd 1<|.rd 2<|.rd 3<|.rd 4<|.rd 5<|.rd 6<|.rd 7<|.ef 8<|.ef 9<|.ef 10<|.rd 11<|.ef 12 .done) mo (by kernel_rfl) fun cn sd _=>dR z z (fd a_j z) ?_)
   have b6:=hw.e sd;refine dR z z (l1 a_F z fid<|b6.at z) ?_;have b7:=mm1 hx.lt<|lt_ (lt_ (lt_ h6.s h1.s) G.s) s3.s
   refine dR z z (lN (vs:=[sl A0 N0 C0]) y_ t_ z z fid<|(((((((a3.e h1).c G<|djs<|mm1 hx.lt h6.s).e s3).e he).c L<|djs b7).c sg<|djs b7).e sd).row 0 1 z)<|dR z z (fd K_ z)<|dR z z (l1 B_ z fid<|(b1.e sd).at z)<|dR z z (mv z) ?_
   obtain ⟨_,co,bE⟩:=bdS bD;refine dRX z z (at_ (α:=Int) w_ z_3 z z z (hp.g<|b5.e sd) co) ?_;rintro _ ⟨_,_,_,rfl,cp,cq,_⟩;obtain ⟨rfl,ct⟩:=O_ cq;refine dR z z (l1 g_3 z fid<|cp.at0 z) ?_;obtain ⟨b8,cu,bF⟩:=bdS bE;refine dE z z (fc call189 z<|aw.run (B:=B) cu (zt' hBw<|lt_ (lt_ (lt_ (lt_ b4 he.s) L.s) sg.s) sd.s) (p1_0.g<|((((((a4.e h1).c G<|c_ b3).e s3).e he).c L<|c_ W).c sg<|c_ W).e sd) ct) (.inr fun _ _ h=>v_<|h.1) ?_;rintro _ b9 ⟨ss,cv,cw,cx,cy,cz,cA,cB,cC,rfl,cD,cE,cF,aj,ho⟩;refine dE z z (fS [(.tmp 54)] b_E z z z (a_d z) (lb z)<|lb z) (.inr fun _ _ h=>v_<|h.2.below) ?_;rintro _ ba ⟨rfl,bb⟩;have hk:=bb.below;obtain ⟨cG,cH,bG⟩:=bdS bF;refine dE z z (a_Q (α:=Val) b_E cH z z (((hj.e sd).e ss).e hk) hv (bb.blk:Blk ba b9.z [vI b8.number,sl cv cw cx,sl cz cA cB]) (c_R (x:=b8) (S1:=cy) (S2:=cC) cD (cE.e hk)<|cF.e hk) (aa_ (a_H (al_ ho) (a_.lt hj) sd.s)<|a_H (ar_ ho) (a_.lt hj) sd.s)<|na_ (nl_ aj) (nr_ aj)<|nj aj) (.inl z) ?_;rintro _ cI ⟨ak,bc,be,bf,rfl,bg,cJ,cK,bh⟩;refine dR z z (fd a_j z) ?_;have bi:=k_ hh hu.lt L.s;refine dE0 z (fs (cur':=[vI 0,sl none 0 0,sl bc be bf]) d_0 z z (((b6.e ss).e hk).c bg<|djs bi) z (lb z) (oA z) z) (.inl z) ?_;rintro _ cL ⟨cN,cO⟩;have bj:=cO.one;refine pD<|Wo<|Wg<|Rm z<|R z (inc_ av (lt_ (repS.len hp) M_) z z)<|Ra z<|Wl ?_
   have al:=lt_ (lt_ L.s sg.s) sd.s;have am:=lt_ sg.s sd.s;exact fun _ q=>⟨cG,(som bG).symm,⟨bc,be,bf,ak,q.k<|s5 z z z z z,(cM (cM (f_ (f_ (f_ (cM (cr [H.z] I) sg (io sr):Chg (· ∈ [H.z]) I cm) sd:Chg (· ∈ [H.z]) I cn) ss:Chg (· ∈ [H.z]) I b9) hk:Chg (· ∈ [H.z]) I ba) bg (or0 hh  (z_ lr) : ∀ k∈O,k∈[H.z]∨I.z≤k):Chg (· ∈ [H.z]) I cI) bj (io sr):Chg (· ∈ [H.z]) I cL),cJ.c bj (or2 bh bi (aa_ (k_ (al_ ho) hu.lt al)<|k_ (ar_ ho) hu.lt al) (P_ (b_ hu.lt)<|lt_ (lt_ al ss.s) hk.s) : ∀ k∈ak,k∉[H.z]),cK,(or2 bh hh (aa_ (l_ (al_ ho) am)<|l_ (ar_ ho) am) (b_7<|lt_ (lt_ am ss.s) hk.s) : ∀ k∈ak,I.z≤k),cN⟩⟩
  ·rintro xn _ cP ⟨aa,nb,cc,O,bH,an,hj,hv,hh,hw⟩;refine Wu ?_ bH;refine Wq<|Ws<|Rm z<|R z (fd K_ z) ?_
   have bk:=mm1 a5.lt<|lt_ G.s s3.s
   refine R z (l1 B_ z fid<|((((ht.e s3).e he).c L<|djs bk).c an<|djs bk).at z) ?_;have bm:=lt_ h5.s h6.s;have bn : ∀ k∈[H.z],¬ B k:=or0 (b_ lr)  (m_<|zt' hBw<|lt_ (lt_ (lt_ bm h1.s) G.s) s3.s);refine R z (lnR w_ z<|hp.g<|(((((h1.ag B).c G<|c_ (or0 (b_ lr)  (m_<|zt' hBw bm) : ∀ k∈[wi.z],¬ B k)).e s3).e he).c L<|c_ bn).c an<|c_ bn)<|R z (lss z z)<|Wn<|Wc z (fun hc=>(a_4 hc).elim) (fun _=>?_)
   exact We<|fun a' ha'=>⟨rfl,⟨aa,nb,cc,O,Sat.weaken ha'<|s2 z z,(cM (cr [H.z] I) an (io sr):Chg (· ∈ [H.z]) I cP),hj,hv,hh,hw⟩⟩
  ·rintro xn cQ _ rfl ⟨aa,nb,cc,O,_,bo,hj,hv,hh,hw⟩;have bI:=elL au;revert cQ;refine Wo<|Ws<|R z (lN (vs:=[vI 0,sl none 0 0,sl aa nb cc]) u_ i_ z z fid<|hw.row 0 3 z) ?_
   have bp:=lt_ (lt_ h1.s G.s) s3.s;have bq:=mm1 J.lt bp;refine E0 (fs (cur':=[vI 0,sl none 0 0,sl aa nb cc]) i_ z z ((((((J.e h1).c G<|djs<|mmr J.lt).e s3).e he).c L<|djs bq).c bo<|djs bq) z (lb z) (oA z) z) ?_;rintro _ _ ⟨cR,cS⟩;have bs:=cS.one;refine Wn ?_;obtain rfl:=som bI;have bt:=lt_ h5.s h6.s;have bu:=lt_ (lt_ (lt_ bt h1.s) G.s) s3.s;have bv:=m1 bu;exact Wr<|rtO<|h_ hr (q_ u_ i_ z cR z) ⟨bM (bM (bM (bup (bup (bM (bup (bup h5 h6) h1) G<|m1 bt) s3) he) L bv) bo bv) bs<|m1 h5.s,none,0,0,[],aa,nb,cc,O,z,ii z,onL,hj.c bs<|k_ hh J.lt<|lt_ (lt_ bp he.s) L.s,na_ H_ hv an_,aa_ an_<|l_ hh<|lt_ (lt_ bu he.s) L.s⟩
  rintro _ _ _ _ rfl ⟨rfl,bJ⟩;have bK:=elR au;obtain rfl:=som bK;exact ⟨bJ,z⟩
 refine Wk<|Ws<|R z (bP (parts:=[]) (cs:=[vI 0,sl none 0 0,sl none 0 0]) W_ z z)<|E0 (fs (cur':=[vI 0,sl none 0 0,sl none 0 0]) i_ z z (((J.e h1).c G<|djs<|mmr J.lt).e s3) z (lb z) (oA z) z) ?_
 rintro _ _ ⟨cT,cU⟩;refine Wn ?_;obtain rfl:=som<|ifF ar a2;exact Wr<|h_ hr (q_ u_ i_ z cT z) ⟨bM (bup (bM (bup (bup h5 h6) h1) G<|m1<|lt_ h5.s h6.s) s3) cU.one<|m1 h5.s,none,0,0,[],none,0,0,[],z,ii z,onL,onL,nd0,al0⟩
theorem A_w0d : ∀ n,k_d n
  | 0=>⟨fun hm=>by intros;exact nomatch (show none=some _ from hm)⟩
  | n+1=>T_w0d<|A_w0d n
theorem W_w0d:i_l (d_M n).spec_l9Default:=A_w0d n

theorem W_w26 {x1:d_} {x2:Int} {res:Val} (hm:h_c n x1 x2=some res) (hBw:B≤w0.z) (p1_0:repS w0 B (sl A0 N0 C0) x1.rules) (p2_0:inI x2):o_ prog 155 [(.agg #[sl A0 N0 C0]),vI x2] w0 (Q12 w0 B res):=by
 unfold h_c at hm
 refine goF func155 z z (lb z) fun fn hr=>Ws<|E z (fb z) ?_
 rintro _ L ⟨rfl,ha⟩;have h1:=ha.below;refine E z (fa a_b) ?_;rintro _ wo ⟨rfl,hb⟩;have h2:=hb.below;have h3:Blk wo L.z [vI 0,sl none 0 0,sl none 0 0]:=hb.blk;refine Wn<|Wq<|Ws ?_
 have hc:=(ha.blk:Blk L w0.z [sl A0 N0 C0]).e h2;refine R z (lN (vs:=[sl A0 N0 C0]) y_ t_ z z fid<|hc.row 0 1 z)<|Rm z ?_
 have hd:=(h1.ag B).e h2;have he:=lt_ h1.s h2.s;obtain ⟨_,ep,hmf⟩:=bdS hm;refine E z (fc call160 z<|i_k (B:=B) ep (zt' hBw he) (p1_0.g hd) p2_0) ?_;rintro _ _ ⟨G,rfl⟩;refine R z (not_ z)<|Wn<|Wc z (fun H=>?_) (fun H=>?_)
 ·refine Ws<|R z (bP (parts:=[]) (cs:=[vI 0,sl none 0 0,sl none 0 0]) W_ z z)<|E0 (fs (cur':=[vI 0,sl none 0 0,sl none 0 0]) i_ z z (h3.e G) z (lb z) (oA z) z) ?_
  rintro _ _ ⟨hq,sr⟩;refine Wn ?_;obtain rfl:=som<|ifT hmf H;exact Wr<|h_ hr (q_ u_ i_ z hq z) ⟨bM (bup (bup h1 h2) G) sr.one<|m1 h1.s,none,0,0,[],none,0,0,[],z,ii z,onL,onL,nd0,al0⟩
 refine Wk<|Ws<|R z (lN (vs:=[sl A0 N0 C0]) y_ t_ z z fid<|(hc.e G).row 0 1 z)<|Rm z ?_
 have h6:=lt_ he G.s;obtain ⟨rs,et,hmu⟩:=bdS<|ifF hmf H;refine E z (fc call189 z<|W_w0d.run (B:=B) et (zt' hBw h6) (p1_0.g<|hd.e G) p2_0) ?_;rintro _ _ ⟨sg,ah,ni,cj,Sv,ak,nl,cm,Sw,rfl,hx,hy,hz,I,h4⟩;refine E0 (fs (cur':=[vI rs.number,sl ah ni cj,sl ak nl cm]) i_ z z ((h3.e G).e sg) z (lb z) (oA z) z) ?_;rintro _ _ ⟨O,V⟩;have J:=V.one;refine Wn ?_;obtain rfl:=som hmu;exact Wr<|h_ hr (q_ u_ i_ z O z) ⟨bM (bup (bup (bup h1 h2) G) sg) J<|m1 h1.s,ah,ni,cj,Sv,ak,nl,cm,Sw,z,hx,hy.c J<|k_ (al_ h4) h3.lt G.s,hz.c J<|k_ (ar_ h4) h3.lt G.s,na_ (nl_ I) (nr_ I)<|nj I,aa_ (l_ (al_ h4) h6)<|l_ (ar_ h4) h6⟩
theorem W_w27 {x1:d_} {x2:g_} {x3:Val} {res:Bool} (hm:f_i x1 x2 x3=some res) (hBw:B≤w0.z) (p1_0:repS w0 B (sl A0 N0 C0) x1.rules) (p2_0:x2.name.b.length≤LEN) (p2_1:inI x2.kind) (p2_2:inI x2.size) (p2_4:repS w0 B (sl A2 N2 C2) x2.bytes) (p2_5:repS w0 B (sl A3 N3 C3) x2.names) (p2_6:repS w0 B (sl A1 N1 C1) x2.tags) (p2_7:repS w0 B (sl A4 N4 C4) x2.kids) (p3_0:inI x3.number) (p3_1:repS w0 B (sl A9 N9 C9) x3.bytes) (p3_2:repS w0 B (sl AA NA CA) x3.items):o_ prog 276 [(.agg #[sl A0 N0 C0]),.agg #[Str.v x2.name,vI x2.kind,vI x2.size,vB x2.little,sl A2 N2 C2,sl A3 N3 C3,sl A1 N1 C1,sl A4 N4 C4],(.agg #[vI x3.number,sl A9 N9 C9,sl AA NA CA])] w0 (Q0 w0 B res):=by
 unfold f_i at hm
 refine goF func276 z z (lb z) fun fn hr=>Ws<|E z (fb z) ?_
 rintro _ aQ ⟨rfl,aR⟩;have h3:=aR.below;have aS:Blk aQ w0.z [sl A0 N0 C0]:=aR.blk;refine E z (fb z) ?_;rintro _ aT ⟨rfl,aU⟩;have h2:=aU.below;refine E z (fb z) ?_;rintro _ G ⟨rfl,aV⟩;have H:=aV.below;have h4:Blk G aT.z [vI x3.number,sl A9 N9 C9,sl AA NA CA]:=aV.blk;refine Ra z<|Wn<|Wq<|Ws<|R z (fd a_x z) ?_
 have ht:=(aU.blk:Blk aT aQ.z (vR x2 A2 N2 C2 A3 N3 C3 A1 N1 C1 A4 N4 C4)).e H;refine R z (l1 g_3 z fid<|ht.at z)<|Wn<|Wb<|Ws<|R z (eql z z)<|Ra z<|Wn<|Wc z (fun W=>?_) (fun W=>?_)
 ·refine Wq ?_;obtain ⟨bu,b8,b9⟩:=bdS<|ifT hm W;refine Wt (fun a w=>∃ (a7:Bool),a7=bu∧Sat 202 [(6,vB a7)] a∧Below G.z G w) ?_ ?_
  ·refine Wd (X:=noX) 0 (.rd 0<|.rd 1<|.rd 2<|.rd 3<|.ef 4<|.rd 5<|.ef 6<|.rd 7<|.rd 8<|.rd 9<|.rd 10<|.rd 11<|.rd 12<|.rd 13<|.rd 14<|.rd 15<|.rd 16<|.rd 17<|.rd 18<|.rd 19 .done) mo (by kernel_rfl) fun cm sr _=>dR z z (fd b_c z) ?_
   have aW:=h4.e sr;refine dR z z (l1 g_3 z fid<|aW.at z)<|dR z z (fd a_t z)<|dR z z (l1 g_3 z fid<|(ht.e sr).at z) ?_
   have aX:=lt_ (lt_ (lt_ h3.s h2.s) H.s) sr.s;obtain ⟨_,bv,ba⟩:=bdS b8;refine dE z z (fc call107 z<|g_D (B:=B) bv (zt' hBw aX) p2_2) (.inr fun _ _ h=>v_<|h.1) ?_;rintro _ _ ⟨ss,rfl,_⟩;refine dR z z (sb_ z z) ?_;obtain ⟨bw,bx,am⟩:=bdS ba;refine dE z z (fc call103 z<|b_d (B:=B) bx (zt' hBw<|lt_ aX ss.s) p3_0 (ii z)<|iS _ _) (.inr fun _ _ h=>v_<|h.1) ?_;rintro _ _ ⟨sv,rfl⟩;refine dR z z (mv z) ?_
   rcases bs bw with hca | hca
   ·have an:=ifT am hca;refine dRg z z z hca z (fd a_T z) ?_;have aY:=(aW.e ss).e sv;refine dRg z z z hca z (l1 Q_ z fid<|aY.at z) ?_;have aZ:=(((((h3.ag B).e h2).e H).e sr).e ss).e sv;refine dRg z z z hca z (lnR n_ z<|p3_1.g aZ)<|dRg z z z hca z (eql z z)<|dR z z (pT z hca z)<|dR z z (mv z) ?_
    rcases bs ((x3.bytes.length:Int)==0) with hcb | hcb
    ·exact dRg z z z hcb z (fd a_j z)<|dRg z z z hcb z (l1 a_F z fid<|aY.at z)<|dRg z z z hcb z (lnR a_U z<|p3_2.g aZ)<|dRg z z z hcb z (eql z z)<|dR z z (pT z hcb z)<|dR z z (asg z)<|pD (fun _ q=>⟨(x3.items.length:Int)==0,som<|ifT an hcb,q.k<|s1 z,bup (bup sr ss) sv⟩)
    iterate 4 refine dRn z z z hcb z ?_
    exact dR z z (pF z hcb z)<|dR z z (asg z)<|pD (fun _ q=>⟨false,som<|ifF an hcb,q.k<|s1 z,bup (bup sr ss) sv⟩)
   iterate 4 refine dRn z z z hca z ?_
   refine dR z z (pF z hca z)<|dR z z (mv z) ?_
   iterate 4 refine dRn z z z z z ?_
   exact dR z z (pF z z z)<|dR z z (asg z)<|pD (fun _ q=>⟨false,som<|ifF am hca,q.k<|s1 z,bup (bup sr ss) sv⟩)
  rintro bz _ ⟨a7,rfl,_,bA⟩;revert bz;refine Wo ?_;obtain rfl:=som b9;exact Wr<|rtO<|h_ hr z ⟨bup (bup (bup h3 h2) H) bA,z⟩
 have ao:=ifF hm W;refine Ws<|R z (eql z z)<|Ra z<|Wn<|Wc z (fun Y=>?_) (fun Y=>?_)
 ·refine Wq ?_;obtain ⟨bB,ap,bb⟩:=bdS<|ifT ao Y;refine Wt (fun a w=>∃ (a8:Bool),a8=bB∧Sat 202 [(6,vB a8)] a∧Below G.z G w) ?_ ?_
  ·refine Wg<|R z (fd b_c z)<|R z (l1 g_3 z fid<|h4.at z)<|R z (eql z z)<|Rm z ?_
   rcases bs (x3.number==0) with hcc | hcc
   ·have aq:=ifT ap hcc;refine Rh z hcc (fd a_T z)<|Rh z hcc (l1 Q_ z fid<|h4.at z) ?_
    have b0:=((h3.ag B).e h2).e H;refine Rh z hcc (lnR n_ z<|p3_1.g b0)<|Rh z hcc (eql z z)<|R z (pT z hcc z)<|Rm z ?_
    rcases bs ((x3.bytes.length:Int)==0) with hcd | hcd
    ·exact Rh z hcd (fd a_j z)<|Rh z hcd (l1 a_F z fid<|h4.at z)<|Rh z hcd (lnR a_U z<|p3_2.g b0)<|Rh z hcd (eql z z)<|R z (pT z hcd z)<|Ra z<|Wl (fun _ q=>⟨(x3.items.length:Int)==0,som<|ifT aq hcd,q.k<|s1 z,br G⟩)
    iterate 4 refine Nh z hcd ?_
    exact R z (pF z hcd z)<|Ra z<|Wl (fun _ q=>⟨false,som<|ifF aq hcd,q.k<|s1 z,br G⟩)
   iterate 4 refine Nh z hcc ?_
   exact R z (pF z hcc z)<|Rm z<|Nh z z<|Nh z z<|Nh z z<|Nh z z<|R z (pF z z z)<|Ra z<|Wl (fun _ q=>⟨false,som<|ifF ap hcc,q.k<|s1 z,br G⟩)
  rintro bC _ ⟨a8,rfl,_,bD⟩;revert bC;refine Wo ?_;obtain rfl:=som bb;exact Wr<|rtO<|h_ hr z ⟨bup (bup (bup h3 h2) H) bD,z⟩
 have ar:=ifF ao Y;refine Ws<|R z (eql z z)<|Ra z<|Wn<|Wc z (fun a0=>?_) (fun a0=>?_)
 ·refine Wq ?_;obtain ⟨bE,au,bc⟩:=bdS<|ifT ar a0;refine Wt (fun a w=>∃ (a9:Bool),a9=bE∧Sat 202 [(6,vB a9)] a∧Below G.z G w) ?_ ?_
  ·refine Wg<|R z (fd b_c z)<|R z (l1 g_3 z fid<|h4.at z)<|R z (eql z z)<|Rm z ?_
   rcases bs (x3.number==0) with O | O
   ·have av:=ifT au O;refine Rh z O (fd a_T z)<|Rh z O (l1 Q_ z fid<|h4.at z) ?_
    have b1:=((h3.ag B).e h2).e H;refine Rh z O (lnR n_ z<|p3_1.g b1)<|Rh z O (fd a_t z)<|Rh z O (l1 g_3 z fid<|ht.at z)<|Rh z O (eql z z)<|R z (pT z O z)<|Rm z ?_
    rcases bs ((x3.bytes.length:Int)==x2.size) with hce | hce
    ·exact Rh z hce (fd a_j z)<|Rh z hce (l1 a_F z fid<|h4.at z)<|Rh z hce (lnR a_U z<|p3_2.g b1)<|Rh z hce (eql z z)<|R z (pT z hce z)<|Ra z<|Wl (fun _ q=>⟨(x3.items.length:Int)==0,som<|ifT av hce,q.k<|s1 z,br G⟩)
    iterate 4 refine Nh z hce ?_
    exact R z (pF z hce z)<|Ra z<|Wl (fun _ q=>⟨false,som<|ifF av hce,q.k<|s1 z,br G⟩)
   iterate 6 refine Nh z O ?_
   exact R z (pF z O z)<|Rm z<|Nh z z<|Nh z z<|Nh z z<|Nh z z<|R z (pF z z z)<|Ra z<|Wl (fun _ q=>⟨false,som<|ifF au O,q.k<|s1 z,br G⟩)
  rintro bF _ ⟨a9,rfl,_,bG⟩;revert bF;refine Wo ?_;obtain rfl:=som bc;exact Wr<|rtO<|h_ hr z ⟨bup (bup (bup h3 h2) H) bG,z⟩
 have aw:=ifF ar a0;refine Ws<|R z (eql z z)<|Ra z<|Wn<|Wc z (fun a1=>?_) (fun a1=>?_)
 ·refine Wq ?_;obtain ⟨bH,ax,be⟩:=bdS<|ifT aw a1;refine Wt (fun a w=>∃ (aa:Bool),aa=bH∧Sat 202 [(6,vB aa)] a∧Below G.z G w) ?_ ?_
  ·refine Wd (X:=noX) 0 (.rd 0<|.rd 1<|.rd 2<|.rd 3<|.rd 4<|.rd 5<|.rd 6<|.rd 7<|.rd 8<|.rd 9<|.rd 10<|.rd 11<|.ef 12<|.ef 13<|.rd 14<|.rd 15<|.rd 16<|.rd 17<|.rd 18<|.rd 19<|.rd 20<|.rd 21<|.rd 22 .done) mo (by kernel_rfl) fun cn sp _=>dR z z (fd b_c z) ?_
   have ab:=h4.e sp;refine dR z z (l1 g_3 z fid<|ab.at z)<|dR z z (eql z z)<|dR z z (mv z) ?_
   rcases bs (x3.number==0) with I | I
   ·refine dRg z z z I z (fd a_T z)<|dRg z z z I z (l1 Q_ z fid<|ab.at z) ?_
    have hx:=(((h3.ag B).e h2).e H).e sp;refine dRg z z z I z (lnR n_ z<|p3_1.g hx)<|dRg z z z I z (lN (vs:=[sl A0 N0 C0]) y_ t_ z z fid<|(((aS.e h2).e H).e sp).row 0 1 z)<|dRg z z z I z (fd K_ z)<|dRg z z z I z (l1 B_ z fid<|(ht.e sp).at z) ?_
    obtain ⟨_,bI,bf⟩:=bdS<|ifT ax I;refine b_K z z z I z (at_ (α:=Int) w_ z_3 z z z (p2_7.g hx) bI) ?_;rintro _ ⟨_,_,_,rfl,bJ,bK,_⟩;obtain ⟨rfl,bL⟩:=O_ bK;refine dRg z z z I z (l1 g_3 z fid<|bJ.at0 z) ?_;have b2:=lt_ (lt_ (lt_ h3.s h2.s) H.s) sp.s;obtain ⟨_,bM,bg⟩:=bdS bf;refine dEg z z z I z (fc call206 z<|e_Y (B:=B) bM (zt' hBw b2) (p1_0.g hx) bL) (.inr fun _ _ h=>v_<|h.1) ?_;rintro _ _ ⟨sw,rfl,bN⟩;obtain ⟨bO,bP,ay⟩:=bdS bg;refine dEg z z z I z (fc call104 z<|e_8 (B:=B) bP (zt' hBw<|lt_ b2 sw.s) (ii z) bN) (.inr fun _ _ h=>v_<|h.1) ?_;rintro _ _ ⟨sy,rfl,_⟩;refine dRg z z z I z (b_y z z)<|dR z z (pT z I z)<|dR z z (mv z) ?_
    rcases bs (decide<|(x3.bytes.length:Int)≤bO) with hcf | hcf
    ·exact dRg z z z hcf z (fd a_j z)<|dRg z z z hcf z (l1 a_F z fid<|((ab.e sw).e sy).at z)<|dRg z z z hcf z (lnR a_U z<|p3_2.g<|(hx.e sw).e sy)<|dRg z z z hcf z (eql z z)<|dR z z (pT z hcf z)<|dR z z (asg z)<|pD (fun _ q=>⟨(x3.items.length:Int)==0,som<|ifT ay hcf,q.k<|s1 z,bup (bup sp sw) sy⟩)
    iterate 4 refine dRn z z z hcf z ?_
    exact dR z z (pF z hcf z)<|dR z z (asg z)<|pD (fun _ q=>⟨false,som<|ifF ay hcf,q.k<|s1 z,bup (bup sp sw) sy⟩)
   iterate 8 refine dRn z z z I z ?_
   refine dEn z z z I z<|dEn z z z I z<|dRn z z z I z<|dR z z (pF z I z)<|dR z z (mv z) ?_
   iterate 4 refine dRn z z z z z ?_
   exact dR z z (pF z z z)<|dR z z (asg z)<|pD (fun _ q=>⟨false,som<|ifF ax I,q.k<|s1 z,sp⟩)
  rintro bQ _ ⟨aa,rfl,_,bR⟩;revert bQ;refine Wo ?_;obtain rfl:=som be;exact Wr<|rtO<|h_ hr z ⟨bup (bup (bup h3 h2) H) bR,z⟩
 have az:=ifF aw a1;refine Ws<|R z (eql z z)<|Ra z<|Wn<|Wc z (fun a2=>?_) (fun a2=>?_)
 ·refine Wq ?_;obtain ⟨bS,aA,bh⟩:=bdS<|ifT az a2;refine Wt (fun a w=>∃ (ad:Bool),ad=bS∧Sat 202 [(6,vB ad)] a∧Below G.z G w) ?_ ?_
  ·refine Wg<|R z (fd b_c z)<|R z (l1 g_3 z fid<|h4.at z)<|R z (eql z z)<|Rm z ?_
   rcases bs (x3.number==0) with hcg | hcg
   ·have aB:=ifT aA hcg;refine Rh z hcg (fd a_T z)<|Rh z hcg (l1 Q_ z fid<|h4.at z) ?_
    have b3:=((h3.ag B).e h2).e H;refine Rh z hcg (lnR n_ z<|p3_1.g b3)<|Rh z hcg (b_y z z)<|R z (pT z hcg z)<|Rm z ?_
    rcases bs (decide<|(x3.bytes.length:Int)≤400) with hch | hch
    ·exact Rh z hch (fd a_j z)<|Rh z hch (l1 a_F z fid<|h4.at z)<|Rh z hch (lnR a_U z<|p3_2.g b3)<|Rh z hch (eql z z)<|R z (pT z hch z)<|Ra z<|Wl (fun _ q=>⟨(x3.items.length:Int)==0,som<|ifT aB hch,q.k<|s1 z,br G⟩)
    iterate 4 refine Nh z hch ?_
    exact R z (pF z hch z)<|Ra z<|Wl (fun _ q=>⟨false,som<|ifF aB hch,q.k<|s1 z,br G⟩)
   iterate 4 refine Nh z hcg ?_
   exact R z (pF z hcg z)<|Rm z<|Nh z z<|Nh z z<|Nh z z<|Nh z z<|R z (pF z z z)<|Ra z<|Wl (fun _ q=>⟨false,som<|ifF aA hcg,q.k<|s1 z,br G⟩)
  rintro bT _ ⟨ad,rfl,_,bU⟩;revert bT;refine Wo ?_;obtain rfl:=som bh;exact Wr<|rtO<|h_ hr z ⟨bup (bup (bup h3 h2) H) bU,z⟩
 have aC:=ifF az a2;refine Ws<|R z (eql z z)<|Ra z<|Wn<|Wc z (fun a3=>?_) (fun a3=>?_)
 ·refine Wq ?_;obtain ⟨bV,aD,bi⟩:=bdS<|ifT aC a3;refine Wt (fun a w=>∃ (ae:Bool),ae=bV∧Sat 202 [(6,vB ae)] a∧Below G.z G w) ?_ ?_
  ·refine Wd (X:=noX) 0 (.rd 0<|.rd 1<|.rd 2<|.rd 3<|.rd 4<|.rd 5<|.rd 6<|.rd 7<|.rd 8<|.rd 9<|.rd 10<|.rd 11<|.rd 12<|.rd 13<|.rd 14<|.rd 15<|.rd 16<|.rd 17<|.ef 18<|.ef 19<|.rd 20<|.rd 21<|.rd 22 .done) mo (by kernel_rfl) fun co sq _=>dR z z (fd b_c z) ?_
   have af:=h4.e sq;refine dR z z (l1 g_3 z fid<|af.at z)<|dR z z (eql z z)<|dR z z (mv z) ?_
   rcases bs (x3.number==0) with hci | hci
   ·have aE:=ifT aD hci;refine dRg z z z hci z (fd a_T z)<|dRg z z z hci z (l1 Q_ z fid<|af.at z) ?_
    have hz:=(((h3.ag B).e h2).e H).e sq;refine dRg z z z hci z (lnR n_ z<|p3_1.g hz)<|dRg z z z hci z (eql z z)<|dR z z (pT z hci z)<|dR z z (mv z) ?_
    rcases bs ((x3.bytes.length:Int)==0) with J | J
    ·refine dRg z z z J z (fd a_j z)<|dRg z z z J z (l1 a_F z fid<|af.at z)<|dRg z z z J z (lnR a_U z<|p3_2.g hz)<|dRg z z z J z (lN (vs:=[sl A0 N0 C0]) y_ t_ z z fid<|(((aS.e h2).e H).e sq).row 0 1 z)<|dRg z z z J z (fd K_ z)<|dRg z z z J z (l1 B_ z fid<|(ht.e sq).at z) ?_
     obtain ⟨_,bW,bj⟩:=bdS<|ifT aE J;refine b_K z z z J z (at_ (α:=Int) w_ z_3 z z z (p2_7.g hz) bW) ?_;rintro _ ⟨_,_,_,rfl,bX,bY,_⟩;obtain ⟨rfl,bZ⟩:=O_ bY;refine dRg z z z J z (l1 g_3 z fid<|bX.at0 z) ?_;have b4:=lt_ (lt_ (lt_ h3.s h2.s) H.s) sq.s;obtain ⟨_,c0,bk⟩:=bdS bj;refine dEg z z z J z (fc call206 z<|e_Y (B:=B) c0 (zt' hBw b4) (p1_0.g hz) bZ) (.inr fun _ _ h=>v_<|h.1) ?_;rintro _ _ ⟨b5,rfl,c1⟩;obtain ⟨c2,c3,bm⟩:=bdS bk;refine dEg z z z J z (fc call104 z<|e_8 (B:=B) c3 (zt' hBw<|lt_ b4 b5.s) (ii z) c1) (.inr fun _ _ h=>v_<|h.1) ?_;rintro _ _ ⟨c4,rfl,_⟩;exact dRg z z z J z (b_y z z)<|dR z z (pT z J z)<|dR z z (asg z)<|pD (fun _ q=>⟨decide<|(x3.items.length:Int)≤c2,som bm,q.k<|s1 z,bup (bup sq b5) c4⟩)
    iterate 8 refine dRn z z z J z ?_
    exact dEn z z z J z<|dEn z z z J z<|dRn z z z J z<|dR z z (pF z J z)<|dR z z (asg z)<|pD (fun _ q=>⟨false,som<|ifF aE J,q.k<|s1 z,sq⟩)
   iterate 4 refine dRn z z z hci z ?_
   refine dR z z (pF z hci z)<|dR z z (mv z) ?_
   iterate 8 refine dRn z z z z z ?_
   exact dEn z z z z z<|dEn z z z z z<|dRn z z z z z<|dR z z (pF z z z)<|dR z z (asg z)<|pD (fun _ q=>⟨false,som<|ifF aD hci,q.k<|s1 z,sq⟩)
  rintro c5 _ ⟨ae,rfl,_,c6⟩;revert c5;refine Wo ?_;obtain rfl:=som bi;exact Wr<|rtO<|h_ hr z ⟨bup (bup (bup h3 h2) H) c6,z⟩
 have aF:=ifF aC a3;refine Ws<|R z (eql z z)<|Ra z<|Wn<|Wc z (fun a4=>?_) (fun a4=>?_)
 ·refine Wq ?_;obtain ⟨c7,aG,bn⟩:=bdS<|ifT aF a4;refine Wt (fun a w=>∃ (ah:Bool),ah=c7∧Sat 202 [(6,vB ah)] a∧Below G.z G w) ?_ ?_
  ·refine Wg<|R z (fd b_c z)<|R z (l1 g_3 z fid<|h4.at z)<|R z (eql z z)<|Rm z ?_
   rcases bs (x3.number==0) with hcj | hcj
   ·have aH:=ifT aG hcj;refine Rh z hcj (fd a_T z)<|Rh z hcj (l1 Q_ z fid<|h4.at z) ?_
    have ai:=((h3.ag B).e h2).e H;refine Rh z hcj (lnR n_ z<|p3_1.g ai)<|Rh z hcj (eql z z)<|R z (pT z hcj z)<|Rm z ?_
    rcases bs ((x3.bytes.length:Int)==0) with L | L
    ·exact Rh z L (fd a_j z)<|Rh z L (l1 a_F z fid<|h4.at z)<|Rh z L (lnR a_U z<|p3_2.g ai)<|Rh z L (fd K_ z)<|Rh z L (l1 B_ z fid<|ht.at z)<|Rh z L (lnR w_ z<|p2_7.g ai)<|Rh z L (eql z z)<|R z (pT z L z)<|Ra z<|Wl (fun _ q=>⟨(x3.items.length:Int)==(x2.kids.length:Int),som<|ifT aH L,q.k<|s1 z,br G⟩)
    iterate 7 refine Nh z L ?_
    exact R z (pF z L z)<|Ra z<|Wl (fun _ q=>⟨false,som<|ifF aH L,q.k<|s1 z,br G⟩)
   iterate 4 refine Nh z hcj ?_
   exact R z (pF z hcj z)<|Rm z<|Nh z z<|Nh z z<|Nh z z<|Nh z z<|Nh z z<|Nh z z<|Nh z z<|R z (pF z z z)<|Ra z<|Wl (fun _ q=>⟨false,som<|ifF aG hcj,q.k<|s1 z,br G⟩)
  rintro c8 _ ⟨ah,rfl,_,c9⟩;revert c8;refine Wo ?_;obtain rfl:=som bn;exact Wr<|rtO<|h_ hr z ⟨bup (bup (bup h3 h2) H) c9,z⟩
 have aI:=ifF aF a4;refine Ws<|R z (eql z z)<|Ra z<|Wn<|Wc z (fun a5=>?_) (fun a5=>?_)
 ·refine Wq ?_;obtain ⟨ca,aJ,bo⟩:=bdS<|ifT aI a5;refine Wt (fun a w=>∃ (aj:Bool),aj=ca∧Sat 202 [(6,vB aj)] a∧Below G.z G w) ?_ ?_
  ·refine Wg<|R z (fd a_T z)<|R z (l1 Q_ z fid<|h4.at z) ?_
   have hu:=((h3.ag B).e h2).e H;refine R z (lnR n_ z<|p3_1.g hu)<|R z (eql z z)<|Rm z ?_
   rcases bs ((x3.bytes.length:Int)==0) with hck | hck
   ·have aK:=ifT aJ hck;refine Rh z hck (fd a_j z)<|Rh z hck (l1 a_F z fid<|h4.at z)<|Rh z hck (lnR a_U z<|p3_2.g hu)<|Rh z hck (eql z z)<|R z (pT z hck z)<|Rm z ?_
    rcases bs ((x3.items.length:Int)==1) with V | V
    ·refine Rh z V (lN (vs:=vR x2 A2 N2 C2 A3 N3 C3 A1 N1 C1 A4 N4 C4) J_ p_ z z fid<|ht.row 0 8 z)<|Rh z V (fd b_c z)<|Rh z V (l1 g_3 z fid<|h4.at z) ?_
     obtain ⟨cb,cc,bp⟩:=bdS<|ifT aK V;refine Eg z z V z (fc call109 z<|d_A (B:=B) cc (zt' hBw<|lt_ (lt_ h3.s h2.s) H.s) p2_0 p2_1 p2_2 (p2_4.g hu) (p2_5.g hu) (p2_6.g hu) (p2_7.g hu) p3_0<|ii z) ?_;rintro _ _ ⟨cd,rfl,_⟩;exact Rh z V (b_r z z)<|R z (pT z V z)<|Ra z<|Wl (fun _ q=>⟨decide<|0≤cb,som bp,q.k<|s1 z,cd⟩)
    iterate 5 refine Nh z V ?_
    exact R z (pF z V z)<|Ra z<|Wl (fun _ q=>⟨false,som<|ifF aK V,q.k<|s1 z,br G⟩)
   iterate 4 refine Nh z hck ?_
   exact R z (pF z hck z)<|Rm z<|Nh z z<|Nh z z<|Nh z z<|Nh z z<|Nh z z<|R z (pF z z z)<|Ra z<|Wl (fun _ q=>⟨false,som<|ifF aJ hck,q.k<|s1 z,br G⟩)
  rintro ce _ ⟨aj,rfl,_,cf⟩;revert ce;refine Wo ?_;obtain rfl:=som bo;exact Wr<|rtO<|h_ hr z ⟨bup (bup (bup h3 h2) H) cf,z⟩
 have aL:=ifF aI a5;refine Ws<|R z (eql z z)<|Ra z<|Wn<|Wc z (fun a6=>?_) (fun a6=>?_)
 ·refine Wq ?_;obtain ⟨cg,aM,bq⟩:=bdS<|ifT aL a6;refine Wt (fun a w=>∃ (ak:Bool),ak=cg∧Sat 202 [(6,vB ak)] a∧Below G.z G w) ?_ ?_
  ·refine Wg<|R z (fd b_c z)<|R z (l1 g_3 z fid<|h4.at z)<|R z (eql z z)<|Rm z ?_
   rcases bs (x3.number==0) with hcl | hcl
   ·have aN:=ifT aM hcl;refine Rh z hcl (fd a_T z)<|Rh z hcl (l1 Q_ z fid<|h4.at z) ?_
    have b6:=((h3.ag B).e h2).e H;refine Rh z hcl (lnR n_ z<|p3_1.g b6)<|Rh z hcl (eql z z)<|R z (pT z hcl z)<|Rm z ?_
    rcases bs ((x3.bytes.length:Int)==0) with hcm | hcm
    ·exact Rh z hcm (fd a_j z)<|Rh z hcm (l1 a_F z fid<|h4.at z)<|Rh z hcm (lnR a_U z<|p3_2.g b6)<|Rh z hcm (b_y z z)<|R z (pT z hcm z)<|Ra z<|Wl (fun _ q=>⟨decide<|(x3.items.length:Int)≤1,som<|ifT aN hcm,q.k<|s1 z,br G⟩)
    iterate 4 refine Nh z hcm ?_
    exact R z (pF z hcm z)<|Ra z<|Wl (fun _ q=>⟨false,som<|ifF aN hcm,q.k<|s1 z,br G⟩)
   iterate 4 refine Nh z hcl ?_
   exact R z (pF z hcl z)<|Rm z<|Nh z z<|Nh z z<|Nh z z<|Nh z z<|R z (pF z z z)<|Ra z<|Wl (fun _ q=>⟨false,som<|ifF aM hcl,q.k<|s1 z,br G⟩)
  rintro ch _ ⟨ak,rfl,_,ci⟩;revert ch;refine Wo ?_;obtain rfl:=som bq;exact Wr<|rtO<|h_ hr z ⟨bup (bup (bup h3 h2) H) ci,z⟩
 refine Wk<|Wq ?_
 obtain ⟨cj,aO,bt⟩:=bdS<|ifF aL a6;refine Wt (fun a w=>∃ (al:Bool),al=cj∧Sat 202 [(6,vB al)] a∧Below G.z G w) ?_ ?_
 ·refine Wg<|R z (fd b_c z)<|R z (l1 g_3 z fid<|h4.at z)<|R z (eql z z)<|Rm z ?_
  rcases bs (x3.number==0) with hcn | hcn
  ·have aP:=ifT aO hcn;refine Rh z hcn (fd a_T z)<|Rh z hcn (l1 Q_ z fid<|h4.at z) ?_
   have b7:=((h3.ag B).e h2).e H;refine Rh z hcn (lnR n_ z<|p3_1.g b7)<|Rh z hcn (eql z z)<|R z (pT z hcn z)<|Rm z ?_
   rcases bs ((x3.bytes.length:Int)==0) with hco | hco
   ·exact Rh z hco (fd a_j z)<|Rh z hco (l1 a_F z fid<|h4.at z)<|Rh z hco (lnR a_U z<|p3_2.g b7)<|Rh z hco (eql z z)<|R z (pT z hco z)<|Ra z<|Wl (fun _ q=>⟨(x3.items.length:Int)==1,som<|ifT aP hco,q.k<|s1 z,br G⟩)
   iterate 4 refine Nh z hco ?_
   exact R z (pF z hco z)<|Ra z<|Wl (fun _ q=>⟨false,som<|ifF aP hco,q.k<|s1 z,br G⟩)
  iterate 4 refine Nh z hcn ?_
  exact R z (pF z hcn z)<|Rm z<|Nh z z<|Nh z z<|Nh z z<|Nh z z<|R z (pF z z z)<|Ra z<|Wl (fun _ q=>⟨false,som<|ifF aO hcn,q.k<|s1 z,br G⟩)
 rintro ck _ ⟨al,rfl,_,cl⟩;revert ck;refine Wo ?_;obtain rfl:=som bt;exact Wr<|h_ hr z ⟨bup (bup (bup h3 h2) H) cl,z⟩
structure i_m (f:d_→Int→Val→Option Bool):Prop where
  run : ∀ {A0 A9 AA:Option Addr} {N0 C0 N9 C9 NA CA:Nat} {B:Zone} {x1:d_} {x2:Int} {x3:Val} {res:Bool} {w0:World} (hm:f x1 x2 x3=some res) (hBw:B≤w0.z) (p1_0:repS w0 B (sl A0 N0 C0) x1.rules) (p2_0:inI x2) (p3_0:inI x3.number) (p3_1:repS w0 B (sl A9 N9 C9) x3.bytes) (p3_2:repS w0 B (sl AA NA CA) x3.items),o_ prog 261 [(.agg #[sl A0 N0 C0]),vI x2,(.agg #[vI x3.number,sl A9 N9 C9,sl AA NA CA])] w0<|Q0 w0 B res
abbrev k_e (n:Nat):Prop:=i_m (d_g n).spec_l9Valid
theorem T_w0e (aC:k_e n):i_m (f_j n<|d_g n):=by
 constructor
 intro A0 A9 AA N0 C0 N9 C9 NA CA B x1 x2 x3 res w0 hm hBw p1_0 p2_0 p3_0 p3_1 p3_2;unfold f_j at hm
 refine goF func261 z z (lb z) fun fn hr=>Ws<|E z (fb z) ?_
 rintro _ wr ⟨rfl,hx⟩;have H:=hx.below;have hy:Blk wr w0.z [sl A0 N0 C0]:=hx.blk;refine E z (fb z) ?_;rintro _ wc ⟨rfl,hz⟩;have h4:=hz.below;have W:Blk wc wr.z [vI x3.number,sl A9 N9 C9,sl AA NA CA]:=hz.blk;refine Ra z<|Wn<|Ws<|R z (fd X_ z) ?_
 have Y:=hy.e h4;refine R z (l1 a_0 z fid<|Y.at z)<|Rm z ?_
 obtain ⟨xd,aD,aq⟩:=bdS hm;have a0:=(H.ag B).e h4;refine RX z (at_ (α:=g_) a_1 p_ z z z (p1_0.g a0) aD) ?_;rintro _ ⟨_,_,_,rfl,aE,aF,_⟩;obtain ⟨ae,nf,cg,ah,ni,cj,ak,nl,cm,an,no,cp,rfl,a1,a2,a3,a4,a5,a6,a7⟩:=a_z aF;refine R z (lN (vs:=vR xd ae nf cg ah ni cj ak nl cm an no cp) J_ p_ z z fid aE)<|E z (fa b_i) ?_
 rintro _ aG ⟨rfl,a8⟩;have h1:=a8.below;refine E0 (fs (cur':=vR xd ae nf cg ah ni cj ak nl cm an no cp) p_ z z (a8.blk:Blk aG wc.z [(Str.v (⟨[]⟩:Str)),vI 0,vI 0,vB false,sl none 0 0,sl none 0 0,sl none 0 0,sl none 0 0]) z (lb z) (oA z) z) ?_;rintro _ _ ⟨a9,aH⟩;have h2:=aH.one;refine Wn<|Wq<|Ws ?_
 have aa:=(Y.e h1).c h2<|djs<|mm1 hy.lt h4.s
 refine R z (lN (vs:=[sl A0 N0 C0]) y_ t_ z z fid<|aa.row 0 1 z)<|R z (lN (vs:=vR xd ae nf cg ah ni cj ak nl cm an no cp) J_ p_ z z fid<|a9.row 0 8 z) ?_
 have ht:=(W.e h1).c h2<|djs<|mmr W.lt
 refine R z (lN (vs:=[vI x3.number,sl A9 N9 C9,sl AA NA CA]) u_ i_ z z fid<|ht.row 0 3 z) ?_;have I:=lt_ H.s h4.s;have ab : ∀ k∈[wc.z],¬ B k:=or0 (b_ lr)  (m_<|zt' hBw I);have J:=(a0.e h1).c h2<|c_ ab
 have ha:=(h1.ag B).c h2<|c_ ab
 have ad:=lt_ (lt_ I h1.s) h2.s;obtain ⟨_,aI,L⟩:=bdS aq;refine E z (fc call276 z<|W_w27 (B:=B) aI (zt' hBw ad) (p1_0.g J) a1 a2 a3 (a4.g ha) (a5.g ha) (a6.g ha) (a7.g ha) p3_0 (p3_1.g J)<|p3_2.g J) ?_;rintro _ wb ⟨G,rfl⟩;refine R z (not_ z)<|Wn<|Wc z (fun hcs=>?_) (fun hcs=>?_)
 ·refine Ws<|Ra z<|Wn ?_
  obtain rfl:=som<|ifT L hcs;exact Wr<|h_ hr z ⟨bup (bM (bup (bup H h4) h1) h2<|m1 I) G,z⟩
 refine Wk<|Wq<|Ws<|Ra z<|Wn ?_
 obtain ⟨_,ar,O⟩:=bdS<|ifF L hcs;refine Wf (σ:=Unit) (ρ:=Bool) (fun (af:Nat) (_:Unit) a w=>Sat 39 [(3,pt w0.z),(5,pt wr.z),(7,pt wc.z),(8,vI ((af:Nat):Int))] a∧Below wb.z wb w) (fun (_:Unit) a w=>Sat 39 [] a∧Below wb.z wb w) (fun r ex a w=>ex = .ret∧L_ prog fn (Q0 w0 B r) a w) ar ?_ ?_ ?_ ?_ ?_
 ·exact fun _ q=>⟨q.k<|s4 z z z z,br wb⟩
 ·rintro af _ _ _ _ hku ⟨au,s3⟩ av;refine Wu ?_ au;refine Wq<|Ws<|Rm z<|R z (fd a_j z) ?_
  have ai:=(ht.e G).e s3;refine R z (l1 a_F z fid<|ai.at z) ?_;have aj:=(J.e G).e s3;refine R z (lnR a_U z<|p3_2.g aj)<|R z (lss z z)<|Wn<|Wc z (fun _=>?_) (fun hc=>(a_3 hku hc).elim)
  refine Wk<|Wq<|Wb<|Wq (Wd (X:=noX) 0 (.rd 0<|.rd 1<|.rd 2<|.rd 3<|.rd 4<|.rd 6<|.rd 7<|.rd 8<|.rd 9<|.rd 10<|.ef 5<|.ef 11<|.rd 12 .done) mo (by kernel_rfl) fun b1 s5 _=>dR z z (lN (vs:=[sl A0 N0 C0]) y_ t_ z z fid<|(((aa.e G).e s3).e s5).row 0 1 z)<|dR z z (lN (vs:=vR xd ae nf cg ah ni cj ak nl cm an no cp) J_ p_ z z fid<|(((a9.e G).e s3).e s5).row 0 8 z)<|dR z z (fd b_c z) ?_)
  have al:=ai.e s5;refine dR z z (l1 g_3 z fid<|al.at z)<|dR z z (mv z)<|dR z z (fd a_j z)<|dR z z (l1 a_F z fid<|al.at z)<|dR z z (mv z) ?_
  obtain ⟨aJ,aK,aw⟩:=bdS av;have am:=aj.e s5;refine dRX z z (at_ (α:=Val) a_U i_ z z z (p3_2.g am) aK) ?_;rintro _ ⟨_,_,_,rfl,aL,aM,_⟩;obtain ⟨aN,aO,aP,aQ,aR,aS,rfl,aT,aU,aV⟩:=j_p aM;refine dR z z (lN (vs:=[vI aJ.number,sl aN aO aP,sl aQ aR aS]) u_ i_ z z fid aL) ?_;have hq:=((ha.e G).e s3).e s5;have ao:=lt_ (lt_ (lt_ ad G.s) s3.s) s5.s;obtain ⟨_,aW,ax⟩:=bdS aw;refine dE z z (fc call109 z<|d_A (B:=B) aW (zt' hBw ao) a1 a2 a3 (a4.g hq) (a5.g hq) (a6.g hq) (a7.g hq) p3_0<|ic (Nat.le_of_lt hku)<|lt_ (repS.len p3_2) M_) (.inr fun _ _ h=>v_<|h.1) ?_;rintro _ _ ⟨s6,rfl,aX⟩;obtain ⟨_,aY,V⟩:=bdS ax;refine dE z z (fc call261 z<|aC.run (B:=B) aY (zt' hBw<|lt_ ao s6.s) (p1_0.g<|am.e s6) aX aT (aU.e s6)<|aV.e s6) (.inr fun _ _ h=>v_<|h.1) ?_;rintro _ _ ⟨ap,rfl⟩;refine dR z z (not_ z)<|pD<|Wo<|Wc z (fun hcv=>?_) (fun hcv=>?_)
  ·exact Ws<|Ra z<|Wn<|Wr<|rtO<|qL (som<|ifT V hcv).symm<|h_ hr z ⟨bup (bup (bup (bup (bup (bM (bup (bup H h4) h1) h2<|m1 I) G) s3) s5) s6) ap,z⟩
  exact Wk<|Wg<|Rm z<|R z (inc_ hku (lt_ (repS.len p3_2) M_) z z)<|Ra z<|Wl (fun _ q=>⟨(),(som<|ifF V hcv).symm,⟨q.k<|s4 z z z z,bup (bup (bup s3 s5) s6) ap⟩⟩)
 ·rintro _ _ _ ⟨ay,sw⟩;refine Wu ?_ ay;refine Wq<|Ws<|Rm z<|R z (fd a_j z)<|R z (l1 a_F z fid<|((ht.e G).e sw).at z)<|R z (lnR a_U z<|p3_2.g<|(J.e G).e sw)<|R z (lss z z)<|Wn<|Wc z (fun hc=>(a_4 hc).elim) (fun _=>?_)
  exact We<|fun a' ha'=>⟨rfl,⟨Sat.weaken ha' sn,sw⟩⟩
 ·rintro _ aZ _ rfl ⟨_,b0⟩;have az:=elL O;revert aZ;refine Wo<|Ws<|Ra z<|Wn ?_
  obtain rfl:=som az;exact Wr<|h_ hr z ⟨bup (bup (bM (bup (bup H h4) h1) h2<|m1 I) G) b0,z⟩
 rintro _ _ _ _ rfl ⟨rfl,aA⟩;have aB:=elR O;obtain rfl:=som aB;exact ⟨aA,z⟩
theorem A_w0e : ∀ n,k_e n
  | 0=>⟨fun hm=>by intros;exact nomatch (show none=some _ from hm)⟩
  | n+1=>T_w0e<|A_w0e n
theorem W_w0e:i_m (d_g n).spec_l9Valid:=A_w0e n

theorem W_w28 {x1:d_} {x2:Int} {x3:Val} {res:Bool} (hm:h_e n x1 x2 x3=some res) (hBw:B≤w0.z) (p1_0:repS w0 B (sl A0 N0 C0) x1.rules) (p2_0:inI x2) (p3_0:inI x3.number) (p3_1:repS w0 B (sl A9 N9 C9) x3.bytes) (p3_2:repS w0 B (sl AA NA CA) x3.items):o_ prog 223 [(.agg #[sl A0 N0 C0]),vI x2,(.agg #[vI x3.number,sl A9 N9 C9,sl AA NA CA])] w0 (Q0 w0 B res):=by
 unfold h_e at hm
 refine goF func223 z z (lb z) fun fn hr=>Ws<|E z (fb z) ?_
 rintro _ I ⟨rfl,J⟩;have h3:=J.below;refine E z (fb z) ?_;rintro _ H ⟨rfl,L⟩;have h1:=L.below;refine Ra z<|Wn<|Wq ?_
 obtain ⟨ug,huh,hmi⟩:=bdS hm;refine Wt (fun a w=>∃ (x5:Bool),x5=ug∧Sat 16 [(6,vB x5)] a∧Below H.z H w) ?_ ?_
 ·refine Wg ?_;have ha:=(J.blk:Blk I w0.z [sl A0 N0 C0]).e h1;refine R z (lN (vs:=[sl A0 N0 C0]) y_ t_ z z fid<|ha.row 0 1 z)<|Rm z ?_
  have hb:=(h3.ag B).e h1;have hc:=lt_ h3.s h1.s;obtain ⟨rj,ek,hmd⟩:=bdS huh;refine E z (fc call160 z<|i_k (B:=B) ek (zt' hBw hc) (p1_0.g hb) p2_0) ?_;rintro _ _ ⟨s2,rfl⟩;refine Rm z ?_
  rcases bs rj with G | G
  ·refine Rh z G (lN (vs:=[sl A0 N0 C0]) y_ t_ z z fid<|(ha.e s2).row 0 1 z)<|Rh z G (mv z)<|Rh z G (lN (vs:=[vI x3.number,sl A9 N9 C9,sl AA NA CA]) u_ i_ z z fid<|((L.blk:Blk H I.z [vI x3.number,sl A9 N9 C9,sl AA NA CA]).e s2).row 0 3 z) ?_
   have h6:=hb.e s2;obtain ⟨rl,em,hmn⟩:=bdS<|ifT hmd G;refine Eg z z G z (fc call261 z<|W_w0e.run (B:=B) em (zt' hBw<|lt_ hc s2.s) (p1_0.g h6) p2_0 p3_0 (p3_1.g h6)<|p3_2.g h6) ?_;rintro _ _ ⟨so,rfl⟩;exact R z (pT z G z)<|Ra z<|Wl (fun _ q=>⟨rl,som hmn,q.k<|s1 z,bup s2 so⟩)
  iterate 4 refine Nh z G ?_
  exact R z (pF z G z)<|Ra z<|Wl (fun _ q=>⟨false,som<|ifF hmd G,q.k<|s1 z,s2⟩)
 rintro ap _ ⟨x5,rfl,_,sq⟩;revert ap;refine Wo ?_;obtain rfl:=som hmi;exact Wr<|h_ hr z ⟨bup (bup h3 h1) sq,z⟩
def Q13 (w0:World) (B:Zone) (r:(List UInt8)×Bool) (v:Value) (w':World):Prop:=Bw w0 w'∧un2 (fun J L=>∃ G H I S1,v = .tuple #[sl G H I,vB L]∧a_ w' S1 (sl G H I) J∧S1.Nodup∧(∀ k∈S1,w0.z≤k)) r
theorem W_w29 {x1:d_} {x2:Int} {x3:Val} {res:(List UInt8)×Bool} (hm:h_f n x1 x2 x3=some res) (hBw:B≤w0.z) (p1_0:repS w0 B (sl A0 N0 C0) x1.rules) (p2_0:inI x2) (p3_0:inI x3.number) (p3_1:repS w0 B (sl A9 N9 C9) x3.bytes) (p3_2:repS w0 B (sl AA NA CA) x3.items):o_ prog 188 [(.agg #[sl A0 N0 C0]),vI x2,(.agg #[vI x3.number,sl A9 N9 C9,sl AA NA CA])] w0 (Q13 w0 B res):=by
 unfold h_f at hm
 refine goF func188 z z (lb z) fun fn hr=>Ws<|E z (fb z) ?_
 rintro _ wa ⟨rfl,hb⟩;have h2:=hb.below;refine E z (fb z) ?_;rintro _ wj ⟨rfl,hc⟩;have h1:=hc.below;have hd:Blk wj wa.z [vI x3.number,sl A9 N9 C9,sl AA NA CA]:=hc.blk;refine Ra z<|Ra z<|Wn<|Wq<|Ws ?_
 have he:=(hb.blk:Blk wa w0.z [sl A0 N0 C0]).e h1;refine R z (lN (vs:=[sl A0 N0 C0]) y_ t_ z z fid<|he.row 0 1 z)<|Rm z<|R z (lN (vs:=[vI x3.number,sl A9 N9 C9,sl AA NA CA]) u_ i_ z z fid<|hd.row 0 3 z) ?_
 have h3:=(h2.ag B).e h1;have h4:=lt_ h2.s h1.s;obtain ⟨_,ek,hmf⟩:=bdS hm;refine E z (fc call223 z<|W_w28 (B:=B) ek (zt' hBw h4) (p1_0.g h3) p2_0 p3_0 (p3_1.g h3)<|p3_2.g h3) ?_;rintro _ wl ⟨G,rfl⟩;refine R z (not_ z)<|Wn<|Wc z (fun H=>?_) (fun H=>?_)
 ·refine Ws<|E z (f0 (α:=UInt8) R_) ?_
  rintro _ _ ⟨am,nn,co,rfl,sp,hq⟩;refine Ra z<|Ra z<|Wn ?_
  obtain rfl:=som<|ifT hmf H;exact Wr<|a_R hr z z ⟨bup (bup (bup h2 h1) G) sp,am,nn,co,[wl.z],z,hq,a_h,m1<|lt_ h4 G.s⟩
 refine Wk<|Ws<|R z (lN (vs:=[sl A0 N0 C0]) y_ t_ z z fid<|(he.e G).row 0 1 z)<|Rm z<|R z (lN (vs:=[vI x3.number,sl A9 N9 C9,sl AA NA CA]) u_ i_ z z fid<|(hd.e G).row 0 3 z) ?_
 have h6:=h3.e G;have J:=lt_ h4 G.s;obtain ⟨_,er,hmg⟩:=bdS<|ifF hmf H;refine E z (fc call54 z<|W_w0a.run (B:=B) er (zt' hBw J) (p1_0.g h6) p2_0 p3_0 (p3_1.g h6)<|p3_2.g h6) ?_;rintro _ ws ⟨s8,au,nt,cv,Sw,rfl,hh,hx,hy⟩;refine Ra z<|Wn<|Wq<|Ws<|Rm z<|R z (lnR n_ z<|a_.rep hh)<|R z (a_9 z z)<|Wn<|Wc z (fun I=>?_) (fun I=>?_)
 ·refine Ws<|E z (f0 (α:=UInt8) R_) ?_
  rintro _ _ ⟨az,L,O,rfl,V,W⟩;refine Ra z<|Ra z<|Wn ?_
  obtain rfl:=som<|ifT hmg I;exact Wr<|a_R hr z z ⟨bup (bup (bup (bup h2 h1) G) s8) V,az,L,O,[ws.z],z,W,a_h,m1<|lt_ J s8.s⟩
 refine Wk<|Ws<|Rm z<|Ra z<|Ra z<|Wn ?_
 obtain rfl:=som<|ifF hmg I;exact Wr<|a_R hr z z ⟨bup (bup (bup h2 h1) G) s8,au,nt,cv,Sw,z,hh,hx,l_ hy J⟩
theorem W_w2a {x1:d_} {x2:Val} {res:(List UInt8)×Bool} (hm:h_g n x1 x2=some res) (hBw:B≤w0.z) (p1_0:repS w0 B (sl A0 N0 C0) x1.rules) (p2_0:inI x2.number) (p2_1:repS w0 B (sl AE NE CE) x2.bytes) (p2_2:repS w0 B (sl AF NF CF) x2.items):o_ prog 154 [(.agg #[sl A0 N0 C0]),(.agg #[vI x2.number,sl AE NE CE,sl AF NF CF])] w0 (Q13 w0 B res):=by
 unfold h_g at hm
 refine goF func154 z z (lb z) fun fn hr=>Ws<|E z (fb z) ?_
 rintro _ H ⟨rfl,h6⟩;have h2:=h6.below;refine E z (fb z) ?_;rintro _ wd ⟨rfl,I⟩;have h1:=I.below;refine Ra z<|Ra z<|Wn<|Wq (Wd (X:=noX) 0 (.rd 0<|.rd 1<|.rd 3<|.ef 2<|.ef 4<|.rd 5<|.rd 6<|.rd 7<|.rd 8 .done) mo (by kernel_rfl) fun wr G _=>?_)
 have J:=((h6.blk:Blk H w0.z [sl A0 N0 C0]).e h1).e G;refine dR z z (lN (vs:=[sl A0 N0 C0]) y_ t_ z z fid<|J.row 0 1 z)<|dR z z (lN (vs:=[sl A0 N0 C0]) y_ t_ z z fid<|J.row 0 1 z)<|dR z z (lN (vs:=[vI x2.number,sl AE NE CE,sl AF NF CF]) u_ i_ z z fid<|((I.blk:Blk wd H.z [vI x2.number,sl AE NE CE,sl AF NF CF]).e G).row 0 3 z) ?_
 have L:=((h2.ag B).e h1).e G;have ha:=lt_ (lt_ h2.s h1.s) G.s;obtain ⟨_,eg,hmf⟩:=bdS hm;refine dE z z (fc call65 z<|e_X (B:=B) eg (zt' hBw ha)<|p1_0.g L) (.inr fun _ _ h=>v_<|h.1) ?_;rintro _ _ ⟨s3,rfl,hh⟩;have h4:=L.e s3;have hb:=lt_ ha s3.s;obtain ⟨_,_,ei,hmj⟩:=a_A hmf;refine dE z z (fc call188 z<|W_w29 (B:=B) ei (zt' hBw hb) (p1_0.g h4) hh p2_0 (p2_1.g h4)<|p2_2.g h4) (.inr fun _ _ h=>v_<|h.1) ?_;rintro _ _ ⟨sk,al,nm,cn,So,rfl,hp,hq,ht⟩;refine dR z z (ext_ z z)<|dR z z (ext_ z z)<|dR z z (asg z)<|dR z z (asg z)<|pD<|Wo ?_
 obtain rfl:=som hmj;exact Wr<|a_R hr z z ⟨bup (bup (bup (bup h2 h1) G) s3) sk,al,nm,cn,So,z,hp,hq,l_ ht hb⟩
theorem W_w2b {x1:d_} {res:(List UInt8)×Bool} (hm:f_k n x1=some res) (hBw:B≤w0.z) (p1_0:repS w0 B (sl A0 N0 C0) x1.rules):o_ prog 93 [(.agg #[sl A0 N0 C0])] w0 (Q13 w0 B res):=by
 unfold f_k at hm
 refine goF func93 z z (lb z) fun fn hr=>Ws<|E z (fb z) ?_
 rintro _ wa ⟨rfl,h4⟩;have h1:=h4.below;refine Ra z<|Ra z<|Wn<|Wq (Wd (X:=noX) 0 (.rd 0<|.rd 1<|.rd 2<|.ef 3<|.ef 4<|.ef 5<|.rd 6<|.rd 7<|.rd 8<|.rd 9 .done) mo (by kernel_rfl) fun ww G _=>?_)
 iterate 3 refine dR z z (lN (vs:=[sl A0 N0 C0]) y_ t_ z z fid<|((h4.blk:Blk wa w0.z [sl A0 N0 C0]).e G).row 0 1 z) ?_
 have h5:=(h1.ag B).e G;have h6:=lt_ h1.s G.s;obtain ⟨_,ed,hme⟩:=bdS hm;refine dE z z (fc call65 z<|e_X (B:=B) ed (zt' hBw h6)<|p1_0.g h5) (.inr fun _ _ h=>v_<|h.1) ?_;rintro _ _ ⟨s2,rfl,hf⟩;have H:=h5.e s2;have I:=lt_ h6 s2.s;obtain ⟨_,eg,hmh⟩:=bdS hme;refine dE z z (fc call155 z<|W_w26 (B:=B) eg (zt' hBw I) (p1_0.g H) hf) (.inr fun _ _ h=>v_<|h.1) ?_;rintro _ wi ⟨s3,_,_,_,_,_,_,_,_,rfl,hj,hk,hl,_,_⟩;have J:=lt_ I s3.s;obtain ⟨_,_,em,hmn⟩:=a_A hmh;refine dE z z (fc call154 z<|W_w2a (B:=wi.z) em zr (repS.mono (p1_0.g<|H.e s3)<|zt' hBw J) hj (a_.rep hk)<|a_.rep hl) (.inr fun _ _ h=>v_<|h.1) ?_;rintro _ _ ⟨so,ap,nq,cr,Ss,rfl,ht,hu,hv⟩;refine dR z z (ext_ z z)<|dR z z (ext_ z z)<|dR z z (asg z)<|dR z z (asg z)<|pD<|Wo ?_
 obtain rfl:=som hmn;exact Wr<|a_R hr z z ⟨bup (bup (bup (bup h1 G) s2) s3) so,ap,nq,cr,Ss,z,ht,hu,l_ hv J⟩
theorem W_w2c {x1:List UInt8} {x2:Bool} {res:Int} (hm:f_z x1 x2=some res) (hBw:B≤w0.z) (p1_0:repS w0 B (sl A0 N0 C0) x1):o_ prog 145 [sl A0 N0 C0,vB x2] w0 (Q9 w0 B res):=by
 unfold f_z at hm
 refine goF func145 z z (lb z) fun fn hr=>Ws<|Ra z<|Wn<|Ws<|Ra z<|Wn<|Wq<|Ws<|Rm z<|R z (lnR n_ z p1_0)<|R z (a_9 z z)<|Wn<|Wc z (fun H=>?_) (fun H=>?_)
 ·refine Ws<|Ra z<|Wn ?_
  obtain rfl:=som<|ifT hm H;exact Wr<|h_ hr z ⟨br w0,z,ii z⟩
 refine Wk<|Wq<|Ws<|Ra z<|Wn ?_
 obtain ⟨_,hue,L⟩:=bdS<|ifF hm H;refine Wf (σ:=Int) (ρ:=Int) (fun (k1:Nat) (x0:Int) a w=>Sat 33 [(0,sl A0 N0 C0),(1,vB x2),(5,vI x0),(6,vI ((k1:Nat):Int))] a∧Below w0.z w0 w∧inI x0) (fun (x0:Int) a w=>Sat 33 [(5,vI x0)] a∧Below w0.z w0 w∧inI x0) (fun r ex a w=>ex = .ret∧L_ prog fn (Q9 w0 B r) a w) hue ?_ ?_ ?_ ?_ ?_
 ·exact fun _ q=>⟨q.k<|s4 z z z z,br w0,ii z⟩
 ·rintro k1 x0 _ G _ I ⟨hSf,s7,h3⟩ hmg;refine Wu ?_ hSf;refine Wq<|Ws<|Rm z<|Rm z ?_
  have ha:=p1_0.e s7;refine R z (lnR n_ z ha)<|R z (lss z z)<|Wn<|Wc z (fun _=>?_) (fun hc=>(a_3 I hc).elim)
  refine Wk<|Wq<|Wb<|Ws<|Rm z<|Ra z<|Wn<|Wq<|Ws<|Rm z<|Wn ?_
  obtain ⟨uh,hub,hmi⟩:=bdS hmg;refine Wt (fun a w=>∃ (x4:Int),x4=uh∧Sat 33 [(0,sl A0 N0 C0),(1,vB x2),(5,vI x0),(6,vI ((k1:Nat):Int)),(7,vI x4)] a∧Below G.z G w∧inI x4) ?_ ?_
  ·refine Wc z (fun J=>?_)<|fun J=>?_
   ·exact Wg<|Rm z<|R z (lnR n_ z ha)<|R z (sb_ z z)<|Rm z<|R z (sb_ z z)<|Ra z<|Wl (fun _ q=>⟨I_ (I_ (x1.length:Int) 1) ((k1:Nat):Int),som<|ifT hub J,q.k<|s5 z z z z z,br G,iS _ _⟩)
   exact a_g<|fun _ q=>⟨((k1:Nat):Int),som<|ifF hub J,q.k<|s5 z z z z z,br G,ic (Nat.le_of_lt I)<|lt_ (repS.len p1_0) M_⟩
  rintro aj _ ⟨x4,rfl,_,sc,_⟩;revert aj;refine Wo<|Wg<|Rm z<|R z (c_K z z)<|Rm z<|Rm z ?_
  obtain ⟨xk,el,hmm⟩:=bdS hmi;refine RX z (at_ (α:=UInt8) n_ z_5 z z z (p1_0.g<|(s7.ag B).e sc) el) ?_;rintro _ ⟨_,_,_,rfl,hn,ho,_⟩;obtain rfl:=u8 ho;exact R z (l1 g_5 z fid<|hn.at0 z)<|R z (b_W d_5 d_3 z)<|R z (add_ z z)<|Ra z<|Wn<|Wg<|Rm z<|R z (inc_ I (lt_ (repS.len p1_0) M_) z z)<|Ra z<|Wl (fun _ q=>⟨j_ (a_e x0 256)<|byteI xk,(som hmm).symm,⟨q.k<|s4 z z z z,bup s7 sc,iA _ _⟩⟩)
 ·rintro x0 _ _ ⟨hSp,sd,h3⟩;refine Wu ?_ hSp;refine Wq<|Ws<|Rm z<|Rm z<|R z (lnR n_ z<|p1_0.e sd)<|R z (lss z z)<|Wn<|Wc z (fun hc=>(a_4 hc).elim) (fun _=>?_)
  exact We<|fun a' ha'=>⟨rfl,⟨Sat.weaken ha'<|s1 z,sd,h3⟩⟩
 ·rintro x0 aq _ rfl ⟨_,sr,h3⟩;have hms:=elL L;revert aq;refine Wo<|Ws<|Rm z<|Ra z<|Wn ?_
  obtain rfl:=som hms;exact Wr<|h_ hr z ⟨sr,z,h3⟩
 rintro _ _ _ _ rfl ⟨rfl,hqt⟩;have hmu:=elR L;obtain rfl:=som hmu;exact ⟨hqt,z⟩
def Q14 (w0:World) (B:Zone) (r:Int×Int×Bool) (v:Value) (w':World):Prop:=Bw w0 w'∧un3 (fun G H I=>v = .tuple #[vI G,vI H,vB I]∧inI G∧inI H) r
theorem g_F {x1:d_} {x2:Int} {x3:List UInt8} {x4:Int} {res:Int×Int×Bool} (hm:c_9 x1 x2 x3 x4=some res) (hBw:B≤w0.z) (p1_0:repS w0 B (sl A0 N0 C0) x1.rules) (p2_0:inI x2) (p3_0:repS w0 B (sl A7 N7 C7) x3) (p4_0:inI x4):o_ prog 125 [(.agg #[sl A0 N0 C0]),vI x2,sl A7 N7 C7,vI x4] w0 (Q14 w0 B res):=by
 unfold c_9 at hm
 refine goF func125 z z (lb z) fun fn hr=>Ws<|E z (fb z) ?_
 rintro _ I ⟨rfl,L⟩;have G:=L.below;refine Ra z<|Ra z<|Ra z<|Wn<|Ws<|R z (fd X_ z)<|R z (l1 a_0 z fid<|(L.blk:Blk I w0.z [sl A0 N0 C0]).at z)<|Rm z ?_
 obtain ⟨O,em,J⟩:=bdS hm;refine RX z (at_ (α:=g_) a_1 p_ z z z (p1_0.e G) em) ?_;rintro _ ⟨_,_,_,rfl,ht,hu,_⟩;obtain ⟨aa,nb,cc,ad,ne,cf,ah,ng,ci,aj,nk,cl,rfl,_,_,_,_,_,_,_⟩:=a_z hu;refine R z (lN (vs:=vR O aa nb cc ad ne cf ah ng ci aj nk cl) J_ p_ z z fid ht)<|E z (fa b_i) ?_
 rintro _ wr ⟨rfl,hn⟩;have h1:=hn.below;refine E0 (fs (cur':=vR O aa nb cc ad ne cf ah ng ci aj nk cl) p_ z z (hn.blk:Blk wr I.z [(Str.v (⟨[]⟩:Str)),vI 0,vI 0,vB false,sl none 0 0,sl none 0 0,sl none 0 0,sl none 0 0]) z (lb z) (oA z) z) ?_;rintro _ _ ⟨ho,ss⟩;have h2:=ss.one;refine Wn<|Wq<|Ws<|Rm z ?_
 have hp:=((G.ag B).e h1).c h2<|c_ (or0 (b_ lr)  (m_<|zt' hBw G.s) : ∀ k∈[I.z],¬ B k)
 refine R z (lnR n_ z<|p3_0.g hp)<|Rm z<|R z (sb_ z z)<|R z (fd a_t z)<|R z (l1 g_3 z fid<|ho.at z)<|R z (lss z z)<|Wn<|Wc z (fun H=>?_) (fun H=>?_)
 ·refine Ws<|Rm z<|Ra z<|Ra z<|Ra z<|Wn ?_
  obtain rfl:=som<|ifT J H;exact Wr<|F_ hr z z z ⟨bM (bup G h1) h2<|m1 G.s,z,ii z,p4_0⟩
 refine Wk<|Wq (Wd (X:=noX) 0 (.rd 0<|.rd 1<|.rd 2<|.rd 3<|.rd 4<|.rd 5<|.rd 6<|.rd 7<|.rd 8<|.rd 10<|.rd 11<|.rd 12<|.rd 13<|.ef 9<|.rd 14<|.rd 15<|.rd 16 .done) mo (by kernel_rfl) fun a1 s3 _=>?_)
 iterate 3 refine dR z z (mv z) ?_
 refine dR z z (fd a_t z) ?_;have h6:=ho.e s3;refine dR z z (l1 g_3 z fid<|h6.at z)<|dR z z (add_ z z) ?_
 obtain ⟨_,ex,hmy⟩:=bdS<|ifF J H;refine dRX z z (rX n_ z_5 z z (p3_0.g<|hp.e s3) z z ex) ?_;rintro _ ⟨_,_,_,rfl,hz⟩;refine dR z z (fd c_r z)<|dR z z (l1 g_4 z fid<|h6.at z)<|dR z z (mv z)<|dR z z (fd a_t z)<|dR z z (l1 g_3 z fid<|h6.at z)<|dR z z (add_ z z) ?_
 obtain ⟨_,W,V⟩:=bdS hmy;refine dE z z (fc call145 z<|W_w2c (B:=B) W (zt' hBw<|lt_ (lt_ (lt_ G.s h1.s) h2.s) s3.s) hz) (.inr fun _ _ h=>v_<|h.1) ?_;rintro _ _ ⟨Y,rfl,a0⟩
 iterate 3 refine dR z z (asg z) ?_
 refine pD<|Wo ?_
 obtain rfl:=som V;exact Wr<|F_ hr z z z ⟨bup (bup (bM (bup G h1) h2<|m1 G.s) s3) Y,z,a0,iA _ _⟩
def Q15 (w0:World) (B:Zone) (r:Val×Int×Int) (v:Value) (w':World):Prop:=Bw w0 w'∧un3 (fun G H I=>∃ J L O S1 a2 V W S2,v = .tuple #[(.agg #[vI G.number,sl J L O,sl a2 V W]),vI H,vI I]∧inI G.number∧a_ w' S1 (sl J L O) G.bytes∧a_ w' S2 (sl a2 V W) G.items∧inI H∧inI I∧(S1++S2).Nodup∧(∀ k∈(S1++S2),w0.z≤k)) r
theorem W_w2d {x1:g_} {x2:List UInt8} {x3:Int} {res:Val×Int×Int} (hm:f_A x1 x2 x3=some res) (hBw:B≤w0.z) (p1_0:x1.name.b.length≤LEN) (p1_1:inI x1.kind) (p1_2:inI x1.size) (I:repS w0 B (sl AB NB CB) x1.bytes) (a3:repS w0 B (sl A8 N8 C8) x1.names) (a4:repS w0 B (sl AC NC CC) x1.tags) (a5:repS w0 B (sl AD ND CD) x1.kids) (p2_0:repS w0 B (sl A6 N6 C6) x2) (p3_0:inI x3):o_ prog 126 [(.agg #[Str.v x1.name,vI x1.kind,vI x1.size,vB x1.little,sl AB NB CB,sl A8 N8 C8,sl AC NC CC,sl AD ND CD]),sl A6 N6 C6,vI x3] w0 (Q15 w0 B res):=by
 unfold f_A at hm
 refine goF func126 z z (lb z) fun fn hr=>Ws<|E z (fb z) ?_
 rintro _ J ⟨rfl,he⟩;have G:=he.below;have h5:Blk J w0.z (vR x1 AB NB CB A8 N8 C8 AC NC CC AD ND CD):=he.blk;refine E z (fa a_b) ?_;rintro _ H ⟨rfl,hf⟩;have h1:=hf.below;have L:Blk H J.z [vI 0,sl none 0 0,sl none 0 0]:=hf.blk;refine Ra z<|Ra z<|Wn<|Wq<|Ws<|Ra z<|Wn ?_
 obtain ⟨_,hun,hmg⟩:=bdS hm;refine Wf (σ:=Unit) (ρ:=Val×Int×Int) (fun (kh:Nat) (_:Unit) a w=>Sat 47 [(1,sl A6 N6 C6),(2,vI x3),(3,pt w0.z),(6,pt J.z),(9,vI ((kh:Nat):Int))] a∧Below H.z H w) (fun (_:Unit) a w=>Sat 47 [(2,vI x3),(3,pt w0.z),(6,pt J.z)] a∧Below H.z H w) (fun r ex a w=>ex = .ret∧L_ prog fn (Q15 w0 B r) a w) hun ?_ ?_ ?_ ?_ ?_
 ·exact fun _ q=>⟨q.k<|s5 z z z z z,br H⟩
 ·rintro kh _ _ _ _ hki ⟨hSo,s2⟩ hmj;refine Wu ?_ hSo;refine Wq<|Ws<|Rm z<|R z (fd a_K z) ?_
  have hk:=(h5.e h1).e s2;refine R z (l1 Q_ z fid<|hk.at z) ?_;have ha:=((G.ag B).e h1).e s2;refine R z (lnR n_ z<|I.g ha)<|R z (lss z z)<|Wn<|Wc z (fun _=>?_) (fun hc=>(a_3 hki hc).elim)
  refine Wk<|Wq<|Wb<|Wq<|Ws<|Rm z<|Rm z<|R z (add_ z z)<|Rm z<|R z (lnR n_ z<|p2_0.g ha)<|R z (b_r z z)<|Wn<|Wc z (fun hcb=>?_) (fun hcb=>?_)
  ·refine Ws<|R z (bP (parts:=[]) (cs:=[vI 0,sl none 0 0,sl none 0 0]) W_ z z)<|Rm z<|E0 (fs (cur':=[vI 0,sl none 0 0,sl none 0 0]) i_ z z (L.e s2) z (lb z) (oA z) z) ?_
   rintro _ _ ⟨hp,sq⟩;exact Ra z<|Ra z<|Wn<|Wr<|rtO<|qL (som<|ifT hmj hcb).symm<|F_ hr (q_ u_ i_ z hp z) z z ⟨bM (bup (bup G h1) s2) sq.one<|m1 G.s,none,0,0,[],none,0,0,[],z,ii z,onL,onL,p3_0,ii z,nd0,al0⟩
  refine Wk<|Wq (Wd (X:=noX) 0 (.rd 0<|.rd 1<|.rd 2<|.rd 3<|.rd 4<|.rd 5<|.rd 6<|.rd 7<|.rd 8<|.rd 9<|.rd 10<|.rd 11 .done) mo (by kernel_rfl) fun a6 s6 _=>?_)
  iterate 3 refine dR z z (mv z) ?_
  refine dR z z (add_ z z) ?_;obtain ⟨_,er,hms⟩:=bdS<|ifF hmj hcb;have hl:=ha.e s6;refine dRX z z (at_ (α:=UInt8) n_ z_5 z z z (p2_0.g hl) er) ?_;rintro _ ⟨_,_,_,rfl,ht,hu,_⟩;obtain rfl:=u8 hu;refine dR z z (l1 g_5 z fid<|ht.at0 z)<|dR z z (fd a_K z)<|dR z z (l1 Q_ z fid<|(hk.e s6).at z)<|dR z z (mv z) ?_
  obtain ⟨_,ev,hmm⟩:=bdS hms;refine dRX z z (at_ (α:=UInt8) n_ z_5 z z z (I.g hl) ev) ?_;rintro _ ⟨_,_,_,rfl,hw,hx,_⟩;obtain rfl:=u8 hx;refine dR z z (l1 g_5 z fid<|hw.at0 z)<|dR z z (nq z z)<|pD<|Wo<|Wc z (fun hcc=>?_) (fun hcc=>?_)
  ·refine Ws<|R z (bP (parts:=[]) (cs:=[vI 0,sl none 0 0,sl none 0 0]) W_ z z)<|Rm z<|Rm z<|R z (add_ z z)<|E0 (fs (cur':=[vI 0,sl none 0 0,sl none 0 0]) i_ z z ((L.e s2).e s6) z (lb z) (oA z) z) ?_
   rintro _ _ ⟨hy,sz⟩;exact Ra z<|Ra z<|Wn<|Wr<|rtO<|qL (som<|ifT hmm hcc).symm<|F_ hr (q_ u_ i_ z hy z) z z ⟨bM (bup (bup (bup G h1) s2) s6) sz.one<|m1 G.s,none,0,0,[],none,0,0,[],z,ii z,onL,onL,iA _ _,ii z,nd0,al0⟩
  exact Wk<|Wg<|Rm z<|R z (inc_ hki (lt_ (repS.len I) M_) z z)<|Ra z<|Wl (fun _ q=>⟨(),(som<|ifF hmm hcc).symm,⟨q.k<|s5 z z z z z,bup s2 s6⟩⟩)
 ·rintro _ _ _ ⟨O,sd⟩;refine Wu ?_ O;refine Wq<|Ws<|Rm z<|R z (fd a_K z)<|R z (l1 Q_ z fid<|((h5.e h1).e sd).at z)<|R z (lnR n_ z<|I.g<|((G.ag B).e h1).e sd)<|R z (lss z z)<|Wn<|Wc z (fun hc=>(a_4 hc).elim) (fun _=>?_)
  exact We<|fun a' ha'=>⟨rfl,⟨Sat.weaken ha'<|s3 z z z,sd⟩⟩
 ·rintro _ a0 _ rfl ⟨_,s7⟩;have V:=elL hmg;revert a0;refine Wo<|Wq (Wd (X:=(· ∈ [J.z])) 0 (.rd 0<|.rd 1<|.rd 2<|.rd 3<|.rd 4<|.rd 5<|.ef 6<|.rd 7<|.rd 8 .done) mo (by kernel_rfl) fun a7 s8 _=>dR z z (bP (parts:=[]) (cs:=[vI 0,sl none 0 0,sl none 0 0]) W_ z z)<|dR z z (mv z)<|dR z z (fd a_K z)<|dR z z (l1 Q_ z (djs<|mmr h5.lt)<|(((h5.e h1).e s7).e s8).at z)<|dR z z (lnR n_ z<|I.g<|(((G.ag B).e h1).e s7).e s8)<|dR z z (add_ z z)<|dE0 z (fs (cur':=[vI 0,sl none 0 0,sl none 0 0]) i_ z z ((L.e s7).e s8) z (lb z) (oA z) z) (.inr fun _ _ h=>chgIn (List.mem_singleton.2 z) h.2) ?_)
  rintro _ _ ⟨a1,a2⟩;refine dR z z (asg z)<|dR z z (asg z)<|pD<|Wo ?_
  obtain rfl:=som V;exact Wr<|F_ hr (q_ u_ i_ z a1 z) z z ⟨bM (bup (bup (bup G h1) s7) s8) a2.one<|m1 G.s,none,0,0,[],none,0,0,[],z,ii z,onL,onL,iA _ _,ii z,nd0,al0⟩
 rintro _ _ _ _ rfl ⟨rfl,W⟩;have Y:=elR hmg;obtain rfl:=som Y;exact ⟨W,z⟩
theorem W_w19 {x1:List UInt8} {x2:Int} {x3:Int} {res:Val×Int×Int} (hm:e_r x1 x2 x3=some res) (hBw:B≤w0.z) (p1_0:repS w0 B (sl A0 N0 C0) x1) (p2_0:inI x2) (p3_0:inI x3):o_ prog 127 [sl A0 N0 C0,vI x2,vI x3] w0 (Q15 w0 B res):=by
 unfold e_r at hm
 refine goF func127 z z (lb z) fun fn hr=>Ws<|E z (fa a_b) ?_
 rintro _ we ⟨rfl,O⟩;have G:=O.below;have h2:Blk we w0.z [vI 0,sl none 0 0,sl none 0 0]:=O.blk;refine Ra z<|Ra z<|Wn<|Wq<|Ws<|Rm z<|R z (lnR n_ z<|p1_0.e G)<|Rm z<|R z (sb_ z z)<|Rm z<|R z (lss z z)<|Wn<|Wc z (fun H=>?_) (fun H=>?_)
 ·refine Ws<|R z (bP (parts:=[]) (cs:=[vI 0,sl none 0 0,sl none 0 0]) W_ z z)<|Rm z<|E0 (fs (cur':=[vI 0,sl none 0 0,sl none 0 0]) i_ z z h2 z (lb z) (oA z) z) ?_
  rintro _ _ ⟨hf,sg⟩;refine Ra z<|Ra z<|Wn ?_
  obtain rfl:=som<|ifT hm H;exact Wr<|F_ hr (q_ u_ i_ z hf z) z z ⟨bM G sg.one<|b_ lr,none,0,0,[],none,0,0,[],z,ii z,onL,onL,p2_0,ii z,nd0,al0⟩
 refine Wk<|Ws<|E z (f0 (α:=UInt8) R_) ?_
 rintro _ _ ⟨_,_,_,rfl,s1,hh⟩;refine Rm z<|Rm z<|Rm z<|Rm z<|R z (add_ z z) ?_
 obtain ⟨_,ei,hmj⟩:=bdS<|ifF hm H;refine RX z (rX n_ z_5 z z (p1_0.g<|(G.ag B).e s1) z z ei) ?_;rintro _ ⟨_,_,_,rfl,hk⟩;obtain ⟨_,el,hmm⟩:=bdS hmj;refine E z (fN (α:=UInt8) R_ el z z hh a_h hk) ?_;rintro _ _ ⟨V,I,J,L,rfl,s9,hn,ho,ha⟩;refine R z (bP (parts:=[(1,.tmp 24)]) (cs:=[vI 0,sl I J L,sl none 0 0]) W_ z z)<|Rm z<|Rm z<|R z (add_ z z) ?_
 have hb:=mmr h2.lt;refine E0 (fs (cur':=[vI 0,sl I J L,sl none 0 0]) i_ z z ((h2.e s1).c s9<|djs hb) z (lb z) (oA z) z) ?_;rintro _ _ ⟨hp,sq⟩;have hc:=sq.one;refine Ra z<|Ra z<|Wn ?_
 obtain rfl:=som hmm;have hd:=m1 G.s;exact Wr<|F_ hr (q_ u_ i_ z hp z) z z ⟨bM (bM (bup G s1) s9 hd) hc<|b_ lr,I,J,L,V,none,0,0,[],z,ii z,hn.c hc (or1 ha hb (P_ (b_ h2.lt) s1.s) : ∀ k∈V,k∉[w0.z]),onL,iA _ _,ii z,na_ ho H_<|nmN _,aa_ (a_2 ha hd<|lt_ G.s s1.s) an_⟩
def Q16 (w0:World) (B:Zone) (r:(List UInt8)×Int×Bool) (v:Value) (w':World):Prop:=Bw w0 w'∧un3 (fun L G O=>∃ H I J S1,v = .tuple #[sl H I J,vI G,vB O]∧a_ w' S1 (sl H I J) L∧inI G∧S1.Nodup∧(∀ k∈S1,w0.z≤k)) r
theorem W_w2e {x1:List UInt8} {x2:Int} {x3:UInt8} {res:(List UInt8)×Int×Bool} (hm:f_B n x1 x2 x3=some res) (hBw:B≤w0.z) (p1_0:repS w0 B (sl A0 N0 C0) x1) (p2_0:inI x2):o_ prog 128 [sl A0 N0 C0,vI x2,vU<|byteI x3] w0 (Q16 w0 B res):=by
 unfold f_B at hm
 refine goF func128 z z (lb z) fun fn hr=>Ws<|Ra z<|Ra z<|Ra z<|Wn<|Ws<|E z (f0 (α:=UInt8) R_) ?_
 rintro _ G ⟨ai,aj,ak,rfl,s9,al⟩;refine Ra z<|Wn<|Wq<|Ws<|Rm z<|Ra z<|Wn ?_
 obtain ⟨_,a4,hmr⟩:=bdS hm;refine b_Y (σ:=(List UInt8)×Int) (ρ:=(List UInt8)×Int×Bool) (fun s a w=>un2 (fun xb x5=>∃ a2 I J H,Sat 54 [(0,sl A0 N0 C0),(1,vI x2),(2,vU<|byteI x3),(9,sl a2 I J),(10,vI x5)] a∧Chg (· ∈ [w0.z]) G w∧a_ w H (sl a2 I J) xb∧H.Nodup∧(∀ k∈H,k∈[w0.z]∨G.z≤k)∧inI x5) s) (fun s a w=>un2 (fun xb x5=>∃ a2 I J H,Sat 54 [(1,vI x2)] a∧Chg (· ∈ [w0.z]) G w∧a_ w H (sl a2 I J) xb∧H.Nodup∧(∀ k∈H,k∈[w0.z]∨G.z≤k)∧inI x5) s) (fun r ex a w=>ex = .ret∧L_ prog fn (Q16 w0 B r) a w) a4 ?_ ?_ ?_ ?_
 ·exact fun _ q=>⟨ai,aj,ak,[w0.z],q.k<|s5 z z z z z,cr [w0.z] G,al,a_h,io sr,p2_0⟩
 ·rintro ⟨xb,x5⟩ _ wc _ ⟨a2,I,J,H,a5,s8,hd,he,hf,hi⟩ a6;refine Wu ?_ a5;refine Wq<|Wq ?_
  obtain ⟨am,a7,hms⟩:=bdS<|b_1 a6;refine Wt (fun a w=>∃ (xj:Bool),xj=am∧Sat 54 [(0,sl A0 N0 C0),(1,vI x2),(2,vU<|byteI x3),(9,sl a2 I J),(10,vI x5),(22,vB xj)] a∧Below wc.z wc w) ?_ ?_
  ·refine Wg<|Rm z<|Rm z ?_
   have hu:=(s9.ag B).c s8<|c_ (or0 (b_ lr)  (m_ hBw) : ∀ k∈[w0.z],¬ B k)
   have hv:=p1_0.g hu;refine R z (lnR n_ z hv) ?_;obtain ⟨an,ao,hmw⟩:=bdS a7;refine E z (fc call103 z<|b_d (B:=B) ao (zt' hBw<|lt_ s9.s s8.s) p2_0 (ii z)<|a_M<|repS.len hv) ?_;rintro _ _ ⟨sk,rfl⟩;refine Rm z ?_
   rcases bs an with L | L
   ·exact Rh z L (mv z)<|Rh z L (mv z)<|Rh z L (lnR n_ z<|p1_0.g<|hu.e sk)<|Rh z L (lss z z)<|R z (pT z L z)<|Wl (fun _ q=>⟨decide<|x5<(x1.length:Int),som<|ifT hmw L,q.k<|s6 z z z z z z,sk⟩)
   iterate 4 refine Nh z L ?_
   exact R z (pF z L z)<|Wl (fun _ q=>⟨false,som<|ifF hmw L,q.k<|s6 z z z z z z,sk⟩)
  rintro ap wa ⟨xj,rfl,_,s7⟩;revert ap;refine Wo<|Wc z (fun hcl=>?_) (fun hcl=>?_)
  ·refine Wk<|Wq<|Wb<|Wq<|Ws<|Rm z<|Rm z ?_
   obtain ⟨_,aq,hmx⟩:=bdS<|ifT hms hcl;have hy:=((s9.ag B).c s8<|c_ (or0 (b_ lr)  (m_ hBw) : ∀ k∈[w0.z],¬ B k)).e s7;have hn:=p1_0.g hy;refine RX z (at_ (α:=UInt8) n_ z_5 z z z hn aq) ?_;rintro _ ⟨_,_,_,rfl,ar,au,_⟩;obtain rfl:=u8 au;refine R z (l1 g_5 z fid<|ar.at0 z)<|Rm z<|R z (eql z z)<|Wn<|Wc z (fun hcm=>?_) (fun hcm=>?_)
   ·refine Ws<|Rm z<|Rm z<|R z (add_ z z)<|Ra z<|Ra z<|Ra z<|Wn ?_
    exact Wr<|rtO<|qL (som<|ifT hmx hcm).symm<|F_ hr z z z ⟨bup (bM s9 s8<|b_ lr) s7,a2,I,J,H,z,hd.e s7,iA _ _,he,(or1 hf (b_ lr) (b_7 s9.s) : ∀ k∈H,w0.z≤k)⟩
   refine Wk<|Wq<|Ws<|Rm z<|Rm z ?_
   obtain ⟨_,av,a8⟩:=bdS<|ifF hmx hcm;refine RX z (at_ (α:=UInt8) n_ z_5 z z z hn av) ?_;rintro _ ⟨_,_,_,rfl,aw,ax,_⟩;obtain rfl:=u8 ax;refine R z (l1 g_5 z fid<|aw.at0 z)<|R z (eql z z)<|Wn ?_
   obtain ⟨ay,huz,O⟩:=bdS a8;refine Wt (fun a w=>∃ (xg:Int),Sum.inl xg=ay∧Sat 54 [(0,sl A0 N0 C0),(1,vI x2),(2,vU<|byteI x3),(9,sl a2 I J),(10,vI xg)] a∧Below wa.z wa w∧inI xg) ?_ ?_
   ·refine Wc z (fun hco=>?_)<|fun hco=>?_
    ·have V:=ifT huz hco;refine Ws<|Rm z<|R z (add_ z z)<|Ra z<|Wn<|Ws<|Rm z<|Rm z<|R z (lnR n_ z hn)<|R z (eql z z)<|Wn<|Wc z (fun hcp=>?_) (fun hcp=>?_)
     ·obtain rfl:=som<|ifT V hcp;have a9:=elR O;exact We<|exO z (fun a' ha'=>b_w (som a9).symm ⟨a2,I,J,H,Sat.weaken ha'<|s1 z,(f_ (cM (cr [w0.z] G) s8 (io sr):Chg (· ∈ [w0.z]) G wc) s7:Chg (· ∈ [w0.z]) G wa),hd.e s7,he,(or1 hf (io sr) (z_ lr) : ∀ k∈H,k∈[w0.z]∨G.z≤k),iA _ _⟩)
     exact a_g<|fun _ q=>⟨j_ x5 1,som<|ifF V hcp,q.k<|s5 z z z z z,br wa,iA _ _⟩
    exact a_g<|fun _ q=>⟨x5,som<|ifF huz hco,q.k<|s5 z z z z z,br wa,hi⟩
   rintro az W ⟨xg,rfl,_,sh,_⟩;have aa:=elL O;revert az;refine Wo<|Wg<|Rm z<|Rm z<|Rm z ?_
   obtain ⟨aA,aB,ab⟩:=bdS aa;refine RX z (at_ (α:=UInt8) n_ z_5 z z z (p1_0.g<|hy.e sh) aB) ?_;rintro _ ⟨_,_,_,rfl,aC,aD,_⟩;obtain rfl:=u8 aD;refine R z (l1 g_5 z fid<|aC.at0 z)<|E z (fS [(.tmp 49)] R_ z z z (a_d z) (lb z)<|lb z) ?_
   rintro _ Y ⟨rfl,hq⟩;have ht:=hq.below;have aV:=a_E hq b_0;obtain ⟨aE,aF,ad⟩:=bdS ab;refine E z (a_Q (α:=UInt8) R_ aF z z (((hd.e s7).e sh).e ht) he (hq.blk:Blk Y W.z [vU (byteI aA)]) b_0 an_ H_) ?_;rintro _ aG ⟨a0,aH,aI,aJ,rfl,aK,aL,aM,aN⟩;refine Ra z<|Wn<|Wg<|Rm z<|R z (add_ z z)<|Ra z<|Wl ?_
   have a1 : ∀ k∈H,k∈[w0.z]∨G.z≤k:=or1 hf (io sr)<|z_ lr;exact fun _ q=>⟨(aE,j_ xg 1),(som ad).symm,⟨aH,aI,aJ,a0,q.k<|s5 z z z z z,(cM (f_ (f_ (f_ (cM (cr [w0.z] G) s8 (io sr):Chg (· ∈ [w0.z]) G wc) s7:Chg (· ∈ [w0.z]) G wa) sh:Chg (· ∈ [w0.z]) G W) ht:Chg (· ∈ [w0.z]) G Y) aK a1:Chg (· ∈ [w0.z]) G aG),aL,aM,(or2 aN a1 an_ (z_<|lt_ (lt_ (lt_ s8.s s7.s) sh.s) ht.s) : ∀ k∈a0,k∈[w0.z]∨G.z≤k),iA _ _⟩⟩
  exact We<|fun a' ha'=>b_w (som<|ifF hms hcl).symm ⟨a2,I,J,H,Sat.weaken ha'<|s1 z,(f_ (cM (cr [w0.z] G) s8 (io sr):Chg (· ∈ [w0.z]) G wc) s7:Chg (· ∈ [w0.z]) G wa),hd.e s7,he,(or1 hf (io sr) (z_ lr) : ∀ k∈H,k∈[w0.z]∨G.z≤k),hi⟩
 ·rintro ⟨xb,x5⟩ aO aP rfl ⟨a2,I,J,H,_,a3,hd,he,hf,hi⟩;have ae:=elL hmr;revert aO;refine Wo<|Ws<|E z (f0 (α:=UInt8) R_) ?_
  rintro _ _ ⟨aQ,aR,aS,rfl,aT,aU⟩;refine Rm z<|Ra z<|Ra z<|Ra z<|Wn ?_
  obtain rfl:=som<|b_1 ae;exact Wr<|F_ hr z z z ⟨bup (bM s9 a3<|b_ lr) aT,aQ,aR,aS,[aP.z],z,aU,p2_0,a_h,m1<|lt_ s9.s a3.s⟩
 rintro _ _ _ _ rfl ⟨rfl,af⟩;have ah:=elR hmr;obtain rfl:=som ah;exact ⟨af,z⟩
structure i_n (f:d_→Int→(List UInt8)→Int→Option (Val×Int×Int)):Prop where
  run : ∀ {A0 A7:Option Addr} {N0 C0 N7 C7:Nat} {B:Zone} {x1:d_} {x2:Int} {x3:List UInt8} {x4:Int} {res:Val×Int×Int} {w0:World} (hm:f x1 x2 x3 x4=some res) (hBw:B≤w0.z) (p1_0:repS w0 B (sl A0 N0 C0) x1.rules) (p2_0:inI x2) (p3_0:repS w0 B (sl A7 N7 C7) x3) (p4_0:inI x4),o_ prog 67 [(.agg #[sl A0 N0 C0]),vI x2,sl A7 N7 C7,vI x4] w0<|Q15 w0 B res
structure i_o (f:d_→g_→Int→Int→(List UInt8)→Int→Option (Val×Int×Int)):Prop where
  run : ∀ {A0 A2 A3 A1 A4 AG:Option Addr} {N0 C0 N2 C2 N3 C3 N1 C1 N4 C4 NG CG:Nat} {B:Zone} {x1:d_} {x2:g_} {x3:Int} {x4:Int} {x5:List UInt8} {x6:Int} {res:Val×Int×Int} {w0:World} (hm:f x1 x2 x3 x4 x5 x6=some res) (hBw:B≤w0.z) (p1_0:repS w0 B (sl A0 N0 C0) x1.rules) (p2_0:x2.name.b.length≤LEN) (p2_1:inI x2.kind) (p2_2:inI x2.size) (p2_4:repS w0 B (sl A2 N2 C2) x2.bytes) (p2_5:repS w0 B (sl A3 N3 C3) x2.names) (p2_6:repS w0 B (sl A1 N1 C1) x2.tags) (p2_7:repS w0 B (sl A4 N4 C4) x2.kids) (p3_0:inI x3) (p4_0:inI x4) (p5_0:repS w0 B (sl AG NG CG) x5) (p6_0:inI x6),o_ prog 129 [(.agg #[sl A0 N0 C0]),.agg #[Str.v x2.name,vI x2.kind,vI x2.size,vB x2.little,sl A2 N2 C2,sl A3 N3 C3,sl A1 N1 C1,sl A4 N4 C4],vI x3,vI x4,sl AG NG CG,vI x6] w0<|Q15 w0 B res
structure i_p (f:d_→g_→(List UInt8)→Int→Option (Val×Int×Int)):Prop where
  run : ∀ {A0 A2 A3 A1 A4 A7:Option Addr} {N0 C0 N2 C2 N3 C3 N1 C1 N4 C4 N7 C7:Nat} {B:Zone} {x1:d_} {x2:g_} {x3:List UInt8} {x4:Int} {res:Val×Int×Int} {w0:World} (hm:f x1 x2 x3 x4=some res) (hBw:B≤w0.z) (p1_0:repS w0 B (sl A0 N0 C0) x1.rules) (p2_0:x2.name.b.length≤LEN) (p2_1:inI x2.kind) (p2_2:inI x2.size) (p2_4:repS w0 B (sl A2 N2 C2) x2.bytes) (p2_5:repS w0 B (sl A3 N3 C3) x2.names) (p2_6:repS w0 B (sl A1 N1 C1) x2.tags) (p2_7:repS w0 B (sl A4 N4 C4) x2.kids) (p3_0:repS w0 B (sl A7 N7 C7) x3) (p4_0:inI x4),o_ prog 130 [(.agg #[sl A0 N0 C0]),.agg #[Str.v x2.name,vI x2.kind,vI x2.size,vB x2.little,sl A2 N2 C2,sl A3 N3 C3,sl A1 N1 C1,sl A4 N4 C4],sl A7 N7 C7,vI x4] w0<|Q15 w0 B res
structure i_q (f:d_→g_→(List UInt8)→Int→Option (Val×Int×Int)):Prop where
  run : ∀ {A0 A2 A3 A1 A4 A7:Option Addr} {N0 C0 N2 C2 N3 C3 N1 C1 N4 C4 N7 C7:Nat} {B:Zone} {x1:d_} {x2:g_} {x3:List UInt8} {x4:Int} {res:Val×Int×Int} {w0:World} (hm:f x1 x2 x3 x4=some res) (hBw:B≤w0.z) (p1_0:repS w0 B (sl A0 N0 C0) x1.rules) (p2_0:x2.name.b.length≤LEN) (p2_1:inI x2.kind) (p2_2:inI x2.size) (p2_4:repS w0 B (sl A2 N2 C2) x2.bytes) (p2_5:repS w0 B (sl A3 N3 C3) x2.names) (p2_6:repS w0 B (sl A1 N1 C1) x2.tags) (p2_7:repS w0 B (sl A4 N4 C4) x2.kids) (p3_0:repS w0 B (sl A7 N7 C7) x3) (p4_0:inI x4),o_ prog 131 [(.agg #[sl A0 N0 C0]),.agg #[Str.v x2.name,vI x2.kind,vI x2.size,vB x2.little,sl A2 N2 C2,sl A3 N3 C3,sl A1 N1 C1,sl A4 N4 C4],sl A7 N7 C7,vI x4] w0<|Q15 w0 B res
structure i_r (f:d_→g_→(List UInt8)→Int→Option (Val×Int×Int)):Prop where
  run : ∀ {A0 A2 A3 A1 A4 A7:Option Addr} {N0 C0 N2 C2 N3 C3 N1 C1 N4 C4 N7 C7:Nat} {B:Zone} {x1:d_} {x2:g_} {x3:List UInt8} {x4:Int} {res:Val×Int×Int} {w0:World} (hm:f x1 x2 x3 x4=some res) (hBw:B≤w0.z) (p1_0:repS w0 B (sl A0 N0 C0) x1.rules) (p2_0:x2.name.b.length≤LEN) (p2_1:inI x2.kind) (p2_2:inI x2.size) (p2_4:repS w0 B (sl A2 N2 C2) x2.bytes) (p2_5:repS w0 B (sl A3 N3 C3) x2.names) (p2_6:repS w0 B (sl A1 N1 C1) x2.tags) (p2_7:repS w0 B (sl A4 N4 C4) x2.kids) (p3_0:repS w0 B (sl A7 N7 C7) x3) (p4_0:inI x4),o_ prog 132 [(.agg #[sl A0 N0 C0]),.agg #[Str.v x2.name,vI x2.kind,vI x2.size,vB x2.little,sl A2 N2 C2,sl A3 N3 C3,sl A1 N1 C1,sl A4 N4 C4],sl A7 N7 C7,vI x4] w0<|Q15 w0 B res
abbrev e_9 (n:Nat):Prop:=i_n (a_i n).spec_l11Read∧i_o (a_i n).spec_l11Items∧i_p (a_i n).spec_l11Choice∧i_q (a_i n).spec_l11Option∧i_r (a_i n).spec_l11Checked
theorem T_w03 (ih:e_9 n):i_n (f_C n<|a_i n):=by
 obtain ⟨_,bj,d6,d7,d8⟩:=ih
 constructor
 intro A0 A7 N0 C0 N7 C7 B x1 x2 x3 x4 res w0 hm hBw p1_0 p2_0 p3_0 p4_0;unfold f_C at hm
 refine goF func67 z z (lb z) fun fn hr=>Ws<|E z (fb z) ?_
 rintro _ bk ⟨rfl,bm⟩;have h3:=bm.below;have hn:Blk bk w0.z [sl A0 N0 C0]:=bm.blk;refine E z (fa a_b) ?_;rintro _ H ⟨rfl,bn⟩;have h4:=bn.below;have h2:Blk H bk.z [vI 0,sl none 0 0,sl none 0 0]:=bn.blk;refine Ra z<|Ra z<|Wn<|Ws<|R z (fd X_ z) ?_
 have ho:=hn.e h4;refine R z (l1 a_0 z fid<|ho.at z)<|Rm z ?_
 obtain ⟨xa,d9,b5⟩:=bdS hm;have I:=(h3.ag B).e h4;refine RX z (at_ (α:=g_) a_1 p_ z z z (p1_0.g I) d9) ?_;rintro _ ⟨_,_,_,rfl,da,db,_⟩;obtain ⟨ab,nc,cd,ae,nf,cg,ah,ni,cj,ak,nl,cm,rfl,hu,hv,hp,hq,hw,hx,ht⟩:=a_z db;refine R z (lN (vs:=vR xa ab nc cd ae nf cg ah ni cj ak nl cm) J_ p_ z z fid da)<|E z (fa b_i) ?_
 rintro _ dc ⟨rfl,bo⟩;have G:=bo.below;refine E0 (fs (cur':=vR xa ab nc cd ae nf cg ah ni cj ak nl cm) p_ z z (bo.blk:Blk dc H.z [(Str.v (⟨[]⟩:Str)),vI 0,vI 0,vB false,sl none 0 0,sl none 0 0,sl none 0 0,sl none 0 0]) z (lb z) (oA z) z) ?_;rintro _ _ ⟨J,dd⟩;have h1:=dd.one;refine Wn<|Wq<|Ws<|R z (fd a_x z)<|R z (l1 g_3 z fid<|J.at z)<|Wn<|Wb<|Ws<|R z (eql z z)<|Ra z<|Wn<|Wc z (fun ad=>?_) (fun ad=>?_)
 ·refine Ws<|R z (lN (vs:=[sl A0 N0 C0]) y_ t_ z z fid<|((ho.e G).c h1<|djs<|mm1 hn.lt h4.s).row 0 1 z)<|Rm z<|Rm z<|Rm z ?_
  have hz:=lt_ h3.s h4.s;have bp:=(I.e G).c h1<|c_ (or0 (b_ lr)  (m_<|zt' hBw hz) : ∀ k∈[H.z],¬ B k)
  obtain ⟨bq,_,_,de,b6⟩:=r_<|ifT b5 ad;refine E z (fc call125 z<|g_F (B:=B) de (zt' hBw<|lt_ (lt_ hz G.s) h1.s) (p1_0.g bp) p2_0 (p3_0.g bp) p4_0) ?_;rintro _ _ ⟨sr,rfl,df,dg⟩;refine Rm z ?_
  iterate 3 refine R z (ext_ z z) ?_
  refine Ra z<|Ra z<|Ra z<|Wn<|Wq<|Ws<|Rm z<|R z (not_ z)<|Wn<|Wc z (fun af=>?_) (fun af=>?_)
  ·refine Ws<|R z (bP (parts:=[]) (cs:=[vI 0,sl none 0 0,sl none 0 0]) W_ z z)<|Rm z<|E0 (fs (cur':=[vI 0,sl none 0 0,sl none 0 0]) i_ z z (((h2.e G).c h1<|djs<|mmr h2.lt).e sr) z (lb z) (oA z) z) ?_
   rintro _ _ ⟨dh,di⟩;refine Ra z<|Ra z<|Wn ?_
   obtain rfl:=som<|ifT b6 af;exact Wr<|rtO<|F_ hr (q_ u_ i_ z dh z) z z ⟨bM (bup (bM (bup (bup h3 h4) G) h1<|m1 hz) sr) di.one<|m1 h3.s,none,0,0,[],none,0,0,[],z,ii z,onL,onL,p4_0,ii z,nd0,al0⟩
  refine Wk<|Ws<|Rm z<|R z (bP (parts:=[(0,.tmp 43)]) (cs:=[vI bq,sl none 0 0,sl none 0 0]) W_ z z)<|Rm z<|E0 (fs (cur':=[vI bq,sl none 0 0,sl none 0 0]) i_ z z (((h2.e G).c h1<|djs<|mmr h2.lt).e sr) z (lb z) (oA z) z) ?_
  rintro _ _ ⟨dj,dk⟩;refine Ra z<|Ra z<|Wn ?_
  obtain rfl:=som<|ifF b6 af;exact Wr<|rtO<|F_ hr (q_ u_ i_ z dj z) z z ⟨bM (bup (bM (bup (bup h3 h4) G) h1<|m1 hz) sr) dk.one<|m1 h3.s,none,0,0,[],none,0,0,[],z,df,onL,onL,dg,ii z,nd0,al0⟩
 have b7:=ifF b5 ad;refine Ws<|R z (eql z z)<|Ra z<|Wn<|Wc z (fun ai=>?_) (fun ai=>?_)
 ·refine Ws<|R z (lN (vs:=vR xa ab nc cd ae nf cg ah ni cj ak nl cm) J_ p_ z z fid<|J.row 0 8 z)<|Rm z<|Rm z ?_
  have aw:=lt_ h3.s h4.s;have br : ∀ k∈[H.z],¬ B k:=or0 (b_ lr)  (m_<|zt' hBw aw);have L:=(G.ag B).c h1<|c_ br
  have ax:=lt_ (lt_ aw G.s) h1.s;obtain ⟨dl,_,_,dm,cW⟩:=r_<|ifT b7 ai;refine E z (fc call126 z<|W_w2d (B:=B) dm (zt' hBw ax) hu hv hp (hq.g L) (hw.g L) (hx.g L) (ht.g L) (p3_0.g<|(I.e G).c h1<|c_ br) p4_0) ?_;rintro _ _ ⟨bs,bt,bu,bv,dn,bw,bx,bz,dp,rfl,dq,dr,ds,dt,du,ay,O⟩
  iterate 3 refine R z (ext_ z z) ?_
  refine E0 (fs (cur':=[vI dl.number,sl bt bu bv,sl bw bx bz]) i_ z z (((h2.e G).c h1<|djs<|mmr h2.lt).e bs) z (lb z) (oA z) z) ?_;rintro _ _ ⟨dv,dw⟩;have az:=dw.one;refine Ra z<|Ra z<|Wn ?_
  obtain rfl:=som cW;have bA:=lt_ G.s h1.s;exact Wr<|rtO<|F_ hr (q_ u_ i_ z dv z) z z ⟨bM (bup (bM (bup (bup h3 h4) G) h1<|m1 aw) bs) az<|m1 h3.s,bt,bu,bv,dn,bw,bx,bz,dp,z,dq,dr.c az<|k_ (al_ O) h2.lt bA,ds.c az<|k_ (ar_ O) h2.lt bA,dt,du,na_ (nl_ ay) (nr_ ay)<|nj ay,aa_ (l_ (al_ O) ax)<|l_ (ar_ O) ax⟩
 have b8:=ifF b7 ai;refine Ws<|R z (eql z z)<|Ra z<|Wn<|Wc z (fun aj=>?_) (fun aj=>?_)
 ·refine Ws<|Rm z<|Rm z<|R z (fd a_t z)<|R z (l1 g_3 z fid<|J.at z) ?_
  have aA:=lt_ h3.s h4.s;have aB:=lt_ (lt_ aA G.s) h1.s;obtain ⟨dx,_,_,dy,cX⟩:=r_<|ifT b8 aj;refine E z (fc call127 z<|W_w19 (B:=B) dy (zt' hBw aB) (p3_0.g<|(I.e G).c h1<|c_ (or0 (b_ lr)  (m_<|zt' hBw aA) : ∀ k∈[H.z],¬ B k)) p4_0 hp) ?_;rintro _ _ ⟨bB,bC,bD,bE,dz,bF,bG,bH,dA,rfl,dB,dC,dD,dF,dG,aC,V⟩
  iterate 3 refine R z (ext_ z z) ?_
  refine E0 (fs (cur':=[vI dx.number,sl bC bD bE,sl bF bG bH]) i_ z z (((h2.e G).c h1<|djs<|mmr h2.lt).e bB) z (lb z) (oA z) z) ?_;rintro _ _ ⟨dH,dI⟩;have aD:=dI.one;refine Ra z<|Ra z<|Wn ?_
  obtain rfl:=som cX;have bI:=lt_ G.s h1.s;exact Wr<|rtO<|F_ hr (q_ u_ i_ z dH z) z z ⟨bM (bup (bM (bup (bup h3 h4) G) h1<|m1 aA) bB) aD<|m1 h3.s,bC,bD,bE,dz,bF,bG,bH,dA,z,dB,dC.c aD<|k_ (al_ V) h2.lt bI,dD.c aD<|k_ (ar_ V) h2.lt bI,dF,dG,na_ (nl_ aC) (nr_ aC)<|nj aC,aa_ (l_ (al_ V) aB)<|l_ (ar_ V) aB⟩
 have b9:=ifF b8 aj;refine Ws<|R z (eql z z)<|Ra z<|Wn<|Wc z (fun al=>?_) (fun al=>?_)
 ·refine Ws<|Rm z<|Rm z<|R z (fd a_K z)<|R z (l1 Q_ z fid<|J.at z) ?_
  obtain ⟨_,dJ,cY⟩:=bdS<|ifT b9 al;have W:=lt_ h3.s h4.s;have bJ : ∀ k∈[H.z],¬ B k:=or0 (b_ lr)  (m_<|zt' hBw W);refine RX z (at_ (α:=UInt8) n_ z_5 z z z (hq.g<|(G.ag B).c h1<|c_ bJ) dJ) ?_;rintro _ ⟨_,_,_,rfl,dK,dL,_⟩;obtain rfl:=u8 dL;refine R z (l1 g_5 z fid<|dK.at0 z) ?_;have bK:=lt_ (lt_ W G.s) h1.s;obtain ⟨_,_,_,dN,ba⟩:=r_ cY;refine E z (fc call128 z<|W_w2e (B:=B) dN (zt' hBw bK) (p3_0.g<|(I.e G).c h1<|c_ bJ) p4_0) ?_;rintro _ _ ⟨ss,aE,aF,aG,dO,rfl,dP,dS,dT,bL⟩;refine Rm z ?_
  iterate 3 refine R z (ext_ z z) ?_
  refine Ra z<|Ra z<|Ra z<|Wn<|Wq<|Ws<|Rm z<|R z (not_ z)<|Wn<|Wc z (fun am=>?_) (fun am=>?_)
  ·refine Ws<|R z (bP (parts:=[]) (cs:=[vI 0,sl none 0 0,sl none 0 0]) W_ z z)<|Rm z<|E0 (fs (cur':=[vI 0,sl none 0 0,sl none 0 0]) i_ z z (((h2.e G).c h1<|djs<|mmr h2.lt).e ss) z (lb z) (oA z) z) ?_
   rintro _ _ ⟨dU,dV⟩;refine Ra z<|Ra z<|Wn ?_
   obtain rfl:=som<|ifT ba am;exact Wr<|rtO<|F_ hr (q_ u_ i_ z dU z) z z ⟨bM (bup (bM (bup (bup h3 h4) G) h1<|m1 W) ss) dV.one<|m1 h3.s,none,0,0,[],none,0,0,[],z,ii z,onL,onL,p4_0,ii z,nd0,al0⟩
  refine Wk<|Ws<|Rm z<|R z (bP (parts:=[(1,.tmp 82)]) (cs:=[vI 0,sl aE aF aG,sl none 0 0]) W_ z z)<|Rm z<|E0 (fs (cur':=[vI 0,sl aE aF aG,sl none 0 0]) i_ z z (((h2.e G).c h1<|djs<|mmr h2.lt).e ss) z (lb z) (oA z) z) ?_
  rintro _ _ ⟨dW,dX⟩;have bN:=dX.one;refine Ra z<|Ra z<|Wn ?_
  obtain rfl:=som<|ifF ba am;exact Wr<|rtO<|F_ hr (q_ u_ i_ z dW z) z z ⟨bM (bup (bM (bup (bup h3 h4) G) h1<|m1 W) ss) bN<|m1 h3.s,aE,aF,aG,dO,none,0,0,[],z,ii z,dP.c bN<|k_ bL h2.lt<|lt_ G.s h1.s,onL,dS,ii z,na_ dT H_<|nmN _,aa_ (l_ bL bK) an_⟩
 have bb:=ifF b9 al;refine Ws<|R z (eql z z)<|Ra z<|Wn<|Wc z (fun an=>?_) (fun an=>?_)
 ·refine Ws<|R z (lN (vs:=[sl A0 N0 C0]) y_ t_ z z fid<|((ho.e G).c h1<|djs<|mm1 hn.lt h4.s).row 0 1 z)<|R z (lN (vs:=vR xa ab nc cd ae nf cg ah ni cj ak nl cm) J_ p_ z z fid<|J.row 0 8 z)<|R z (fd K_ z)<|R z (l1 B_ z fid<|J.at z) ?_
  have aH:=lt_ h3.s h4.s;have bO : ∀ k∈[H.z],¬ B k:=or0 (b_ lr)  (m_<|zt' hBw aH);have Y:=(G.ag B).c h1<|c_ bO
  have aI:=ht.g Y;refine R z (lnR w_ z aI)<|Rm z<|Rm z ?_
  have bQ:=(I.e G).c h1<|c_ bO
  have aJ:=lt_ (lt_ aH G.s) h1.s;obtain ⟨dY,_,_,dZ,cZ⟩:=r_<|ifT bb an;refine E z (fc call129 z<|bj.run (B:=B) dZ (zt' hBw aJ) (p1_0.g bQ) hu hv hp (hq.g Y) (hw.g Y) (hx.g Y) aI (ii z) (a_M<|repS.len aI) (p3_0.g bQ) p4_0) ?_;rintro _ _ ⟨bR,bS,bT,bU,e0,bV,bW,bX,e1,rfl,e2,e3,e4,e5,e6,aK,a0⟩
  iterate 3 refine R z (ext_ z z) ?_
  refine E0 (fs (cur':=[vI dY.number,sl bS bT bU,sl bV bW bX]) i_ z z (((h2.e G).c h1<|djs<|mmr h2.lt).e bR) z (lb z) (oA z) z) ?_;rintro _ _ ⟨e7,e8⟩;have aL:=e8.one;refine Ra z<|Ra z<|Wn ?_
  obtain rfl:=som cZ;have bY:=lt_ G.s h1.s;exact Wr<|rtO<|F_ hr (q_ u_ i_ z e7 z) z z ⟨bM (bup (bM (bup (bup h3 h4) G) h1<|m1 aH) bR) aL<|m1 h3.s,bS,bT,bU,e0,bV,bW,bX,e1,z,e2,e3.c aL<|k_ (al_ a0) h2.lt bY,e4.c aL<|k_ (ar_ a0) h2.lt bY,e5,e6,na_ (nl_ aK) (nr_ aK)<|nj aK,aa_ (l_ (al_ a0) aJ)<|l_ (ar_ a0) aJ⟩
 have bc:=ifF bb an;refine Ws<|R z (eql z z)<|Ra z<|Wn<|Wc z (fun ao=>?_) (fun ao=>?_)
 ·refine Ws<|R z (lN (vs:=[sl A0 N0 C0]) y_ t_ z z fid<|((ho.e G).c h1<|djs<|mm1 hn.lt h4.s).row 0 1 z)<|R z (lN (vs:=vR xa ab nc cd ae nf cg ah ni cj ak nl cm) J_ p_ z z fid<|J.row 0 8 z)<|Rm z<|Rm z ?_
  have aM:=lt_ h3.s h4.s;have bZ : ∀ k∈[H.z],¬ B k:=or0 (b_ lr)  (m_<|zt' hBw aM);have c0:=(I.e G).c h1<|c_ bZ
  have a1:=(G.ag B).c h1<|c_ bZ
  have aN:=lt_ (lt_ aM G.s) h1.s;obtain ⟨e9,_,_,ea,d0⟩:=r_<|ifT bc ao;refine E z (fc call130 z<|d6.run (B:=B) ea (zt' hBw aN) (p1_0.g c0) hu hv hp (hq.g a1) (hw.g a1) (hx.g a1) (ht.g a1) (p3_0.g c0) p4_0) ?_;rintro _ _ ⟨c1,c2,c3,c4,eb,c5,c6,c7,ec,rfl,ed,ee,eg,eh,ei,aO,a2⟩
  iterate 3 refine R z (ext_ z z) ?_
  refine E0 (fs (cur':=[vI e9.number,sl c2 c3 c4,sl c5 c6 c7]) i_ z z (((h2.e G).c h1<|djs<|mmr h2.lt).e c1) z (lb z) (oA z) z) ?_;rintro _ _ ⟨ej,ek⟩;have aP:=ek.one;refine Ra z<|Ra z<|Wn ?_
  obtain rfl:=som d0;have c8:=lt_ G.s h1.s;exact Wr<|rtO<|F_ hr (q_ u_ i_ z ej z) z z ⟨bM (bup (bM (bup (bup h3 h4) G) h1<|m1 aM) c1) aP<|m1 h3.s,c2,c3,c4,eb,c5,c6,c7,ec,z,ed,ee.c aP<|k_ (al_ a2) h2.lt c8,eg.c aP<|k_ (ar_ a2) h2.lt c8,eh,ei,na_ (nl_ aO) (nr_ aO)<|nj aO,aa_ (l_ (al_ a2) aN)<|l_ (ar_ a2) aN⟩
 have be:=ifF bc ao;refine Ws<|R z (eql z z)<|Ra z<|Wn<|Wc z (fun ap=>?_) (fun ap=>?_)
 ·refine Ws<|R z (lN (vs:=[sl A0 N0 C0]) y_ t_ z z fid<|((ho.e G).c h1<|djs<|mm1 hn.lt h4.s).row 0 1 z)<|R z (lN (vs:=vR xa ab nc cd ae nf cg ah ni cj ak nl cm) J_ p_ z z fid<|J.row 0 8 z)<|Rm z<|Rm z ?_
  have aQ:=lt_ h3.s h4.s;have c9 : ∀ k∈[H.z],¬ B k:=or0 (b_ lr)  (m_<|zt' hBw aQ);have ca:=(I.e G).c h1<|c_ c9
  have a3:=(G.ag B).c h1<|c_ c9
  have aR:=lt_ (lt_ aQ G.s) h1.s;obtain ⟨em,_,_,en,d1⟩:=r_<|ifT be ap;refine E z (fc call131 z<|d7.run (B:=B) en (zt' hBw aR) (p1_0.g ca) hu hv hp (hq.g a3) (hw.g a3) (hx.g a3) (ht.g a3) (p3_0.g ca) p4_0) ?_;rintro _ _ ⟨cb,cc,ce,cf,eo,ch,ci,ck,ep,rfl,er,es,eu,ew,ex,aS,a4⟩
  iterate 3 refine R z (ext_ z z) ?_
  refine E0 (fs (cur':=[vI em.number,sl cc ce cf,sl ch ci ck]) i_ z z (((h2.e G).c h1<|djs<|mmr h2.lt).e cb) z (lb z) (oA z) z) ?_;rintro _ _ ⟨ey,ez⟩;have aT:=ez.one;refine Ra z<|Ra z<|Wn ?_
  obtain rfl:=som d1;have cl:=lt_ G.s h1.s;exact Wr<|rtO<|F_ hr (q_ u_ i_ z ey z) z z ⟨bM (bup (bM (bup (bup h3 h4) G) h1<|m1 aQ) cb) aT<|m1 h3.s,cc,ce,cf,eo,ch,ci,ck,ep,z,er,es.c aT<|k_ (al_ a4) h2.lt cl,eu.c aT<|k_ (ar_ a4) h2.lt cl,ew,ex,na_ (nl_ aS) (nr_ aS)<|nj aS,aa_ (l_ (al_ a4) aR)<|l_ (ar_ a4) aR⟩
 have bf:=ifF be ap;refine Ws<|R z (eql z z)<|Ra z<|Wn<|Wc z (fun aq=>?_) (fun aq=>?_)
 ·refine Ws<|R z (lN (vs:=[sl A0 N0 C0]) y_ t_ z z fid<|((ho.e G).c h1<|djs<|mm1 hn.lt h4.s).row 0 1 z)<|R z (lN (vs:=vR xa ab nc cd ae nf cg ah ni cj ak nl cm) J_ p_ z z fid<|J.row 0 8 z)<|Rm z<|Rm z ?_
  have aU:=lt_ h3.s h4.s;have cn : ∀ k∈[H.z],¬ B k:=or0 (b_ lr)  (m_<|zt' hBw aU);have co:=(I.e G).c h1<|c_ cn
  have a5:=(G.ag B).c h1<|c_ cn
  have aV:=lt_ (lt_ aU G.s) h1.s;obtain ⟨eA,_,_,eB,d2⟩:=r_<|ifT bf aq;refine E z (fc call132 z<|d8.run (B:=B) eB (zt' hBw aV) (p1_0.g co) hu hv hp (hq.g a5) (hw.g a5) (hx.g a5) (ht.g a5) (p3_0.g co) p4_0) ?_;rintro _ _ ⟨cp,cq,cr,ct,eC,cu,cv,cw,eD,rfl,eE,eF,eG,eH,eI,aW,a6⟩
  iterate 3 refine R z (ext_ z z) ?_
  refine E0 (fs (cur':=[vI eA.number,sl cq cr ct,sl cu cv cw]) i_ z z (((h2.e G).c h1<|djs<|mmr h2.lt).e cp) z (lb z) (oA z) z) ?_;rintro _ _ ⟨eJ,eK⟩;have aX:=eK.one;refine Ra z<|Ra z<|Wn ?_
  obtain rfl:=som d2;have cx:=lt_ G.s h1.s;exact Wr<|rtO<|F_ hr (q_ u_ i_ z eJ z) z z ⟨bM (bup (bM (bup (bup h3 h4) G) h1<|m1 aU) cp) aX<|m1 h3.s,cq,cr,ct,eC,cu,cv,cw,eD,z,eE,eF.c aX<|k_ (al_ a6) h2.lt cx,eG.c aX<|k_ (ar_ a6) h2.lt cx,eH,eI,na_ (nl_ aW) (nr_ aW)<|nj aW,aa_ (l_ (al_ a6) aV)<|l_ (ar_ a6) aV⟩
 refine Wk<|Wq (Wd (X:=noX) 0 (.rd 0<|.rd 1<|.rd 2<|.rd 3<|.rd 4<|.rd 5<|.rd 6<|.ef 7<|.rd 8<|.rd 9<|.rd 10<|.rd 11<|.rd 12<|.rd 13<|.rd 14 .done) mo (by kernel_rfl) fun fk s6 _=>?_)
 have cy:=((ho.e G).c h1<|djs<|mm1 hn.lt h4.s).e s6;refine dR z z (lN (vs:=[sl A0 N0 C0]) y_ t_ z z fid<|cy.row 0 1 z)<|dR z z (fd K_ z) ?_
 have cz:=J.e s6;refine dR z z (l1 B_ z fid<|cz.at z) ?_;obtain ⟨_,eL,d3⟩:=bdS<|ifF bf aq;have hy:=lt_ h3.s h4.s;have cA : ∀ k∈[H.z],¬ B k:=or0 (b_ lr)  (m_<|zt' hBw hy);have cB:=((G.ag B).c h1<|c_ cA).e s6;refine dRX z z (at_ (α:=Int) w_ z_3 z z z (ht.g cB) eL) ?_;rintro _ ⟨_,_,_,rfl,eM,eN,_⟩;obtain ⟨rfl,eO⟩:=O_ eN;refine dR z z (l1 g_3 z fid<|eM.at0 z)<|dR z z (mv z)<|dR z z (mv z) ?_
 have a7:=((I.e G).c h1<|c_ cA).e s6;have aY:=lt_ (lt_ (lt_ hy G.s) h1.s) s6.s;obtain ⟨_,_,_,eP,bg⟩:=r_ d3;refine dE z z (fc call125 z<|g_F (B:=B) eP (zt' hBw aY) (p1_0.g a7) eO (p3_0.g a7) p4_0) (.inr fun _ _ h=>v_<|h.1) ?_;rintro _ _ ⟨s5,rfl,cC,cD⟩;refine dR z z (mv z) ?_
 iterate 3 refine dR z z (ext_ z z) ?_
 iterate 3 refine dR z z (asg z) ?_
 refine pD<|Wo<|Wq<|Wb<|Ws<|Rm z<|R z (not_ z)<|Ra z<|Wn<|Wc z (fun ar=>?_) (fun ar=>?_)
 ·refine Ws<|R z (bP (parts:=[]) (cs:=[vI 0,sl none 0 0,sl none 0 0]) W_ z z)<|Rm z<|E0 (fs (cur':=[vI 0,sl none 0 0,sl none 0 0]) i_ z z ((((h2.e G).c h1<|djs<|mmr h2.lt).e s6).e s5) z (lb z) (oA z) z) ?_
  rintro _ _ ⟨eQ,eR⟩;refine Ra z<|Ra z<|Wn ?_
  obtain rfl:=som<|ifT bg ar;exact Wr<|rtO<|F_ hr (q_ u_ i_ z eQ z) z z ⟨bM (bup (bup (bM (bup (bup h3 h4) G) h1<|m1 hy) s6) s5) eR.one<|m1 h3.s,none,0,0,[],none,0,0,[],z,ii z,onL,onL,p4_0,ii z,nd0,al0⟩
 have bh:=ifF bg ar;refine Ws<|R z (fd a_x z) ?_
 have cE:=cz.e s5;refine R z (l1 g_3 z fid<|cE.at z)<|R z (eql z z)<|Ra z<|Wn<|Wc z (fun au=>?_) (fun au=>?_)
 ·refine Ws<|Rm z<|Rm z<|Rm z ?_
  have aZ:=lt_ aY s5.s;obtain ⟨eS,_,_,eT,d4⟩:=r_<|ifT bh au;refine E z (fc call127 z<|W_w19 (B:=B) eT (zt' hBw aZ) (p3_0.g<|a7.e s5) cD cC) ?_;rintro _ _ ⟨cF,cG,cH,cI,eU,cJ,cK,cL,eV,rfl,eW,eX,eY,eZ,f0,b0,a8⟩
  iterate 3 refine R z (ext_ z z) ?_
  refine E0 (fs (cur':=[vI eS.number,sl cG cH cI,sl cJ cK cL]) i_ z z (((((h2.e G).c h1<|djs<|mmr h2.lt).e s6).e s5).e cF) z (lb z) (oA z) z) ?_;rintro _ _ ⟨f1,f2⟩;have b1:=f2.one;refine Ra z<|Ra z<|Wn ?_
  obtain rfl:=som d4;have cM:=lt_ (lt_ (lt_ G.s h1.s) s6.s) s5.s;exact Wr<|rtO<|F_ hr (q_ u_ i_ z f1 z) z z ⟨bM (bup (bup (bup (bM (bup (bup h3 h4) G) h1<|m1 hy) s6) s5) cF) b1<|m1 h3.s,cG,cH,cI,eU,cJ,cK,cL,eV,z,eW,eX.c b1<|k_ (al_ a8) h2.lt cM,eY.c b1<|k_ (ar_ a8) h2.lt cM,eZ,f0,na_ (nl_ b0) (nr_ b0)<|nj b0,aa_ (l_ (al_ a8) aZ)<|l_ (ar_ a8) aZ⟩
 have bi:=ifF bh au;refine Ws<|Rm z<|R z (a_9 z z)<|Ra z<|Wn<|Wc z (fun av=>?_) (fun av=>?_)
 ·refine Ws<|R z (bP (parts:=[]) (cs:=[vI 0,sl none 0 0,sl none 0 0]) W_ z z)<|Rm z<|E0 (fs (cur':=[vI 0,sl none 0 0,sl none 0 0]) i_ z z ((((h2.e G).c h1<|djs<|mmr h2.lt).e s6).e s5) z (lb z) (oA z) z) ?_
  rintro _ _ ⟨f3,f4⟩;refine Ra z<|Ra z<|Wn ?_
  obtain rfl:=som<|ifT bi av;exact Wr<|rtO<|F_ hr (q_ u_ i_ z f3 z) z z ⟨bM (bup (bup (bM (bup (bup h3 h4) G) h1<|m1 hy) s6) s5) f4.one<|m1 h3.s,none,0,0,[],none,0,0,[],z,ii z,onL,onL,p4_0,ii z,nd0,al0⟩
 refine Wk<|Ws<|R z (lN (vs:=[sl A0 N0 C0]) y_ t_ z z fid<|(cy.e s5).row 0 1 z)<|R z (lN (vs:=vR xa ab nc cd ae nf cg ah ni cj ak nl cm) J_ p_ z z fid<|cE.row 0 8 z)<|Rm z<|Rm z<|Rm z ?_
 have cN:=a7.e s5;have a9:=cB.e s5;have b2:=lt_ aY s5.s;obtain ⟨f5,_,_,f6,d5⟩:=r_<|ifF bi av;refine E z (fc call129 z<|bj.run (B:=B) f6 (zt' hBw b2) (p1_0.g cN) hu hv hp (hq.g a9) (hw.g a9) (hx.g a9) (ht.g a9) (ii z) cC (p3_0.g cN) cD) ?_;rintro _ _ ⟨cO,cP,cQ,cR,f7,cS,cT,cU,f8,rfl,f9,fe,ff,fg,fh,b3,aa⟩
 iterate 3 refine R z (ext_ z z) ?_
 refine E0 (fs (cur':=[vI f5.number,sl cP cQ cR,sl cS cT cU]) i_ z z (((((h2.e G).c h1<|djs<|mmr h2.lt).e s6).e s5).e cO) z (lb z) (oA z) z) ?_;rintro _ _ ⟨fi,fj⟩;have b4:=fj.one;refine Ra z<|Ra z<|Wn ?_
 obtain rfl:=som d5;have cV:=lt_ (lt_ (lt_ G.s h1.s) s6.s) s5.s;exact Wr<|F_ hr (q_ u_ i_ z fi z) z z ⟨bM (bup (bup (bup (bM (bup (bup h3 h4) G) h1<|m1 hy) s6) s5) cO) b4<|m1 h3.s,cP,cQ,cR,f7,cS,cT,cU,f8,z,f9,fe.c b4<|k_ (al_ aa) h2.lt cV,ff.c b4<|k_ (ar_ aa) h2.lt cV,fg,fh,na_ (nl_ b3) (nr_ b3)<|nj b3,aa_ (l_ (al_ aa) b2)<|l_ (ar_ aa) b2⟩
theorem T_w1a (ih:e_9 n):i_o (f_D n<|a_i n):=by
 obtain ⟨ai,_,_,_,_⟩:=ih
 constructor
 intro A0 A2 A3 A1 A4 AG N0 C0 N2 C2 N3 C3 N1 C1 N4 C4 NG CG B x1 x2 x3 x4 x5 x6 res w0 hm hBw p1_0 p2_0 p2_1 p2_2 p2_4 p2_5 p2_6 p2_7 p3_0 p4_0 p5_0 p6_0;unfold f_D at hm
 refine goF func129 z z (lb z) fun fn hr=>Ws<|E z (fb z) ?_
 rintro _ a3 ⟨rfl,aL⟩;have hd:=aL.below;have aj:Blk a3 w0.z [sl A0 N0 C0]:=aL.blk;refine E z (fb z) ?_;rintro _ wr ⟨rfl,aM⟩;have hb:=aM.below;have ak:Blk wr a3.z (vR x2 A2 N2 C2 A3 N3 C3 A1 N1 C1 A4 N4 C4):=aM.blk;refine E z (fa a_b) ?_;rintro _ G ⟨rfl,aN⟩;have h5:=aN.below;have hu:Blk G wr.z [vI 0,sl none 0 0,sl none 0 0]:=aN.blk;refine Ra z<|Ra z<|Wn<|Ws<|R z (bP (parts:=[]) (cs:=[vI 0,sl none 0 0,sl none 0 0]) W_ z z)<|E z (fa a_b) ?_
 rintro _ cj ⟨rfl,aO⟩;have h3:=aO.below;have hv:Blk cj G.z [vI 0,sl none 0 0,sl none 0 0]:=aO.blk;refine E0 (fs (cur':=[vI 0,sl none 0 0,sl none 0 0]) i_ z z hv z (lb z) (oA z) z) ?_;rintro _ I ⟨ck,cl⟩;have H:=cl.one;refine Wn<|Wq<|Ws<|Ra z<|Wn ?_
 obtain ⟨_,c5,aH⟩:=bdS hm;refine Wf (σ:=Int×(List Val)) (ρ:=Val×Int×Int) (fun (al:Nat) s a w=>un2 (fun xc xp=>∃ L O ca J,Sat 52 [(2,vI x3),(3,vI x4),(4,sl AG NG CG),(5,vI xc),(6,pt w0.z),(7,pt a3.z),(12,pt wr.z),(15,pt G.z),(16,vI ((al:Nat):Int))] a∧Chg (· ∈ [G.z]) I w∧inI xc∧a_ w J (sl L O ca) xp∧J.Nodup∧(∀ k∈J,I.z≤k)∧Blk w G.z [vI 0,sl none 0 0,sl L O ca]) s) (fun s a w=>un2 (fun xc xp=>∃ L O ca J,Sat 52 [(5,vI xc),(12,pt wr.z),(15,pt G.z)] a∧Chg (· ∈ [G.z]) I w∧inI xc∧a_ w J (sl L O ca) xp∧J.Nodup∧(∀ k∈J,I.z≤k)∧Blk w G.z [vI 0,sl none 0 0,sl L O ca]) s) (fun r ex a w=>ex = .ret∧L_ prog fn (Q15 w0 B r) a w) c5 ?_ ?_ ?_ ?_ ?_
 ·exact fun _ q=>⟨none,0,0,[],q.k<|s9 z z z z z z z z z,cr [G.z] I,p6_0,onL,H_,an_,ck⟩
 ·rintro al ⟨xc,xp⟩ _ wg _ a2 ⟨L,O,ca,J,c6,s4,hh,hi,hw,he,hx⟩ c7;refine Wu ?_ c6;refine Wq<|Ws<|Rm z<|Rm z<|R z (lss z z)<|Wn<|Wc z (fun _=>?_) (fun hc=>(i_2 a2 hc).elim)
  refine Wk<|Wq<|Wb<|Wq ?_
  obtain ⟨cm,aI,c8⟩:=bdS<|b_1 c7;refine Wt (fun a w=>∃ (xj:Int) (a4:List UInt8) (a5:List Val) (xs:Int) (a6:Int),(xj,a4,a5,xs,a6)=cm ∧ ∃ ay nz V Sk W Y a0 Sl gq,Sat 52 [(2,vI x3),(3,vI x4),(4,sl AG NG CG),(6,pt w0.z),(7,pt a3.z),(12,pt wr.z),(15,pt G.z),(16,vI ((al:Nat):Int)),(17,pt gq),(18,vI xs),(19,vI a6)] a∧Below wg.z wg w∧inI xj∧a_ w Sk (sl ay nz V) a4∧Sk.Nodup∧(∀ k∈Sk,wg.z≤k)∧a_ w Sl (sl W Y a0) a5∧Sl.Nodup∧(∀ k∈Sl,wg.z≤k)∧(∀ k∈Sl,k∉Sk)∧inI xs∧inI a6∧Blk w gq [vI xj,sl ay nz V,sl W Y a0]∧wg.z≤gq∧(∀ k∈Sk,k∉[gq])∧(∀ k∈Sl,k∉[gq])) ?_ ?_
  ·refine Wd (X:=fun k=>k∈([]:List Nat)∨wg.z≤k) 0 (.rd 0<|.rd 1<|.rd 2<|.rd 3<|.rd 5<|.rd 6<|.br 4 (.br 7 (.rd 8<|.rd 9<|.rd 10<|.rd 11<|.ef 12<|.ef 13<|.rd 14<|.rd 15 .done) 12<|.ef 7<|.rd 8<|.rd 9<|.rd 10<|.rd 11<|.ef 13<|.rd 14<|.rd 15 .done) 12<|.ef 4<|.ef 7<|.rd 8<|.rd 9<|.rd 10<|.rd 11<|.ef 13<|.rd 14<|.rd 15 .done) mo (by kernel_rfl) fun aP s7 _=>?_
   have aQ:=lt_ hb.s h5.s;have aR:=mm1 aj.lt aQ;refine dR z z (lN (vs:=[sl A0 N0 C0]) y_ t_ z z (a_y nm0<|Nat.lt_of_lt_of_le aj.lt<|lt_ (lt_ (lt_ aQ h3.s) H.s) s4.s)<|((((((aj.e hb).e h5).e h3).c H<|djs aR).c s4<|djs aR).e s7).row 0 1 z) ?_;have aS:=mm1 ak.lt h5.s;refine dR z z (lN (vs:=vR x2 A2 N2 C2 A3 N3 C3 A1 N1 C1 A4 N4 C4) J_ p_ z z (a_y nm0<|Nat.lt_of_lt_of_le ak.lt<|lt_ (lt_ (lt_ h5.s h3.s) H.s) s4.s)<|(((((ak.e h5).e h3).c H<|djs aS).c s4<|djs aS).e s7).row 0 8 z) ?_
   iterate 4 refine dR z z (mv z) ?_
   refine d_W ?_ ?_
   ·have aT:=lt_ (lt_ hd.s hb.s) h5.s;have aU : ∀ k∈[G.z],¬ B k:=or0 (b_ lr)  (m_<|zt' hBw aT);have ht:=((((((hd.ag B).e hb).e h5).e h3).c H<|c_ aU).c s4<|c_ aU).e s7;have am:=lt_ (lt_ (lt_ (lt_ aT h3.s) H.s) s4.s) s7.s;obtain ⟨_,cn,aJ⟩:=bdS aI;refine dE z z (fc call109 z<|d_A (B:=B) cn (zt' hBw am) p2_0 p2_1 p2_2 (p2_4.g ht) (p2_5.g ht) (p2_6.g ht) (p2_7.g ht) p3_0<|ic (Nat.le_of_lt a2)<|tl_ p4_0) (.inr fun _ _ h=>v_<|h.1) ?_;rintro _ aV ⟨sf,rfl,aW⟩;refine d_W ?_ ?_
    ·have aX:=ht.e sf;obtain ⟨a7,co,cp,cq,c9⟩:=r_ aJ;refine dE z z (fc call67 z<|ai.run (B:=B) cq (zt' hBw<|lt_ am sf.s) (p1_0.g aX) aW (p5_0.g aX) hh) (.inr fun _ _ h=>v_<|h.1) ?_;rintro _ aY ⟨aZ,b0,b1,b2,ct,b3,b4,b5,cu,rfl,cv,b6,b7,cw,cx,an,b8⟩;refine dR z z (mv z) ?_
     iterate 3 refine dR z z (ext_ z z) ?_
     refine dE z z (fa a_b) (.inr fun _ _ h=>v_<|h.2.below) ?_;rintro _ cy ⟨rfl,b9⟩;have ao:=b9.below;have ap:=lt_ s7.s sf.s;have aq:=m1<|lt_ ap aZ.s
     refine dE0 z (fs (cur':=[vI a7.number,sl b0 b1 b2,sl b3 b4 b5]) i_ z z (b9.blk:Blk cy aY.z [vI 0,sl none 0 0,sl none 0 0]) z (lb z) (oA z) z) (.inr fun _ _ h=>c_D (atp aq) h.2) ?_;rintro _ _ ⟨cz,cA⟩;have ar:=cA.one;refine dR z z (asg z)<|dR z z (asg z)<|pD ?_
     have ba:=mnr<|a_.lt b6
     have bb:=mnr<|a_.lt b7
     exact fun _ q=>⟨a7.number,a7.bytes,a7.items,co,cp,som c9,b0,b1,b2,ct,b3,b4,b5,cu,aY.z,q.k<|sc z<|sc z<|sc z<|sc z<|sc z<|sc z<|sc z<|sc z<|sc z<|sc z<|sc z sn,bM (bup (bup (bup s7 sf) aZ) ao) ar aq,cv,(b6.e ao).c ar<|ds ba,nl_ an,l_ (al_ b8) ap,(b7.e ao).c ar<|ds bb,nr_ an,l_ (ar_ b8) ap,ds<|nj an,cw,cx,cz,atp aq,ds ba,ds bb⟩
    refine dE z z (fa a_b) (.inr fun _ _ h=>v_<|h.2.below) ?_;rintro _ cB ⟨rfl,bc⟩;have a9:=bc.below;have au:Blk cB aV.z [vI 0,sl none 0 0,sl none 0 0]:=bc.blk;have be:=(ht.e sf).e a9;obtain ⟨aa,cC,cD,cE,cb⟩:=r_ aJ;refine dE z z (fc call67 z<|ai.run (B:=B) cE (zt' hBw<|lt_ (lt_ am sf.s) a9.s) (p1_0.g be) aW (p5_0.g be) hh) (.inr fun _ _ h=>v_<|h.1) ?_;rintro _ _ ⟨bf,bg,bh,bi,cF,bj,bk,bm,cG,rfl,cH,cI,cJ,cK,cL,av,ab⟩;refine dR z z (mv z) ?_
    iterate 3 refine dR z z (ext_ z z) ?_
    have bn:=lt_ s7.s sf.s;have aw:=m1 bn;refine dE0 z (fs (cur':=[vI aa.number,sl bg bh bi,sl bj bk bm]) i_ z z (au.e bf) z (lb z) (oA z) z) (.inr fun _ _ h=>c_D (atp aw) h.2) ?_;rintro _ _ ⟨cN,cO⟩;have ax:=cO.one;refine dR z z (asg z)<|dR z z (asg z)<|pD ?_
    have bo:=k_ (al_ ab) au.lt lr;have bp:=lt_ bn a9.s;have bq:=k_ (ar_ ab) au.lt lr;exact fun _ q=>⟨aa.number,aa.bytes,aa.items,cC,cD,som cb,bg,bh,bi,cF,bj,bk,bm,cG,aV.z,q.k<|sc z<|sc z<|sc z<|sc z<|sc z<|sc z<|sc z<|sc z<|sc z<|sc z<|sc z sn,bM (bup (bup (bup s7 sf) a9) bf) ax aw,cH,cI.c ax bo,nl_ av,l_ (al_ ab) bp,cJ.c ax bq,nr_ av,l_ (ar_ ab) bp,ds<|nj av,cK,cL,cN,atp aw,bo,bq⟩
   refine dE z z (fa a_b) (.inr fun _ _ h=>v_<|h.2.below) ?_;rintro _ cP ⟨rfl,bs⟩;have ad:=bs.below;have az:Blk cP aP.z [vI 0,sl none 0 0,sl none 0 0]:=bs.blk;have bt:=lt_ (lt_ hd.s hb.s) h5.s;have bu : ∀ k∈[G.z],¬ B k:=or0 (b_ lr)  (m_<|zt' hBw bt);have a1:=(((((((hd.ag B).e hb).e h5).e h3).c H<|c_ bu).c s4<|c_ bu).e s7).e ad;have bv:=lt_ (lt_ (lt_ (lt_ (lt_ bt h3.s) H.s) s4.s) s7.s) ad.s;obtain ⟨_,cQ,cc⟩:=bdS aI;refine dE z z (fc call109 z<|d_A (B:=B) cQ (zt' hBw bv) p2_0 p2_1 p2_2 (p2_4.g a1) (p2_5.g a1) (p2_6.g a1) (p2_7.g a1) p3_0<|ic (Nat.le_of_lt a2)<|tl_ p4_0) (.inr fun _ _ h=>v_<|h.1) ?_;rintro _ _ ⟨sm,rfl,cR⟩;have bw:=a1.e sm;obtain ⟨ae,cS,cT,cU,cd⟩:=r_ cc;refine dE z z (fc call67 z<|ai.run (B:=B) cU (zt' hBw<|lt_ bv sm.s) (p1_0.g bw) cR (p5_0.g bw) hh) (.inr fun _ _ h=>v_<|h.1) ?_;rintro _ _ ⟨bx,bz,bA,bB,cV,bC,bD,bE,cW,rfl,cX,cY,cZ,d0,d1,aA,af⟩;refine dR z z (mv z) ?_
   iterate 3 refine dR z z (ext_ z z) ?_
   have aB:=m1 s7.s;refine dE0 z (fs (cur':=[vI ae.number,sl bz bA bB,sl bC bD bE]) i_ z z ((az.e sm).e bx) z (lb z) (oA z) z) (.inr fun _ _ h=>c_D (atp aB) h.2) ?_;rintro _ _ ⟨d2,d3⟩;have aC:=d3.one;refine dR z z (asg z)<|dR z z (asg z)<|pD ?_
   have bF:=k_ (al_ af) az.lt sm.s;have bG:=lt_ (lt_ s7.s ad.s) sm.s;have bH:=k_ (ar_ af) az.lt sm.s;exact fun _ q=>⟨ae.number,ae.bytes,ae.items,cS,cT,som cd,bz,bA,bB,cV,bC,bD,bE,cW,aP.z,q.k<|sc z<|sc z<|sc z<|sc z<|sc z<|sc z<|sc z<|sc z<|sc z<|sc z<|sc z sn,bM (bup (bup (bup s7 ad) sm) bx) aC aB,cX,cY.c aC bF,nl_ aA,l_ (al_ af) bG,cZ.c aC bH,nr_ aA,l_ (ar_ af) bG,ds<|nj aA,d0,d1,d2,atp aB,bF,bH⟩
  rintro d4 bI ⟨xj,a4,a5,xs,a6,rfl,ay,nz,V,Sk,W,Y,a0,Sl,gq,_,so,d5,d6,d7,aD,d8,d9,aE,da,bJ,db,dc,_,_,_⟩;have aK:=c_b c8;revert d4;refine Wo<|Wq<|Ws<|Rm z<|R z (nq z z)<|Wn<|Wc z (fun ah=>?_) (fun ah=>?_)
  ·refine Ws<|R z (bP (parts:=[]) (cs:=[vI 0,sl none 0 0,sl none 0 0]) W_ z z)<|Rm z<|Rm z ?_
   have bK:=mmr hu.lt;refine E0 (fs (cur':=[vI 0,sl none 0 0,sl none 0 0]) i_ z z ((((hu.e h3).c H<|djs bK).c s4<|djs bK).e so) z (lb z) (oA z) z) ?_;rintro _ _ ⟨dd,de⟩;refine Ra z<|Ra z<|Wn ?_
   have bL:=lt_ hd.s hb.s;have bN:=m1<|lt_ bL h5.s
   exact Wr<|rtO<|qL (som<|ifT aK ah).symm<|F_ hr (q_ u_ i_ z dd z) z z ⟨bM (bup (bM (bM (bup (bup (bup hd hb) h5) h3) H bN) s4 bN) so) de.one<|m1 bL,none,0,0,[],none,0,0,[],z,ii z,onL,onL,bJ,db,nd0,al0⟩
  refine Wk<|Ws<|R z (fd a_j z) ?_
  have bO:=hx.e so;refine R z (l1 a_F z fid<|bO.at z)<|R z (lN (vs:=[vI xj,sl ay nz V,sl W Y a0]) u_ i_ z z fid<|dc.row 0 3 z)<|E z (fS [(.tmp 45)] b_E z z z (a_d z) (lb z)<|lb z) ?_
  rintro _ bQ ⟨rfl,bR⟩;have hn:=bR.below;obtain ⟨df,dg,ce⟩:=bdS<|ifF aK ah;refine E z (a_Q (α:=Val) b_E dg z z ((hi.e so).e hn) hw (bR.blk:Blk bQ bI.z [vI xj,sl ay nz V,sl W Y a0]) (c_R (x:=(⟨xj,a4,a5⟩:Val)) (S1:=Sk) (S2:=Sl) d5 (d6.e hn)<|d8.e hn) (aa_ (a_H aD (a_.lt hi) lr)<|a_H aE (a_.lt hi) lr)<|na_ d7 d9<|ds da) ?_;rintro _ dh ⟨aF,bS,bT,bU,rfl,bV,di,dj,bW⟩;refine R z (fd a_j z) ?_;have bX:=k_ he hv.lt H.s;refine E0 (fs (cur':=[vI 0,sl none 0 0,sl bS bT bU]) d_0 z z ((bO.e hn).c bV<|djs bX) z (lb z) (oA z) z) ?_;rintro _ dk ⟨dl,dm⟩;have bY:=dm.one;refine Wn<|Wg<|Rm z<|Ra z<|Wn<|Wg<|Rm z<|R z (inc_ a2 (tl_ p4_0) z z)<|Ra z<|Wl ?_
  have aG:=lt_ H.s s4.s;exact fun _ q=>⟨(xs,df),(som ce).symm,⟨bS,bT,bU,aF,q.k<|s9 z z z z z z z z z,(cM (cM (f_ (f_ (cM (cr [G.z] I) s4 (io sr):Chg (· ∈ [G.z]) I wg) so:Chg (· ∈ [G.z]) I bI) hn:Chg (· ∈ [G.z]) I bQ) bV (or0 he  (z_ lr) : ∀ k∈J,k∈[G.z]∨I.z≤k):Chg (· ∈ [G.z]) I dh) bY (io sr):Chg (· ∈ [G.z]) I dk),bJ,di.c bY (or2 bW bX (aa_ (k_ aD hv.lt aG)<|k_ aE hv.lt aG) (P_ (b_ hv.lt)<|lt_ (lt_ aG so.s) hn.s) : ∀ k∈aF,k∉[G.z]),dj,(or2 bW he (aa_ (l_ aD s4.s)<|l_ aE s4.s) (b_7<|lt_ (lt_ s4.s so.s) hn.s) : ∀ k∈aF,I.z≤k),dl⟩⟩
 ·rintro ⟨xc,xp⟩ _ dn ⟨L,O,ca,J,cf,dp,hh,hi,hw,he,hx⟩;refine Wu ?_ cf;refine Wq<|Ws<|Rm z<|Rm z<|R z (lss z z)<|Wn<|Wc z (fun hc=>(i_3 hc).elim) (fun _=>?_)
  exact We<|fun a' ha'=>⟨rfl,⟨L,O,ca,J,Sat.weaken ha'<|s3 z z z,(cM (cr [G.z] I) dp (io sr):Chg (· ∈ [G.z]) I dn),hh,hi,hw,he,hx⟩⟩
 ·rintro ⟨xc,xp⟩ dq _ rfl ⟨L,O,ca,J,_,bZ,hh,hi,hw,he,hx⟩;have cg:=elL aH;revert dq;refine Wo<|Ws<|R z (lN (vs:=[vI 0,sl none 0 0,sl L O ca]) u_ i_ z z fid<|hx.row 0 3 z)<|Rm z ?_
  have c0:=mmr hu.lt;refine E0 (fs (cur':=[vI 0,sl none 0 0,sl L O ca]) i_ z z (((hu.e h3).c H<|djs c0).c bZ<|djs c0) z (lb z) (oA z) z) ?_;rintro _ _ ⟨dr,dt⟩;have c1:=dt.one;refine Ra z<|Ra z<|Wn ?_
  obtain rfl:=som<|b_1 cg;have c2:=lt_ hd.s hb.s;have c3:=lt_ c2 h5.s;have c4:=m1 c3;exact Wr<|F_ hr (q_ u_ i_ z dr z) z z ⟨bM (bM (bM (bup (bup (bup hd hb) h5) h3) H c4) bZ c4) c1<|m1 c2,none,0,0,[],L,O,ca,J,z,ii z,onL,hi.c c1<|k_ he hu.lt<|lt_ h3.s H.s,hh,ii z,na_ H_ hw an_,aa_ an_<|l_ he<|lt_ (lt_ c3 h3.s) H.s⟩
 rintro _ _ _ _ rfl ⟨rfl,ch⟩;have ci:=elR aH;obtain rfl:=som ci;exact ⟨ch,z⟩
theorem T_w1b (ih:e_9 n):i_p (f_E n<|a_i n):=by
 obtain ⟨_,an,_,_,_⟩:=ih
 constructor
 intro A0 A2 A3 A1 A4 A7 N0 C0 N2 C2 N3 C3 N1 C1 N4 C4 N7 C7 B x1 x2 x3 x4 res w0 hm hBw p1_0 p2_0 p2_1 p2_2 p2_4 p2_5 p2_6 p2_7 p3_0 p4_0;unfold f_E at hm
 refine goF func130 z z (lb z) fun fn hr=>Ws<|E z (fb z) ?_
 rintro _ wy ⟨rfl,hz⟩;have hf:=hz.below;refine E z (fb z) ?_;rintro _ wq ⟨rfl,Y⟩;have h5:=Y.below;refine E z (fa a_b) ?_;rintro _ ao ⟨rfl,a0⟩;have h3:=a0.below;have h6:Blk ao wq.z [vI 0,sl none 0 0,sl none 0 0]:=a0.blk;refine Ra z<|Ra z<|Wn<|Wq (Wd (X:=noX) 0 (.rd 0<|.rd 1<|.rd 2<|.rd 3<|.rd 4<|.rd 5<|.rd 6<|.ef 7<|.rd 8<|.rd 9<|.rd 10<|.rd 11<|.rd 12<|.rd 13<|.rd 14 .done) mo (by kernel_rfl) fun aV G _=>?_)
 have a1:=(((hz.blk:Blk wy w0.z [sl A0 N0 C0]).e h5).e h3).e G;refine dR z z (lN (vs:=[sl A0 N0 C0]) y_ t_ z z fid<|a1.row 0 1 z)<|dR z z (fd K_ z) ?_
 have a2:=((Y.blk:Blk wq wy.z (vR x2 A2 N2 C2 A3 N3 C3 A1 N1 C1 A4 N4 C4)).e h3).e G;refine dR z z (l1 B_ z fid<|a2.at z) ?_;obtain ⟨_,ap,ak⟩:=bdS hm;have hh:=(((hf.ag B).e h5).e h3).e G;refine dRX z z (at_ (α:=Int) w_ z_3 z z z (p2_7.g hh) ap) ?_;rintro _ ⟨_,_,_,rfl,aq,ar,_⟩;obtain ⟨rfl,au⟩:=O_ ar;refine dR z z (l1 g_3 z fid<|aq.at0 z)<|dR z z (mv z)<|dR z z (mv z) ?_
 have hi:=lt_ hf.s h5.s;have a3:=lt_ (lt_ hi h3.s) G.s;obtain ⟨a4,_,_,av,O⟩:=r_ ak;refine dE z z (fc call125 z<|g_F (B:=B) av (zt' hBw a3) (p1_0.g hh) au (p3_0.g hh) p4_0) (.inr fun _ _ h=>v_<|h.1) ?_;rintro _ _ ⟨s1,rfl,ht,aw⟩;refine dR z z (mv z) ?_
 iterate 3 refine dR z z (ext_ z z) ?_
 iterate 3 refine dR z z (asg z) ?_
 refine pD<|Wo<|Wq<|Ws<|Rm z<|R z (not_ z)<|Wn<|Wc z (fun hcr=>?_) (fun hcr=>?_)
 ·refine Ws<|R z (bP (parts:=[]) (cs:=[vI 0,sl none 0 0,sl none 0 0]) W_ z z)<|Rm z<|E0 (fs (cur':=[vI 0,sl none 0 0,sl none 0 0]) i_ z z ((h6.e G).e s1) z (lb z) (oA z) z) ?_
  rintro _ _ ⟨ax,ay⟩;refine Ra z<|Ra z<|Wn ?_
  obtain rfl:=som<|ifT O hcr;exact Wr<|F_ hr (q_ u_ i_ z ax z) z z ⟨bM (bup (bup (bup (bup hf h5) h3) G) s1) ay.one<|m1 hi,none,0,0,[],none,0,0,[],z,ii z,onL,onL,p4_0,ii z,nd0,al0⟩
 refine Wk<|Wq<|Ws ?_
 have a5:=a2.e s1;refine R z (lN (vs:=vR x2 A2 N2 C2 A3 N3 C3 A1 N1 C1 A4 N4 C4) J_ p_ z z fid<|a5.row 0 8 z)<|Rm z ?_
 have hg:=hh.e s1;have a6:=lt_ a3 s1.s;obtain ⟨_,az,V⟩:=bdS<|ifF O hcr;refine E z (fc call109 z<|d_A (B:=B) az (zt' hBw a6) p2_0 p2_1 p2_2 (p2_4.g hg) (p2_5.g hg) (p2_6.g hg) (p2_7.g hg) ht<|ii z) ?_;rintro _ _ ⟨s2,rfl,_⟩;refine R z (lss z z)<|Wn<|Wc z (fun hcs=>?_) (fun hcs=>?_)
 ·refine Ws<|R z (bP (parts:=[]) (cs:=[vI 0,sl none 0 0,sl none 0 0]) W_ z z)<|Rm z<|E0 (fs (cur':=[vI 0,sl none 0 0,sl none 0 0]) i_ z z (((h6.e G).e s1).e s2) z (lb z) (oA z) z) ?_
  rintro _ _ ⟨aA,aB⟩;refine Ra z<|Ra z<|Wn ?_
  obtain rfl:=som<|ifT V hcs;exact Wr<|F_ hr (q_ u_ i_ z aA z) z z ⟨bM (bup (bup (bup (bup (bup hf h5) h3) G) s1) s2) aB.one<|m1 hi,none,0,0,[],none,0,0,[],z,ii z,onL,onL,p4_0,ii z,nd0,al0⟩
 refine Wk<|Ws<|R z (lN (vs:=[sl A0 N0 C0]) y_ t_ z z fid<|((a1.e s1).e s2).row 0 1 z)<|R z (lN (vs:=vR x2 A2 N2 C2 A3 N3 C3 A1 N1 C1 A4 N4 C4) J_ p_ z z fid<|(a5.e s2).row 0 8 z)<|Rm z<|Rm z<|Rm z ?_
 have I:=hg.e s2;have hj:=lt_ a6 s2.s;obtain ⟨a7,aC,aD,aE,al⟩:=r_<|ifF V hcs;refine E z (fc call129 z<|an.run (B:=B) aE (zt' hBw hj) (p1_0.g I) p2_0 p2_1 p2_2 (p2_4.g I) (p2_5.g I) (p2_6.g I) (p2_7.g I) ht (ii z) (p3_0.g I) aw) ?_;rintro _ H ⟨sk,J,L,ca,aF,ab,nc,cd,aG,rfl,aH,a9,aa,aI,aJ,hu,hl⟩;refine Rm z ?_
 iterate 3 refine R z (ext_ z z) ?_
 refine E z (fa a_b) ?_;rintro _ aK ⟨rfl,ad⟩;have hn:=ad.below;refine E0 (fs (cur':=[vI a7.number,sl J L ca,sl ab nc cd]) i_ z z (ad.blk:Blk aK H.z [vI 0,sl none 0 0,sl none 0 0]) z (lb z) (oA z) z) ?_;rintro _ wm ⟨ae,aL⟩;have ho:=aL.one;refine Ra z<|Ra z<|Wn<|Wq<|Ws<|Rm z<|R z (eql z z)<|Wn ?_
 obtain ⟨aM,W,am⟩:=bdS al;refine Wt (fun a w=>∃ (xe:Int),xe=aM∧Sat 56 [(8,pt wq.z),(14,pt H.z),(15,vI aC),(16,vI aD)] a∧Chg (· ∈ [H.z]) wm w∧inI xe∧Blk w H.z [vI xe,sl J L ca,sl ab nc cd]) ?_ ?_
 ·refine Wc z (fun hcv=>?_)<|fun hcv=>?_
  ·refine Wg<|Rm z<|R z (fd b_c z)<|E0 (fs (cur':=[vI a4,sl J L ca,sl ab nc cd]) z_3 z z ae z (lb z) (oA z) z) ?_
   rintro _ aN ⟨aO,aP⟩;refine Wl ?_;exact fun _ q=>⟨a4,som<|ifT W hcv,q.k<|s4 z z z z,(cM (cr [H.z] wm) aP.one (io sr):Chg (· ∈ [H.z]) wm aN),ht,aO⟩
  exact a_g<|fun _ q=>⟨a7.number,som<|ifF W hcv,q.k<|s4 z z z z,cr [H.z] wm,aH,ae⟩
 rintro aQ _ ⟨xe,rfl,_,sp,aR,aS⟩;revert aQ;refine Wo<|Ws<|R z (lN (vs:=[vI xe,sl J L ca,sl ab nc cd]) u_ i_ z z fid<|aS.row 0 3 z)<|Rm z<|Rm z ?_
 have hw:=lt_ (lt_ G.s s1.s) s2.s;have af:=mm1 h6.lt<|lt_ hw sk.s
 refine E0 (fs (cur':=[vI xe,sl J L ca,sl ab nc cd]) i_ z z (((((((h6.e G).e s1).e s2).e sk).e hn).c ho<|djs af).c sp<|djs af) z (lb z) (oA z) z) ?_;rintro _ _ ⟨aT,aU⟩;have hx:=aU.one;refine Ra z<|Ra z<|Wn ?_
 obtain rfl:=som am;have ah:=mnr<|a_.lt a9
 have ai:=mnr<|a_.lt aa
 have aj:=m1<|lt_ hj sk.s
 exact Wr<|F_ hr (q_ u_ i_ z aT z) z z ⟨bM (bM (bM (bup (bup (bup (bup (bup (bup (bup hf h5) h3) G) s1) s2) sk) hn) ho aj) sp aj) hx<|m1 hi,J,L,ca,aF,ab,nc,cd,aG,z,aR,(((a9.e hn).c ho<|ds ah).c sp<|ds ah).c hx<|k_ (al_ hl) h6.lt hw,(((aa.e hn).c ho<|ds ai).c sp<|ds ai).c hx<|k_ (ar_ hl) h6.lt hw,aI,aJ,na_ (nl_ hu) (nr_ hu)<|nj hu,aa_ (l_ (al_ hl) hj)<|l_ (ar_ hl) hj⟩
theorem T_w1c (ih:e_9 n):i_q (f_F n<|a_i n):=by
 obtain ⟨_,V,_,_,_⟩:=ih
 constructor
 intro A0 A2 A3 A1 A4 A7 N0 C0 N2 C2 N3 C3 N1 C1 N4 C4 N7 C7 B x1 x2 x3 x4 res w0 hm hBw p1_0 p2_0 p2_1 p2_2 p2_4 p2_5 p2_6 p2_7 p3_0 p4_0;unfold f_F at hm
 refine goF func131 z z (lb z) fun fn hr=>Ws<|E z (fb z) ?_
 rintro _ wc ⟨rfl,hd⟩;have h2:=hd.below;refine E z (fb z) ?_;rintro _ we ⟨rfl,hf⟩;have G:=hf.below;refine E z (fa a_b) ?_;rintro _ ws ⟨rfl,hg⟩;have h3:=hg.below;have h5:Blk ws we.z [vI 0,sl none 0 0,sl none 0 0]:=hg.blk;refine Ra z<|Ra z<|Wn<|Wq<|Wb<|Ws<|Rm z<|Rm z ?_
 have hh:=((h2.ag B).e G).e h3;have hi:=p3_0.g hh;refine R z (lnR n_ z hi)<|R z (b_r z z)<|Ra z<|Wn<|Wc z (fun H=>?_) (fun H=>?_)
 ·refine Ws<|R z (bP (parts:=[]) (cs:=[vI 0,sl none 0 0,sl none 0 0]) W_ z z)<|Rm z<|E0 (fs (cur':=[vI 0,sl none 0 0,sl none 0 0]) i_ z z h5 z (lb z) (oA z) z) ?_
  rintro _ _ ⟨hw,sx⟩;refine Ra z<|Ra z<|Wn ?_
  obtain rfl:=som<|ifT hm H;exact Wr<|rtO<|F_ hr (q_ u_ i_ z hw z) z z ⟨bM (bup (bup h2 G) h3) sx.one<|m1<|lt_ h2.s G.s,none,0,0,[],none,0,0,[],z,ii z,onL,onL,p4_0,ii z,nd0,al0⟩
 refine Ws<|Rm z<|Rm z ?_
 obtain ⟨_,ey,hmj⟩:=bdS<|ifF hm H;refine RX z (at_ (α:=UInt8) n_ z_5 z z z hi ey) ?_;rintro _ ⟨_,_,_,rfl,hz,W,_⟩;obtain rfl:=u8 W;refine R z (l1 g_5 z fid<|hz.at0 z)<|R z (a_9 z z)<|Ra z<|Wn<|Wc z (fun I=>?_) (fun I=>?_)
 ·refine Ws<|R z (bP (parts:=[]) (cs:=[vI 0,sl none 0 0,sl none 0 0]) W_ z z)<|Rm z<|E0 (fs (cur':=[vI 0,sl none 0 0,sl none 0 0]) i_ z z h5 z (lb z) (oA z) z) ?_
  rintro _ _ ⟨Y,a0⟩;refine Ra z<|Ra z<|Wn ?_
  obtain rfl:=som<|ifT hmj I;exact Wr<|rtO<|F_ hr (q_ u_ i_ z Y z) z z ⟨bM (bup (bup h2 G) h3) a0.one<|m1<|lt_ h2.s G.s,none,0,0,[],none,0,0,[],z,ii z,onL,onL,p4_0,ii z,nd0,al0⟩
 refine Wk<|Wq (Wd (X:=noX) 16384 (.rd 0<|.rd 1<|.rd 2<|.rd 3<|.rd 4<|.rd 5<|.rd 6<|.rd 7<|.rd 8<|.rd 9<|.ef 10<|.rd 11<|.rd 12<|.rd 13<|.ef 14<|.rd 15<|.rd 16 .done) mo (by kernel_rfl) fun ah s1 _=>dR z z (lN (vs:=[sl A0 N0 C0]) y_ t_ z z fid<|((((hd.blk:Blk wc w0.z [sl A0 N0 C0]).e G).e h3).e s1).row 0 1 z)<|dR z z (lN (vs:=vR x2 A2 N2 C2 A3 N3 C3 A1 N1 C1 A4 N4 C4) J_ p_ z z fid<|(((hf.blk:Blk we wc.z (vR x2 A2 N2 C2 A3 N3 C3 A1 N1 C1 A4 N4 C4)).e h3).e s1).row 0 8 z)<|dR z z (mv z)<|dR z z (mv z) ?_)
 obtain ⟨_,a1,L⟩:=bdS<|ifF hmj I;have h4:=hh.e s1;have hk:=p3_0.g h4;refine dRX z z (at_ (α:=UInt8) n_ z_5 z z z hk a1) ?_;rintro _ ⟨_,_,_,rfl,a2,a3,_⟩;obtain rfl:=u8 a3;refine dR z z (l1 g_5 z fid<|a2.at0 z)<|dR z z (b_W d_5 d_3 z)<|dR z z (mv z)<|dR z z (mv z)<|dR z z (add_ z z) ?_
 have hl:=lt_ h2.s G.s;have J:=lt_ (lt_ hl h3.s) s1.s;obtain ⟨a4,_,_,a5,O⟩:=r_ L;refine dE z z (fc call129 z<|V.run (B:=B) a5 (zt' hBw J) (p1_0.g h4) p2_0 p2_1 p2_2 (p2_4.g h4) (p2_5.g h4) (p2_6.g h4) (p2_7.g h4) (ii z) (j_M _) hk<|iA _ _) (.inr fun _ _ h=>v_<|h.1) ?_;rintro _ _ ⟨sm,an,no,cp,a6,aq,nr,ct,a7,rfl,a8,a9,aa,ab,ad,ha,h6⟩
 iterate 3 refine dR z z (ext_ z z) ?_
 refine dE0 z (fs (cur':=[vI a4.number,sl an no cp,sl aq nr ct]) i_ z z ((h5.e s1).e sm) z (lb z) (oA z) z) (.inl z) ?_;rintro _ _ ⟨ae,af⟩;have hb:=af.one;refine dR z z (asg z)<|dR z z (asg z)<|pD<|Wo ?_
 obtain rfl:=som O;exact Wr<|F_ hr (q_ u_ i_ z ae z) z z ⟨bM (bup (bup (bup (bup h2 G) h3) s1) sm) hb<|m1 hl,an,no,cp,a6,aq,nr,ct,a7,z,a8,a9.c hb<|k_ (al_ h6) h5.lt s1.s,aa.c hb<|k_ (ar_ h6) h5.lt s1.s,ab,ad,na_ (nl_ ha) (nr_ ha)<|nj ha,aa_ (l_ (al_ h6) J)<|l_ (ar_ h6) J⟩
theorem T_w1d (ih:e_9 n):i_r (f_G n<|a_i n):=by
 obtain ⟨_,a7,_,_,_⟩:=ih
 constructor
 intro A0 A2 A3 A1 A4 A7 N0 C0 N2 C2 N3 C3 N1 C1 N4 C4 N7 C7 B x1 x2 x3 x4 res w0 hm hBw p1_0 p2_0 p2_1 p2_2 p2_4 p2_5 p2_6 p2_7 p3_0 p4_0;unfold f_G at hm
 refine goF func132 z z (lb z) fun fn hr=>Ws<|E z (fb z) ?_
 rintro _ wu ⟨rfl,hv⟩;have hh:=hv.below;refine E z (fb z) ?_;rintro _ ww ⟨rfl,hx⟩;have H:=hx.below;refine E z (fa a_b) ?_;rintro _ a8 ⟨rfl,hy⟩;have h5:=hy.below;have h3:Blk a8 ww.z [vI 0,sl none 0 0,sl none 0 0]:=hy.blk;refine Ra z<|Ra z<|Wn<|Ws<|R z (lN (vs:=[sl A0 N0 C0]) y_ t_ z z fid<|(((hv.blk:Blk wu w0.z [sl A0 N0 C0]).e H).e h5).row 0 1 z)<|R z (lN (vs:=vR x2 A2 N2 C2 A3 N3 C3 A1 N1 C1 A4 N4 C4) J_ p_ z z fid<|((hx.blk:Blk ww wu.z (vR x2 A2 N2 C2 A3 N3 C3 A1 N1 C1 A4 N4 C4)).e h5).row 0 8 z)<|Rm z<|Rm z ?_
 have I:=((hh.ag B).e H).e h5;have hj:=lt_ hh.s H.s;have J:=lt_ hj h5.s;obtain ⟨rk,_,_,a9,hmz⟩:=r_ hm;refine E z (fc call129 z<|a7.run (B:=B) a9 (zt' hBw J) (p1_0.g I) p2_0 p2_1 p2_2 (p2_4.g I) (p2_5.g I) (p2_6.g I) (p2_7.g I) (ii z) (ii z) (p3_0.g I) p4_0) ?_;rintro _ V ⟨G,aa,nb,cc,W,ad,ne,cf,Y,rfl,a0,hn,ho,hp,ab,hi,h6⟩;refine Rm z ?_
 iterate 3 refine R z (ext_ z z) ?_
 refine E z (fa a_b) ?_;rintro _ ae ⟨rfl,a1⟩;have h1:=a1.below;refine E0 (fs (cur':=[vI rk.number,sl aa nb cc,sl ad ne cf]) i_ z z (a1.blk:Blk ae V.z [vI 0,sl none 0 0,sl none 0 0]) z (lb z) (oA z) z) ?_;rintro _ _ ⟨a2,af⟩;have h2:=af.one;refine Ra z<|Ra z<|Wn<|Wq<|Wb<|Ws<|Rm z<|R z (nq z z)<|Ra z<|Wn<|Wc z (fun hcm=>?_) (fun hcm=>?_)
 ·refine Ws<|R z (lN (vs:=[vI rk.number,sl aa nb cc,sl ad ne cf]) u_ i_ z z fid<|a2.row 0 3 z)<|Rm z<|Rm z<|E0 (fs (cur':=[vI rk.number,sl aa nb cc,sl ad ne cf]) i_ z z (((h3.e G).e h1).c h2<|djs<|mm1 h3.lt G.s) z (lb z) (oA z) z) ?_
  rintro _ _ ⟨ah,ai⟩;have hq:=ai.one;refine Ra z<|Ra z<|Wn ?_
  obtain rfl:=som<|ifT hmz hcm;exact Wr<|rtO<|F_ hr (q_ u_ i_ z ah z) z z ⟨bM (bM (bup (bup (bup (bup hh H) h5) G) h1) h2<|m1<|lt_ J G.s) hq<|m1 hj,aa,nb,cc,W,ad,ne,cf,Y,z,a0,((hn.e h1).c h2<|ds<|mnr<|a_.lt hn).c hq<|k_ (al_ h6) h3.lt lr,((ho.e h1).c h2<|ds<|mnr<|a_.lt ho).c hq<|k_ (ar_ h6) h3.lt lr,hp,ab,na_ (nl_ hi) (nr_ hi)<|nj hi,aa_ (l_ (al_ h6) J)<|l_ (ar_ h6) J⟩
 have L:=ifF hmz hcm;refine Ws<|Rm z<|Rm z ?_
 have hl:=lt_ J G.s;have a3:=((I.e G).e h1).c h2<|c_ (or0 (b_ lr)  (m_<|zt' hBw hl) : ∀ k∈[V.z],¬ B k)
 refine R z (lnR n_ z<|p3_0.g a3)<|R z (b_r z z)<|Ra z<|Wn<|Wc z (fun hcr=>?_) (fun hcr=>?_)
 ·refine Ws<|R z (bP (parts:=[]) (cs:=[vI 0,sl none 0 0,sl none 0 0]) W_ z z)<|Rm z<|E0 (fs (cur':=[vI 0,sl none 0 0,sl none 0 0]) i_ z z (((h3.e G).e h1).c h2<|djs<|mm1 h3.lt G.s) z (lb z) (oA z) z) ?_
  rintro _ _ ⟨aj,ak⟩;refine Ra z<|Ra z<|Wn ?_
  obtain rfl:=som<|ifT L hcr;exact Wr<|rtO<|F_ hr (q_ u_ i_ z aj z) z z ⟨bM (bM (bup (bup (bup (bup hh H) h5) G) h1) h2<|m1 hl) ak.one<|m1 hj,none,0,0,[],none,0,0,[],z,ii z,onL,onL,hp,ii z,nd0,al0⟩
 refine Wq (Wd (X:=noX) 0 (.rd 0<|.rd 1<|.rd 2<|.rd 3<|.rd 4<|.rd 5<|.rd 6<|.rd 7<|.rd 8<|.ef 9<|.rd 10<|.rd 11 .done) mo (by kernel_rfl) fun ax s4 _=>dR z z (mv z)<|dR z z (mv z) ?_);obtain ⟨_,al,a5⟩:=bdS<|ifF L hcr;have a4:=p3_0.g<|a3.e s4
 refine dRX z z (at_ (α:=UInt8) n_ z_5 z z z a4 al) ?_;rintro _ ⟨_,_,_,rfl,am,an,_⟩;obtain rfl:=u8 an;refine dR z z (l1 g_5 z fid<|am.at0 z)<|dR z z (b_W d_5 d_3 z) ?_
 iterate 3 refine dR z z (mv z) ?_
 obtain ⟨_,ao,a6⟩:=bdS a5;refine dRX z z (rX n_ z_5 z z a4 z z ao) ?_;rintro _ ⟨_,_,_,rfl,ap⟩;obtain ⟨_,aq,O⟩:=bdS a6;refine dE z z (fc call111 z<|W_w17 (B:=B) aq (zt' hBw<|lt_ (lt_ (lt_ hl h1.s) h2.s) s4.s) ap) (.inr fun _ _ h=>v_<|h.1) ?_;rintro _ _ ⟨sg,rfl,_⟩;refine dR z z (nq z z)<|dR z z (asg z)<|pD<|Wo<|Wc z (fun hcs=>?_) (fun hcs=>?_)
 ·refine Ws<|R z (bP (parts:=[]) (cs:=[vI 0,sl none 0 0,sl none 0 0]) W_ z z)<|Rm z<|E0 (fs (cur':=[vI 0,sl none 0 0,sl none 0 0]) i_ z z (((((h3.e G).e h1).c h2<|djs<|mm1 h3.lt G.s).e s4).e sg) z (lb z) (oA z) z) ?_
  rintro _ _ ⟨ar,au⟩;refine Ra z<|Ra z<|Wn ?_
  obtain rfl:=som<|ifT O hcs;exact Wr<|rtO<|F_ hr (q_ u_ i_ z ar z) z z ⟨bM (bup (bup (bM (bup (bup (bup (bup hh H) h5) G) h1) h2<|m1 hl) s4) sg) au.one<|m1 hj,none,0,0,[],none,0,0,[],z,ii z,onL,onL,hp,ii z,nd0,al0⟩
 refine Wk<|Ws<|R z (lN (vs:=[vI rk.number,sl aa nb cc,sl ad ne cf]) u_ i_ z z fid<|((a2.e s4).e sg).row 0 3 z)<|Rm z<|R z (add_ z z)<|E0 (fs (cur':=[vI rk.number,sl aa nb cc,sl ad ne cf]) i_ z z (((((h3.e G).e h1).c h2<|djs<|mm1 h3.lt G.s).e s4).e sg) z (lb z) (oA z) z) ?_
 rintro _ _ ⟨av,aw⟩;have ht:=aw.one;refine Ra z<|Ra z<|Wn ?_
 obtain rfl:=som<|ifF O hcs;exact Wr<|F_ hr (q_ u_ i_ z av z) z z ⟨bM (bup (bup (bM (bup (bup (bup (bup hh H) h5) G) h1) h2<|m1 hl) s4) sg) ht<|m1 hj,aa,nb,cc,W,ad,ne,cf,Y,z,a0,((((hn.e h1).c h2<|ds<|mnr<|a_.lt hn).e s4).e sg).c ht<|k_ (al_ h6) h3.lt lr,((((ho.e h1).c h2<|ds<|mnr<|a_.lt ho).e s4).e sg).c ht<|k_ (ar_ h6) h3.lt lr,iA _ _,ii z,na_ (nl_ hi) (nr_ hi)<|nj hi,aa_ (l_ (al_ h6) J)<|l_ (ar_ h6) J⟩
theorem c_s : ∀ n,e_9 n
  | 0=>⟨⟨fun hm=>by intros;exact nomatch (show none=some _ from hm)⟩,⟨fun hm=>by intros;exact nomatch (show none=some _ from hm)⟩,⟨fun hm=>by intros;exact nomatch (show none=some _ from hm)⟩,⟨fun hm=>by intros;exact nomatch (show none=some _ from hm)⟩,⟨fun hm=>by intros;exact nomatch (show none=some _ from hm)⟩⟩
  | n+1=>⟨T_w03<|c_s n,T_w1a<|c_s n,T_w1b<|c_s n,T_w1c<|c_s n,T_w1d<|c_s n⟩
theorem W_w03:i_n (a_i n).spec_l11Read:=(c_s n).1
theorem W_w1a:i_o (a_i n).spec_l11Items:=(c_s n).2.1
theorem W_w1b:i_p (a_i n).spec_l11Choice:=(c_s n).2.2.1
theorem W_w1c:i_q (a_i n).spec_l11Option:=(c_s n).2.2.2.1
theorem W_w1d:i_r (a_i n).spec_l11Checked:=(c_s n).2.2.2.2

theorem i_s {x1:d_} {x2:Int} {x3:List UInt8} {x4:Int} {res:Val×Int×Int} (hm:f_J n x1 x2 x3 x4=some res) (hBw:B≤w0.z) (p1_0:repS w0 B (sl A0 N0 C0) x1.rules) (p2_0:inI x2) (p3_0:repS w0 B (sl A7 N7 C7) x3) (p4_0:inI x4):o_ prog 98 [(.agg #[sl A0 N0 C0]),vI x2,sl A7 N7 C7,vI x4] w0 (Q15 w0 B res):=by
 unfold f_J at hm
 refine goF func98 z z (lb z) fun fn hr=>Ws<|E z (fb z) ?_
 rintro _ J ⟨rfl,hg⟩;have h3:=hg.below;have hh:Blk J w0.z [sl A0 N0 C0]:=hg.blk;refine E z (fa a_b) ?_;rintro _ L ⟨rfl,hi⟩;have h4:=hi.below;have h6:Blk L J.z [vI 0,sl none 0 0,sl none 0 0]:=hi.blk;refine Ra z<|Ra z<|Wn<|Wq<|Wq ?_
 obtain ⟨uy,huz,hmj⟩:=bdS hm;refine Wt (fun a w=>∃ (xa:Bool),xa=uy∧Sat 36 [(1,vI x2),(2,sl A7 N7 C7),(3,vI x4),(4,pt w0.z),(8,pt J.z),(26,vB xa)] a∧Below L.z L w) ?_ ?_
 ·refine Wg<|R z (lN (vs:=[sl A0 N0 C0]) y_ t_ z z fid<|(hh.e h4).row 0 1 z)<|Rm z ?_
  have hk:=(h3.ag B).e h4;have hl:=lt_ h3.s h4.s;obtain ⟨V,W,hmm⟩:=bdS huz;refine E z (fc call160 z<|i_k (B:=B) W (zt' hBw hl) (p1_0.g hk) p2_0) ?_;rintro _ _ ⟨s5,rfl⟩;refine R z (not_ z)<|Rm z ?_
  rcases bs (!V) with G | G
  ·iterate 5 refine Nh z G ?_
   exact R z (pT z G z)<|Rm z<|Nh z z<|Nh z z<|Nh z z<|R z (pT z z z)<|Wl (fun _ q=>⟨true,som<|ifT hmm G,q.k<|s6 z z z z z z,s5⟩)
  refine Rh z G (mv z)<|Rh z G (mv z) ?_
  have hn:=hk.e s5;have ho:=p3_0.g hn;refine Rh z G (lnR n_ z ho) ?_;obtain ⟨Y,a0,hmp⟩:=bdS<|ifF hmm G;refine Eg z z G z (fc call103 z<|b_d (B:=B) a0 (zt' hBw<|lt_ hl s5.s) p4_0 (ii z)<|a_M<|repS.len ho) ?_;rintro _ _ ⟨sb,rfl⟩;refine Rh z G (not_ z)<|R z (pF z G z)<|Rm z ?_
  rcases bs (!Y) with H | H
  ·iterate 3 refine Nh z H ?_
   exact R z (pT z H z)<|Wl (fun _ q=>⟨true,som<|ifT hmp H,q.k<|s6 z z z z z z,bup s5 sb⟩)
  exact Rh z H (mv z)<|Rh z H (lnR n_ z<|p3_0.g<|hn.e sb)<|Rh z H (a_9 z z)<|R z (pF z H z)<|Wl (fun _ q=>⟨decide<|400<(x3.length:Int),som<|ifF hmp H,q.k<|s6 z z z z z z,bup s5 sb⟩)
 rintro a1 _ ⟨xa,rfl,_,s2⟩;revert a1;refine Wo<|Wc z (fun hcc=>?_) (fun hcc=>?_)
 ·refine Ws<|R z (bP (parts:=[]) (cs:=[vI 0,sl none 0 0,sl none 0 0]) W_ z z)<|E0 (fs (cur':=[vI 0,sl none 0 0,sl none 0 0]) i_ z z (h6.e s2) z (lb z) (oA z) z) ?_
  rintro _ _ ⟨a2,a3⟩;refine Ra z<|Ra z<|Wn ?_
  obtain rfl:=som<|ifT hmj hcc;exact Wr<|F_ hr (q_ u_ i_ z a2 z) z z ⟨bM (bup (bup h3 h4) s2) a3.one<|m1 h3.s,none,0,0,[],none,0,0,[],z,ii z,onL,onL,ii z,ii z,nd0,al0⟩
 refine Wk<|Ws<|R z (lN (vs:=[sl A0 N0 C0]) y_ t_ z z fid<|((hh.e h4).e s2).row 0 1 z)<|Rm z<|Rm z<|Rm z ?_
 have hq:=((h3.ag B).e h4).e s2;have hd:=lt_ (lt_ h3.s h4.s) s2.s;obtain ⟨a4,_,_,a5,O⟩:=r_<|ifF hmj hcc;refine E z (fc call67 z<|W_w03.run (B:=B) a5 (zt' hBw hd) (p1_0.g hq) p2_0 (p3_0.g hq) p4_0) ?_;rintro _ _ ⟨sr,au,ns,ct,a6,av,nw,cx,a7,rfl,a8,a9,aa,ab,ad,he,I⟩
 iterate 3 refine R z (ext_ z z) ?_
 refine E0 (fs (cur':=[vI a4.number,sl au ns ct,sl av nw cx]) i_ z z ((h6.e s2).e sr) z (lb z) (oA z) z) ?_;rintro _ _ ⟨ae,af⟩;have hf:=af.one;refine Ra z<|Ra z<|Wn ?_
 obtain rfl:=som O;exact Wr<|F_ hr (q_ u_ i_ z ae z) z z ⟨bM (bup (bup (bup h3 h4) s2) sr) hf<|m1 h3.s,au,ns,ct,a6,av,nw,cx,a7,z,a8,a9.c hf<|k_ (al_ I) h6.lt s2.s,aa.c hf<|k_ (ar_ I) h6.lt s2.s,ab,ad,na_ (nl_ he) (nr_ he)<|nj he,aa_ (l_ (al_ I) hd)<|l_ (ar_ I) hd⟩
theorem W_w2f {x1:d_} {x2:List UInt8} {res:Val×Int×Int} (hm:f_K n x1 x2=some res) (hBw:B≤w0.z) (p1_0:repS w0 B (sl A0 N0 C0) x1.rules) (p2_0:repS w0 B (sl A6 N6 C6) x2):o_ prog 38 [(.agg #[sl A0 N0 C0]),sl A6 N6 C6] w0 (Q15 w0 B res):=by
 unfold f_K at hm
 refine goF func38 z z (lb z) fun fn hr=>Ws<|E z (fb z) ?_
 rintro _ wl ⟨rfl,al⟩;have h2:=al.below;have hv:Blk wl w0.z [sl A0 N0 C0]:=al.blk;refine E z (fa a_b) ?_;rintro _ I ⟨rfl,am⟩;have h1:=am.below;have hn:Blk I wl.z [vI 0,sl none 0 0,sl none 0 0]:=am.blk;refine Ra z<|Ra z<|Wn<|Wq ?_
 obtain ⟨bj,af,be⟩:=bdS hm;refine Wt (fun a w=>∃ (xb:Int) (xw:List UInt8) (xx:List Val) (xc:Int) (xd:Int),(xb,xw,xx,xc,xd)=bj ∧ ∃ ae nf cg J ah ni cj L O,Sat 32 [(1,sl A6 N6 C6),(4,pt wl.z),(7,pt O),(8,vI xc),(9,vI xd)] a∧Below I.z I w∧inI xb∧a_ w J (sl ae nf cg) xw∧J.Nodup∧(∀ k∈J,I.z≤k)∧a_ w L (sl ah ni cj) xx∧L.Nodup∧(∀ k∈L,I.z≤k)∧(∀ k∈L,k∉J)∧inI xc∧inI xd∧Blk w O [vI xb,sl ae nf cg,sl ah ni cj]∧I.z≤O∧(∀ k∈J,k∉[O])∧(∀ k∈L,k∉[O])) ?_ ?_
 ·refine Wd (X:=fun k=>k∈([]:List Nat)∨I.z≤k) 0 (.rd 0<|.rd 1<|.rd 3<|.br 2 (.br 4 (.rd 5<|.rd 6<|.rd 7<|.rd 8<|.ef 9<|.ef 10<|.rd 11<|.rd 12 .done) 9<|.ef 4<|.rd 5<|.rd 6<|.rd 7<|.rd 8<|.ef 10<|.rd 11<|.rd 12 .done) 9<|.ef 2<|.ef 4<|.rd 5<|.rd 6<|.rd 7<|.rd 8<|.ef 10<|.rd 11<|.rd 12 .done) mo (by kernel_rfl) fun an G _=>?_
  have ao:=(hv.e h1).e G;refine dR z z (lN (vs:=[sl A0 N0 C0]) y_ t_ z z (a_y nm0<|Nat.lt_of_lt_of_le hv.lt h1.s)<|ao.row 0 1 z)<|dR z z (lN (vs:=[sl A0 N0 C0]) y_ t_ z z (a_y nm0<|Nat.lt_of_lt_of_le hv.lt h1.s)<|ao.row 0 1 z)<|dR z z (mv z)<|d_W ?_ ?_
  ·have hy:=((h2.ag B).e h1).e G;have hz:=lt_ (lt_ h2.s h1.s) G.s;obtain ⟨_,bk,ai⟩:=bdS af;refine dE z z (fc call65 z<|e_X (B:=B) bk (zt' hBw hz)<|p1_0.g hy) (.inr fun _ _ h=>v_<|h.1) ?_;rintro _ ap ⟨s4,rfl,aq⟩;refine d_W ?_ ?_
   ·have ar:=hy.e s4;obtain ⟨rm,bm,bn,bo,bf⟩:=r_ ai;refine dE z z (fc call98 z<|i_s (B:=B) bo (zt' hBw<|lt_ hz s4.s) (p1_0.g ar) aq (p2_0.g ar)<|ii z) (.inr fun _ _ h=>v_<|h.1) ?_;rintro _ au ⟨av,aw,ax,ay,bp,az,aA,aB,bq,rfl,bt,aC,aD,bu,bv,W,aE⟩;refine dR z z (mv z) ?_
    iterate 3 refine dR z z (ext_ z z) ?_
    refine dE z z (fa a_b) (.inr fun _ _ h=>v_<|h.2.below) ?_;rintro _ bw ⟨rfl,aF⟩;have Y:=aF.below;have a0:=lt_ G.s s4.s;have a1:=m1<|lt_ a0 av.s
    refine dE0 z (fs (cur':=[vI rm.number,sl aw ax ay,sl az aA aB]) i_ z z (aF.blk:Blk bw au.z [vI 0,sl none 0 0,sl none 0 0]) z (lb z) (oA z) z) (.inr fun _ _ h=>c_D (atp a1) h.2) ?_;rintro _ _ ⟨bx,bz⟩;have a2:=bz.one;refine dR z z (asg z)<|dR z z (asg z)<|pD ?_
    have aG:=mnr<|a_.lt aC
    have aH:=mnr<|a_.lt aD
    exact fun _ q=>⟨rm.number,rm.bytes,rm.items,bm,bn,som bf,aw,ax,ay,bp,az,aA,aB,bq,au.z,q.k<|s5 z z z z z,bM (bup (bup (bup G s4) av) Y) a2 a1,bt,(aC.e Y).c a2<|ds aG,nl_ W,l_ (al_ aE) a0,(aD.e Y).c a2<|ds aH,nr_ W,l_ (ar_ aE) a0,ds<|nj W,bu,bv,bx,atp a1,ds aG,ds aH⟩
   refine dE z z (fa a_b) (.inr fun _ _ h=>v_<|h.2.below) ?_;rintro _ bA ⟨rfl,aI⟩;have ho:=aI.below;have a3:Blk bA ap.z [vI 0,sl none 0 0,sl none 0 0]:=aI.blk;have aJ:=(hy.e s4).e ho;obtain ⟨rp,bB,bC,bD,bg⟩:=r_ ai;refine dE z z (fc call98 z<|i_s (B:=B) bD (zt' hBw<|lt_ (lt_ hz s4.s) ho.s) (p1_0.g aJ) aq (p2_0.g aJ)<|ii z) (.inr fun _ _ h=>v_<|h.1) ?_;rintro _ _ ⟨aK,aL,aM,aN,bE,aO,aP,aQ,bF,rfl,bG,bH,bI,bJ,bK,a4,hq⟩;refine dR z z (mv z) ?_
   iterate 3 refine dR z z (ext_ z z) ?_
   have aR:=lt_ G.s s4.s;have a5:=m1 aR;refine dE0 z (fs (cur':=[vI rp.number,sl aL aM aN,sl aO aP aQ]) i_ z z (a3.e aK) z (lb z) (oA z) z) (.inr fun _ _ h=>c_D (atp a5) h.2) ?_;rintro _ _ ⟨bL,bN⟩;have a6:=bN.one;refine dR z z (asg z)<|dR z z (asg z)<|pD ?_
   have aS:=k_ (al_ hq) a3.lt lr;have aT:=lt_ aR ho.s;have aU:=k_ (ar_ hq) a3.lt lr;exact fun _ q=>⟨rp.number,rp.bytes,rp.items,bB,bC,som bg,aL,aM,aN,bE,aO,aP,aQ,bF,ap.z,q.k<|s5 z z z z z,bM (bup (bup (bup G s4) ho) aK) a6 a5,bG,bH.c a6 aS,nl_ a4,l_ (al_ hq) aT,bI.c a6 aU,nr_ a4,l_ (ar_ hq) aT,ds<|nj a4,bJ,bK,bL,atp a5,aS,aU⟩
  refine dE z z (fa a_b) (.inr fun _ _ h=>v_<|h.2.below) ?_;rintro _ bO ⟨rfl,aV⟩;have ht:=aV.below;have a7:Blk bO an.z [vI 0,sl none 0 0,sl none 0 0]:=aV.blk;have aW:=(((h2.ag B).e h1).e G).e ht;have aX:=lt_ (lt_ (lt_ h2.s h1.s) G.s) ht.s;obtain ⟨_,bQ,bh⟩:=bdS af;refine dE z z (fc call65 z<|e_X (B:=B) bQ (zt' hBw aX)<|p1_0.g aW) (.inr fun _ _ h=>v_<|h.1) ?_;rintro _ _ ⟨s9,rfl,bR⟩;have aY:=aW.e s9;obtain ⟨rr,bS,bT,bU,bi⟩:=r_ bh;refine dE z z (fc call98 z<|i_s (B:=B) bU (zt' hBw<|lt_ aX s9.s) (p1_0.g aY) bR (p2_0.g aY)<|ii z) (.inr fun _ _ h=>v_<|h.1) ?_;rintro _ _ ⟨aZ,b0,b1,b2,bV,b3,b4,b5,bW,rfl,bX,bY,bZ,c0,c1,a8,hu⟩;refine dR z z (mv z) ?_
  iterate 3 refine dR z z (ext_ z z) ?_
  have a9:=m1 G.s;refine dE0 z (fs (cur':=[vI rr.number,sl b0 b1 b2,sl b3 b4 b5]) i_ z z ((a7.e s9).e aZ) z (lb z) (oA z) z) (.inr fun _ _ h=>c_D (atp a9) h.2) ?_;rintro _ _ ⟨c2,c3⟩;have aa:=c3.one;refine dR z z (asg z)<|dR z z (asg z)<|pD ?_
  have b6:=k_ (al_ hu) a7.lt s9.s;have b7:=lt_ (lt_ G.s ht.s) s9.s;have b8:=k_ (ar_ hu) a7.lt s9.s;exact fun _ q=>⟨rr.number,rr.bytes,rr.items,bS,bT,som bi,b0,b1,b2,bV,b3,b4,b5,bW,an.z,q.k<|s5 z z z z z,bM (bup (bup (bup G ht) s9) aZ) aa a9,bX,bY.c aa b6,nl_ a8,l_ (al_ hu) b7,bZ.c aa b8,nr_ a8,l_ (ar_ hu) b7,ds<|nj a8,c0,c1,c2,atp a9,b6,b8⟩
 rintro c4 ws ⟨xb,xw,xx,xc,xd,rfl,ae,nf,cg,J,ah,ni,cj,L,O,_,sk,c5,c6,c7,b9,c8,c9,ba,ca,bb,cb,cc,_,_,_⟩;revert c4;refine Wo<|Wq<|Wq ?_
 obtain ⟨cd,aj,ak⟩:=bdS<|c_b be;refine Wt (fun a w=>∃ (ab:Bool),ab=cd∧Sat 32 [(4,pt wl.z),(7,pt O),(8,vI xc),(9,vI xd),(26,vB ab)] a∧Below ws.z ws w) ?_ ?_
 ·refine Wg<|Rm z<|R z (eql z z)<|Rm z ?_
  rcases bs (xd==0) with H | H
  ·exact Rh z H (mv z)<|Rh z H (mv z)<|Rh z H (lnR n_ z<|p2_0.g<|((h2.ag B).e h1).e sk)<|Rh z H (lss z z)<|R z (pT z H z)<|Wl (fun _ q=>⟨decide<|xc<(x2.length:Int),som<|ifT aj H,q.k<|s5 z z z z z,br ws⟩)
  iterate 4 refine Nh z H ?_
  exact R z (pF z H z)<|Wl (fun _ q=>⟨false,som<|ifF aj H,q.k<|s5 z z z z z,br ws⟩)
 rintro ce _ ⟨ab,rfl,_,sa⟩;revert ce;refine Wo<|Wc z (fun V=>?_) (fun V=>?_)
 ·refine Ws<|R z (bP (parts:=[]) (cs:=[vI 0,sl none 0 0,sl none 0 0]) W_ z z)<|Rm z<|E0 (fs (cur':=[vI 0,sl none 0 0,sl none 0 0]) i_ z z ((hn.e sk).e sa) z (lb z) (oA z) z) ?_
  rintro _ _ ⟨cf,ch⟩;refine Ra z<|Ra z<|Wn ?_
  obtain rfl:=som<|ifT ak V;exact Wr<|F_ hr (q_ u_ i_ z cf z) z z ⟨bM (bup (bup (bup h2 h1) sk) sa) ch.one<|m1 h2.s,none,0,0,[],none,0,0,[],z,ii z,onL,onL,bb,ii z,nd0,al0⟩
 refine Wk<|Ws<|R z (lN (vs:=[vI xb,sl ae nf cg,sl ah ni cj]) u_ i_ z z fid<|(cc.e sa).row 0 3 z)<|Rm z<|Rm z<|E0 (fs (cur':=[vI xb,sl ae nf cg,sl ah ni cj]) i_ z z ((hn.e sk).e sa) z (lb z) (oA z) z) ?_
 rintro _ _ ⟨ci,ck⟩;have ad:=ck.one;refine Ra z<|Ra z<|Wn ?_
 obtain rfl:=som<|ifF ak V;have bc:=lt_ h2.s h1.s;exact Wr<|F_ hr (q_ u_ i_ z ci z) z z ⟨bM (bup (bup (bup h2 h1) sk) sa) ad<|m1 h2.s,ae,nf,cg,J,ah,ni,cj,L,z,c5,(c6.e sa).c ad<|k_ b9 hn.lt lr,(c8.e sa).c ad<|k_ ba hn.lt lr,bb,cb,na_ c7 c9<|ds ca,aa_ (l_ b9 bc)<|l_ ba bc⟩
theorem W_w2g {x1:d_} {x2:List UInt8} {res:Bool} (hm:f_L n x1 x2=some res) (hBw:B≤w0.z) (p1_0:repS w0 B (sl A0 N0 C0) x1.rules) (p2_0:repS w0 B (sl A6 N6 C6) x2):o_ prog 18 [(.agg #[sl A0 N0 C0]),sl A6 N6 C6] w0 (Q0 w0 B res):=by
 unfold f_L at hm
 refine goF func18 z z (lb z) fun fn hr=>Ws<|E z (fb z) ?_
 rintro _ I ⟨rfl,h1⟩;have G:=h1.below;refine Ra z<|Wn<|Ws<|R z (lN (vs:=[sl A0 N0 C0]) y_ t_ z z fid<|(h1.blk:Blk I w0.z [sl A0 N0 C0]).row 0 1 z)<|Rm z ?_
 obtain ⟨J,_,_,L,H⟩:=r_ hm;refine E z (fc call38 z<|W_w2f (B:=B) L (zt' hBw G.s) (p1_0.e G)<|p2_0.e G) ?_;rintro _ O ⟨s2,aa,nb,cc,_,ad,ne,cf,_,rfl,_,_,_,_,_,_,_⟩;refine Rm z ?_
 iterate 3 refine R z (ext_ z z) ?_
 refine E z (fa a_b) ?_;rintro _ wg ⟨rfl,h3⟩;refine E0 (fs (cur':=[vI J.number,sl aa nb cc,sl ad ne cf]) i_ z z (h3.blk:Blk wg O.z [vI 0,sl none 0 0,sl none 0 0]) z (lb z) (oA z) z) ?_;rintro _ _ ⟨_,si⟩;refine Ra z<|Ra z<|Wn<|Ws<|Rm z<|R z (eql z z)<|Ra z<|Wn ?_
 obtain rfl:=som H;exact Wr<|h_ hr z ⟨bM (bup (bup G s2) h3.below) si.one<|m1<|lt_ G.s s2.s,z⟩
theorem W_w2h {x1:g_} {x2:Int} {res:Str} (hm:e_q n x1 x2=some res) (hBw:B≤w0.z) (p1_0:x1.name.b.length≤LEN) (p1_1:inI x1.kind) (p1_2:inI x1.size) (ab:repS w0 B (sl AB NB CB) x1.bytes) (V:repS w0 B (sl A8 N8 C8) x1.names) (ad:repS w0 B (sl AC NC CC) x1.tags) (ae:repS w0 B (sl AD ND CD) x1.kids) (p2_0:inI x2):o_ prog 124 [(.agg #[Str.v x1.name,vI x1.kind,vI x1.size,vB x1.little,sl AB NB CB,sl A8 N8 C8,sl AC NC CC,sl AD ND CD]),vI x2] w0 (Q4 w0 B res):=by
 unfold e_q at hm
 refine goF func124 z z (lb z) fun fn hr=>Ws<|E z (fb z) ?_
 rintro _ L ⟨rfl,hn⟩;have h1:=hn.below;have h6:Blk L w0.z (vR x1 AB NB CB A8 N8 C8 AC NC CC AD ND CD):=hn.blk;refine Ra z<|Wn<|Wq<|Wb<|Ws<|R z (fd a_x z)<|R z (l1 g_3 z fid<|h6.at z)<|R z (eql z z)<|Ra z<|Wn<|Wc z (fun hcd=>?_) (fun hcd=>?_)
 ·refine Ws<|Rm z ?_
  obtain ⟨_,ew,hmx⟩:=bdS<|ifT hm hcd;refine E z (fc call162 z<|i_f (B:=B) ew (zt' hBw h1.s) p2_0) ?_;rintro _ _ ⟨sy,rfl,hz⟩;refine Ra z<|Wn ?_
  obtain rfl:=som hmx;exact Wr<|rtO<|h_ hr z ⟨bup h1 sy,z,hz⟩
 refine Wq ?_;obtain ⟨Y,hum,hmo⟩:=bdS<|ifF hm hcd;refine Wt (fun a w=>∃ (xe:Bool),xe=Y∧Sat 51 [(1,vI x2),(2,pt w0.z),(11,vB xe)] a∧Below L.z L w) ?_ ?_
 ·refine Wg<|R z (fd a_x z)<|R z (l1 g_3 z fid<|h6.at z)<|R z (eql z z)<|Rm z ?_
  rcases bs (x1.kind==6) with G | G
  ·exact Rh z G (mv z)<|Rh z G (fd b_P z)<|Rh z G (l1 b_Z z fid<|h6.at z)<|Rh z G (lnR a_N z<|V.e h1)<|Rh z G (lss z z)<|R z (pT z G z)<|Ra z<|Wl (fun _ q=>⟨decide<|x2<(x1.names.length:Int),som<|ifT hum G,q.k<|s3 z z z,br L⟩)
  iterate 5 refine Nh z G ?_
  exact R z (pF z G z)<|Ra z<|Wl (fun _ q=>⟨false,som<|ifF hum G,q.k<|s3 z z z,br L⟩)
 rintro a0 O ⟨xe,rfl,_,s2⟩;revert a0;refine Wo<|Wc z (fun hcf=>?_) (fun hcf=>?_)
 ·refine Ws<|R z (fd b_P z)<|R z (l1 b_Z z fid<|(h6.e s2).at z)<|Rm z ?_
  obtain ⟨_,a1,W⟩:=bdS<|ifT hmo hcf;refine RX z (at_ (α:=Str) a_N z_9 z z z (V.g<|(h1.ag B).e s2) a1) ?_;rintro _ ⟨_,_,_,rfl,a2,a3,_⟩;obtain ⟨rfl,a4⟩:=c_n a3;refine R z (l1 g_9 z fid<|a2.at0 z)<|Ra z<|Wn ?_
  obtain rfl:=som W;exact Wr<|rtO<|h_ hr z ⟨bup h1 s2,z,a4⟩
 refine Wq ?_;obtain ⟨a5,hup,hmq⟩:=bdS<|ifF hmo hcf;refine Wt (fun a w=>∃ (xg:Bool),xg=a5∧Sat 51 [(1,vI x2),(2,pt w0.z),(27,vB xg)] a∧Below O.z O w) ?_ ?_
 ·refine Wg<|R z (fd a_x z)<|R z (l1 g_3 z fid<|(h6.e s2).at z)<|R z (eql z z)<|Rm z ?_
  rcases bs (x1.kind==7) with H | H
  ·exact Rh z H (mv z)<|Rh z H (eql z z)<|R z (pT z H z)<|Ra z<|Wl (fun _ q=>⟨x2==0,som<|ifT hup H,q.k<|s3 z z z,br O⟩)
  exact Nh z H<|Nh z H<|R z (pF z H z)<|Ra z<|Wl (fun _ q=>⟨false,som<|ifF hup H,q.k<|s3 z z z,br O⟩)
 rintro a6 wa ⟨xg,rfl,_,s7⟩;revert a6;refine Wo<|Wc z (fun hch=>?_) (fun hch=>?_)
 ·refine Ws<|Ra z<|Wn ?_
  obtain rfl:=som<|ifT hmq hch;exact Wr<|rtO<|h_ hr z ⟨bup (bup h1 s2) s7,z,lb z⟩
 refine Wq ?_;obtain ⟨a7,hur,hms⟩:=bdS<|ifF hmq hch;refine Wt (fun a w=>∃ (xi:Bool),xi=a7∧Sat 51 [(1,vI x2),(2,pt w0.z),(35,vB xi)] a∧Below wa.z wa w) ?_ ?_
 ·refine Wg<|R z (fd a_x z)<|R z (l1 g_3 z fid<|((h6.e s2).e s7).at z)<|R z (eql z z)<|Rm z ?_
  rcases bs (x1.kind==8) with I | I
  ·exact Rh z I (mv z)<|Rh z I (eql z z)<|R z (pT z I z)<|Ra z<|Wl (fun _ q=>⟨x2==0,som<|ifT hur I,q.k<|s3 z z z,br wa⟩)
  exact Nh z I<|Nh z I<|R z (pF z I z)<|Ra z<|Wl (fun _ q=>⟨false,som<|ifF hur I,q.k<|s3 z z z,br wa⟩)
 rintro a8 wb ⟨xi,rfl,_,sc⟩;revert a8;refine Wo<|Wc z (fun hcj=>?_) (fun hcj=>?_)
 ·refine Ws<|Ra z<|Wn ?_
  obtain rfl:=som<|ifT hms hcj;exact Wr<|rtO<|h_ hr z ⟨bup (bup (bup h1 s2) s7) sc,z,lb z⟩
 refine Wq ?_;obtain ⟨a9,hut,hmu⟩:=bdS<|ifF hms hcj;refine Wt (fun a w=>∃ (xk:Bool),xk=a9∧Sat 51 [(43,vB xk)] a∧Below wb.z wb w) ?_ ?_
 ·refine Wg<|R z (fd a_x z)<|R z (l1 g_3 z fid<|(((h6.e s2).e s7).e sc).at z)<|R z (eql z z)<|Rm z ?_
  rcases bs (x1.kind==9) with J | J
  ·exact Rh z J (mv z)<|Rh z J (eql z z)<|R z (pT z J z)<|Ra z<|Wl (fun _ q=>⟨x2==0,som<|ifT hut J,q.k<|s1 z,br wb⟩)
  exact Nh z J<|Nh z J<|R z (pF z J z)<|Ra z<|Wl (fun _ q=>⟨false,som<|ifF hut J,q.k<|s1 z,br wb⟩)
 rintro aa _ ⟨xk,rfl,_,sv⟩;revert aa;refine Wo<|Wc z (fun hcl=>?_) (fun hcl=>?_)
 ·refine Ws<|Ra z<|Wn ?_
  obtain rfl:=som<|ifT hmu hcl;exact Wr<|rtO<|h_ hr z ⟨bup (bup (bup (bup h1 s2) s7) sc) sv,z,lb z⟩
 refine Wk<|Ws<|Ra z<|Wn ?_
 obtain rfl:=som<|ifF hmu hcl;exact Wr<|h_ hr z ⟨bup (bup (bup (bup h1 s2) s7) sc) sv,z,lb z⟩
def Q17 (w0:World) (B:Zone) (r:(List e_)×Int) (v:Value) (w':World):Prop:=Bw w0 w'∧un2 (fun L G=>∃ H I J S1,v = .tuple #[sl H I J,vI G]∧a_ w' S1 (sl H I J) L∧inI G∧S1.Nodup∧(∀ k∈S1,w0.z≤k)) r
structure i_t (f:d_→Int→(List UInt8)→Int→Str→Option ((List e_)×Int)):Prop where
  run : ∀ {A0 A7:Option Addr} {N0 C0 N7 C7:Nat} {B:Zone} {x1:d_} {x2:Int} {x3:List UInt8} {x4:Int} {x5:Str} {res:(List e_)×Int} {w0:World} (hm:f x1 x2 x3 x4 x5=some res) (hBw:B≤w0.z) (p1_0:repS w0 B (sl A0 N0 C0) x1.rules) (p2_0:inI x2) (p3_0:repS w0 B (sl A7 N7 C7) x3) (p4_0:inI x4) (p5_0:x5.b.length≤LEN),o_ prog 68 [(.agg #[sl A0 N0 C0]),vI x2,sl A7 N7 C7,vI x4,Str.v x5] w0<|Q17 w0 B res
abbrev k_f (n:Nat):Prop:=i_t (d_m n).spec_l19Build
theorem T_w0f (bu:k_f n):i_t (g_c n<|d_m n):=by
 constructor
 intro A0 A7 N0 C0 N7 C7 B x1 x2 x3 x4 x5 res w0 hm hBw p1_0 p2_0 p3_0 p4_0 p5_0;unfold g_c at hm
 refine goF func68 z z (lb z) fun fn hr=>Ws<|E z (fb z) ?_
 rintro _ wi ⟨rfl,aB⟩;have hn:=aB.below;have ho:Blk wi w0.z [sl A0 N0 C0]:=aB.blk;refine Ra z<|Ra z<|Wn<|Ws<|R z (fd X_ z)<|R z (l1 a_0 z fid<|ho.at z)<|Rm z ?_
 obtain ⟨xj,bv,b7⟩:=bdS hm;refine RX z (at_ (α:=g_) a_1 p_ z z z (p1_0.e hn) bv) ?_;rintro _ ⟨_,_,_,rfl,bw,bx,_⟩;obtain ⟨az,W,Y,a0,a1,a2,a3,a4,a5,a6,a7,a8,rfl,aC,aD,aE,aF,aG,aH,ak⟩:=a_z bx;refine R z (lN (vs:=vR xj az W Y a0 a1 a2 a3 a4 a5 a6 a7 a8) J_ p_ z z fid bw)<|E z (fa b_i) ?_
 rintro _ bz ⟨rfl,aI⟩;have hg:=aI.below;have al:Blk bz wi.z [(Str.v (⟨[]⟩:Str)),vI 0,vI 0,vB false,sl none 0 0,sl none 0 0,sl none 0 0,sl none 0 0]:=aI.blk;refine E0 (fs (cur':=vR xj az W Y a0 a1 a2 a3 a4 a5 a6 a7 a8) p_ z z al z (lb z) (oA z) z) ?_;rintro _ _ ⟨bA,bB⟩;have hd:=bB.one;refine Wn<|Ws ?_
 have am:=(ho.e hg).c hd<|djs<|mmr ho.lt
 refine R z (lN (vs:=[sl A0 N0 C0]) y_ t_ z z fid<|am.row 0 1 z)<|Rm z<|Rm z<|Rm z ?_
 have an : ∀ k∈[wi.z],¬ B k:=or0 (b_ lr)  (m_<|zt' hBw hn.s);have aa:=((hn.ag B).e hg).c hd<|c_ an
 have ab:=lt_ (lt_ hn.s hg.s) hd.s;obtain ⟨bC,rh,_,bD,b8⟩:=r_ b7;refine E z (fc call67 z<|W_w03.run (B:=B) bD (zt' hBw ab) (p1_0.g aa) p2_0 (p3_0.g aa) p4_0) ?_;rintro _ wk ⟨s6,bE,bF,bG,_,bH,bI,bJ,_,rfl,bK,_,L,aJ,_,_,_⟩;refine Rm z ?_
 iterate 3 refine R z (ext_ z z) ?_
 refine E z (fa a_b) ?_;rintro _ bL ⟨rfl,aK⟩;have h2:=aK.below;have ao:Blk bL wk.z [vI 0,sl none 0 0,sl none 0 0]:=aK.blk;refine E0 (fs (cur':=[vI bC.number,sl bE bF bG,sl bH bI bJ]) i_ z z ao z (lb z) (oA z) z) ?_;rintro _ G ⟨aL,bN⟩;have H:=bN.one;refine Ra z<|Ra z<|Wn<|Ws<|Rm z<|Rm z<|Rm z<|Rm z<|R z (bP (parts:=[(0,.tmp 38),(1,.tmp 39),(2,.tmp 40),(3,.tmp 41)]) (cs:=[Str.v x5,vI x2,vI x4,vI rh]) k_4 z z)<|E z (fS [(.tmp 42)] b_O z z z (a_d z) (lb z)<|lb z) ?_
 rintro _ wr ⟨rfl,ap⟩;have h5:=ap.below;have cz:Blk wr G.z [Str.v x5,vI x2,vI x4,vI rh]:=ap.blk;refine Ra z<|Wn<|Ws<|Rm z<|Ra z<|Wn<|Wq<|Ws<|R z (fd a_x z) ?_
 have aM:=lt_ hd.s s6.s;have aq:=(((bA.e s6).e h2).c H<|djs<|mm1 al.lt aM).e h5;refine R z (l1 g_3 z fid<|aq.at z)<|Wn<|Wb<|Wq<|Ws<|R z (eql z z)<|Ra z<|Wn ?_
 obtain ⟨bO,aw,b9⟩:=bdS b8;refine Wt (fun a w=>∃ (ar:Bool),ar=bO∧Sat 98 [(2,sl A7 N7 C7),(3,vI x4),(4,Str.v x5),(5,pt w0.z),(12,pt wi.z),(13,pt wk.z),(14,vI rh),(16,sl (some ⟨G.z,0,none⟩) 1 1),(17,vI x4),(46,vI xj.kind),(47,vB ar)] a∧Below wr.z wr w) ?_ ?_
 ·refine Wc z (fun ah=>?_)<|fun ah=>?_
  ·exact a_g<|fun _ q=>⟨xj.kind==5,som<|ifT aw ah,q.k<|sc z<|sc z<|sc z<|sc z<|sc z<|sc z<|sc z<|sc z<|sc z<|sc z<|sc z sn,br wr⟩
  exact Wg<|R z (eql z z)<|Ra z<|Wl (fun _ q=>⟨xj.kind==7,som<|ifF aw ah,q.k<|sc z<|sc z<|sc z<|sc z<|sc z<|sc z<|sc z<|sc z<|sc z<|sc z<|sc z sn,br wr⟩)
 rintro bQ wm ⟨ar,rfl,_,s3⟩;revert bQ;refine Wo ?_;obtain ⟨bR,ax,ba⟩:=bdS b9;refine Wt (fun a w=>∃ (ad:Int),ad=bR∧Sat 98 [(2,sl A7 N7 C7),(4,Str.v x5),(5,pt w0.z),(12,pt wi.z),(13,pt wk.z),(14,vI rh),(16,sl (some ⟨G.z,0,none⟩) 1 1),(17,vI ad)] a∧Below wm.z wm w∧inI ad) ?_ ?_
 ·refine Wc z (fun ai=>?_)<|fun ai=>?_
  ·refine Wq (Wd (X:=noX) 0 (.rd 0<|.rd 1<|.rd 2<|.rd 3<|.rd 4<|.rd 5<|.rd 6<|.ef 7<|.rd 8<|.rd 9<|.rd 10<|.rd 11<|.rd 12<|.rd 13<|.rd 14 .done) mo (by kernel_rfl) fun cA sp _=>dR z z (lN (vs:=[sl A0 N0 C0]) y_ t_ z z fid<|((((((am.e s6).e h2).c H<|djs<|mm1 ho.lt<|lt_ (lt_ hg.s hd.s) s6.s).e h5).e s3).e sp).row 0 1 z)<|dR z z (fd K_ z)<|dR z z (l1 B_ z fid<|((aq.e s3).e sp).at z) ?_);obtain ⟨_,bS,bb⟩:=bdS<|ifT ax ai;have aN:=lt_ ab s6.s;have aO : ∀ k∈[wk.z],¬ B k:=or0 (b_ lr)  (m_<|zt' hBw aN);refine dRX z z (at_ (α:=Int) w_ z_3 z z z (ak.g<|(((((((hg.ag B).c hd<|c_ an).e s6).e h2).c H<|c_ aO).e h5).e s3).e sp) bS) ?_;rintro _ ⟨_,_,_,rfl,bT,bU,_⟩;obtain ⟨rfl,bV⟩:=O_ bU;refine dR z z (l1 g_3 z fid<|bT.at0 z)<|dR z z (mv z)<|dR z z (mv z) ?_
   have aP:=(((((aa.e s6).e h2).c H<|c_ aO).e h5).e s3).e sp;obtain ⟨_,bW,_,bX,bc⟩:=r_ bb;refine dE z z (fc call125 z<|g_F (B:=B) bX (zt' hBw<|lt_ (lt_ (lt_ (lt_ (lt_ aN h2.s) H.s) h5.s) s3.s) sp.s) (p1_0.g aP) bV (p3_0.g aP) p4_0) (.inr fun _ _ h=>v_<|h.1) ?_;rintro _ _ ⟨bY,rfl,_,bZ⟩;refine dR z z (mv z) ?_
   iterate 3 refine dR z z (ext_ z z) ?_
   iterate 3 refine dR z z (asg z) ?_
   exact pD<|Wo<|Wg<|Rm z<|Ra z<|Wl (fun _ q=>⟨bW,som bc,q.k<|s8 z z z z z z z z,bup sp bY,bZ⟩)
  refine Ws<|R z (eql z z)<|Ra z<|Wn ?_
  obtain ⟨c0,ay,be⟩:=bdS<|ifF ax ai;refine Wt (fun a w=>∃ (xt:Int),xt=c0∧Sat 98 [(2,sl A7 N7 C7),(4,Str.v x5),(5,pt w0.z),(12,pt wi.z),(13,pt wk.z),(14,vI rh),(16,sl (some ⟨G.z,0,none⟩) 1 1),(17,vI xt)] a∧Below wm.z wm w∧inI xt) ?_ ?_
  ·refine Wc z (fun aj=>?_)<|fun aj=>?_
   ·exact Wg<|Rm z<|R z (add_ z z)<|Ra z<|Wl (fun _ q=>⟨j_ x4 1,som<|ifT ay aj,q.k<|s8 z z z z z z z z,br wm,iA _ _⟩)
   exact a_g<|fun _ q=>⟨x4,som<|ifF ay aj,q.k<|s8 z z z z z z z z,br wm,p4_0⟩
  rintro c1 _ ⟨xt,rfl,_,c2,c3⟩;revert c1;exact fun _ q=>⟨xt,som be,q.k<|s8 z z z z z z z z,c2,c3⟩
 rintro c4 I ⟨ad,rfl,_,sa,c5⟩;revert c4;refine Wo<|Wq<|Ws<|Ra z<|Wn ?_
 obtain ⟨_,bf,aA⟩:=bdS ba;refine Wf (σ:=(List e_)×Int) (ρ:=(List e_)×Int) (fun (aQ:Nat) s a w=>un2 (fun xq xl=>∃ O nb cc J,Sat 98 [(2,sl A7 N7 C7),(4,Str.v x5),(5,pt w0.z),(12,pt wi.z),(13,pt wk.z),(14,vI rh),(16,sl O nb cc),(17,vI xl),(21,vI ((aQ:Nat):Int))] a∧Chg (· ∈ [G.z]) I w∧a_ w J (sl O nb cc) xq∧J.Nodup∧(∀ k∈J,k∈[G.z]∨I.z≤k)∧inI xl) s) (fun s a w=>un2 (fun xq xl=>∃ O nb cc J,Sat 98 [(14,vI rh),(16,sl O nb cc)] a∧Chg (· ∈ [G.z]) I w∧a_ w J (sl O nb cc) xq∧J.Nodup∧(∀ k∈J,k∈[G.z]∨I.z≤k)∧inI xl) s) (fun r ex a w=>ex = .ret∧L_ prog fn (Q17 w0 B r) a w) bf ?_ ?_ ?_ ?_ ?_
 ·exact fun _ q=>⟨some ⟨G.z,0,none⟩,1,1,[G.z],q.k<|s9 z z z z z z z z z,cr [G.z] I,((a_E ap<|d_s (x:=(⟨x5,x2,x4,rh⟩:e_))  p5_0 p2_0 p4_0 aJ).e s3).e sa,a_h,io sr,c5⟩
 ·rintro aQ ⟨xq,xl⟩ _ c6 _ V ⟨O,nb,cc,J,bg,se,hu,hv,hw,ae⟩ bh;refine Wu ?_ bg;refine Wq<|Ws<|Rm z<|R z (fd a_j z) ?_
  have aR:=(((aL.e h5).e s3).e sa).c se<|djs<|mm1 ao.lt H.s
  refine R z (l1 a_F z fid<|aR.at z)<|R z (lnR a_U z<|or_ ((((((L.e h2).c H<|ds<|mnr<|a_.lt L).e h5).e s3).e sa).c se<|ds<|mno (a_.lt L)<|lt_ h2.s H.s)<|a_.lt L)<|R z (lss z z)<|Wn<|Wc z (fun _=>?_) (fun hc=>(a_3 V hc).elim)
  refine Wk<|Wq<|Wb<|Wq (Wd (X:=noX) 0 (.rd 0<|.rd 1<|.rd 2<|.rd 3<|.rd 4<|.rd 6<|.rd 7<|.rd 8<|.rd 9<|.rd 10<|.rd 11<|.ef 5<|.ef 12<|.rd 13<|.ef 14<|.rd 15<|.rd 16<|.rd 17<|.rd 18<|.rd 19 .done) mo (by kernel_rfl) fun c7 sf _=>?_)
  have aS:=lt_ (lt_ hg.s hd.s) s6.s;refine dR z z (lN (vs:=[sl A0 N0 C0]) y_ t_ z z fid<|((((((((am.e s6).e h2).c H<|djs<|mm1 ho.lt aS).e h5).e s3).e sa).c se<|djs<|mm1 ho.lt<|lt_ (lt_ aS h2.s) H.s).e sf).row 0 1 z) ?_;have aT:=(((aq.e s3).e sa).c se<|djs<|mm1 al.lt<|lt_ (lt_ aM h2.s) H.s).e sf;refine dR z z (lN (vs:=vR xj az W Y a0 a1 a2 a3 a4 a5 a6 a7 a8) J_ p_ z z fid<|aT.row 0 8 z)<|dR z z (fd b_c z)<|dR z z (l1 g_3 z fid<|(aR.e sf).at z) ?_
  iterate 4 refine dR z z (mv z) ?_
  obtain ⟨_,c8,bi⟩:=bdS<|b_1 bh;refine dR z z (c_X z z c8)<|dR z z (lN (vs:=vR xj az W Y a0 a1 a2 a3 a4 a5 a6 a7 a8) J_ p_ z z fid<|aT.row 0 8 z)<|dR z z (mv z) ?_
  have aU:=lt_ ab s6.s;have aV : ∀ k∈[wk.z],¬ B k:=or0 (b_ lr)  (m_<|zt' hBw aU);have aW:=lt_ (lt_ aU h2.s) H.s;have aX : ∀ k∈[G.z],¬ B k:=or0 (b_ lr)  (m_<|zt' hBw aW);have hx:=(((((((((hg.ag B).c hd<|c_ an).e s6).e h2).c H<|c_ aV).e h5).e s3).e sa).c se<|c_ aX).e sf;have aY:=lt_ (lt_ (lt_ (lt_ (lt_ aW h5.s) s3.s) sa.s) se.s) sf.s;obtain ⟨_,c9,bj⟩:=bdS bi;refine dE z z (fc call109 z<|d_A (B:=B) c9 (zt' hBw aY) aC aD aE (aF.g hx) (aG.g hx) (aH.g hx) (ak.g hx) bK<|ic (Nat.le_of_lt V)<|lt_ (a_.len L) M_) (.inr fun _ _ h=>v_<|h.1) ?_;rintro _ ca ⟨ss,rfl,cb⟩;have af:=hx.e ss;have aZ:=lt_ aY ss.s;obtain ⟨_,cd,bk⟩:=bdS bj;refine dE z z (fc call124 z<|W_w2h (B:=B) cd (zt' hBw aZ) aC aD aE (aF.g af) (aG.g af) (aH.g af) (ak.g af)<|ic (Nat.le_of_lt V)<|lt_ (a_.len L) M_) (.inr fun _ _ h=>v_<|h.1) ?_;rintro _ ce ⟨sy,rfl,_⟩;obtain ⟨_,b0,bm⟩:=bdS bk;refine dR z z (c_X z z b0) ?_;have b1:=(((((((((aa.e s6).e h2).c H<|c_ aV).e h5).e s3).e sa).c se<|c_ aX).e sf).e ss).e sy;obtain ⟨_,cf,cg,bn⟩:=a_A bm;refine dE z z (fc call68 z<|bu.run (B:=B) cg (zt' hBw<|lt_ aZ sy.s) (p1_0.g b1) cb (p3_0.g b1) ae<|d_u b0) (.inr fun _ _ h=>v_<|h.1) ?_;rintro _ ch ⟨au,_,_,_,_,rfl,ci,cj,_,_⟩;refine dR z z (mv z)<|dR z z (ext_ z z)<|dR z z (ext_ z z)<|dR z z (asg z)<|dR z z (asg z)<|pD<|Wo<|Ws<|Rm z<|Rm z ?_
  obtain ⟨ck,cl,bo⟩:=bdS bn;refine E z (fN (α:=e_) b_O cl z z ((((hu.e sf).e ss).e sy).e au) hv<|a_.rep ci) ?_;rintro _ cm ⟨b2,cn,co,cp,rfl,cq,ct,cu,cv⟩;refine Ra z<|Wn<|Wg<|Rm z<|Ra z<|Wn<|Wg<|Rm z<|R z (inc_ V (lt_ (a_.len L) M_) z z)<|Ra z<|Wl ?_
  have b3 : ∀ k∈J,k∈[G.z]∨I.z≤k:=or1 hw (io sr)<|z_ lr;exact fun _ q=>⟨(ck,cf),(som bo).symm,⟨cn,co,cp,b2,q.k<|s9 z z z z z z z z z,(cM (f_ (f_ (f_ (f_ (cM (cr [G.z] I) se (io sr):Chg (· ∈ [G.z]) I c6) sf:Chg (· ∈ [G.z]) I c7) ss:Chg (· ∈ [G.z]) I ca) sy:Chg (· ∈ [G.z]) I ce) au:Chg (· ∈ [G.z]) I ch) cq b3:Chg (· ∈ [G.z]) I cm),ct,cu,(or1 cv b3 (z_<|lt_ (lt_ (lt_ (lt_ se.s sf.s) ss.s) sy.s) au.s) : ∀ k∈b2,k∈[G.z]∨I.z≤k),cj⟩⟩
 ·rintro ⟨xq,xl⟩ _ cw ⟨O,nb,cc,J,bp,av,hu,hv,hw,ae⟩;refine Wu ?_ bp;refine Wq<|Ws<|Rm z<|R z (fd a_j z)<|R z (l1 a_F z fid<|((((aL.e h5).e s3).e sa).c av<|djs<|mm1 ao.lt H.s).at z)<|R z (lnR a_U z<|or_ ((((((L.e h2).c H<|ds<|mnr<|a_.lt L).e h5).e s3).e sa).c av<|ds<|mno (a_.lt L)<|lt_ h2.s H.s)<|a_.lt L)<|R z (lss z z)<|Wn<|Wc z (fun hc=>(a_4 hc).elim) (fun _=>?_)
  exact We<|fun a' ha'=>⟨rfl,⟨O,nb,cc,J,Sat.weaken ha'<|s2 z z,(cM (cr [G.z] I) av (io sr):Chg (· ∈ [G.z]) I cw),hu,hv,(or1 hw (io sr) (z_ lr) : ∀ k∈J,k∈[G.z]∨I.z≤k),ae⟩⟩
 ·rintro ⟨xq,xl⟩ cx _ rfl ⟨O,nb,cc,J,_,cy,hu,hv,hw,ae⟩;have bq:=elL aA;revert cx;refine Wo<|Ws<|Rm z<|Rm z<|Ra z<|Ra z<|Wn ?_
  obtain rfl:=som<|b_1 bq;have b4:=lt_ ab s6.s;have b5:=lt_ (lt_ b4 h2.s) H.s;have b6:=m1 b5;exact Wr<|a_R hr z z ⟨bM (bup (bup (bup (bM (bup (bup (bM (bup hn hg) hd<|m1 hn.s) s6) h2) H<|m1 b4) h5) s3) sa) cy b6,O,nb,cc,J,z,hu,aJ,hv,a_2 hw b6<|lt_ (lt_ (lt_ b5 h5.s) s3.s) sa.s⟩
 rintro _ _ _ _ rfl ⟨rfl,bs⟩;have bt:=elR aA;obtain rfl:=som bt;exact ⟨bs,z⟩
theorem A_w0f : ∀ n,k_f n
  | 0=>⟨fun hm=>by intros;exact nomatch (show none=some _ from hm)⟩
  | n+1=>T_w0f<|A_w0f n
theorem W_w0f:i_t (d_m n).spec_l19Build:=A_w0f n

def Q18 (w0:World) (B:Zone) (r:(List e_)×Bool) (v:Value) (w':World):Prop:=Bw w0 w'∧un2 (fun J L=>∃ G H I S1,v = .tuple #[sl G H I,vB L]∧a_ w' S1 (sl G H I) J∧S1.Nodup∧(∀ k∈S1,w0.z≤k)) r
theorem W_w1e {x1:d_} {x2:List UInt8} {res:(List e_)×Bool} (hm:e_B n x1 x2=some res) (hBw:B≤w0.z) (p1_0:repS w0 B (sl A0 N0 C0) x1.rules) (p2_0:repS w0 B (sl A6 N6 C6) x2):o_ prog 15 [(.agg #[sl A0 N0 C0]),sl A6 N6 C6] w0 (Q18 w0 B res):=by
 unfold e_B at hm
 refine goF func15 z z (lb z) fun fn hr=>Ws<|E z (fb z) ?_
 rintro _ wd ⟨rfl,h5⟩;have G:=h5.below;have h6:Blk wd w0.z [sl A0 N0 C0]:=h5.blk;refine Ra z<|Ra z<|Wn<|Wq<|Ws<|R z (lN (vs:=[sl A0 N0 C0]) y_ t_ z z fid<|h6.row 0 1 z)<|Rm z ?_
 obtain ⟨_,ee,I⟩:=bdS hm;refine E z (fc call18 z<|W_w2g (B:=B) ee (zt' hBw G.s) (p1_0.e G)<|p2_0.e G) ?_;rintro _ wf ⟨s1,rfl⟩;refine R z (not_ z)<|Wn<|Wc z (fun H=>?_) (fun H=>?_)
 ·refine Ws<|E z (f0 (α:=e_) b_O) ?_
  rintro _ _ ⟨ah,ng,ci,rfl,sj,hk⟩;refine Ra z<|Ra z<|Wn ?_
  obtain rfl:=som<|ifT I H;exact Wr<|a_R hr z z ⟨bup (bup G s1) sj,ah,ng,ci,[wf.z],z,hk,a_h,m1<|lt_ G.s s1.s⟩
 refine Wk<|Wq (Wd (X:=noX) 0 (.rd 0<|.rd 1<|.rd 3<|.ef 2<|.ef 4<|.rd 5<|.rd 6<|.rd 7<|.rd 8<|.rd 9 .done) mo (by kernel_rfl) fun O s2 _=>?_)
 have J:=(h6.e s1).e s2;refine dR z z (lN (vs:=[sl A0 N0 C0]) y_ t_ z z fid<|J.row 0 1 z)<|dR z z (lN (vs:=[sl A0 N0 C0]) y_ t_ z z fid<|J.row 0 1 z)<|dR z z (mv z) ?_
 have L:=((G.ag B).e s1).e s2;have ha:=lt_ (lt_ G.s s1.s) s2.s;obtain ⟨_,el,hmm⟩:=bdS<|ifF I H;refine dE z z (fc call65 z<|e_X (B:=B) el (zt' hBw ha)<|p1_0.g L) (.inr fun _ _ h=>v_<|h.1) ?_;rintro _ _ ⟨s4,rfl,hn⟩;have hb:=L.e s4;have hc:=lt_ ha s4.s;obtain ⟨_,_,eo,hmp⟩:=a_A hmm;refine dE z z (fc call68 z<|W_w0f.run (B:=B) eo (zt' hBw hc) (p1_0.g hb) hn (p2_0.g hb) (ii z)<|lb z) (.inr fun _ _ h=>v_<|h.1) ?_;rintro _ _ ⟨sq,ar,ns,ct,Su,rfl,hv,_,hw,hx⟩;refine dR z z (mv z)<|dR z z (ext_ z z)<|dR z z (ext_ z z)<|dR z z (asg z)<|dR z z (asg z)<|pD<|Wo<|Ws<|Rm z<|Ra z<|Ra z<|Wn ?_
 obtain rfl:=som hmp;exact Wr<|a_R hr z z ⟨bup (bup (bup (bup G s1) s2) s4) sq,ar,ns,ct,Su,z,hv,hw,l_ hx hc⟩
def Q19 (w0:World) (B:Zone) (r:d_×(List UInt8)×(List e_)) (v:Value) (w':World):Prop:=Bw w0 w'∧un3 (fun Y r2 r3=>∃ G H I S1 a2 J L S2 O V W S3,v = .tuple #[(.agg #[.slice G H I]),sl a2 J L,sl O V W]∧a_ w' S1 (sl G H I) Y.rules∧a_ w' S2 (sl a2 J L) r2∧a_ w' S3 (sl O V W) r3∧(S1++(S2++S3)).Nodup∧(∀ k∈(S1++(S2++S3)),w0.z≤k)) r
theorem W_w2i {x1:List UInt8} {res:d_×(List UInt8)×(List e_)} (hm:f_l n x1=some res) (hBw:B≤w0.z) (p1_0:repS w0 B (sl A0 N0 C0) x1):o_ prog 35 [sl A0 N0 C0] w0 (Q19 w0 B res):=by
 unfold f_l at hm
 refine goF func35 z z (lb z) fun fn hr=>Ws<|E z (fa d_z) ?_
 rintro _ aF ⟨rfl,a7⟩;have hh:=a7.below;have ha:Blk aF w0.z [sl none 0 0]:=a7.blk;refine Ra z<|Ra z<|Wn<|Ws<|Rm z ?_
 have a8:=zt' hBw hh.s;obtain ⟨_,aG,ay⟩:=bdS hm;refine E z (fc call51 z<|W_w13 (B:=B) aG a8<|p1_0.e hh) ?_;rintro _ wl ⟨si,gz,_,_,_,rfl,hn,V,a9,aH,aI⟩;refine Ra z<|Wn<|Ws<|Rm z ?_
 have W : ∀ k∈[gz],¬ B k:=or0 (b_ V)  (m_ a8);have ho:=lt_ hh.s si.s;obtain ⟨_,_,_,aJ,az⟩:=r_ ay;refine E z (fc call52 z<|W_w1y (B:=B) aJ hn (zt' hBw ho) (atp W) a9 aH aI) ?_;rintro _ wb ⟨se,H,I,J,aK,rfl,h1,aL,aM,aN,aO,h3⟩;refine E z (fa d_z) ?_;rintro _ aP ⟨rfl,aa⟩;have L:=aa.below;have hj:Blk aP wb.z [sl none 0 0]:=aa.blk;refine E0 (fs (cur':=[sl H I J]) t_ z z hj z (lb z) (oA z) z) ?_;rintro _ aQ ⟨aR,aS⟩;have G:=aS.one;refine Wn<|Wq (Wd (X:=fun k=>k∈[gz]∨aQ.z≤k) 0 (.rd 0<|.rd 1<|.rd 2<|.rd 3<|.rd 4<|.rd 5<|.rd 6<|.rd 7<|.rd 8<|.rd 9<|.rd 10<|.ef 11<|.ef 12<|.rd 13 .done) mo (by kernel_rfl) fun aT s4 _=>?_)
 have hf:=aR.e s4;have hc:=mm1 (Blk.lt hn) se.s;refine dR z z (lN (vs:=[sl H I J]) y_ t_ z z (a_y (atp hc)<|Nat.lt_of_lt_of_le hj.lt G.s)<|hf.row 0 1 z)<|dR z z (fd X_ z)<|dR z z (l1 a_0 z (a_y (atp hc)<|Nat.lt_of_lt_of_le hj.lt G.s)<|hf.at z) ?_
 have hp:=((h1.e L).c G<|ds<|mnr<|a_.lt h1).e s4;refine dR z z (lnR a_1 z<|or_ hp<|zin (B:=B) h3<|a_.lt h1)<|dR z z (sb_ z z)<|dR z z (mv z)<|dR z z (lN (vs:=[sl H I J]) y_ t_ z z (a_y (atp hc)<|Nat.lt_of_lt_of_le hj.lt G.s)<|hf.row 0 1 z)<|dR z z (fd X_ z)<|dR z z (l1 a_0 z (a_y (atp hc)<|Nat.lt_of_lt_of_le hj.lt G.s)<|hf.at z)<|dR z z (lnR a_1 z<|or_ hp<|zin (B:=B) h3<|a_.lt h1)<|dR z z (sb_ z z) ?_
 have Y:=lt_ ho se.s;have ab:=lt_ (lt_ (lt_ Y L.s) G.s) s4.s;have ad:=lt_ (lt_ L.s G.s) s4.s;obtain ⟨_,_,_,aU,aA⟩:=r_ az;refine dE z z (fc call53 z<|W_w0c.run (B:=zn B wl.z wb.z) aU (((aN.e L).c G<|djs hc).e s4) (c_c (zt' hBw ab) ad) (atp ((d_w W (b_<|Blk.lt hn) lr) : ∀ k∈[gz],¬ (zn B wl.z wb.z) k)) (repS.mono (a9.g<|(((se.agc B<|c_ W).e L).c G<|c_ (or0 (b_ lr)  (m_<|zt' hBw Y) : ∀ k∈[wb.z],¬ B k)).e s4) b_M) aL aM (or_ hp<|zin (B:=B) h3<|a_.lt h1) (iS _ _)<|ii z) (.inr fun _ _ h=>h.1.mono fun k _ hk=>(io sr) k hk) ?_;rintro _ aV ⟨s9,_,_,_,_,_,_,_,_,rfl,aW,ae,af,_,_,_,_,ah⟩;have a0:=hp.c s9<|k_ h3 (Blk.lt hn) lr
 have hq:=lt_ ab s9.s;have ht:=lt_ ad s9.s;obtain ⟨aX,aY,aB⟩:=bdS aA;refine dE z z (fc call54 z<|W_w0a.run (B:=zn (zn B wl.z wb.z) aT.z aV.z) aY (c_c (c_c (zt' hBw hq) ht) lr) (repS.mono (or_ a0<|zin (B:=B) h3<|a_.lt h1)<|zns (zt b_M<|b_M)<|znD<|znI lr lr) (iS _ _) aW (repS.mono (or_ ae<|zin (B:=B) (al_ ah)<|a_.lt ae)<|zns (zt b_M<|b_M)<|znI lr lr)<|repS.mono (or_ af<|zin (B:=B) (ar_ ah)<|a_.lt af)<|zns (zt b_M<|b_M)<|znI lr lr) (.inr fun _ _ h=>v_<|h.1) ?_;rintro _ wk ⟨s2,aZ,b0,b1,a1,rfl,a2,b2,hu⟩;refine dR z z (asg z)<|pD<|Wo<|Wq<|Ws<|Rm z<|R z (lnR n_ z<|or_ a2<|zin (B:=B) hu<|a_.lt a2)<|R z (a_9 z z)<|Wn ?_
 obtain ⟨b3,a6,aC⟩:=bdS aB;refine Wt (fun a w=>∃ (a3:List UInt8),a3=b3 ∧ ∃ ar ns cv Sg,Sat 44 [(2,pt w0.z),(6,pt wb.z),(7,sl ar ns cv)] a∧Below wk.z wk w∧a_ w Sg (sl ar ns cv) a3∧Sg.Nodup∧(∀ k∈Sg,k∈a1∨wk.z≤k)) ?_ ?_
 ·refine Wc z (fun O=>?_)<|fun O=>?_
  ·refine Wg<|R z (lN (vs:=[sl H I J]) y_ t_ z z fid<|((hf.c s9<|atp hc).e s2).row 0 1 z) ?_
   obtain ⟨b4,_,b5,aD⟩:=a_A<|ifT a6 O;refine E z (fc call93 z<|W_w2b (B:=zn B wl.z wb.z) b5 (c_c (zt' hBw<|lt_ hq s2.s)<|lt_ ht s2.s)<|or_ (a0.e s2)<|zin (B:=B) h3<|a_.lt h1) ?_;rintro _ _ ⟨b6,b7,b8,b9,ai,rfl,ba,bb,bc⟩;refine Rm z<|R z (ext_ z z)<|R z (ext_ z z)<|Ra z<|Wl ?_
   exact fun _ q=>⟨b4,som aD,b7,b8,b9,ai,q.k<|s3 z z z,b6,ba,bb,(or0 bc  (z_ lr) : ∀ k∈ai,k∈a1∨wk.z≤k)⟩
  exact a_g<|fun _ q=>⟨aX,som<|ifF a6 O,aZ,b0,b1,a1,q.k<|s3 z z z,br wk,a2,b2,io sr⟩
 rintro be bf ⟨a3,rfl,ar,ns,cv,Sg,_,sd,hw,bg,a4⟩;revert be;refine Wo<|Ws ?_
 have aj:=((hf.c s9<|atp hc).e s2).e sd;refine R z (lN (vs:=[sl H I J]) y_ t_ z z fid<|aj.row 0 1 z)<|Rm z ?_
 have ak:=(a0.e s2).e sd;have al:=lt_ hq s2.s;have am:=a_2 a4 (l_ hu hq) al;have an:=lt_ ht s2.s;have ao:=lt_ an sd.s;have ap:=lt_ al sd.s;obtain ⟨_,_,bh,aE⟩:=a_A aC;refine E z (fc call15 z<|W_w1e (B:=zn B w0.z bf.z) bh (c_c (zt' hBw ap) lr) (repS.mono (or_ ak<|zin (B:=B) h3<|a_.lt h1)<|m_C ho ao)<|or_ hw<|zin (B:=B) am<|a_.lt hw) ?_;rintro _ _ ⟨sm,bi,bj,bk,bm,rfl,bn,bo,hx⟩;refine Rm z<|R z (ext_ z z)<|R z (ext_ z z)<|Ra z<|Ra z<|Wn<|Ws<|R z (lN (vs:=[sl H I J]) y_ t_ z z fid<|(aj.e sm).row 0 1 z)<|Rm z<|Rm z ?_
 have aq:=k_ (b_ V) ha.lt lr;have au:=lt_ si.s se.s;refine E0 (fs (cur':=[sl H I J]) t_ z z (((((((((ha.e si).c se<|djs aq).e L).c G<|djs<|mm1 ha.lt au).e s4).c s9<|djs aq).e s2).e sd).e sm) z (lb z) (oA z) z) ?_;rintro _ _ ⟨bp,bq⟩;have hy:=bq.one;refine Ra z<|Ra z<|Wn ?_
 obtain rfl:=som aE;have av:=lt_ (lt_ (lt_ (lt_ au L.s) G.s) s4.s) s9.s;have aw:=lt_ av s2.s;have ax:=l_ (b_ V) hh.s;exact Wr<|F_ hr (q_ y_ t_ z bp z) z z ⟨bM (bup (bup (bup (bM (bup (bM (bup (bM (bup hh si) se ax) L) G<|m1 Y) s4) s9 ax) s2) sd) sm) hy<|b_ lr,H,I,J,aK,ar,ns,cv,Sg,bi,bj,bk,bm,z,(ak.e sm).c hy<|k_ h3 ha.lt si.s,(hw.e sm).c hy (or1 a4 (k_ hu ha.lt av) (P_ (b_ ha.lt) aw) : ∀ k∈Sg,k∉[w0.z]),bn.c hy<|k_ hx ha.lt<|lt_ aw sd.s,na_ aO (na_ bg bo<|ds<|a_H hx (a_.lt hw) lr)<|nmA (ds<|e_o a4 (a_H hu (a_.lt h1) ht) (a_.lt h1) an)<|ds<|a_H hx (a_.lt h1) ao,aa_ (l_ h3 ho)<|aa_ am<|l_ hx ap⟩
def Q20 (w0:World) (B:Zone) (r:d_×(List e_)×(List UInt8)×Int×Int×(List UInt8)) (v:Value) (w':World):Prop:=Bw w0 w'∧un6 (fun r1 r2 r3 G H r6=>∃ I J L S1 a2 O V S2 W Y c3 S3 a4 n4 c4 S4,v = .tuple #[(.agg #[.slice I J L]),sl a2 O V,sl W Y c3,vI G,vI H,sl a4 n4 c4]∧a_ w' S1 (sl I J L) r1.rules∧a_ w' S2 (sl a2 O V) r2∧a_ w' S3 (sl W Y c3) r3∧inI G∧inI H∧a_ w' S4 (sl a4 n4 c4) r6∧(S1++(S2++(S3++S4))).Nodup∧(∀ k∈(S1++(S2++(S3++S4))),w0.z≤k)) r
theorem W_w2j {x1:List UInt8} {res:d_×(List e_)×(List UInt8)×Int×Int×(List UInt8)} (hm:f_n n x1=some res) (hBw:B≤w0.z) (p1_0:repS w0 B (sl A0 N0 C0) x1):o_ prog 44 [sl A0 N0 C0] w0 (Q20 w0 B res):=by
 unfold f_n at hm
 refine goF func44 z z (lb z) fun fn hr=>Ws<|E z (fa d_z) ?_
 rintro _ ba ⟨rfl,aC⟩;have hf:=aC.below;have hg:Blk ba w0.z [sl none 0 0]:=aC.blk;refine Ra z<|Ra z<|Ra z<|Ra z<|Ra z<|Wn<|Ws<|Rm z ?_
 obtain ⟨_,_,_,bb,aY⟩:=r_ hm;refine E z (fc call35 z<|W_w2i (B:=B) bb (zt' hBw hf.s)<|p1_0.e hf) ?_;rintro _ wr ⟨sk,Y,ns,a0,bc,af,ah,ai,be,aj,ak,al,bf,rfl,hp,h4,hq,hl,I⟩;refine Rm z ?_
 iterate 3 refine R z (ext_ z z) ?_
 refine E z (fa d_z) ?_;rintro _ bg ⟨rfl,aD⟩;have J:=aD.below;have aE:Blk bg wr.z [sl none 0 0]:=aD.blk;refine E0 (fs (cur':=[sl Y ns a0]) t_ z z aE z (lb z) (oA z) z) ?_;rintro _ _ ⟨bh,bi⟩;have h5:=bi.one;refine Ra z<|Ra z<|Wn<|Ws<|Rm z ?_
 have am:=lt_ hf.s sk.s;have an:=lt_ (lt_ am J.s) h5.s;have aF:=zt' hBw an;obtain ⟨_,bj,aZ⟩:=bdS aY;refine E z (fc call51 z<|W_w13 (B:=B) bj aF<|p1_0.g<|(((hf.ag B).e sk).e J).c h5<|c_ (or0 (b_ lr)  (m_<|zt' hBw am) : ∀ k∈[wr.z],¬ B k)) ?_;rintro _ _ ⟨sb,gc,bk,bm,bn,rfl,aG,hd,ht,bo,bp⟩;refine Ra z<|Wn<|Ws<|Rm z<|Rm z ?_
 have a1:=((h4.e J).c h5<|ds<|mnr<|a_.lt h4).e sb;refine R z (lnR n_ z<|or_ a1<|zin (B:=B) (al_<|ar_ I)<|a_.lt h4)<|R z (add_ z z) ?_
 have ha : ∀ k∈[gc],¬ B k:=or0 (b_ hd)  (m_ aF);have aH:=lt_ an sb.s;obtain ⟨aI,_,_,bq,b0⟩:=r_ aZ;refine E z (fc call57 z<|a_V (B:=B) bq aG (zt' hBw aH) (atp ha) ht bo bp<|iA _ _) ?_;rintro _ _ ⟨G,rfl,_,bt,bu,bv⟩;refine R z (sb_ z z)<|Ra z<|Wn<|Ws<|Rm z ?_
 have aJ:=lt_ aH G.s;obtain ⟨ao,_,_,bw,b1⟩:=r_ b0;refine E z (fc call57 z<|a_V (B:=B) bw bv (zt' hBw aJ) (atp ha) (ht.c G<|c_ ha) bt bu<|ii z) ?_;rintro _ _ ⟨s2,rfl,bx,bz,bA,bB⟩;refine Ra z<|Wn<|Ws<|Rm z<|Rm z ?_
 have aK:=(G.agc B<|c_ ha).c s2<|c_ ha
 have aL:=lt_ aJ s2.s;obtain ⟨_,_,_,bC,b2⟩:=r_ b1;refine E z (fc call57 z<|a_V (B:=B) bC bB (zt' hBw aL) (atp ha) (ht.g aK) bz bA<|ii z) ?_;rintro _ _ ⟨s3,rfl,bD,bE,bF,bG⟩;have aM:=aK.c s3<|c_ ha
 have hu:=lt_ aL s3.s;obtain ⟨aN,aO,aP,bH,b3⟩:=r_ b2;refine E z (fc call56 z<|g_C (B:=B) bH bG (zt' hBw hu) (atp ha) (ht.g aM) bE bF bD) ?_;rintro _ wh ⟨s1,aQ,aR,aS,a2,rfl,ap,aq,ar,au,bI,hi⟩;refine Ra z<|Wn<|Wq<|Wq ?_
 obtain ⟨bJ,az,b4⟩:=bdS b3;refine Wt (fun a w=>∃ (av:Bool) (a3:Int) (a4:Int),(av,a3,a4)=bJ∧Sat 67 [(2,pt w0.z),(8,pt wr.z),(9,sl af ah ai),(10,sl aj ak al),(12,vI<|I_ aI 1),(13,vI ao),(14,sl aQ aR aS),(49,vB av)] a∧Chg (· ∈ [gc]) wh w∧inI a3∧inI a4∧Blk w gc [sl bk bm bn,vI a3,vI a4]) ?_ ?_
 ·refine Wg<|Rm z<|Rm z<|R z (lnR n_ z<|or_ ap<|zin (B:=B) hi<|a_.lt ap)<|R z (eql z z)<|Rm z ?_
  rcases bs (ao==(aN.length:Int)) with H | H
  ·refine Rh z H (mv z)<|Rh z H (mv z) ?_
   have a5:=a_H (b_ hd) (a_.lt h4)<|lt_ J.s h5.s
   refine Rh z H (lnR n_ z<|or_ ((((a1.c G<|ds a5).c s2<|ds a5).c s3<|ds a5).c s1<|ds a5)<|zin (B:=B) (al_<|ar_ I)<|a_.lt h4)<|Rh z H (sb_ z z) ?_
   have aT:=lt_ hu s1.s;obtain ⟨bK,bL,aA⟩:=bdS<|ifT az H;refine Eg z z H z (fc call103 z<|b_d (B:=B) bL (zt' hBw aT) (iS _ _) (ii z)<|iS _ _) ?_;rintro _ aU ⟨sm,rfl⟩;refine R z (pT z H z)<|Rm z ?_
   rcases bs bK with hce | hce
   ·refine Rh z hce (mv z) ?_;obtain ⟨bN,bO,bP,bQ,b5⟩:=r_<|ifT aA hce;refine Eg z z hce z (fc call58 z<|g_B (B:=B) bQ (au.e sm) (zt' hBw<|lt_ aT sm.s) (atp ha) (ht.g<|(aM.c s1<|c_ ha).e sm) aq ar<|ii z) ?_;rintro _ bR ⟨bS,rfl,bT,bU,bV⟩;refine R z (pT z hce z)<|Wl ?_
    exact fun _ q=>⟨bN,bO,bP,som b5,q.k<|s8 z z z z z z z z,(cM (f_ (cr [gc] wh) sm:Chg (· ∈ [gc]) wh aU) bS (io sr):Chg (· ∈ [gc]) wh bR),bT,bU,bV⟩
   refine Nh z hce<|Nh z hce<|R z (pF z hce z)<|Wl ?_
   exact fun _ q=>⟨false,aO,aP,som<|ifF aA hce,q.k<|s8 z z z z z z z z,(f_ (cr [gc] wh) sm:Chg (· ∈ [gc]) wh aU),aq,ar,au.e sm⟩
  iterate 5 refine Nh z H ?_
  exact R z (pF z H z)<|Rm z<|Nh z z<|Nh z z<|R z (pF z z z)<|Wl (fun _ q=>⟨false,aO,aP,som<|ifF az H,q.k<|s8 z z z z z z z z,cr [gc] wh,aq,ar,au⟩)
 rintro bW wj ⟨av,a3,a4,rfl,_,s6,_,_,_⟩;revert bW;refine Wo ?_;obtain ⟨bX,aB,b6⟩:=bdS<|b_D b4;refine Wt (fun a w=>∃ (aw:List UInt8),aw=bX ∧ ∃ a6 a7 a8 Sn,Sat 67 [(2,pt w0.z),(8,pt wr.z),(9,sl af ah ai),(10,sl aj ak al),(12,vI<|I_ aI 1),(13,vI ao),(14,sl a6 a7 a8)] a∧Below wj.z wj w∧a_ w Sn (sl a6 a7 a8) aw∧Sn.Nodup∧(∀ k∈Sn,k∈a2∨wj.z≤k)) ?_ ?_
 ·refine Wc z (fun ae=>?_)<|fun ae=>?_
  ·refine Wg<|E z (f0 (α:=UInt8) R_) ?_
   rintro _ _ ⟨_,_,_,rfl,a9,bY⟩;refine Rm z<|Rm z<|Rm z ?_
   have hv:=a_H (b_ hd) (a_.lt h4)<|lt_ J.s h5.s
   have ax:=(((((a1.c G<|ds hv).c s2<|ds hv).c s3<|ds hv).c s1<|ds hv).c s6<|ds hv).e a9;refine R z (lnR n_ z<|or_ ax<|zin (B:=B) (al_<|ar_ I)<|a_.lt h4)<|Rm z<|Rm z<|R z (add_ z z) ?_
   obtain ⟨_,bZ,b7⟩:=bdS<|ifT aB ae;refine E z (fc call104 z<|e_8 (B:=B) bZ (zt' hBw<|lt_ (lt_ (lt_ hu s1.s) s6.s) a9.s) (a_M<|repS.len<|or_ ax<|zin (B:=B) (al_<|ar_ I)<|a_.lt h4)<|iA _ _) ?_;rintro _ _ ⟨aa,rfl,_⟩;obtain ⟨_,c0,b8⟩:=bdS b7;refine RX z (rX n_ z_5 z z (or_ (ax.e aa)<|zin (B:=B) (al_<|ar_ I)<|a_.lt h4) z z c0) ?_;rintro _ ⟨_,_,_,rfl,c1⟩;obtain ⟨c2,c3,b9⟩:=bdS b8;refine E z (fN (α:=UInt8) R_ c3 z z (bY.e aa) a_h c1) ?_;rintro _ _ ⟨aV,c4,c5,c6,rfl,c7,c8,c9,ca⟩;refine Ra z<|Wl ?_
   exact fun _ q=>⟨c2,som b9,c4,c5,c6,aV,q.k<|s7 z z z z z z z,bM (bup a9 aa) c7<|b_ lr,c8,c9,(or1 ca (mor lr : ∀ k∈[wj.z],k∈a2∨wj.z≤k) (z_<|lt_ a9.s aa.s) : ∀ k∈aV,k∈a2∨wj.z≤k)⟩
  exact a_g<|fun _ q=>⟨aN,som<|ifF aB ae,aQ,aR,aS,a2,q.k<|s7 z z z z z z z,br wj,ap.c s6<|k_ hi (Blk.lt aG)<|lt_ (lt_ G.s s2.s) s3.s,bI,io sr⟩
 rintro cb _ ⟨aw,rfl,a6,a7,a8,Sn,_,so,cc,cd,hw⟩;revert cb;refine Wo<|Ws ?_
 have hx:=k_ (b_ hd) aE.lt h5.s;refine R z (lN (vs:=[sl Y ns a0]) y_ t_ z z fid<|(((((((bh.e sb).c G<|djs hx).c s2<|djs hx).c s3<|djs hx).c s1<|djs hx).c s6<|djs hx).e so).row 0 1 z)<|Rm z<|Rm z<|Rm z<|Rm z<|Rm z ?_
 have aW:=lt_ (lt_ sk.s J.s) h5.s;have hy:=k_ (b_ hd) hg.lt aW;refine E0 (fs (cur':=[sl Y ns a0]) t_ z z ((((((((((hg.e sk).e J).c h5<|djs<|mm1 hg.lt sk.s).e sb).c G<|djs hy).c s2<|djs hy).c s3<|djs hy).c s1<|djs hy).c s6<|djs hy).e so) z (lb z) (oA z) z) ?_;rintro _ _ ⟨ce,cf⟩;have hz:=cf.one;refine Ra z<|Ra z<|Ra z<|Ra z<|Ra z<|Wn ?_
 obtain rfl:=som b6;have ab:=lt_ J.s h5.s;have L:=a_H (b_ hd) (a_.lt hp) ab;have O:=a_H (b_ hd) (a_.lt hq) ab;have V:=a_H (b_ hd) (a_.lt h4) ab;have aX:=lt_ (lt_ (lt_ (lt_ aW sb.s) G.s) s2.s) s3.s;have W:=l_ (b_ hd) an;have ad:=lt_ (lt_ (lt_ (lt_ ab sb.s) G.s) s2.s) s3.s;have ay:=lt_ (lt_ ad s1.s) s6.s;exact Wr<|ret6 hr (q_ y_ t_ z ce z) z z z z z ⟨bM (bup (bM (bM (bM (bM (bM (bup (bM (bup (bup hf sk) J) h5<|m1 am) sb) G W) s2 W) s3 W) s1 W) s6 W) so) hz<|b_ lr,Y,ns,a0,bc,aj,ak,al,bf,af,ah,ai,be,a6,a7,a8,Sn,z,(((((((((hp.e J).c h5<|ds<|mnr<|a_.lt hp).e sb).c G<|ds L).c s2<|ds L).c s3<|ds L).c s1<|ds L).c s6<|ds L).e so).c hz<|k_ (al_ I) hg.lt lr,(((((((((hq.e J).c h5<|ds<|mnr<|a_.lt hq).e sb).c G<|ds O).c s2<|ds O).c s3<|ds O).c s1<|ds O).c s6<|ds O).e so).c hz<|k_ (ar_<|ar_ I) hg.lt lr,((((((a1.c G<|ds V).c s2<|ds V).c s3<|ds V).c s1<|ds V).c s6<|ds V).e so).c hz<|k_ (al_<|ar_ I) hg.lt lr,iS _ _,bx,cc.c hz (or1 hw (k_ hi hg.lt aX) (P_ (b_ hg.lt)<|lt_ (lt_ aX s1.s) s6.s) : ∀ k∈Sn,k∉[w0.z]),na_ (nl_ hl) (na_ (nr_<|nr_ hl) (na_ (nl_<|nr_ hl) cd<|ds<|e_o hw (a_H hi (a_.lt h4) ad) (a_.lt h4) ay)<|nmA (ds<|nj<|nr_ hl)<|ds<|e_o hw (a_H hi (a_.lt hq) ad) (a_.lt hq) ay)<|nmA (nmR<|nj hl)<|nmA (nmL<|nj hl)<|ds<|e_o hw (a_H hi (a_.lt hp) ad) (a_.lt hp) ay,aa_ (l_ (al_ I) hf.s)<|aa_ (l_ (ar_<|ar_ I) hf.s)<|aa_ (l_ (al_<|ar_ I) hf.s)<|a_2 hw (l_ hi hu)<|lt_ (lt_ hu s1.s) s6.s⟩
theorem W_w2k {x1:List UInt8} {x2:Int} {x3:Int} {x4:List UInt8} {res:(List UInt8)×Bool} (hm:f_Y x1 x2 x3 x4=some res) (hBw:B≤w0.z) (p1_0:repS w0 B (sl A0 N0 C0) x1) (p2_0:inI x2) (p3_0:inI x3) (p4_0:repS w0 B (sl AI NI CI) x4):o_ prog 60 [sl A0 N0 C0,vI x2,vI x3,sl AI NI CI] w0 (Q13 w0 B res):=by
 unfold f_Y at hm
 refine goF func60 z z (lb z) fun fn hr=>Ws<|Ra z<|Ra z<|Wn<|Wq<|Wq ?_
 obtain ⟨um,huc,hmd⟩:=bdS hm;refine Wt (fun a w=>∃ (x5:Bool),x5=um∧Sat 54 [(0,sl A0 N0 C0),(1,vI x2),(2,vI x3),(3,sl AI NI CI),(30,vB x5)] a∧Below w0.z w0 w) ?_ ?_
 ·refine Wg<|Rm z<|R z (lss z z)<|Rm z ?_
  rcases bs (decide<|x2<0) with I | I
  ·exact Nh z I<|Nh z I<|R z (pT z I z)<|Rm z<|Nh z z<|Nh z z<|Nh z z<|Nh z z<|R z (pT z z z)<|Rm z<|Nh z z<|Nh z z<|Nh z z<|Nh z z<|Nh z z<|Nh z z<|R z (pT z z z)<|Wl (fun _ q=>⟨true,som<|ifT huc I,q.k<|s5 z z z z z,br w0⟩)
  have hme:=ifF huc I;refine Rh z I (mv z)<|Rh z I (lss z z)<|R z (pF z I z)<|Rm z ?_
  rcases bs (decide<|x3<0) with H | H
  ·iterate 4 refine Nh z H ?_
   exact R z (pT z H z)<|Rm z<|Nh z z<|Nh z z<|Nh z z<|Nh z z<|Nh z z<|Nh z z<|R z (pT z z z)<|Wl (fun _ q=>⟨true,som<|ifT hme H,q.k<|s5 z z z z z,br w0⟩)
  have hmf:=ifF hme H;refine Rh z H (mv z)<|Rh z H (mv z)<|Rh z H (lnR n_ z p1_0)<|Rh z H (a_9 z z)<|R z (pF z H z)<|Rm z ?_
  rcases bs (decide<|(x1.length:Int)<x2) with G | G
  ·iterate 6 refine Nh z G ?_
   exact R z (pT z G z)<|Wl (fun _ q=>⟨true,som<|ifT hmf G,q.k<|s5 z z z z z,br w0⟩)
  exact Rh z G (mv z)<|Rh z G (mv z)<|Rh z G (lnR n_ z p1_0)<|Rh z G (mv z)<|Rh z G (sb_ z z)<|Rh z G (a_9 z z)<|R z (pF z G z)<|Wl (fun _ q=>⟨decide<|(I_ (x1.length:Int) x2)<x3,som<|ifF hmf G,q.k<|s5 z z z z z,br w0⟩)
 rintro aq wr ⟨x5,rfl,_,s3⟩;revert aq;refine Wo<|Wc z (fun J=>?_) (fun J=>?_)
 ·refine Ws<|E z (f0 (α:=UInt8) R_) ?_
  rintro _ _ ⟨_,_,_,rfl,s6,ht⟩;refine Rm z ?_;obtain ⟨_,es,hmu⟩:=bdS<|ifT hmd J;refine E z (fN (α:=UInt8) R_ es z z ht a_h<|p1_0.g<|(s3.ag B).e s6) ?_;rintro _ _ ⟨Sv,aw,nx,cy,rfl,sz,a0,a1,a2⟩;refine Ra z<|Ra z<|Wn ?_
  obtain rfl:=som hmu;have hg:=m1 s3.s;exact Wr<|a_R hr z z ⟨bM (bup s3 s6) sz hg,aw,nx,cy,Sv,z,a0,a1,a_2 a2 hg<|lt_ s3.s s6.s⟩
 refine Wk<|Ws<|E z (f0 (α:=UInt8) R_) ?_
 rintro _ _ ⟨_,_,_,rfl,s7,a3⟩;refine Rm z<|Rm z<|Rm z ?_
 obtain ⟨_,a4,L⟩:=bdS<|ifF hmd J;have hh:=(s3.ag B).e s7;refine RX z (j_V n_ z_5 z z (p1_0.g hh) z z z a4) ?_;rintro _ ⟨_,_,_,rfl,a5⟩;obtain ⟨_,a6,O⟩:=bdS L;refine E z (fN (α:=UInt8) R_ a6 z z a3 a_h a5) ?_;rintro _ _ ⟨a7,_,_,_,rfl,s8,a8,a9,hi⟩;refine Ra z<|Wn<|Ws<|Rm z<|Rm z ?_
 obtain ⟨_,aa,V⟩:=bdS O;have hj : ∀ k∈[wr.z],¬ B k:=or0 (b_ lr)  (m_<|zt' hBw s3.s);have hk:=hh.c s8<|c_ hj
 refine E z (fN (α:=UInt8) R_ aa z z a8 a9<|p4_0.g hk) ?_;rintro _ _ ⟨_,_,_,_,rfl,s9,ab,ad,ae⟩;refine Ra z<|Wn<|Ws<|Rm z<|Rm z<|Rm z<|Rm z<|R z (add_ z z)<|Rm z ?_
 have ha:=lt_ s3.s s7.s;have hb:=p1_0.g<|hk.c s9<|c_ (or1 hi hj (m_<|zt' hBw ha) : ∀ k∈a7,¬ B k)
 refine R z (lnR n_ z hb)<|Rm z<|R z (lnR n_ z hb) ?_
 obtain ⟨_,af,W⟩:=bdS V;refine RX z (j_V n_ z_5 z z hb z z z af) ?_;rintro _ ⟨_,_,_,rfl,ah⟩;obtain ⟨_,ai,Y⟩:=bdS W;refine E z (fN (α:=UInt8) R_ ai z z ab ad ah) ?_;rintro _ _ ⟨aj,ak,al,am,rfl,an,ao,ap,ar⟩;refine Ra z<|Ra z<|Wn ?_
 obtain rfl:=som Y;have hl:=m1 s3.s;have hn:=a_2 hi hl ha;have ho:=lt_ ha s8.s;have hp:=a_2 ae hn ho;exact Wr<|a_R hr z z ⟨bM (bM (bM (bup s3 s7) s8 hl) s9 hn) an hp,ak,al,am,aj,z,ao,ap,a_2 ar hp<|lt_ ho s9.s⟩
theorem i_u {x1:d_} {res:Int} (hm:e_v x1=some res) (hBw:B≤w0.z) (p1_0:repS w0 B (sl A0 N0 C0) x1.rules):o_ prog 96 [(.agg #[sl A0 N0 C0])] w0 (Q9 w0 B res):=by
 unfold e_v at hm
 refine goF func96 z z (lb z) fun fn hr=>Ws<|E z (fb z) ?_
 rintro _ H ⟨rfl,G⟩;have h1:=G.below;refine Ra z<|Wn<|Ws<|R z (fd X_ z)<|R z (l1 a_0 z fid<|(G.blk:Blk H w0.z [sl A0 N0 C0]).at z)<|R z (lnR a_1 z<|p1_0.e h1)<|R z (sb_ z z)<|Ra z<|Wn ?_
 obtain rfl:=som hm;exact Wr<|h_ hr z ⟨h1,z,iS _ _⟩
theorem d_1 {x1:Int} {x2:Int} {x3:Int} {res:Bool} (hm:b_U x1 x2 x3=some res) (hBw:B≤w0.z) (p1_0:inI x1) (p2_0:inI x2) (p3_0:inI x3):o_ prog 168 [vI x1,vI x2,vI x3] w0 (Q0 w0 B res):=by
 unfold b_U at hm
 refine goF func168 z z (lb z) fun fn hr=>Ws<|Ra z<|Wn<|Wq ?_
 obtain ⟨J,H,I⟩:=bdS hm;refine Wt (fun a w=>∃ (x4:Bool),x4=J∧Sat 15 [(6,vB x4)] a∧Below w0.z w0 w) ?_ ?_
 ·refine Wg<|Rm z<|Rm z<|R z (b_y z z)<|Rm z ?_
  rcases bs (decide<|x2≤x1) with G | G
  ·exact Rh z G (mv z)<|Rh z G (mv z)<|Rh z G (b_y z z)<|R z (pT z G z)<|Ra z<|Wl (fun _ q=>⟨decide<|x1≤x3,som<|ifT H G,q.k<|s1 z,br w0⟩)
  iterate 3 refine Nh z G ?_
  exact R z (pF z G z)<|Ra z<|Wl (fun _ q=>⟨false,som<|ifF H G,q.k<|s1 z,br w0⟩)
 rintro L _ ⟨x4,rfl,_,s6⟩;revert L;refine Wo ?_;obtain rfl:=som I;exact Wr<|h_ hr z ⟨s6,z⟩
theorem i_v {x1:d_} {x2:Int} {res:Bool} (hm:d_i x1 x2=some res) (hBw:B≤w0.z) (p1_0:repS w0 B (sl A0 N0 C0) x1.rules) (p2_0:inI x2):o_ prog 199 [(.agg #[sl A0 N0 C0]),vI x2] w0 (Q0 w0 B res):=by
 unfold d_i at hm
 refine goF func199 z z (lb z) fun fn hr=>Ws<|E z (fb z) ?_
 rintro _ H ⟨rfl,h2⟩;have h4:=h2.below;refine Ra z<|Wn<|Wq ?_
 obtain ⟨L,I,J⟩:=bdS hm;refine Wt (fun a w=>∃ (x3:Bool),x3=L∧Sat 14 [(4,vB x3)] a∧Below H.z H w) ?_ ?_
 ·refine Wg<|Rm z<|R z (b_r z z)<|Rm z ?_
  rcases bs (decide<|0≤x2) with G | G
  ·exact Rh z G (mv z)<|Rh z G (fd X_ z)<|Rh z G (l1 a_0 z fid<|(h2.blk:Blk H w0.z [sl A0 N0 C0]).at z)<|Rh z G (lnR a_1 z<|p1_0.e h4)<|Rh z G (lss z z)<|R z (pT z G z)<|Ra z<|Wl (fun _ q=>⟨decide<|x2<(x1.rules.length:Int),som<|ifT I G,q.k<|s1 z,br H⟩)
  iterate 5 refine Nh z G ?_
  exact R z (pF z G z)<|Ra z<|Wl (fun _ q=>⟨false,som<|ifF I G,q.k<|s1 z,br H⟩)
 rintro O _ ⟨x3,rfl,_,sa⟩;revert O;refine Wo ?_;obtain rfl:=som J;exact Wr<|h_ hr z ⟨bup h4 sa,z⟩
theorem W_w1f {x1:Str} {res:Bool} (hm:d_P n x1=some res) (hBw:B≤w0.z) (p1_0:x1.b.length≤LEN):o_ prog 197 [Str.v x1] w0 (Q0 w0 B res):=by
 unfold d_P at hm
 refine goF func197 z z (lb z) fun fn hr=>Ws<|Ra z<|Wn<|Wq<|Wq ?_
 obtain ⟨a8,huo,hmp⟩:=bdS hm;refine Wt (fun a w=>∃ (xg:Bool),xg=a8∧Sat 43 [(0,Str.v x1),(14,vB xg)] a∧Below w0.z w0 w) ?_ ?_
 ·refine Wg<|Rm z<|R z (lnT d_9 z)<|R z (lss z z)<|Rm z ?_
  rcases bs (decide<|(x1.b.length:Int)<1) with J | J
  ·iterate 3 refine Nh z J ?_
   exact R z (pT z J z)<|Wl (fun _ q=>⟨true,som<|ifT huo J,q.k<|s2 z z,br w0⟩)
  exact Rh z J (mv z)<|Rh z J (lnT d_9 z)<|Rh z J (a_9 z z)<|R z (pF z J z)<|Wl (fun _ q=>⟨decide<|12<(x1.b.length:Int),som<|ifF huo J,q.k<|s2 z z,br w0⟩)
 rintro a9 G ⟨xg,rfl,_,s9⟩;revert a9;refine Wo<|Wc z (fun hch=>?_) (fun hch=>?_)
 ·refine Ws<|Ra z<|Wn ?_
  obtain rfl:=som<|ifT hmp hch;exact Wr<|h_ hr z ⟨s9,z⟩
 refine Wk<|Wq<|Ws<|Rm z<|E z (m_i d_9 z) ?_
 rintro _ I ⟨rfl,sq,aa⟩;refine Wn ?_;obtain ⟨_,a1,hmr⟩:=bdS<|ifF hmp hch;refine b_Y (σ:=Nat) (ρ:=Bool) (fun (x0:Nat) a w=>Sat 43 [(16,pt G.z)] a∧Chg (· ∈ [G.z]) I w∧b_a w G.z x1 x0) (fun (x0:Nat) a w=>Sat 43 [] a∧Chg (· ∈ [G.z]) I w∧b_a w G.z x1 x0) (fun r ex a w=>ex = .ret∧L_ prog fn (Q0 w0 B r) a w) a1 ?_ ?_ ?_ ?_
 ·exact fun _ q=>⟨q.k<|s1 z,cr [G.z] I,aa⟩
 ·rintro x0 _ ws _ ⟨a2,si,he⟩ hmt;refine Wu ?_ a2;refine Ws ?_
  rcases bs (decide<|x0<x1.b.length) with hca | hca
  ·refine E z (m_j z he<|of_decide_eq_true hca) ?_;rintro _ wb ⟨rfl,ab,su⟩;refine R z (ext_ z z)<|Wn<|Wq<|Wc z (fun _=>?_) (fun hc=>(bcon z hc).elim)
   refine Wk<|Wb<|Ws<|R z (ext_ z z)<|R z (ext_ z z)<|Ra z<|Ra z<|Wn<|Wq ?_
   obtain ⟨ad,huv,a3⟩:=bdS<|ifT hmt hca;refine Wt (fun a w=>∃ (xc:Bool),xc=ad∧Sat 43 [(3,vI (x0:Int)),(4,.int .i32<|(dec x1 x0).1),(5,vB xc),(16,pt G.z)] a∧Below wb.z wb w) ?_ ?_
   ·refine Wg<|Rm z<|R z (b_r z z)<|Rm z ?_
    rcases bs (decide<|97≤((dec x1 x0).1)) with L | L
    ·exact Rh z L (mv z)<|Rh z L (b_y z z)<|R z (pT z L z)<|Ra z<|Wl (fun _ q=>⟨decide<|((dec x1 x0).1)≤122,som<|ifT huv L,q.k<|s4 z z z z,br wb⟩)
    exact Nh z L<|Nh z L<|R z (pF z L z)<|Ra z<|Wl (fun _ q=>⟨false,som<|ifF huv L,q.k<|s4 z z z z,br wb⟩)
   rintro ae wd ⟨xc,rfl,_,sj⟩;revert ae;refine Wo<|Wq ?_
   obtain ⟨af,huw,a4⟩:=bdS a3;refine Wt (fun a w=>∃ (xf:Bool),xf=af∧Sat 43 [(3,vI (x0:Int)),(5,vB xc),(6,vB xf),(16,pt G.z)] a∧Below wd.z wd w) ?_ ?_
   ·refine Wg<|Rm z<|R z (b_r z z)<|Rm z ?_
    rcases bs (decide<|48≤((dec x1 x0).1)) with O | O
    ·exact Rh z O (mv z)<|Rh z O (b_y z z)<|R z (pT z O z)<|Ra z<|Wl (fun _ q=>⟨decide<|((dec x1 x0).1)≤57,som<|ifT huw O,q.k<|s4 z z z z,br wd⟩)
    exact Nh z O<|Nh z O<|R z (pF z O z)<|Ra z<|Wl (fun _ q=>⟨false,som<|ifF huw O,q.k<|s4 z z z z,br wd⟩)
   rintro ah W ⟨xf,rfl,_,sk⟩;revert ah;refine Wo<|Wq ?_
   obtain ⟨ai,hux,hmy⟩:=bdS a4;refine Wt (fun a w=>∃ (xl:Bool),xl=ai∧Sat 43 [(16,pt G.z),(42,vB xl)] a∧Below W.z W w) ?_ ?_
   ·refine Wg<|Rm z<|R z (not_ z)<|Rm z ?_
    rcases bs (!xc) with H | H
    ·have hmz:=ifT hux H;refine Rh z H (mv z)<|Rh z H (not_ z)<|Rh z H (mv z) ?_
     rcases bs (!xf) with V | V
     ·exact Nh z V<|Nh z V<|Rh z H (pT z V z)<|R z (pT z H z)<|Wl (fun _ q=>⟨true,som<|ifT hmz V,q.k<|s2 z z,br W⟩)
     exact Rh z V (mv z)<|Rh z V (eql z z)<|Rh z H (pF z V z)<|R z (pT z H z)<|Wl (fun _ q=>⟨(x0:Int)==0,som<|ifF hmz V,q.k<|s2 z z,br W⟩)
    iterate 3 refine Nh z H ?_
    exact Nv z<|Nv z<|Nh z H<|R z (pF z H z)<|Wl (fun _ q=>⟨false,som<|ifF hux H,q.k<|s2 z z,br W⟩)
   rintro aj ak ⟨xl,rfl,_,sm⟩;revert aj;refine Wo<|Wc z (fun hcn=>?_) (fun hcn=>?_)
   ·refine Ws<|Ra z<|Wn ?_
    have Y:=m1 s9.s;exact Wr<|rtO<|qL (som<|ifT hmy hcn).symm<|h_ hr z ⟨bup (bup (bup (bM (bM (bup s9 sq) si Y) su Y) sj) sk) sm,z⟩
   refine a_g ?_;exact fun _ q=>⟨x0+(dec x1 x0).2,(som<|ifF hmy hcn).symm,⟨q.k<|s1 z,(f_ (f_ (f_ (cM (cM (cr [G.z] I) si (io sr):Chg (· ∈ [G.z]) I ws) su (io sr):Chg (· ∈ [G.z]) I wb) sj:Chg (· ∈ [G.z]) I wd) sk:Chg (· ∈ [G.z]) I W) sm:Chg (· ∈ [G.z]) I ak),((ab.e sj).e sk).e sm⟩⟩
  refine E z (m_k z he<|of_decide_eq_false hca) ?_;rintro _ al ⟨rfl,a0⟩;refine R z (ext_ z z)<|Wn<|Wq<|Wc z (fun hc=>(bcon hc z).elim) (fun _=>?_)
  exact We<|fun a' ha'=>b_w (som<|ifF hmt hca).symm ⟨Sat.weaken ha' sn,(f_ (cM (cr [G.z] I) si (io sr):Chg (· ∈ [G.z]) I ws) a0:Chg (· ∈ [G.z]) I al),he.e a0⟩
 ·rintro x0 am _ rfl ⟨_,an,he⟩;have a5:=elL hmr;revert am;refine Wo<|Ws<|Ra z<|Wn ?_
  obtain rfl:=som a5;exact Wr<|h_ hr z ⟨bM (bup s9 sq) an<|m1 s9.s,z⟩
 rintro _ _ _ _ rfl ⟨rfl,a6⟩;have a7:=elR hmr;obtain rfl:=som a7;exact ⟨a6,z⟩
theorem c_J {x1:g_} {x2:Bool} {x3:Bool} {x4:Bool} {x5:Bool} {x6:Int} {res:Bool} (hm:b_V x1 x2 x3 x4 x5 x6=some res) (hBw:B≤w0.z) (p1_0:x1.name.b.length≤LEN) (p1_1:inI x1.kind) (p1_2:inI x1.size) (a0:repS w0 B (sl AB NB CB) x1.bytes) (a1:repS w0 B (sl A8 N8 C8) x1.names) (a2:repS w0 B (sl AC NC CC) x1.tags) (a3:repS w0 B (sl AD ND CD) x1.kids) (p6_0:inI x6):o_ prog 248 [(.agg #[Str.v x1.name,vI x1.kind,vI x1.size,vB x1.little,sl AB NB CB,sl A8 N8 C8,sl AC NC CC,sl AD ND CD]),vB x2,vB x3,vB x4,vB x5,vI x6] w0 (Q0 w0 B res):=by
 unfold b_V at hm
 refine goF func248 z z (lb z) fun fn hr=>Ws<|E z (fb z) ?_
 rintro _ w9 ⟨rfl,hd⟩;have ha:=hd.below;have hb:Blk w9 w0.z (vR x1 AB NB CB A8 N8 C8 AC NC CC AD ND CD):=hd.blk;refine Ra z<|Wn<|Wq ?_
 obtain ⟨ur,hus,hmt⟩:=bdS hm;refine Wt (fun a w=>∃ (xc:Bool),xc=ur∧Sat 57 [(12,vB xc)] a∧Below w9.z w9 w) ?_ ?_
 ·refine Wg<|Rm z<|Rm z ?_
  obtain ⟨ue,huf,hmu⟩:=bdS hus;refine c_C 18 ue 4 ?_ ?_
  ·rcases bs x2 with Y | Y
   ·iterate 3 refine Nh z Y ?_
    exact R z (pT z Y z)<|WLq 4 (ifT huf Y) z z z
   exact Rh z Y (fd a_t z)<|Rh z Y (l1 g_3 z fid<|hb.at z)<|Rh z Y (eql z z)<|R z (pF z Y z)<|WLq 4 (ifF huf Y) z z z
  refine Rm z ?_;obtain ⟨ug,huh,hmv⟩:=bdS hmu;refine c_C 27 ug 8 ?_ ?_
  ·rcases bs ue with G | G
   ·have hmi:=ifT huh G;refine Rh z G (mv z)<|Rh z G (mv z) ?_
    rcases bs x3 with O | O
    ·iterate 4 refine Nh z O ?_
     exact Rh z G (pT z O z)<|R z (pT z G z)<|WLq 8 (ifT hmi O) z z z
    exact Rh z O (fd a_K z)<|Rh z O (l1 Q_ z fid<|hb.at z)<|Rh z O (lnR n_ z<|a0.e ha)<|Rh z O (eql z z)<|Rh z G (pF z O z)<|R z (pT z G z)<|WLq 8 (ifF hmi O) z z z
   exact Nh z G<|Nh z G<|Nv z<|Nv z<|Nv z<|Nv z<|Nh z G<|R z (pF z G z)<|WLq 8 (ifF huh G) z z z
  refine Rm z ?_;obtain ⟨uj,huk,hmw⟩:=bdS hmv;refine c_C 36 uj 8 ?_ ?_
  ·rcases bs ug with H | H
   ·have hml:=ifT huk H;refine Rh z H (mv z)<|Rh z H (mv z) ?_
    rcases bs x4 with V | V
    ·iterate 4 refine Nh z V ?_
     exact Rh z H (pT z V z)<|R z (pT z H z)<|WLq 8 (ifT hml V) z z z
    exact Rh z V (fd b_P z)<|Rh z V (l1 b_Z z fid<|hb.at z)<|Rh z V (lnR a_N z<|a1.e ha)<|Rh z V (eql z z)<|Rh z H (pF z V z)<|R z (pT z H z)<|WLq 8 (ifF hml V) z z z
   exact Nh z H<|Nh z H<|Nv z<|Nv z<|Nv z<|Nv z<|Nh z H<|R z (pF z H z)<|WLq 8 (ifF huk H) z z z
  refine Rm z ?_;obtain ⟨um,hun,hmo⟩:=bdS hmw;refine c_C 45 um 8 ?_ ?_
  ·rcases bs uj with I | I
   ·have hmp:=ifT hun I;refine Rh z I (mv z)<|Rh z I (mv z) ?_
    rcases bs x5 with W | W
    ·iterate 4 refine Nh z W ?_
     exact Rh z I (pT z W z)<|R z (pT z I z)<|WLq 8 (ifT hmp W) z z z
    exact Rh z W (fd a_L z)<|Rh z W (l1 B_ z fid<|hb.at z)<|Rh z W (lnR w_ z<|a2.e ha)<|Rh z W (eql z z)<|Rh z I (pF z W z)<|R z (pT z I z)<|WLq 8 (ifF hmp W) z z z
   exact Nh z I<|Nh z I<|Nv z<|Nv z<|Nv z<|Nv z<|Nh z I<|R z (pF z I z)<|WLq 8 (ifF hun I) z z z
  refine Rm z ?_
  rcases bs um with J | J
  ·have hmq:=ifT hmo J;refine Rh z J (mv z)<|Rh z J (lss z z)<|Rh z J (mv z) ?_
   rcases bs (decide<|x6<0) with L | L
   ·iterate 5 refine Nh z L ?_
    exact Rh z J (pT z L z)<|R z (pT z J z)<|Ra z<|Wl (fun _ q=>⟨true,som<|ifT hmq L,q.k<|s1 z,br w9⟩)
   exact Rh z L (fd K_ z)<|Rh z L (l1 B_ z fid<|hb.at z)<|Rh z L (lnR w_ z<|a3.e ha)<|Rh z L (mv z)<|Rh z L (eql z z)<|Rh z J (pF z L z)<|R z (pT z J z)<|Ra z<|Wl (fun _ q=>⟨(x1.kids.length:Int)==x6,som<|ifF hmq L,q.k<|s1 z,br w9⟩)
  iterate 3 refine Nh z J ?_
  exact Nv z<|Nv z<|Nv z<|Nv z<|Nv z<|Nh z J<|R z (pF z J z)<|Ra z<|Wl (fun _ q=>⟨false,som<|ifF hmo J,q.k<|s1 z,br w9⟩)
 rintro ax _ ⟨xc,rfl,_,sy⟩;revert ax;refine Wo ?_;obtain rfl:=som hmt;exact Wr<|h_ hr z ⟨bup ha sy,z⟩
theorem i_w {x1:d_} {x2:Int} {res:Int} (hm:d_Q x1 x2=some res) (hBw:B≤w0.z) (p1_0:repS w0 B (sl A0 N0 C0) x1.rules) (p2_0:inI x2):o_ prog 249 [(.agg #[sl A0 N0 C0]),vI x2] w0 (Q9 w0 B res):=by
 unfold d_Q at hm
 refine goF func249 z z (lb z) fun fn hr=>Ws<|E z (fb z) ?_
 rintro _ J ⟨rfl,O⟩;have h2:=O.below;have h6:Blk J w0.z [sl A0 N0 C0]:=O.blk;refine Ra z<|Wn<|Wq<|Wq ?_
 obtain ⟨uf,hug,hma⟩:=bdS hm;refine Wt (fun a w=>∃ (L:Bool),L=uf∧Sat 37 [(1,vI x2),(2,pt w0.z),(27,vB L)] a∧Below J.z J w) ?_ ?_
 ·refine Wg<|R z (lN (vs:=[sl A0 N0 C0]) y_ t_ z z fid<|h6.row 0 1 z)<|Rm z ?_
  obtain ⟨rh,ei,hmb⟩:=bdS hug;refine E z (fc call199 z<|i_v (B:=B) ei (zt' hBw h2.s) (p1_0.e h2) p2_0) ?_;rintro _ _ ⟨s4,rfl⟩;refine R z (not_ z)<|Rm z ?_
  rcases bs (!rh) with H | H
  ·iterate 7 refine Nh z H ?_
   exact R z (pT z H z)<|Rm z<|Nh z z<|Nh z z<|Nh z z<|Nh z z<|Nh z z<|Nh z z<|Nh z z<|Nh z z<|R z (pT z z z)<|Wl (fun _ q=>⟨true,som<|ifT hmb H,q.k<|s3 z z z,s4⟩)
  refine Rh z H (fd X_ z) ?_;have hc:=h6.e s4;refine Rh z H (l1 a_0 z fid<|hc.at z)<|Rh z H (mv z) ?_
  obtain ⟨xj,ek,hmd⟩:=bdS<|ifF hmb H;have he:=p1_0.g<|(h2.ag B).e s4
  refine RXg z z H z (at_ (α:=g_) a_1 p_ z z z he ek) ?_;rintro _ ⟨_,_,_,rfl,hl,hn,_⟩;obtain ⟨_,_,_,_,_,_,_,_,_,_,_,_,rfl,_,_,_,_,_,_,_⟩:=a_z hn;refine Rh z H (fd a_x z)<|Rh z H (l1 g_3 z fid<|hl.at (j:=1) z)<|Rh z H (nq z z)<|R z (pF z H z)<|Rm z ?_
  rcases bs (xj.kind != 1) with G | G
  ·iterate 8 refine Nh z G ?_
   exact R z (pT z G z)<|Wl (fun _ q=>⟨true,som<|ifT hmd G,q.k<|s3 z z z,s4⟩)
  refine Rh z G (fd X_ z)<|Rh z G (l1 a_0 z fid<|hc.at z)<|Rh z G (mv z) ?_
  obtain ⟨_,em,hmo⟩:=bdS<|ifF hmd G;refine RXg z z G z (at_ (α:=g_) a_1 p_ z z z he em) ?_;rintro _ ⟨_,_,_,rfl,hp,hq,_⟩;obtain ⟨_,_,_,_,_,_,_,_,_,_,_,_,rfl,_,_,ht,_,_,_,_⟩:=a_z hq;refine Rh z G (fd a_t z)<|Rh z G (l1 g_3 z fid<|hp.at (j:=2) z) ?_
  obtain ⟨rr,es,hmu⟩:=bdS hmo;refine Eg z z G z (fc call168 z<|d_1 (B:=B) es (zt' hBw<|lt_ h2.s s4.s) ht (ii z)<|ii z) ?_;rintro _ _ ⟨sv,rfl⟩;exact Rh z G (not_ z)<|R z (pF z G z)<|Wl (fun _ q=>⟨!rr,som hmu,q.k<|s3 z z z,bup s4 sv⟩)
 rintro aw _ ⟨L,rfl,_,s5⟩;revert aw;refine Wo<|Wc z (fun I=>?_) (fun I=>?_)
 ·refine Ws<|Ra z<|Wn ?_
  obtain rfl:=som<|ifT hma I;exact Wr<|h_ hr z ⟨bup h2 s5,z,ii z⟩
 refine Wk<|Ws<|R z (fd X_ z)<|R z (l1 a_0 z fid<|(h6.e s5).at z)<|Rm z ?_
 obtain ⟨_,ex,hmy⟩:=bdS<|ifF hma I;refine RX z (at_ (α:=g_) a_1 p_ z z z (p1_0.g<|(h2.ag B).e s5) ex) ?_;rintro _ ⟨_,_,_,rfl,hz,W,_⟩;obtain ⟨_,_,_,_,_,_,_,_,_,_,_,_,rfl,_,_,_,_,_,_,_⟩:=a_z W;refine R z (fd a_t z)<|R z (l1 g_3 z fid<|hz.at (j:=2) z)<|R z (c_K z z) ?_
 obtain ⟨_,Y,V⟩:=bdS hmy;refine R z (g_O z z<|nnS Y)<|R z (sb_ z z)<|Ra z<|Wn ?_
 obtain rfl:=som V;exact Wr<|h_ hr z ⟨bup h2 s5,z,iS _ _⟩
theorem W_w2l {x1:List Str} {x2:Str} {res:Bool} (hm:e_u x1 x2=some res) (hBw:B≤w0.z) (p1_0:repS w0 B (sl A0 N0 C0) x1) (p2_0:x2.b.length≤LEN):o_ prog 202 [sl A0 N0 C0,Str.v x2] w0 (Q0 w0 B res):=by
 unfold e_u at hm
 refine goF func202 z z (lb z) fun fn hr=>Ws<|Ra z<|Wn<|Wq<|Ws<|Rm z<|R z (lnR a_N z p1_0)<|Rm z<|Wn ?_
 obtain ⟨_,O,I⟩:=bdS hm;refine Wf (σ:=Unit) (ρ:=Bool) (fun (k3:Nat) (_:Unit) a w=>Sat 17 [(1,Str.v x2),(7,sl A0 N0 C0),(8,vI (x1.length:Int)),(9,vI ((k3:Nat):Int))] a∧Below w0.z w0 w) (fun (_:Unit) a w=>Sat 17 [] a∧Below w0.z w0 w) (fun r ex a w=>ex = .ret∧L_ prog fn (Q0 w0 B r) a w) O ?_ ?_ ?_ ?_ ?_
 ·exact fun _ q=>⟨q.k<|s4 z z z z,br w0⟩
 ·rintro k3 _ _ _ _ J ⟨V,H⟩ W;refine Wu ?_ V;refine Ws<|R z (lss z z)<|Wn<|Wq<|Wc z (fun _=>?_) (fun hc=>(a_3 J hc).elim)
  refine Wk<|Wq<|Wb<|Ws ?_
  obtain ⟨_,Y,L⟩:=bdS W;refine RX z (at_ (α:=Str) a_N z_9 z z z (p1_0.e H) Y) ?_;rintro _ ⟨_,_,_,rfl,ha,hb,_⟩;obtain ⟨rfl,_⟩:=c_n hb;refine R z (l1 g_9 z fid<|ha.at0 z)<|Ra z<|Wn<|Ws<|Rm z<|Rm z<|R z (f_3 z z)<|Wn<|Wc z (fun G=>?_) (fun G=>?_)
  ·exact Ws<|Ra z<|Wn<|Wr<|rtO<|qL (som<|ifT L G).symm<|h_ hr z ⟨H,z⟩
  exact Wk<|Wg<|R z (inc_ J (lt_ (repS.len p1_0) M_) z z)<|Rm z<|Wl (fun _ q=>⟨(),(som<|ifF L G).symm,⟨q.k<|s4 z z z z,H⟩⟩)
 ·rintro _ _ _ ⟨hSc,sd⟩;refine Wu ?_ hSc;refine Ws<|R z (lss z z)<|Wn<|Wq<|Wc z (fun hc=>(a_4 hc).elim) (fun _=>?_)
  exact We<|fun a' ha'=>⟨rfl,⟨Sat.weaken ha' sn,sd⟩⟩
 ·rintro _ ae _ rfl ⟨_,sf⟩;have hmg:=elL I;revert ae;refine Wo<|Ws<|Ra z<|Wn ?_
  obtain rfl:=som hmg;exact Wr<|h_ hr z ⟨sf,z⟩
 rintro _ _ _ _ rfl ⟨rfl,hqh⟩;have hmi:=elR I;obtain rfl:=som hmi;exact ⟨hqh,z⟩
theorem W_w2m {x1:g_} {res:Bool} (hm:f_M n x1=some res) (hBw:B≤w0.z) (p1_0:x1.name.b.length≤LEN) (p1_1:inI x1.kind) (p1_2:inI x1.size) (W:repS w0 B (sl AB NB CB) x1.bytes) (J:repS w0 B (sl A8 N8 C8) x1.names) (Y:repS w0 B (sl AC NC CC) x1.tags) (V:repS w0 B (sl AD ND CD) x1.kids):o_ prog 250 [(.agg #[Str.v x1.name,vI x1.kind,vI x1.size,vB x1.little,sl AB NB CB,sl A8 N8 C8,sl AC NC CC,sl AD ND CD])] w0 (Q0 w0 B res):=by
 unfold f_M at hm
 refine goF func250 z z (lb z) fun fn hr=>Ws<|E z (fb z) ?_
 rintro _ O ⟨rfl,hi⟩;have h1:=hi.below;have ha:Blk O w0.z (vR x1 AB NB CB A8 N8 C8 AC NC CC AD ND CD):=hi.blk;refine Ra z<|Wn<|Wq<|Wq ?_
 obtain ⟨uy,huz,hmj⟩:=bdS hm;refine Wt (fun a w=>∃ (xb:Bool),xb=uy∧Sat 44 [(1,pt w0.z),(23,vB xb)] a∧Below O.z O w) ?_ ?_
 ·refine Wg<|R z (lN (vs:=vR x1 AB NB CB A8 N8 C8 AC NC CC AD ND CD) J_ p_ z z fid<|ha.row 0 8 z) ?_
  obtain ⟨ad,ae,hmk⟩:=bdS huz;refine E z (fc call248 z<|c_J (B:=B) ae (zt' hBw h1.s) p1_0 p1_1 p1_2 (W.e h1) (J.e h1) (Y.e h1) (V.e h1)<|ii z) ?_;rintro _ _ ⟨s6,rfl⟩;refine R z (not_ z)<|Rm z ?_
  rcases bs (!ad) with G | G
  ·iterate 7 refine Nh z G ?_
   exact R z (pT z G z)<|Rm z<|Nh z z<|Nh z z<|Nh z z<|Nh z z<|Nh z z<|R z (pT z z z)<|Wl (fun _ q=>⟨true,som<|ifT hmk G,q.k<|s2 z z,s6⟩)
  have hml:=ifF hmk G;refine Rh z G (fd K_ z) ?_;have hd:=ha.e s6;refine Rh z G (l1 B_ z fid<|hd.at z) ?_;have hn:=(h1.ag B).e s6;have he:=V.g hn;refine Rh z G (lnR w_ z he)<|Rh z G (fd b_P z)<|Rh z G (l1 b_Z z fid<|hd.at z)<|Rh z G (lnR a_N z<|J.g hn)<|Rh z G (nq z z)<|R z (pF z G z)<|Rm z ?_
  rcases bs ((x1.kids.length:Int) != (x1.names.length:Int)) with I | I
  ·iterate 5 refine Nh z I ?_
   exact R z (pT z I z)<|Wl (fun _ q=>⟨true,som<|ifT hml I,q.k<|s2 z z,s6⟩)
  refine Rh z I (fd K_ z)<|Rh z I (l1 B_ z fid<|hd.at z)<|Rh z I (lnR w_ z he) ?_
  obtain ⟨af,ah,a0⟩:=bdS<|ifF hml I;refine Eg z z I z (fc call168 z<|d_1 (B:=B) ah (zt' hBw<|lt_ h1.s s6.s) (a_M<|repS.len he) (ii z)<|ii z) ?_;rintro _ _ ⟨ai,rfl⟩;exact Rh z I (not_ z)<|R z (pF z I z)<|Wl (fun _ q=>⟨!af,som a0,q.k<|s2 z z,bup s6 ai⟩)
 rintro aj L ⟨xb,rfl,_,s7⟩;revert aj;refine Wo<|Wc z (fun hcc=>?_) (fun hcc=>?_)
 ·refine Ws<|Ra z<|Wn ?_
  obtain rfl:=som<|ifT hmj hcc;exact Wr<|h_ hr z ⟨bup h1 s7,z⟩
 refine Wk<|Wq<|Ws<|R z (fd b_P z) ?_
 have ho:=ha.e s7;refine R z (l1 b_Z z fid<|ho.at z) ?_;have hp:=(h1.ag B).e s7;refine R z (lnR a_N z<|J.g hp)<|Rm z<|Wn ?_
 obtain ⟨_,a1,hmm⟩:=bdS<|ifF hmj hcc;refine Wf (σ:=Unit) (ρ:=Bool) (fun (kf:Nat) (_:Unit) a w=>Sat 44 [(1,pt w0.z),(25,sl A8 N8 C8),(26,vI (x1.names.length:Int)),(27,vI ((kf:Nat):Int))] a∧Below L.z L w) (fun (_:Unit) a w=>Sat 44 [] a∧Below L.z L w) (fun r ex a w=>ex = .ret∧L_ prog fn (Q0 w0 B r) a w) a1 ?_ ?_ ?_ ?_ ?_
 ·exact fun _ q=>⟨q.k<|s4 z z z z,br L⟩
 ·rintro kf _ _ wq _ hkr ⟨a2,s8⟩ a3;refine Wu ?_ a2;refine Ws<|R z (lss z z)<|Wn<|Wq<|Wc z (fun _=>?_) (fun hc=>(a_3 hkr hc).elim)
  refine Wk<|Wq<|Wb<|Ws<|Rm z ?_
  obtain ⟨_,ak,a4⟩:=bdS a3;have ht:=hp.e s8;refine RX z (at_ (α:=Str) a_N z_9 z z z (J.g ht) ak) ?_;rintro _ ⟨_,_,_,rfl,al,am,_⟩;obtain ⟨rfl,hu⟩:=c_n am;refine R z (l1 g_9 z fid<|al.at0 z)<|Ra z<|Ra z<|Wn<|Wq ?_
  obtain ⟨an,a5,hms⟩:=bdS a4;refine Wt (fun a w=>∃ (xg:Bool),xg=an∧Sat 44 [(1,pt w0.z),(25,sl A8 N8 C8),(26,vI (x1.names.length:Int)),(27,vI ((kf:Nat):Int)),(42,vB xg)] a∧Below wq.z wq w) ?_ ?_
  ·refine Wg<|Rm z ?_
   have hv:=lt_ (lt_ h1.s s7.s) s8.s;obtain ⟨ao,ap,hmw⟩:=bdS a5;refine E z (fc call197 z<|W_w1f (B:=B) ap (zt' hBw hv) hu) ?_;rintro _ _ ⟨s9,rfl⟩;refine R z (not_ z)<|Rm z ?_
   rcases bs (!ao) with H | H
   ·iterate 6 refine Nh z H ?_
    exact R z (pT z H z)<|Wl (fun _ q=>⟨true,som<|ifT hmw H,q.k<|s5 z z z z z,s9⟩)
   refine Rh z H (fd b_P z)<|Rh z H (l1 b_Z z fid<|((ho.e s8).e s9).at z)<|Rh z H (mv z) ?_
   obtain ⟨_,aq,a6⟩:=bdS<|ifF hmw H;refine RXg z z H z (rX a_N z_9 z z (J.g<|ht.e s9) z z aq) ?_;rintro _ ⟨_,_,_,rfl,ar⟩;refine Rh z H (mv z) ?_;obtain ⟨au,av,a7⟩:=bdS a6;refine Eg z z H z (fc call202 z<|W_w2l (B:=B) av (zt' hBw<|lt_ hv s9.s) ar hu) ?_;rintro _ _ ⟨aw,rfl⟩;exact R z (pF z H z)<|Wl (fun _ q=>⟨au,som a7,q.k<|s5 z z z z z,bup s9 aw⟩)
  rintro ax _ ⟨xg,rfl,_,sx⟩;revert ax;refine Wo<|Wc z (fun hch=>?_) (fun hch=>?_)
  ·exact Ws<|Ra z<|Wn<|Wr<|rtO<|qL (som<|ifT hms hch).symm<|h_ hr z ⟨bup (bup (bup h1 s7) s8) sx,z⟩
  exact Wk<|Wg<|R z (inc_ hkr (lt_ (repS.len J) M_) z z)<|Rm z<|Wl (fun _ q=>⟨(),(som<|ifF hms hch).symm,⟨q.k<|s4 z z z z,bup s8 sx⟩⟩)
 ·rintro _ _ _ ⟨a8,ay⟩;refine Wu ?_ a8;refine Ws<|R z (lss z z)<|Wn<|Wq<|Wc z (fun hc=>(a_4 hc).elim) (fun _=>?_)
  exact We<|fun a' ha'=>⟨rfl,⟨Sat.weaken ha' sn,ay⟩⟩
 ·rintro _ az _ rfl ⟨_,aA⟩;have a9:=elL hmm;revert az;refine Wo<|Ws<|Ra z<|Wn ?_
  obtain rfl:=som a9;exact Wr<|h_ hr z ⟨bup (bup h1 s7) aA,z⟩
 rintro _ _ _ _ rfl ⟨rfl,aa⟩;have ab:=elR hmm;obtain rfl:=som ab;exact ⟨aa,z⟩
theorem W_w2n {x1:d_} {x2:g_} {res:Bool} (hm:f_N x1 x2=some res) (hBw:B≤w0.z) (p1_0:repS w0 B (sl A0 N0 C0) x1.rules) (p2_0:x2.name.b.length≤LEN) (p2_1:inI x2.kind) (p2_2:inI x2.size) (p2_4:repS w0 B (sl A2 N2 C2) x2.bytes) (p2_5:repS w0 B (sl A3 N3 C3) x2.names) (p2_6:repS w0 B (sl A1 N1 C1) x2.tags) (p2_7:repS w0 B (sl A4 N4 C4) x2.kids):o_ prog 251 [(.agg #[sl A0 N0 C0]),(.agg #[Str.v x2.name,vI x2.kind,vI x2.size,vB x2.little,sl A2 N2 C2,sl A3 N3 C3,sl A1 N1 C1,sl A4 N4 C4])] w0 (Q0 w0 B res):=by
 unfold f_N at hm
 refine goF func251 z z (lb z) fun fn hr=>Ws<|E z (fb z) ?_
 rintro _ J ⟨rfl,hn⟩;have h4:=hn.below;refine E z (fb z) ?_;rintro _ wg ⟨rfl,ho⟩;have h3:=ho.below;have he:Blk wg J.z (vR x2 A2 N2 C2 A3 N3 C3 A1 N1 C1 A4 N4 C4):=ho.blk;refine Ra z<|Wn<|Wq<|Wq ?_
 obtain ⟨ah,a1,hmp⟩:=bdS hm;refine Wt (fun a w=>∃ (xh:Bool),xh=ah∧Sat 57 [(2,pt w0.z),(3,pt J.z),(21,vB xh)] a∧Below wg.z wg w) ?_ ?_
 ·refine Wg<|R z (lN (vs:=vR x2 A2 N2 C2 A3 N3 C3 A1 N1 C1 A4 N4 C4) J_ p_ z z fid<|he.row 0 8 z)<|R z (fd a_L z)<|R z (l1 B_ z fid<|he.at z) ?_
  have h6:=(h4.ag B).e h3;have hq:=p2_6.g h6;refine R z (lnR w_ z hq)<|R z (add_ z z) ?_
  have ht:=lt_ h4.s h3.s;obtain ⟨ai,aj,hmr⟩:=bdS a1;refine E z (fc call248 z<|c_J (B:=B) aj (zt' hBw ht) p2_0 p2_1 p2_2 (p2_4.g h6) (p2_5.g h6) hq (p2_7.g h6)<|iA _ _) ?_;rintro _ _ ⟨s9,rfl⟩;refine R z (not_ z)<|Rm z ?_
  rcases bs (!ai) with I | I
  ·iterate 5 refine Nh z I ?_
   exact R z (pT z I z)<|Wl (fun _ q=>⟨true,som<|ifT hmr I,q.k<|s3 z z z,s9⟩)
  refine Rh z I (fd a_L z)<|Rh z I (l1 B_ z fid<|(he.e s9).at z) ?_
  have hu:=p2_6.g<|h6.e s9
  refine Rh z I (lnR w_ z hu) ?_;obtain ⟨ak,al,a2⟩:=bdS<|ifF hmr I;refine Eg z z I z (fc call168 z<|d_1 (B:=B) al (zt' hBw<|lt_ ht s9.s) (a_M<|repS.len hu) (ii z)<|ii z) ?_;rintro _ _ ⟨am,rfl⟩;exact Rh z I (not_ z)<|R z (pF z I z)<|Wl (fun _ q=>⟨!ak,som a2,q.k<|s3 z z z,bup s9 am⟩)
 rintro an _ ⟨xh,rfl,_,s7⟩;revert an;refine Wo<|Wc z (fun hci=>?_) (fun hci=>?_)
 ·refine Ws<|Ra z<|Wn ?_
  obtain rfl:=som<|ifT hmp hci;exact Wr<|h_ hr z ⟨bup (bup h4 h3) s7,z⟩
 refine Wk<|Wq (Wd (X:=noX) 0 (.rd 0<|.rd 1<|.rd 2<|.rd 3<|.rd 4<|.ef 5<|.rd 6 .done) mo (by kernel_rfl) fun aM s8 _=>dR z z (lN (vs:=[sl A0 N0 C0]) y_ t_ z z fid<|((((hn.blk:Blk J w0.z [sl A0 N0 C0]).e h3).e s7).e s8).row 0 1 z)<|dR z z (fd K_ z) ?_)
 have hv:=(he.e s7).e s8;refine dR z z (l1 B_ z fid<|hv.at z) ?_;obtain ⟨_,ao,a3⟩:=bdS<|ifF hmp hci;have hj:=(((h4.ag B).e h3).e s7).e s8;refine dRX z z (at_ (α:=Int) w_ z_3 z z z (p2_7.g hj) ao) ?_;rintro _ ⟨_,_,_,rfl,ap,aq,_⟩;obtain ⟨rfl,ar⟩:=O_ aq;refine dR z z (l1 g_3 z fid<|ap.at0 z) ?_;have hw:=lt_ (lt_ (lt_ h4.s h3.s) s7.s) s8.s;obtain ⟨rk,au,a4⟩:=bdS a3;refine dE z z (fc call249 z<|i_w (B:=B) au (zt' hBw hw) (p1_0.g hj) ar) (.inr fun _ _ h=>v_<|h.1) ?_;rintro _ wa ⟨sb,rfl,av⟩;refine dR z z (asg z)<|pD<|Wo<|Wq<|Ws<|R z (fd a_L z) ?_
 have hx:=hv.e sb;refine R z (l1 B_ z fid<|hx.at z) ?_;have hy:=hj.e sb;refine R z (lnR w_ z<|p2_6.g hy)<|Rm z<|Wn ?_
 obtain ⟨_,a5,hms⟩:=bdS a4;refine Wf (σ:=Unit) (ρ:=Bool) (fun (kf:Nat) (_:Unit) a w=>Sat 57 [(3,pt J.z),(5,vI rk),(29,sl A1 N1 C1),(30,vI (x2.tags.length:Int)),(31,vI ((kf:Nat):Int))] a∧Below wa.z wa w) (fun (_:Unit) a w=>Sat 57 [(5,vI rk)] a∧Below wa.z wa w) (fun r ex a w=>ex = .ret∧L_ prog fn (Q0 w0 B r) a w) a5 ?_ ?_ ?_ ?_ ?_
 ·exact fun _ q=>⟨q.k<|s5 z z z z z,br wa⟩
 ·rintro kf _ _ wz _ L ⟨a6,sc⟩ a7;refine Wu ?_ a6;refine Ws<|R z (lss z z)<|Wn<|Wq<|Wc z (fun _=>?_) (fun hc=>(a_3 L hc).elim)
  refine Wk<|Wq<|Wb<|Ws<|Rm z ?_
  obtain ⟨aw,ax,a8⟩:=bdS a7;have Y:=hy.e sc;refine RX z (at_ (α:=Int) w_ z_3 z z z (p2_6.g Y) ax) ?_;rintro _ ⟨_,_,_,rfl,ay,az,_⟩;obtain ⟨rfl,aA⟩:=O_ az;refine R z (l1 g_3 z fid<|ay.at0 z)<|Ra z<|Ra z<|Wn<|Wq ?_
  obtain ⟨aB,a9,O⟩:=bdS a8;refine Wt (fun a w=>∃ (xl:Bool),xl=aB∧Sat 57 [(3,pt J.z),(5,vI rk),(29,sl A1 N1 C1),(30,vI (x2.tags.length:Int)),(31,vI ((kf:Nat):Int)),(53,vB xl)] a∧Below wz.z wz w) ?_ ?_
  ·refine Wg<|Rm z<|Rm z ?_
   obtain ⟨aC,aD,V⟩:=bdS a9;refine E z (fc call168 z<|d_1 (B:=B) aD (zt' hBw<|lt_ (lt_ hw sb.s) sc.s) aA (ii z) av) ?_;rintro _ _ ⟨sd,rfl⟩;refine R z (not_ z)<|Rm z ?_
   rcases bs (!aC) with H | H
   ·iterate 3 refine Nh z H ?_
    exact Nv z<|Nv z<|Nv z<|Nv z<|Nv z<|Nv z<|Nv z<|Nv z<|Nh z H<|R z (pT z H z)<|Wl (fun _ q=>⟨true,som<|ifT V H,q.k<|s6 z z z z z z,sd⟩)
   have W:=ifF V H;refine Rh z H (mv z)<|Rh z H (a_9 z z)<|Rh z H (mv z) ?_
   rcases bs (decide<|0<((kf:Nat):Int)) with G | G
   ·refine Rh z G (fd a_L z)<|Rh z G (l1 B_ z fid<|((hx.e sc).e sd).at z)<|Rh z G (mv z)<|Rh z G (sb_ z z) ?_
    obtain ⟨aE,aF,aa⟩:=bdS<|ifT W G;refine RXg z z G z (at_ (α:=Int) w_ z_3 z z z (p2_6.g<|Y.e sd) aF) ?_;rintro _ ⟨_,_,_,rfl,aG,aH,_⟩;obtain ⟨rfl,_⟩:=O_ aH;exact Rh z G (l1 g_3 z fid<|aG.at0 z)<|Rh z G (mv z)<|Rh z G (b_r z z)<|Rh z H (pT z G z)<|R z (pF z H z)<|Wl (fun _ q=>⟨decide<|aw≤aE,som aa,q.k<|s6 z z z z z z,sd⟩)
   iterate 8 refine Nh z G ?_
   exact Rh z H (pF z G z)<|R z (pF z H z)<|Wl (fun _ q=>⟨false,som<|ifF W G,q.k<|s6 z z z z z z,sd⟩)
  rintro aI _ ⟨xl,rfl,_,a0⟩;revert aI;refine Wo<|Wc z (fun hcm=>?_) (fun hcm=>?_)
  ·exact Ws<|Ra z<|Wn<|Wr<|rtO<|qL (som<|ifT O hcm).symm<|h_ hr z ⟨bup (bup (bup (bup (bup (bup h4 h3) s7) s8) sb) sc) a0,z⟩
  exact Wk<|Wg<|R z (inc_ L (lt_ (repS.len p2_6) M_) z z)<|Rm z<|Wl (fun _ q=>⟨(),(som<|ifF O hcm).symm,⟨q.k<|s5 z z z z z,bup sc a0⟩⟩)
 ·rintro _ _ _ ⟨ab,aJ⟩;refine Wu ?_ ab;refine Ws<|R z (lss z z)<|Wn<|Wq<|Wc z (fun hc=>(a_4 hc).elim) (fun _=>?_)
  exact We<|fun a' ha'=>⟨rfl,⟨Sat.weaken ha'<|s1 z,aJ⟩⟩
 ·rintro _ aK _ rfl ⟨_,aL⟩;have ad:=elL hms;revert aK;refine Wo<|Ws<|Rm z<|R z (a_9 z z)<|Ra z<|Wn ?_
  obtain rfl:=som ad;exact Wr<|h_ hr z ⟨bup (bup (bup (bup (bup h4 h3) s7) s8) sb) aL,z⟩
 rintro _ _ _ _ rfl ⟨rfl,ae⟩;have af:=elR hms;obtain rfl:=som af;exact ⟨ae,z⟩
theorem W_w2o {x1:d_} {x2:g_} {res:Bool} (hm:f_O n x1 x2=some res) (hBw:B≤w0.z) (p1_0:repS w0 B (sl A0 N0 C0) x1.rules) (p2_0:x2.name.b.length≤LEN) (p2_1:inI x2.kind) (p2_2:inI x2.size) (p2_4:repS w0 B (sl A2 N2 C2) x2.bytes) (p2_5:repS w0 B (sl A3 N3 C3) x2.names) (p2_6:repS w0 B (sl A1 N1 C1) x2.tags) (p2_7:repS w0 B (sl A4 N4 C4) x2.kids):o_ prog 200 [(.agg #[sl A0 N0 C0]),(.agg #[Str.v x2.name,vI x2.kind,vI x2.size,vB x2.little,sl A2 N2 C2,sl A3 N3 C3,sl A1 N1 C1,sl A4 N4 C4])] w0 (Q0 w0 B res):=by
 unfold f_O at hm
 refine goF func200 z z (lb z) fun fn hr=>Ws<|E z (fb z) ?_
 rintro _ ww ⟨rfl,aA⟩;have h1:=aA.below;have hx:Blk ww w0.z [sl A0 N0 C0]:=aA.blk;refine E z (fb z) ?_;rintro _ J ⟨rfl,aB⟩;have G:=aB.below;have h6:Blk J ww.z (vR x2 A2 N2 C2 A3 N3 C3 A1 N1 C1 A4 N4 C4):=aB.blk;refine Ra z<|Wn<|Wq<|Ws<|R z (fd a_x z)<|R z (l1 g_3 z fid<|h6.at z)<|Wn<|Wb<|Ws<|R z (eql z z)<|Ra z<|Wn<|Wc z (fun hcy=>?_) (fun hcy=>?_)
 ·refine Wq ?_;obtain ⟨bf,aS,aT⟩:=bdS<|ifT hm hcy;refine Wt (fun a w=>∃ (xz:Bool),xz=bf∧Sat 102 [(4,vB xz)] a∧Below J.z J w) ?_ ?_
  ·refine Wg<|R z (lN (vs:=vR x2 A2 N2 C2 A3 N3 C3 A1 N1 C1 A4 N4 C4) J_ p_ z z fid<|h6.row 0 8 z) ?_
   have hq:=(h1.ag B).e G;have aC:=lt_ h1.s G.s;obtain ⟨bg,bh,af⟩:=bdS aS;refine E z (fc call248 z<|c_J (B:=B) bh (zt' hBw aC) p2_0 p2_1 p2_2 (p2_4.g hq) (p2_5.g hq) (p2_6.g hq) (p2_7.g hq)<|ii z) ?_;rintro _ _ ⟨se,rfl⟩;refine Rm z ?_
   rcases bs bg with hca | hca
   ·refine Rh z hca (fd a_t z) ?_;have aD:=h6.e se;refine Rh z hca (l1 g_3 z fid<|aD.at z) ?_;obtain ⟨bi,bj,ah⟩:=bdS<|ifT af hca;refine Eg z z hca z (fc call168 z<|d_1 (B:=B) bj (zt' hBw<|lt_ aC se.s) p2_2 (ii z)<|ii z) ?_;rintro _ _ ⟨sr,rfl⟩;refine R z (pT z hca z)<|Rm z ?_
    rcases bs bi with L | L
    ·have ai:=ifT ah L;refine Rh z L (fd c_r z) ?_;have aE:=aD.e sr;refine Rh z L (l1 g_4 z fid<|aE.at z)<|Rh z L (not_ z)<|Rh z L (mv z) ?_
     rcases bs (!x2.little) with hcb | hcb
     ·iterate 3 refine Nh z hcb ?_
      exact Rh z L (pT z hcb z)<|R z (pT z L z)<|Ra z<|Wl (fun _ q=>⟨true,som<|ifT ai hcb,q.k<|s1 z,bup se sr⟩)
     exact Rh z hcb (fd a_t z)<|Rh z hcb (l1 g_3 z fid<|aE.at z)<|Rh z hcb (a_9 z z)<|Rh z L (pF z hcb z)<|R z (pT z L z)<|Ra z<|Wl (fun _ q=>⟨decide<|1<x2.size,som<|ifF ai hcb,q.k<|s1 z,bup se sr⟩)
    iterate 4 refine Nh z L ?_
    exact Nv z<|Nv z<|Nv z<|Nh z L<|R z (pF z L z)<|Ra z<|Wl (fun _ q=>⟨false,som<|ifF ah L,q.k<|s1 z,bup se sr⟩)
   iterate 3 refine Nh z hca ?_
   exact R z (pF z hca z)<|Rm z<|Nh z z<|Nh z z<|Nh z z<|Nh z z<|Nv z<|Nv z<|Nv z<|Nh z z<|R z (pF z z z)<|Ra z<|Wl (fun _ q=>⟨false,som<|ifF af hca,q.k<|s1 z,se⟩)
  rintro bk _ ⟨xz,rfl,_,bm⟩;revert bk;refine Wo ?_;obtain rfl:=som aT;exact Wr<|rtO<|h_ hr z ⟨bup (bup h1 G) bm,z⟩
 have aj:=ifF hm hcy;refine Ws<|R z (eql z z)<|Ra z<|Wn<|Wc z (fun Y=>?_) (fun Y=>?_)
 ·refine Wq ?_;obtain ⟨bn,aU,aV⟩:=bdS<|ifT aj Y;refine Wt (fun a w=>∃ (a8:Bool),a8=bn∧Sat 102 [(4,vB a8)] a∧Below J.z J w) ?_ ?_
  ·refine Wg<|R z (lN (vs:=vR x2 A2 N2 C2 A3 N3 C3 A1 N1 C1 A4 N4 C4) J_ p_ z z fid<|h6.row 0 8 z) ?_
   have hj:=(h1.ag B).e G;have aF:=lt_ h1.s G.s;obtain ⟨bo,bp,ak⟩:=bdS aU;refine E z (fc call248 z<|c_J (B:=B) bp (zt' hBw aF) p2_0 p2_1 p2_2 (p2_4.g hj) (p2_5.g hj) (p2_6.g hj) (p2_7.g hj)<|ii z) ?_;rintro _ _ ⟨sk,rfl⟩;refine Rm z ?_
   rcases bs bo with V | V
   ·refine Rh z V (fd a_K z)<|Rh z V (l1 Q_ z fid<|(h6.e sk).at z) ?_
    have aG:=p2_4.g<|hj.e sk
    refine Rh z V (lnR n_ z aG) ?_;obtain ⟨bq,bt,aW⟩:=bdS<|ifT ak V;refine Eg z z V z (fc call168 z<|d_1 (B:=B) bt (zt' hBw<|lt_ aF sk.s) (a_M<|repS.len aG) (ii z)<|ii z) ?_;rintro _ _ ⟨bu,rfl⟩;exact R z (pT z V z)<|Ra z<|Wl (fun _ q=>⟨bq,som aW,q.k<|s1 z,bup sk bu⟩)
   iterate 4 refine Nh z V ?_
   exact R z (pF z V z)<|Ra z<|Wl (fun _ q=>⟨false,som<|ifF ak V,q.k<|s1 z,sk⟩)
  rintro bv _ ⟨a8,rfl,_,bw⟩;revert bv;refine Wo ?_;obtain rfl:=som aV;exact Wr<|rtO<|h_ hr z ⟨bup (bup h1 G) bw,z⟩
 have al:=ifF aj Y;refine Ws<|R z (eql z z)<|Ra z<|Wn<|Wc z (fun a0=>?_) (fun a0=>?_)
 ·refine Wq ?_;obtain ⟨bx,aX,aY⟩:=bdS<|ifT al a0;refine Wt (fun a w=>∃ (a9:Bool),a9=bx∧Sat 102 [(4,vB a9)] a∧Below J.z J w) ?_ ?_
  ·refine Wg<|R z (lN (vs:=vR x2 A2 N2 C2 A3 N3 C3 A1 N1 C1 A4 N4 C4) J_ p_ z z fid<|h6.row 0 8 z) ?_
   have ht:=(h1.ag B).e G;have aH:=lt_ h1.s G.s;obtain ⟨bz,bA,am⟩:=bdS aX;refine E z (fc call248 z<|c_J (B:=B) bA (zt' hBw aH) p2_0 p2_1 p2_2 (p2_4.g ht) (p2_5.g ht) (p2_6.g ht) (p2_7.g ht)<|ii z) ?_;rintro _ _ ⟨ss,rfl⟩;refine Rm z ?_
   rcases bs bz with hcc | hcc
   ·refine Rh z hcc (fd a_t z)<|Rh z hcc (l1 g_3 z fid<|(h6.e ss).at z) ?_
    obtain ⟨bB,bC,aZ⟩:=bdS<|ifT am hcc;refine Eg z z hcc z (fc call168 z<|d_1 (B:=B) bC (zt' hBw<|lt_ aH ss.s) p2_2 (ii z)<|ii z) ?_;rintro _ _ ⟨bD,rfl⟩;exact R z (pT z hcc z)<|Ra z<|Wl (fun _ q=>⟨bB,som aZ,q.k<|s1 z,bup ss bD⟩)
   iterate 3 refine Nh z hcc ?_
   exact R z (pF z hcc z)<|Ra z<|Wl (fun _ q=>⟨false,som<|ifF am hcc,q.k<|s1 z,ss⟩)
  rintro bE _ ⟨a9,rfl,_,bF⟩;revert bE;refine Wo ?_;obtain rfl:=som aY;exact Wr<|rtO<|h_ hr z ⟨bup (bup h1 G) bF,z⟩
 have an:=ifF al a0;refine Ws<|R z (eql z z)<|Ra z<|Wn<|Wc z (fun a1=>?_) (fun a1=>?_)
 ·refine Wq ?_;obtain ⟨bG,b0,b1⟩:=bdS<|ifT an a1;refine Wt (fun a w=>∃ (aa:Bool),aa=bG∧Sat 102 [(4,vB aa)] a∧Below J.z J w) ?_ ?_
  ·refine Wd (X:=noX) 0 (.rd 0<|.ef 1<|.rd 2<|.rd 3<|.rd 4<|.rd 5<|.rd 6<|.rd 7<|.ef 8<|.rd 9<|.rd 10<|.rd 11 .done) mo (by kernel_rfl) fun cl sf _=>?_
   have aI:=h6.e sf;refine dR z z (lN (vs:=vR x2 A2 N2 C2 A3 N3 C3 A1 N1 C1 A4 N4 C4) J_ p_ z z fid<|aI.row 0 8 z) ?_;have hl:=((h1.ag B).e G).e sf;have aJ:=lt_ (lt_ h1.s G.s) sf.s;obtain ⟨bH,bI,ao⟩:=bdS b0;refine dE z z (fc call248 z<|c_J (B:=B) bI (zt' hBw aJ) p2_0 p2_1 p2_2 (p2_4.g hl) (p2_5.g hl) (p2_6.g hl) (p2_7.g hl)<|ii z) (.inr fun _ _ h=>v_<|h.1) ?_;rintro _ _ ⟨sg,rfl⟩;refine dR z z (mv z) ?_
   rcases bs bH with H | H
   ·refine dRg z z z H z (lN (vs:=[sl A0 N0 C0]) y_ t_ z z fid<|(((hx.e G).e sf).e sg).row 0 1 z)<|dRg z z z H z (fd K_ z)<|dRg z z z H z (l1 B_ z fid<|(aI.e sg).at z) ?_
    obtain ⟨_,bJ,b2⟩:=bdS<|ifT ao H;have aK:=hl.e sg;refine b_K z z z H z (at_ (α:=Int) w_ z_3 z z z (p2_7.g aK) bJ) ?_;rintro _ ⟨_,_,_,rfl,bK,bL,_⟩;obtain ⟨rfl,bM⟩:=O_ bL;refine dRg z z z H z (l1 g_3 z fid<|bK.at0 z) ?_;obtain ⟨bN,bO,b3⟩:=bdS b2;refine dEg z z z H z (fc call249 z<|i_w (B:=B) bO (zt' hBw<|lt_ aJ sg.s) (p1_0.g aK) bM) (.inr fun _ _ h=>v_<|h.1) ?_;rintro _ _ ⟨bP,rfl,_⟩;exact dRg z z z H z (a_9 z z)<|dR z z (pT z H z)<|dR z z (asg z)<|pD (fun _ q=>⟨decide<|0<bN,som b3,q.k<|s1 z,bup (bup sf sg) bP⟩)
   iterate 5 refine dRn z z z H z ?_
   exact dEn z z z H z<|dRn z z z H z<|dR z z (pF z H z)<|dR z z (asg z)<|pD (fun _ q=>⟨false,som<|ifF ao H,q.k<|s1 z,bup sf sg⟩)
  rintro bQ _ ⟨aa,rfl,_,bR⟩;revert bQ;refine Wo ?_;obtain rfl:=som b1;exact Wr<|rtO<|h_ hr z ⟨bup (bup h1 G) bR,z⟩
 have ap:=ifF an a1;refine Ws<|R z (eql z z)<|Ra z<|Wn<|Wc z (fun a2=>?_) (fun a2=>?_)
 ·refine Wq ?_;obtain ⟨bS,b4,b5⟩:=bdS<|ifT ap a2;refine Wt (fun a w=>∃ (ab:Bool),ab=bS∧Sat 102 [(4,vB ab)] a∧Below J.z J w) ?_ ?_
  ·refine Wd (X:=noX) 0 (.rd 0<|.ef 1<|.rd 2<|.rd 3<|.rd 4<|.rd 5<|.rd 6<|.rd 7<|.ef 8<|.rd 9<|.rd 10<|.rd 11 .done) mo (by kernel_rfl) fun cm sh _=>?_
   have aL:=h6.e sh;refine dR z z (lN (vs:=vR x2 A2 N2 C2 A3 N3 C3 A1 N1 C1 A4 N4 C4) J_ p_ z z fid<|aL.row 0 8 z) ?_;have hn:=((h1.ag B).e G).e sh;have aM:=lt_ (lt_ h1.s G.s) sh.s;obtain ⟨bT,bU,aq⟩:=bdS b4;refine dE z z (fc call248 z<|c_J (B:=B) bU (zt' hBw aM) p2_0 p2_1 p2_2 (p2_4.g hn) (p2_5.g hn) (p2_6.g hn) (p2_7.g hn)<|ii z) (.inr fun _ _ h=>v_<|h.1) ?_;rintro _ _ ⟨si,rfl⟩;refine dR z z (mv z) ?_
   rcases bs bT with I | I
   ·refine dRg z z z I z (lN (vs:=[sl A0 N0 C0]) y_ t_ z z fid<|(((hx.e G).e sh).e si).row 0 1 z)<|dRg z z z I z (fd K_ z)<|dRg z z z I z (l1 B_ z fid<|(aL.e si).at z) ?_
    obtain ⟨_,bV,b6⟩:=bdS<|ifT aq I;have aN:=hn.e si;refine b_K z z z I z (at_ (α:=Int) w_ z_3 z z z (p2_7.g aN) bV) ?_;rintro _ ⟨_,_,_,rfl,bW,bX,_⟩;obtain ⟨rfl,bY⟩:=O_ bX;refine dRg z z z I z (l1 g_3 z fid<|bW.at0 z) ?_;obtain ⟨bZ,c0,b7⟩:=bdS b6;refine dEg z z z I z (fc call249 z<|i_w (B:=B) c0 (zt' hBw<|lt_ aM si.s) (p1_0.g aN) bY) (.inr fun _ _ h=>v_<|h.1) ?_;rintro _ _ ⟨c1,rfl,_⟩;exact dRg z z z I z (a_9 z z)<|dR z z (pT z I z)<|dR z z (asg z)<|pD (fun _ q=>⟨decide<|0<bZ,som b7,q.k<|s1 z,bup (bup sh si) c1⟩)
   iterate 5 refine dRn z z z I z ?_
   exact dEn z z z I z<|dRn z z z I z<|dR z z (pF z I z)<|dR z z (asg z)<|pD (fun _ q=>⟨false,som<|ifF aq I,q.k<|s1 z,bup sh si⟩)
  rintro c2 _ ⟨ab,rfl,_,c3⟩;revert c2;refine Wo ?_;obtain rfl:=som b5;exact Wr<|rtO<|h_ hr z ⟨bup (bup h1 G) c3,z⟩
 have ar:=ifF ap a2;refine Ws<|R z (eql z z)<|Ra z<|Wn<|Wc z (fun a3=>?_) (fun a3=>?_)
 ·refine Ws<|R z (lN (vs:=vR x2 A2 N2 C2 A3 N3 C3 A1 N1 C1 A4 N4 C4) J_ p_ z z fid<|h6.row 0 8 z) ?_
  have hu:=(h1.ag B).e G;obtain ⟨_,c4,b8⟩:=bdS<|ifT ar a3;refine E z (fc call250 z<|W_w2m (B:=B) c4 (zt' hBw<|lt_ h1.s G.s) p2_0 p2_1 p2_2 (p2_4.g hu) (p2_5.g hu) (p2_6.g hu)<|p2_7.g hu) ?_;rintro _ _ ⟨c5,rfl⟩;refine Ra z<|Wn ?_
  obtain rfl:=som b8;exact Wr<|rtO<|h_ hr z ⟨bup (bup h1 G) c5,z⟩
 have au:=ifF ar a3;refine Ws<|R z (eql z z)<|Ra z<|Wn<|Wc z (fun a4=>?_) (fun a4=>?_)
 ·refine Ws<|R z (lN (vs:=[sl A0 N0 C0]) y_ t_ z z fid<|(hx.e G).row 0 1 z)<|R z (lN (vs:=vR x2 A2 N2 C2 A3 N3 C3 A1 N1 C1 A4 N4 C4) J_ p_ z z fid<|h6.row 0 8 z) ?_
  have ho:=(h1.ag B).e G;obtain ⟨_,c6,b9⟩:=bdS<|ifT au a4;refine E z (fc call251 z<|W_w2n (B:=B) c6 (zt' hBw<|lt_ h1.s G.s) (p1_0.g ho) p2_0 p2_1 p2_2 (p2_4.g ho) (p2_5.g ho) (p2_6.g ho)<|p2_7.g ho) ?_;rintro _ _ ⟨c7,rfl⟩;refine Ra z<|Wn ?_
  obtain rfl:=som b9;exact Wr<|rtO<|h_ hr z ⟨bup (bup h1 G) c7,z⟩
 refine Wq<|Ws<|R z (eql z z)<|Ra z<|Wn ?_
 obtain ⟨c8,av,aw⟩:=bdS<|ifF au a4;refine Wt (fun a w=>∃ (ad:Bool),ad=c8∧Sat 102 [(3,pt ww.z),(6,vI x2.kind),(80,vB ad)] a∧Below J.z J w) ?_ ?_
 ·refine Wc z (fun a5=>?_)<|fun a5=>?_
  ·exact a_g<|fun _ q=>⟨x2.kind==8,som<|ifT av a5,q.k<|s3 z z z,br J⟩
  exact Wg<|R z (eql z z)<|Ra z<|Wl (fun _ q=>⟨x2.kind==9,som<|ifF av a5,q.k<|s3 z z z,br J⟩)
 rintro c9 aO ⟨ad,rfl,_,sd⟩;revert c9;refine Wo<|Wc z (fun a6=>?_) (fun a6=>?_)
 ·refine Ws<|R z (lN (vs:=vR x2 A2 N2 C2 A3 N3 C3 A1 N1 C1 A4 N4 C4) J_ p_ z z fid<|(h6.e sd).row 0 8 z) ?_
  have hv:=((h1.ag B).e G).e sd;obtain ⟨_,ca,ba⟩:=bdS<|ifT aw a6;refine E z (fc call248 z<|c_J (B:=B) ca (zt' hBw<|lt_ (lt_ h1.s G.s) sd.s) p2_0 p2_1 p2_2 (p2_4.g hv) (p2_5.g hv) (p2_6.g hv) (p2_7.g hv)<|ii z) ?_;rintro _ _ ⟨cb,rfl⟩;refine Ra z<|Wn ?_
  obtain rfl:=som ba;exact Wr<|rtO<|h_ hr z ⟨bup (bup (bup h1 G) sd) cb,z⟩
 have ax:=ifF aw a6;refine Ws<|R z (eql z z)<|Ra z<|Wn<|Wc z (fun a7=>?_) (fun a7=>?_)
 ·refine Wq ?_;obtain ⟨cc,bb,bc⟩:=bdS<|ifT ax a7;refine Wt (fun a w=>∃ (ae:Bool),ae=cc∧Sat 102 [(4,vB ae)] a∧Below aO.z aO w) ?_ ?_
  ·refine Wg ?_;have aP:=h6.e sd;refine R z (lN (vs:=vR x2 A2 N2 C2 A3 N3 C3 A1 N1 C1 A4 N4 C4) J_ p_ z z fid<|aP.row 0 8 z) ?_;have hp:=((h1.ag B).e G).e sd;obtain ⟨cd,ce,ay⟩:=bdS bb;refine E z (fc call248 z<|c_J (B:=B) ce (zt' hBw<|lt_ (lt_ h1.s G.s) sd.s) p2_0 p2_1 p2_2 (p2_4.g hp) (p2_5.g hp) (p2_6.g hp) (p2_7.g hp)<|ii z) ?_;rintro _ _ ⟨sm,rfl⟩;refine Rm z ?_
   rcases bs cd with W | W
   ·have az:=ifT ay W;refine Rh z W (fd a_K z) ?_;have aQ:=aP.e sm;refine Rh z W (l1 Q_ z fid<|aQ.at z) ?_;have aR:=p2_4.g<|hp.e sm
    refine Rh z W (lnR n_ z aR)<|Rh z W (eql z z)<|R z (pT z W z)<|Rm z ?_
    rcases bs ((x2.bytes.length:Int)==1) with O | O
    ·refine Rh z O (fd a_K z)<|Rh z O (l1 Q_ z fid<|aQ.at z) ?_
     obtain ⟨cf,cg,be⟩:=bdS<|ifT az O;refine RXg z z O z (at_ (α:=UInt8) n_ z_5 z z z aR cg) ?_;rintro _ ⟨_,_,_,rfl,ch,ci,_⟩;obtain rfl:=u8 ci;exact Rh z O (l1 g_5 z fid<|ch.at0 z)<|Rh z O (nq z z)<|R z (pT z O z)<|Ra z<|Wl (fun _ q=>⟨(byteI cf) != (byteI (92:UInt8)),som be,q.k<|s1 z,sm⟩)
    iterate 5 refine Nh z O ?_
    exact R z (pF z O z)<|Ra z<|Wl (fun _ q=>⟨false,som<|ifF az O,q.k<|s1 z,sm⟩)
   iterate 4 refine Nh z W ?_
   exact R z (pF z W z)<|Rm z<|Nh z z<|Nh z z<|Nh z z<|Nh z z<|Nh z z<|R z (pF z z z)<|Ra z<|Wl (fun _ q=>⟨false,som<|ifF ay W,q.k<|s1 z,sm⟩)
  rintro cj _ ⟨ae,rfl,_,ck⟩;revert cj;refine Wo ?_;obtain rfl:=som bc;exact Wr<|rtO<|h_ hr z ⟨bup (bup (bup h1 G) sd) ck,z⟩
 refine Wk<|Ws<|Ra z<|Wn ?_
 obtain rfl:=som<|ifF ax a7;exact Wr<|h_ hr z ⟨bup (bup h1 G) sd,z⟩
theorem W_w2p {x1:d_} {x2:Int} {res:Bool} (hm:f_P n x1 x2=some res) (hBw:B≤w0.z) (p1_0:repS w0 B (sl A0 N0 C0) x1.rules) (p2_0:inI x2):o_ prog 169 [(.agg #[sl A0 N0 C0]),vI x2] w0 (Q0 w0 B res):=by
 unfold f_P at hm
 refine goF func169 z z (lb z) fun fn hr=>Ws<|E z (fb z) ?_
 rintro _ bb ⟨rfl,ak⟩;have h2:=ak.below;have ho:Blk bb w0.z [sl A0 N0 C0]:=ak.blk;refine Ra z<|Wn<|Wq<|Ws<|R z (lN (vs:=[sl A0 N0 C0]) y_ t_ z z fid<|ho.row 0 1 z)<|Rm z ?_
 obtain ⟨_,bc,a6⟩:=bdS hm;refine E z (fc call199 z<|i_v (B:=B) bc (zt' hBw h2.s) (p1_0.e h2) p2_0) ?_;rintro _ J ⟨s5,rfl⟩;refine R z (not_ z)<|Wn<|Wc z (fun hcp=>?_) (fun hcp=>?_)
 ·refine Ws<|Ra z<|Wn ?_
  obtain rfl:=som<|ifT a6 hcp;exact Wr<|h_ hr z ⟨bup h2 s5,z⟩
 refine Wk<|Ws<|R z (fd X_ z) ?_
 have al:=ho.e s5;refine R z (l1 a_0 z fid<|al.at z)<|Rm z ?_
 obtain ⟨L,be,aS⟩:=bdS<|ifF a6 hcp;have am:=(h2.ag B).e s5;refine RX z (at_ (α:=g_) a_1 p_ z z z (p1_0.g am) be) ?_;rintro _ ⟨_,_,_,rfl,bf,bg,_⟩;obtain ⟨aq,nr,cs,au,nt,cv,aw,nx,cy,ae,nf,cg,rfl,an,bh,bi,bj,bk,bm,hj⟩:=a_z bg;refine R z (lN (vs:=vR L aq nr cs au nt cv aw nx cy ae nf cg) J_ p_ z z fid bf)<|E z (fa b_i) ?_
 rintro _ bn ⟨rfl,ao⟩;have h4:=ao.below;have ap:Blk bn J.z [(Str.v (⟨[]⟩:Str)),vI 0,vI 0,vB false,sl none 0 0,sl none 0 0,sl none 0 0,sl none 0 0]:=ao.blk;refine E0 (fs (cur':=vR L aq nr cs au nt cv aw nx cy ae nf cg) p_ z z ap z (lb z) (oA z) z) ?_;rintro _ ar ⟨hk,bo⟩;have h3:=bo.one;refine Wn<|Wq<|Wq ?_
 obtain ⟨bp,aT,a7⟩:=bdS aS;refine Wt (fun a w=>∃ (xz:Bool),xz=bp∧Sat 65 [(1,vI x2),(2,pt w0.z),(5,pt J.z),(31,vB xz)] a∧Below ar.z ar w) ?_ ?_
 ·refine Wg<|R z (fd e_5 z)<|R z (l1 g_9 z fid<|hk.at z) ?_
  obtain ⟨bq,bt,a8⟩:=bdS aT;refine E z (fc call197 z<|W_w1f (B:=B) bt (zt' hBw<|lt_ (lt_ (lt_ h2.s s5.s) h4.s) h3.s) an) ?_;rintro _ _ ⟨sm,rfl⟩;refine R z (not_ z)<|Rm z ?_
  rcases bs (!bq) with G | G
  ·iterate 3 refine Nh z G ?_
   exact Nv z<|Nv z<|Nv z<|Nh z G<|R z (pT z G z)<|Wl (fun _ q=>⟨true,som<|ifT a8 G,q.k<|s4 z z z z,sm⟩)
  have a9:=ifF a8 G;refine Rh z G (fd c_r z) ?_;have av:=hk.e sm;refine Rh z G (l1 g_4 z fid<|av.at z)<|Rh z G (mv z) ?_
  rcases bs L.little with H | H
  ·exact Rh z H (fd a_x z)<|Rh z H (l1 g_3 z fid<|av.at z)<|Rh z H (nq z z)<|Rh z G (pT z H z)<|R z (pF z G z)<|Wl (fun _ q=>⟨L.kind != 1,som<|ifT a9 H,q.k<|s4 z z z z,sm⟩)
  iterate 3 refine Nh z H ?_
  exact Rh z G (pF z H z)<|R z (pF z G z)<|Wl (fun _ q=>⟨false,som<|ifF a9 H,q.k<|s4 z z z z,sm⟩)
 rintro bu wh ⟨xz,rfl,_,s1⟩;revert bu;refine Wo<|Wc z (fun O=>?_) (fun O=>?_)
 ·refine Ws<|Ra z<|Wn ?_
  obtain rfl:=som<|ifT a7 O;exact Wr<|h_ hr z ⟨bup (bM (bup (bup h2 s5) h4) h3<|m1<|lt_ h2.s s5.s) s1,z⟩
 refine Wk<|Wq<|Ws<|R z (fd X_ z) ?_
 have ax:=((al.e h4).c h3<|djs<|mm1 ho.lt s5.s).e s1;refine R z (l1 a_0 z fid<|ax.at z)<|Rm z ?_
 obtain ⟨bv,bw,aU⟩:=bdS<|ifF a7 O;have hd:=lt_ h2.s s5.s;have ay : ∀ k∈[J.z],¬ B k:=or0 (b_ lr)  (m_<|zt' hBw hd);have az:=((am.e h4).c h3<|c_ ay).e s1;refine RX z (rX a_1 p_ z z (p1_0.g az) z z bw) ?_;rintro _ ⟨bx,bz,bA,rfl,Y⟩;refine R z (lnR a_1 z Y)<|Rm z<|Wn ?_
 obtain ⟨_,aV,aa⟩:=bdS aU;refine Wf (σ:=Unit) (ρ:=Bool) (fun (aA:Nat) (_:Unit) a w=>Sat 65 [(1,vI x2),(2,pt w0.z),(5,pt J.z),(35,sl bx bz bA),(36,vI (bv.length:Int)),(37,vI ((aA:Nat):Int))] a∧Below wh.z wh w) (fun (_:Unit) a w=>Sat 65 [(1,vI x2),(2,pt w0.z),(5,pt J.z)] a∧Below wh.z wh w) (fun r ex a w=>ex = .ret∧L_ prog fn (Q0 w0 B r) a w) aV ?_ ?_ ?_ ?_ ?_
 ·exact fun _ q=>⟨q.k<|s6 z z z z z z,br wh⟩
 ·rintro aA _ _ bB _ ab ⟨aW,sa⟩ aX;refine Wu ?_ aW;refine Ws<|R z (lss z z)<|Wn<|Wq<|Wc z (fun _=>?_) (fun hc=>(a_3 ab hc).elim)
  refine Wk<|Wq<|Wb<|Ws ?_
  obtain ⟨aB,bC,ad⟩:=bdS aX;refine RX z (at_ (α:=g_) a_1 p_ z z z (Y.e sa) bC) ?_;rintro _ ⟨_,_,_,rfl,bD,bE,_⟩;obtain ⟨aC,aD,aE,aF,aG,aH,aI,aJ,aK,aL,aM,aN,rfl,_,_,_,_,_,_,_⟩:=a_z bE;refine R z (lN (vs:=vR aB aC aD aE aF aG aH aI aJ aK aL aM aN) J_ p_ z z fid bD)<|E z (fa b_i) ?_
  rintro _ bF ⟨rfl,aO⟩;have a0:=aO.below;refine E0 (fs (cur':=vR aB aC aD aE aF aG aH aI aJ aK aL aM aN) p_ z z (aO.blk:Blk bF bB.z [(Str.v (⟨[]⟩:Str)),vI 0,vI 0,vB false,sl none 0 0,sl none 0 0,sl none 0 0,sl none 0 0]) z (lb z) (oA z) z) ?_;rintro _ _ ⟨bG,bH⟩;have a1:=bH.one;refine Wn<|Ws<|R z (fd e_5 z)<|R z (l1 g_9 z fid<|bG.at z)<|R z (fd e_5 z)<|R z (l1 g_9 z fid<|((((hk.e s1).e sa).e a0).c a1<|djs<|mm1 ap.lt<|lt_ (lt_ h3.s s1.s) sa.s).at z)<|R z (f_3 z z)<|Wn<|Wc z (fun V=>?_) (fun V=>?_)
  ·exact Ws<|Ra z<|Wn<|Wr<|rtO<|qL (som<|ifT ad V).symm<|h_ hr z ⟨bM (bup (bup (bup (bM (bup (bup h2 s5) h4) h3<|m1 hd) s1) sa) a0) a1<|m1<|lt_ (lt_ (lt_ (lt_ hd h4.s) h3.s) s1.s) sa.s,z⟩
  exact Wk<|Wg<|R z (inc_ ab (lt_ (repS.len Y) M_) z z)<|Rm z<|Wl (fun _ q=>⟨(),(som<|ifF ad V).symm,⟨q.k<|s6 z z z z z z,bM (bup sa a0) a1<|m1 sa.s⟩⟩)
 ·rintro _ _ _ ⟨aY,bI⟩;refine Wu ?_ aY;refine Ws<|R z (lss z z)<|Wn<|Wq<|Wc z (fun hc=>(a_4 hc).elim) (fun _=>?_)
  exact We<|fun a' ha'=>⟨rfl,⟨Sat.weaken ha'<|s3 z z z,bI⟩⟩
 ·rintro _ bJ wi rfl ⟨_,sb⟩;have aZ:=elL aa;revert bJ;refine Wo<|Wq<|Ws<|R z (fd K_ z) ?_
  have aP:=(hk.e s1).e sb;refine R z (l1 B_ z fid<|aP.at z) ?_;have a2:=(((h4.ag B).c h3<|c_ ay).e s1).e sb;refine R z (lnR w_ z<|hj.g a2)<|Rm z<|Wn ?_
  obtain ⟨_,b0,af⟩:=bdS aZ;refine Wf (σ:=Unit) (ρ:=Bool) (fun (a3:Nat) (_:Unit) a w=>Sat 65 [(1,vI x2),(2,pt w0.z),(5,pt J.z),(48,sl ae nf cg),(49,vI (L.kids.length:Int)),(50,vI ((a3:Nat):Int))] a∧Below wi.z wi w) (fun (_:Unit) a w=>Sat 65 [(2,pt w0.z),(5,pt J.z)] a∧Below wi.z wi w) (fun r ex a w=>ex = .ret∧L_ prog fn (Q0 w0 B r) a w) b0 ?_ ?_ ?_ ?_ ?_
  ·exact fun _ q=>⟨q.k<|s6 z z z z z z,br wi⟩
  ·rintro a3 _ _ wl _ ah ⟨b1,a4⟩ b2;refine Wu ?_ b1;refine Ws<|R z (lss z z)<|Wn<|Wq<|Wc z (fun _=>?_) (fun hc=>(a_3 ah hc).elim)
   refine Wk<|Wq<|Wb<|Ws ?_
   obtain ⟨aQ,bK,b3⟩:=bdS b2;refine RX z (at_ (α:=Int) w_ z_3 z z z (hj.g<|a2.e a4) bK) ?_;rintro _ ⟨_,_,_,rfl,bL,bN,_⟩;obtain ⟨rfl,_⟩:=O_ bN;refine R z (l1 g_3 z fid<|bL.at0 z)<|Ra z<|Wn<|Wq ?_
   obtain ⟨bO,ai,aj⟩:=bdS b3;refine Wt (fun a w=>∃ (a5:Bool),a5=bO∧Sat 65 [(1,vI x2),(2,pt w0.z),(5,pt J.z),(48,sl ae nf cg),(49,vI (L.kids.length:Int)),(50,vI ((a3:Nat):Int)),(60,vB a5)] a∧Below wl.z wl w) ?_ ?_
   ·refine Wg<|Rm z<|R z (lss z z)<|Rm z ?_
    rcases bs (decide<|aQ<0) with I | I
    ·iterate 3 refine Nh z I ?_
     exact R z (pT z I z)<|Wl (fun _ q=>⟨true,som<|ifT ai I,q.k<|s7 z z z z z z z,br wl⟩)
    exact Rh z I (mv z)<|Rh z I (mv z)<|Rh z I (b_r z z)<|R z (pF z I z)<|Wl (fun _ q=>⟨decide<|x2≤aQ,som<|ifF ai I,q.k<|s7 z z z z z z z,br wl⟩)
   rintro bP _ ⟨a5,rfl,_,aR⟩;revert bP;refine Wo<|Wc z (fun W=>?_) (fun W=>?_)
   ·exact Ws<|Ra z<|Wn<|Wr<|rtO<|qL (som<|ifT aj W).symm<|h_ hr z ⟨bup (bup (bup (bup (bM (bup (bup h2 s5) h4) h3<|m1 hd) s1) sb) a4) aR,z⟩
   exact Wk<|Wg<|R z (inc_ ah (lt_ (repS.len hj) M_) z z)<|Rm z<|Wl (fun _ q=>⟨(),(som<|ifF aj W).symm,⟨q.k<|s6 z z z z z z,bup a4 aR⟩⟩)
  ·rintro _ _ _ ⟨b4,bQ⟩;refine Wu ?_ b4;refine Ws<|R z (lss z z)<|Wn<|Wq<|Wc z (fun hc=>(a_4 hc).elim) (fun _=>?_)
   exact We<|fun a' ha'=>⟨rfl,⟨Sat.weaken ha'<|s2 z z,bQ⟩⟩
  ·rintro _ bR _ rfl ⟨_,sc⟩;have b5:=elL af;revert bR;refine Wo<|Ws<|R z (lN (vs:=[sl A0 N0 C0]) y_ t_ z z fid<|((ax.e sb).e sc).row 0 1 z)<|R z (lN (vs:=vR L aq nr cs au nt cv aw nx cy ae nf cg) J_ p_ z z fid<|(aP.e sc).row 0 8 z) ?_
   have hn:=a2.e sc;obtain ⟨_,bS,b6⟩:=bdS b5;refine E z (fc call200 z<|W_w2o (B:=B) bS (zt' hBw<|lt_ (lt_ (lt_ (lt_ (lt_ hd h4.s) h3.s) s1.s) sb.s) sc.s) (p1_0.g<|(az.e sb).e sc) an bh bi (bj.g hn) (bk.g hn) (bm.g hn)<|hj.g hn) ?_;rintro _ _ ⟨bT,rfl⟩;refine Ra z<|Wn ?_
   obtain rfl:=som b6;exact Wr<|h_ hr z ⟨bup (bup (bup (bup (bM (bup (bup h2 s5) h4) h3<|m1 hd) s1) sb) sc) bT,z⟩
  rintro _ _ _ _ rfl ⟨rfl,b7⟩;have b8:=elR af;obtain rfl:=som b8;exact ⟨b7,z⟩
 rintro _ _ _ _ rfl ⟨rfl,b9⟩;have ba:=elR aa;obtain rfl:=som ba;exact ⟨b9,z⟩
theorem W_w2q {x1:d_} {res:Bool} (hm:f_Q n x1=some res) (hBw:B≤w0.z) (p1_0:repS w0 B (sl A0 N0 C0) x1.rules):o_ prog 116 [(.agg #[sl A0 N0 C0])] w0 (Q0 w0 B res):=by
 unfold f_Q at hm
 refine goF func116 z z (lb z) fun fn hr=>Ws<|E z (fb z) ?_
 rintro _ wh ⟨rfl,O⟩;have G:=O.below;have V:Blk wh w0.z [sl A0 N0 C0]:=O.blk;refine Ra z<|Wn<|Wq<|Ws<|R z (fd X_ z)<|R z (l1 a_0 z fid<|V.at z) ?_
 have W:=p1_0.e G;refine R z (lnR a_1 z W) ?_;obtain ⟨_,ei,hma⟩:=bdS hm;refine E z (fc call168 z<|d_1 (B:=B) ei (zt' hBw G.s) (a_M<|repS.len W) (ii z)<|ii z) ?_;rintro _ H ⟨s1,rfl⟩;refine R z (not_ z)<|Wn<|Wc z (fun I=>?_) (fun I=>?_)
 ·refine Ws<|Ra z<|Wn ?_
  obtain rfl:=som<|ifT hma I;exact Wr<|h_ hr z ⟨bup G s1,z⟩
 refine Wk<|Wq<|Ws<|R z (fd X_ z) ?_
 have hb:=V.e s1;refine R z (l1 a_0 z fid<|hb.at z) ?_;have hd:=(G.ag B).e s1;refine R z (lnR a_1 z<|p1_0.g hd)<|Rm z<|Wn ?_
 obtain ⟨_,huj,hmc⟩:=bdS<|ifF hma I;refine Wf (σ:=Unit) (ρ:=Bool) (fun (ke:Nat) (_:Unit) a w=>Sat 20 [(1,pt w0.z),(11,vI (x1.rules.length:Int)),(12,vI ((ke:Nat):Int))] a∧Below H.z H w) (fun (_:Unit) a w=>Sat 20 [] a∧Below H.z H w) (fun r ex a w=>ex = .ret∧L_ prog fn (Q0 w0 B r) a w) huj ?_ ?_ ?_ ?_ ?_
 ·exact fun _ q=>⟨q.k<|s3 z z z,br H⟩
 ·rintro ke _ _ _ _ J ⟨hSk,s4⟩ hml;refine Wu ?_ hSk;refine Ws<|R z (lss z z)<|Wn<|Wq<|Wc z (fun _=>?_) (fun hc=>(a_3 J hc).elim)
  refine Wk<|Wq<|Wb<|Ws<|Rm z<|Ra z<|Wn<|Ws<|R z (lN (vs:=[sl A0 N0 C0]) y_ t_ z z fid<|(hb.e s4).row 0 1 z)<|Rm z ?_
  obtain ⟨_,em,hmf⟩:=bdS hml;refine E z (fc call169 z<|W_w2p (B:=B) em (zt' hBw<|lt_ (lt_ G.s s1.s) s4.s) (p1_0.g<|hd.e s4)<|ic (Nat.le_of_lt J)<|lt_ (repS.len p1_0) M_) ?_;rintro _ _ ⟨sg,rfl⟩;refine R z (not_ z)<|Wn<|Wc z (fun L=>?_) (fun L=>?_)
  ·exact Ws<|Ra z<|Wn<|Wr<|rtO<|qL (som<|ifT hmf L).symm<|h_ hr z ⟨bup (bup (bup G s1) s4) sg,z⟩
  exact Wk<|Wg<|R z (inc_ J (lt_ (repS.len p1_0) M_) z z)<|Rm z<|Wl (fun _ q=>⟨(),(som<|ifF hmf L).symm,⟨q.k<|s3 z z z,bup s4 sg⟩⟩)
 ·rintro _ _ _ ⟨hSn,so⟩;refine Wu ?_ hSn;refine Ws<|R z (lss z z)<|Wn<|Wq<|Wc z (fun hc=>(a_4 hc).elim) (fun _=>?_)
  exact We<|fun a' ha'=>⟨rfl,⟨Sat.weaken ha' sn,so⟩⟩
 ·rintro _ ap _ rfl ⟨_,sq⟩;have hmr:=elL hmc;revert ap;refine Wo<|Ws<|Ra z<|Wn ?_
  obtain rfl:=som hmr;exact Wr<|h_ hr z ⟨bup (bup G s1) sq,z⟩
 rintro _ _ _ _ rfl ⟨rfl,hqs⟩;have hmt:=elR hmc;obtain rfl:=som hmt;exact ⟨hqs,z⟩
theorem i_x {x1:d_} {x2:Int} {res:Bool} (hm:d_R n x1 x2=some res) (hBw:B≤w0.z) (p1_0:repS w0 B (sl A0 N0 C0) x1.rules) (p2_0:inI x2):o_ prog 190 [(.agg #[sl A0 N0 C0]),vI x2] w0 (Q0 w0 B res):=by
 unfold d_R at hm
 refine goF func190 z z (lb z) fun fn hr=>Ws<|E z (fb z) ?_
 rintro _ H ⟨rfl,h5⟩;have h1:=h5.below;have h6:Blk H w0.z [sl A0 N0 C0]:=h5.blk;refine Ra z<|Wn<|Wq ?_
 obtain ⟨u8,J,hma⟩:=bdS hm;refine Wt (fun a w=>∃ (x4:Bool),x4=u8∧Sat 12 [(4,vB x4)] a∧Below H.z H w) ?_ ?_
 ·refine Wg<|R z (lN (vs:=[sl A0 N0 C0]) y_ t_ z z fid<|h6.row 0 1 z) ?_
  obtain ⟨rb,ec,I⟩:=bdS J;refine E z (fc call116 z<|W_w2q (B:=B) ec (zt' hBw h1.s)<|p1_0.e h1) ?_;rintro _ _ ⟨s2,rfl⟩;refine Rm z ?_
  rcases bs rb with G | G
  ·refine Rh z G (lN (vs:=[sl A0 N0 C0]) y_ t_ z z fid<|(h6.e s2).row 0 1 z)<|Rh z G (mv z) ?_
   obtain ⟨rd,ee,hmf⟩:=bdS<|ifT I G;refine Eg z z G z (fc call199 z<|i_v (B:=B) ee (zt' hBw<|lt_ h1.s s2.s) (p1_0.g<|(h1.ag B).e s2) p2_0) ?_;rintro _ _ ⟨sg,rfl⟩;exact R z (pT z G z)<|Ra z<|Wl (fun _ q=>⟨rd,som hmf,q.k<|s1 z,bup s2 sg⟩)
  iterate 3 refine Nh z G ?_
  exact R z (pF z G z)<|Ra z<|Wl (fun _ q=>⟨false,som<|ifF I G,q.k<|s1 z,s2⟩)
 rintro ah _ ⟨x4,rfl,_,si⟩;revert ah;refine Wo ?_;obtain rfl:=som hma;exact Wr<|h_ hr z ⟨bup h1 si,z⟩
def Q21 (w0:World) (B:Zone) (r:(Option<|Int×Int)) (v:Value) (w':World):Prop:=Bw w0 w'∧(fun G=>∃ (v1:Value) (S1:List Nat),v1=v∧a_w 226 w' S1 v1 G∧(∀ k∈S1,w0.z≤k)) r
theorem d_2 {x1:Int} {x2:Int} {res:(Option<|Int×Int)} (hm:b_v x1 x2=some res) (hBw:B≤w0.z) (p1_0:inI x1) (p2_0:inI x2):o_ prog 233 [vI x1,vI x2] w0 (Q21 w0 B res):=by
 unfold b_v at hm
 refine goF func233 z z (lb z) fun fn hr=>Ws<|Ra z<|Wn<|Ws<|Rm z<|Rm z<|R z (bP (parts:=[(0,.tmp 5),(1,.tmp 6)]) (cs:=[vI x1,vI x2]) n_7 z z)<|E z (fb z) ?_
 rintro _ H ⟨rfl,G⟩;refine R z (k_l d_226 (fun _ h=>by cases h) z)<|Ra z<|Wn ?_
 obtain rfl:=som hm;exact Wr<|h_ hr z ⟨G.below,.iface 226<|pt w0.z,[w0.z],z,m_f (G.blk:Blk H w0.z [vI x1,vI x2]) p1_0 p2_0 z,b_ lr⟩
def Q22 (w0:World) (B:Zone) (r:(List UInt8)×(Option<|Int×Int)) (v:Value) (w':World):Prop:=Bw w0 w'∧un2 (fun J L=>∃ (G:Option Addr) (H I:Nat) (v2:Value) (S2:List Nat),v = .tuple #[sl G H I,v2]∧repS w' w'.z (sl G H I) J∧a_w 226 w' S2 v2 L∧(∀ k∈S2,w0.z≤k)) r
theorem g_G {x1:a_n} {b1 o1:Nat} {x2:Int} {x3:Int} {res:(List UInt8)×(Option<|Int×Int)} (hm:d_k x1 x2 x3=some res) (hBw:B≤w0.z) (p1_0:repS w0 B (sl A0 N0 C0) x1.d.rules) (p1_1:repS w0 B (sl A5 N5 C5) x1.b) (hC1:U_ w0 b1 o1 [sl A0 N0 C0,sl A5 N5 C5]) (hC1b:B b1) (p2_0:inI x2) (p3_0:inI x3):o_ prog 262 [(.pointer<|some ⟨b1,o1,none⟩),vI x2,vI x3] w0 (Q22 w0 B res):=by
 unfold d_k at hm
 refine goF func262 z z (lb z) fun fn hr=>Ws<|Ra z<|Ra z<|Wn<|Wq<|Ws<|Rm z<|Rm z<|R z (V_ z)<|R z (fd e_4 z)<|R z (l1 Q_ z fid<|hC1.at (j:=1) z)<|R z (lnR n_ z p1_1)<|Rm z<|R z (sb_ z z)<|R z (a_9 z z)<|Wn<|Wc z (fun G=>?_) (fun G=>?_)
 ·refine Ws<|Rm z ?_
  obtain ⟨_,J,H⟩:=bdS<|ifT hm G;refine E z (fc call233 z<|d_2 (B:=B) J hBw p2_0<|ii z) ?_;rintro _ _ ⟨s1,v4,L,rfl,h6,O⟩;refine Ra z<|Ra z<|Wn ?_
  obtain rfl:=som H;exact Wr<|a_R hr z z ⟨s1,none,0,0,v4,L,z,repS.mono (or_ onL an_)<|a_s s1.s,h6,O⟩
 refine Wk<|Ws<|Rm z<|R z (V_ z)<|R z (fd e_4 z)<|R z (l1 Q_ z fid<|hC1.at (j:=1) z)<|Rm z<|Rm z<|Rm z<|R z (add_ z z) ?_
 obtain ⟨_,V,I⟩:=bdS<|ifF hm G;refine RX z (rX n_ z_5 z z p1_1 z z V) ?_;rintro _ ⟨aa,nb,cc,rfl,hd⟩;refine Ra z<|Ra z<|Wn ?_
 obtain rfl:=som I;exact Wr<|a_R hr z z ⟨br w0,aa,nb,cc,.nilIface,([]:List Nat),z,repS.mono hd hBw,c_Y,an_⟩
theorem W_w1g {x1:List UInt8} {x2:Bool} {res:Int} (hm:e_w x1 x2=some res) (hBw:B≤w0.z) (p1_0:repS w0 B (sl A0 N0 C0) x1):o_ prog 76 [sl A0 N0 C0,vB x2] w0 (Q9 w0 B res):=by
 unfold e_w at hm
 refine goF func76 z z (lb z) fun fn hr=>Ws<|Ra z<|Wn<|Wq<|Ws<|Rm z<|R z (lnR n_ z p1_0)<|R z (a_9 z z)<|Wn<|Wc z (fun H=>?_) (fun H=>?_)
 ·refine Ws<|Ra z<|Wn ?_
  obtain rfl:=som<|ifT hm H;exact Wr<|h_ hr z ⟨br w0,z,ii z⟩
 refine Wk<|Ws<|Ra z<|Wn<|Wq<|Ws<|Rm z<|R z (lnR n_ z p1_0)<|Rm z<|Wn ?_
 obtain ⟨_,huc,J⟩:=bdS<|ifF hm H;refine Wf (σ:=Int) (ρ:=Int) (fun (k5:Nat) (x0:Int) a w=>Sat 38 [(0,sl A0 N0 C0),(1,vB x2),(5,vI x0),(11,vI (x1.length:Int)),(12,vI ((k5:Nat):Int))] a∧Below w0.z w0 w∧inI x0) (fun (x0:Int) a w=>Sat 38 [(5,vI x0)] a∧Below w0.z w0 w∧inI x0) (fun r ex a w=>ex = .ret∧L_ prog fn (Q9 w0 B r) a w) huc ?_ ?_ ?_ ?_ ?_
 ·exact fun _ q=>⟨q.k<|s5 z z z z z,br w0,ii z⟩
 ·rintro k5 x0 _ G _ L ⟨hSd,s6,h2⟩ hme;refine Wu ?_ hSd;refine Ws<|R z (lss z z)<|Wn<|Wq<|Wc z (fun _=>?_) (fun hc=>(a_3 L hc).elim)
  refine Wk<|Wq<|Wb<|Ws<|Rm z<|Ra z<|Wn<|Ws<|Rm z<|Wn ?_
  obtain ⟨uf,hua,hmg⟩:=bdS hme;refine Wt (fun a w=>∃ (x3:Int),x3=uf∧Sat 38 [(0,sl A0 N0 C0),(1,vB x2),(5,vI x3),(11,vI (x1.length:Int)),(12,vI ((k5:Nat):Int))] a∧Below G.z G w∧inI x3) ?_ ?_
  ·refine Wc z (fun I=>?_)<|fun I=>?_
   ·refine Wg<|Rm z<|R z (g_O z z (by decide))<|Rm z<|Rm z ?_
    have hb:=p1_0.e s6;refine R z (lnR n_ z hb)<|R z (sb_ z z)<|Rm z<|R z (sb_ z z) ?_
    obtain ⟨xh,ei,hmj⟩:=bdS<|ifT hua I;refine RX z (at_ (α:=UInt8) n_ z_5 z z z hb ei) ?_;rintro _ ⟨_,_,_,rfl,hk,hl,_⟩;obtain rfl:=u8 hl;exact R z (l1 g_5 z fid<|hk.at0 z)<|R z (b_W d_5 d_3 z)<|R z (rd_or z z)<|Ra z<|Wl (fun _ q=>⟨a_u .i64 (· ||| ·) (b_j .i64 x0 8)<|byteI xh,som hmj,q.k<|s5 z z z z z,br G,e_R _ _ _⟩)
   refine Wg<|Rm z<|R z (g_O z z (by decide))<|Rm z<|Rm z ?_
   obtain ⟨xm,en,hmo⟩:=bdS<|ifF hua I;refine RX z (at_ (α:=UInt8) n_ z_5 z z z (p1_0.e s6) en) ?_;rintro _ ⟨_,_,_,rfl,hp,hq,_⟩;obtain rfl:=u8 hq;exact R z (l1 g_5 z fid<|hp.at0 z)<|R z (b_W d_5 d_3 z)<|R z (rd_or z z)<|Ra z<|Wl (fun _ q=>⟨a_u .i64 (· ||| ·) (b_j .i64 x0 8)<|byteI xm,som hmo,q.k<|s5 z z z z z,br G,e_R _ _ _⟩)
  rintro ar _ ⟨x3,rfl,_,ss,ht⟩;revert ar;exact Wo<|Wg<|R z (inc_ L (lt_ (repS.len p1_0) M_) z z)<|Rm z<|Wl (fun _ q=>⟨x3,(som hmg).symm,⟨q.k<|s5 z z z z z,bup s6 ss,ht⟩⟩)
 ·rintro x0 _ _ ⟨hSu,sv,h2⟩;refine Wu ?_ hSu;refine Ws<|R z (lss z z)<|Wn<|Wq<|Wc z (fun hc=>(a_4 hc).elim) (fun _=>?_)
  exact We<|fun a' ha'=>⟨rfl,⟨Sat.weaken ha'<|s1 z,sv,h2⟩⟩
 ·rintro x0 aw _ rfl ⟨_,sx,h2⟩;have hmy:=elL J;revert aw;refine Wo<|Ws<|Rm z<|Ra z<|Wn ?_
  obtain rfl:=som hmy;exact Wr<|h_ hr z ⟨sx,z,h2⟩
 rintro _ _ _ _ rfl ⟨rfl,hqz⟩;have O:=elR J;obtain rfl:=som O;exact ⟨hqz,z⟩
def Q23 (w0:World) (B:Zone) (r:Int×Int×(Option<|Int×Int)) (v:Value) (w':World):Prop:=Bw w0 w'∧un3 (fun G H I=>∃ (v1:Value) (S1:List Nat),v = .tuple #[vI G,vI H,v1]∧inI G∧inI H∧a_w 226 w' S1 v1 I∧(∀ k∈S1,w0.z≤k)) r
theorem g_H {x1:a_n} {b1 o1:Nat} {x2:Int} {x3:Int} {res:Int×Int×(Option<|Int×Int)} (hm:d_l x1 x2 x3=some res) (hBw:B≤w0.z) (p1_0:repS w0 B (sl A0 N0 C0) x1.d.rules) (p1_1:repS w0 B (sl A5 N5 C5) x1.b) (hC1:U_ w0 b1 o1 [sl A0 N0 C0,sl A5 N5 C5]) (hC1b:B b1) (p2_0:inI x2) (p3_0:inI x3):o_ prog 224 [(.pointer<|some ⟨b1,o1,none⟩),vI x2,vI x3] w0 (Q23 w0 B res):=by
 unfold d_l at hm
 refine goF func224 z z (lb z) fun fn hr=>Ws<|Ra z<|Ra z<|Ra z<|Wn<|Ws<|Rm z<|R z (V_ z)<|R z (fd k_7 z)<|R z (fd X_ z)<|R z (l1 a_0 z fid<|hC1.at (j:=0) z)<|Rm z ?_
 obtain ⟨x5,eq,hmr⟩:=bdS hm;refine RX z (at_ (α:=g_) a_1 p_ z z z p1_0 eq) ?_;rintro _ ⟨_,_,_,rfl,ht,hu,_⟩;obtain ⟨I,J,L,O,na,cb,ac,nd,ce,af,ng,ch,rfl,_,_,hv,_,_,_,_⟩:=a_z hu;refine R z (lN (vs:=vR x5 I J L O na cb ac nd ce af ng ch) J_ p_ z z fid ht)<|E z (fa b_i) ?_
 rintro _ ws ⟨rfl,hi⟩;have G:=hi.below;refine E0 (fs (cur':=vR x5 I J L O na cb ac nd ce af ng ch) p_ z z (hi.blk:Blk ws w0.z [(Str.v (⟨[]⟩:Str)),vI 0,vI 0,vB false,sl none 0 0,sl none 0 0,sl none 0 0,sl none 0 0]) z (lb z) (oA z) z) ?_;rintro _ _ ⟨hj,sx⟩;have h1:=sx.one;refine Wn<|Ws<|Rm z<|Rm z<|R z (fd a_t z)<|R z (l1 g_3 z fid<|hj.at z) ?_
 have hk : ∀ k∈[w0.z],¬ B k:=or0 (b_ lr)  (m_ hBw);have hl:=(G.ag B).c h1<|c_ hk
 have hn:=lt_ G.s h1.s;obtain ⟨_,_,ey,hmm⟩:=a_A hmr;refine E z (fc call262 z<|g_G (B:=B) ey (zt' hBw hn) (p1_0.g hl) (p1_1.g hl) ((hC1.e G).c h1<|(c_ hk) _ hC1b) hC1b p3_0 hv) ?_;rintro _ wz ⟨s3,_,_,_,W,Y,rfl,a0,ho,a1⟩;refine Rm z<|R z (ext_ z z)<|R z (ext_ z z)<|Ra z<|Ra z<|Wn<|Wq<|Ws<|Rm z<|R z (c_E c_H z z ho)<|Wn<|Wc z (fun H=>?_) (fun H=>?_)
 ·refine Ws<|Rm z<|Rm z<|Ra z<|Ra z<|Ra z<|Wn ?_
  obtain rfl:=som<|ifT hmm H;exact Wr<|F_ hr z z z ⟨bup (bM G h1<|b_ lr) s3,W,Y,z,ii z,p3_0,ho,l_ a1 hn⟩
 refine Wk<|Wq (Wd (X:=noX) 0 (.rd 0<|.rd 1<|.rd 2<|.rd 4<|.rd 5<|.rd 6<|.rd 7<|.ef 3<|.rd 8<|.rd 9<|.rd 10 .done) mo (by kernel_rfl) fun a5 s2 _=>dR z z (mv z)<|dR z z (fd c_r z) ?_)
 have hp:=(hj.e s3).e s2;refine dR z z (l1 g_4 z fid<|hp.at z)<|dR z z (mv z)<|dR z z (fd a_t z)<|dR z z (l1 g_3 z fid<|hp.at z)<|dR z z (add_ z z) ?_
 obtain ⟨_,a2,V⟩:=bdS<|ifF hmm H;refine dE z z (fc call76 z<|W_w1g (B:=wz.z) a2 (a_s s2.s)<|a0.e s2) (.inr fun _ _ h=>v_<|h.1) ?_;rintro _ _ ⟨a3,rfl,a4⟩
 iterate 3 refine dR z z (asg z) ?_
 refine pD<|Wo ?_
 obtain rfl:=som V;exact Wr<|F_ hr z z z ⟨bup (bup (bup (bM G h1<|b_ lr) s3) s2) a3,.nilIface,([]:List Nat),z,a4,iA _ _,c_Y,an_⟩
def Q24 (w0:World) (B:Zone) (r:Int×(Option<|Int×Int)) (v:Value) (w':World):Prop:=Bw w0 w'∧un2 (fun G H=>∃ (v1:Value) (S1:List Nat),v = .tuple #[vI G,v1]∧inI G∧a_w 226 w' S1 v1 H∧(∀ k∈S1,w0.z≤k)) r
theorem W_w2r {x1:a_n} {b1 o1:Nat} {x2:g_} {x3:Int} {res:Int×(Option<|Int×Int)} (hm:f_Z x1 x2 x3=some res) (hBw:B≤w0.z) (p1_0:repS w0 B (sl A0 N0 C0) x1.d.rules) (p1_1:repS w0 B (sl A5 N5 C5) x1.b) (hC1:U_ w0 b1 o1 [sl A0 N0 C0,sl A5 N5 C5]) (hC1b:B b1) (p2_0:x2.name.b.length≤LEN) (p2_1:inI x2.kind) (p2_2:inI x2.size) (p2_4:repS w0 B (sl A2 N2 C2) x2.bytes) (p2_5:repS w0 B (sl A3 N3 C3) x2.names) (p2_6:repS w0 B (sl A1 N1 C1) x2.tags) (p2_7:repS w0 B (sl A4 N4 C4) x2.kids) (p3_0:inI x3):o_ prog 225 [(.pointer<|some ⟨b1,o1,none⟩),.agg #[Str.v x2.name,vI x2.kind,vI x2.size,vB x2.little,sl A2 N2 C2,sl A3 N3 C3,sl A1 N1 C1,sl A4 N4 C4],vI x3] w0 (Q24 w0 B res):=by
 unfold f_Z at hm
 refine goF func225 z z (lb z) fun fn hr=>Ws<|E z (fb z) ?_
 rintro _ H ⟨rfl,h6⟩;have G:=h6.below;have O:Blk H w0.z (vR x2 A2 N2 C2 A3 N3 C3 A1 N1 C1 A4 N4 C4):=h6.blk;refine Ra z<|Ra z<|Wn<|Wq<|Ws<|R z (fd a_K z)<|R z (l1 Q_ z fid<|O.at z)<|R z (lnR n_ z<|p2_4.e G)<|Rm z<|Wn ?_
 obtain ⟨_,hui,L⟩:=bdS hm;refine Wf (σ:=Unit) (ρ:=Int×(Option<|Int×Int)) (fun (k9:Nat) (_:Unit) a w=>Sat 52 [(0,.pointer<|some ⟨b1,o1,none⟩),(2,vI x3),(4,pt w0.z),(11,sl A2 N2 C2),(12,vI (x2.bytes.length:Int)),(13,vI ((k9:Nat):Int))] a∧Below H.z H w) (fun (_:Unit) a w=>Sat 52 [(2,vI x3),(4,pt w0.z)] a∧Below H.z H w) (fun r ex a w=>ex = .ret∧L_ prog fn (Q24 w0 B r) a w) hui ?_ ?_ ?_ ?_ ?_
 ·exact fun _ q=>⟨q.k<|s6 z z z z z z,br H⟩
 ·rintro k9 _ _ _ _ hka ⟨hSj,s1⟩ hmk;refine Wu ?_ hSj;refine Ws<|R z (lss z z)<|Wn<|Wq<|Wc z (fun _=>?_) (fun hc=>(a_3 hka hc).elim)
  refine Wk<|Wq<|Wb<|Ws<|Rm z ?_
  obtain ⟨_,el,hmb⟩:=bdS hmk;have hd:=(G.ag B).e s1;refine RX z (at_ (α:=UInt8) n_ z_5 z z z (p2_4.g hd) el) ?_;rintro _ ⟨_,_,_,rfl,hn,ho,_⟩;obtain rfl:=u8 ho;refine R z (l1 g_5 z fid<|hn.at0 z)<|Ra z<|Ra z<|Wn<|Wq<|Ws<|Rm z<|Rm z<|R z (add_ z z)<|Rm z<|R z (V_ z)<|R z (fd e_4 z) ?_
  have he:=(hC1.e G).e s1;refine R z (l1 Q_ z fid<|he.at (j:=1) z) ?_;have hf:=p1_1.g hd;refine R z (lnR n_ z hf)<|R z (b_r z z)<|Wn<|Wc z (fun I=>?_) (fun I=>?_)
  ·refine Ws<|Rm z<|Rm z ?_
   have hg:=lt_ G.s s1.s;obtain ⟨_,em,hmp⟩:=bdS<|ifT hmb I;refine E z (fc call233 z<|d_2 (B:=B) em (zt' hBw hg) p3_0<|ii z) ?_;rintro _ _ ⟨sq,vr,Ss,rfl,ht,hu⟩;exact Ra z<|Ra z<|Wn<|Wr<|rtO<|qL (som hmp).symm<|a_R hr z z ⟨bup (bup G s1) sq,vr,Ss,z,p3_0,ht,l_ hu hg⟩
  refine Wk<|Ws<|Rm z<|R z (V_ z)<|R z (fd e_4 z)<|R z (l1 Q_ z fid<|he.at (j:=1) z)<|Rm z<|Rm z<|R z (add_ z z) ?_
  obtain ⟨_,ev,hmc⟩:=bdS<|ifF hmb I;refine RX z (at_ (α:=UInt8) n_ z_5 z z z hf ev) ?_;rintro _ ⟨_,_,_,rfl,hw,hx,_⟩;obtain rfl:=u8 hx;refine R z (l1 g_5 z fid<|hw.at0 z)<|Rm z<|R z (nq z z)<|Wn<|Wc z (fun J=>?_) (fun J=>?_)
  ·refine Ws<|Rm z<|Rm z<|Rm z<|R z (add_ z z) ?_
   have hh:=lt_ G.s s1.s;obtain ⟨_,ey,hmz⟩:=bdS<|ifT hmc J;refine E z (fc call233 z<|d_2 (B:=B) ey (zt' hBw hh) (iA _ _)<|ii z) ?_;rintro _ _ ⟨a1,a2,a3,rfl,a4,a5⟩;exact Ra z<|Ra z<|Wn<|Wr<|rtO<|qL (som hmz).symm<|a_R hr z z ⟨bup (bup G s1) a1,a2,a3,z,p3_0,a4,l_ a5 hh⟩
  exact Wk<|Wg<|R z (inc_ hka (lt_ (repS.len p2_4) M_) z z)<|Rm z<|Wl (fun _ q=>⟨(),(som<|ifF hmc J).symm,⟨q.k<|s6 z z z z z z,s1⟩⟩)
 ·rintro _ _ _ ⟨V,a6⟩;refine Wu ?_ V;refine Ws<|R z (lss z z)<|Wn<|Wq<|Wc z (fun hc=>(a_4 hc).elim) (fun _=>?_)
  exact We<|fun a' ha'=>⟨rfl,⟨Sat.weaken ha'<|s2 z z,a6⟩⟩
 ·rintro _ a7 _ rfl ⟨_,s5⟩;have W:=elL L;revert a7;refine Wo<|Ws<|Rm z<|R z (fd a_K z)<|R z (l1 Q_ z fid<|(O.e s5).at z)<|R z (lnR n_ z<|p2_4.g<|(G.ag B).e s5)<|R z (add_ z z)<|Ra z<|Ra z<|Wn ?_
  obtain rfl:=som W;exact Wr<|a_R hr z z ⟨bup G s5,.nilIface,([]:List Nat),z,iA _ _,c_Y,an_⟩
 rintro _ _ _ _ rfl ⟨rfl,Y⟩;have a0:=elR L;obtain rfl:=som a0;exact ⟨Y,z⟩
def Q25 (w0:World) (B:Zone) (r:Val×Int×(Option<|Int×Int)) (v:Value) (w':World):Prop:=Bw w0 w'∧un3 (fun G H W=>∃ (I:Option Addr) (J L:Nat) (S1:List Nat) (a2:Option Addr) (O V:Nat) (S2:List Nat) (v3:Value) (S3:List Nat),v = .tuple #[(.agg #[vI G.number,sl I J L,sl a2 O V]),vI H,v3]∧inI G.number∧a_ w' S1 (sl I J L) G.bytes∧a_ w' S2 (sl a2 O V) G.items∧inI H∧a_w 226 w' S3 v3 W∧(∀ k∈S3,w0.z≤k)∧(S1++S2).Nodup∧(∀ k∈(S1++S2),w0.z≤k)) r
theorem W_w1h {x1:a_n} {b1 o1:Nat} {x2:Int} {x3:Int} {res:Val×Int×(Option<|Int×Int)} (hm:e_A x1 x2 x3=some res) (hBw:B≤w0.z) (p1_0:repS w0 B (sl A0 N0 C0) x1.d.rules) (p1_1:repS w0 B (sl A5 N5 C5) x1.b) (hC1:U_ w0 b1 o1 [sl A0 N0 C0,sl A5 N5 C5]) (hC1b:B b1) (p2_0:inI x2) (p3_0:inI x3):o_ prog 226 [(.pointer<|some ⟨b1,o1,none⟩),vI x2,vI x3] w0 (Q25 w0 B res):=by
 unfold e_A at hm
 refine goF func226 z z (lb z) fun fn hr=>Ws<|E z (fa a_b) ?_
 rintro _ wk ⟨rfl,V⟩;have G:=V.below;have h2:Blk wk w0.z [vI 0,sl none 0 0,sl none 0 0]:=V.blk;refine Ra z<|Ra z<|Wn<|Ws<|Rm z<|Rm z<|Rm z ?_
 obtain ⟨_,_,el,O⟩:=a_A hm;refine E z (fc call262 z<|g_G (B:=B) el (zt' hBw G.s) (p1_0.e G) (p1_1.e G) (hC1.e G) hC1b p2_0 p3_0) ?_;rintro _ _ ⟨s1,_,_,_,vm,Sn,rfl,ho,ha,hb⟩;refine Rm z<|R z (ext_ z z)<|R z (ext_ z z)<|Ra z<|Ra z<|Wn<|Wq<|Ws<|Rm z<|R z (c_E c_H z z ha)<|Wn<|Wc z (fun H=>?_) (fun H=>?_)
 ·refine Ws<|R z (bP (parts:=[]) (cs:=[vI 0,sl none 0 0,sl none 0 0]) W_ z z)<|Rm z<|Rm z<|E0 (fs (cur':=[vI 0,sl none 0 0,sl none 0 0]) i_ z z (h2.e s1) z (lb z) (oA z) z) ?_
  rintro _ _ ⟨hp,sq⟩;have hc:=sq.one;refine Ra z<|Ra z<|Wn ?_
  obtain rfl:=som<|ifT O H;exact Wr<|F_ hr (q_ u_ i_ z hp z) z z ⟨bM (bup G s1) hc<|b_ lr,none,0,0,[],none,0,0,[],vm,Sn,z,ii z,onL,onL,p2_0,ha.c hc<|k_ hb h2.lt lr,l_ hb G.s,nd0,al0⟩
 refine Wk<|Ws<|E z (f0 (α:=UInt8) R_) ?_
 rintro _ _ ⟨_,_,_,rfl,s3,ht⟩;refine Rm z ?_;obtain ⟨_,er,hms⟩:=bdS<|ifF O H;refine E z (fN (α:=UInt8) R_ er z z ht a_h<|ho.e s3) ?_;rintro _ _ ⟨Sd,I,J,L,rfl,se,hu,hv,hf⟩;refine R z (bP (parts:=[(1,.tmp 25)]) (cs:=[vI 0,sl I J L,sl none 0 0]) W_ z z)<|Rm z<|Rm z<|R z (add_ z z) ?_
 have hg:=mm1 h2.lt s1.s;refine E0 (fs (cur':=[vI 0,sl I J L,sl none 0 0]) i_ z z (((h2.e s1).e s3).c se<|djs hg) z (lb z) (oA z) z) ?_;rintro _ _ ⟨hw,sx⟩;have hh:=sx.one;refine Ra z<|Ra z<|Wn ?_
 obtain rfl:=som hms;have hi:=lt_ G.s s1.s;have hj:=m1 hi;exact Wr<|F_ hr (q_ u_ i_ z hw z) z z ⟨bM (bM (bup (bup G s1) s3) se hj) hh<|b_ lr,I,J,L,Sd,none,0,0,[],.nilIface,([]:List Nat),z,ii z,hu.c hh (or1 hf hg (P_ (b_ h2.lt)<|lt_ s1.s s3.s) : ∀ k∈Sd,k∉[w0.z]),onL,iA _ _,c_Y,an_,na_ hv H_<|nmN _,aa_ (a_2 hf hj<|lt_ hi s3.s) an_⟩
theorem W_w1i {x1:List UInt8} {res:Int} (hm:e_x x1=some res) (hBw:B≤w0.z) (p1_0:repS w0 B (sl A0 N0 C0) x1):o_ prog 263 [sl A0 N0 C0] w0 (Q9 w0 B res):=by
 unfold e_x at hm
 refine goF func263 z z (lb z) fun fn hr=>Ws<|Ra z<|Wn<|Ws<|Ra z<|Wn<|Wq<|Ws<|Rm z<|R z (lnR n_ z p1_0)<|Rm z<|Wn ?_
 obtain ⟨_,I,G⟩:=bdS hm;refine Wf (σ:=Int) (ρ:=Int) (fun (k3:Nat) (x0:Int) a w=>Sat 19 [(3,vI x0),(6,sl A0 N0 C0),(7,vI (x1.length:Int)),(8,vI ((k3:Nat):Int))] a∧Below w0.z w0 w∧inI x0) (fun (x0:Int) a w=>Sat 19 [(3,vI x0)] a∧Below w0.z w0 w∧inI x0) (fun r ex a w=>ex = .ret∧L_ prog fn (Q9 w0 B r) a w) I ?_ ?_ ?_ ?_ ?_
 ·exact fun _ q=>⟨q.k<|s4 z z z z,br w0,ii z⟩
 ·rintro k3 x0 _ _ _ H ⟨J,s5,h1⟩ L;refine Wu ?_ J;refine Ws<|R z (lss z z)<|Wn<|Wq<|Wc z (fun _=>?_) (fun hc=>(a_3 H hc).elim)
  refine Wk<|Wq<|Wb<|Ws ?_
  obtain ⟨O,ea,hmb⟩:=bdS L;refine RX z (at_ (α:=UInt8) n_ z_5 z z z (p1_0.e s5) ea) ?_;rintro _ ⟨_,_,_,rfl,hd,he,_⟩;obtain rfl:=u8 he;exact R z (l1 g_5 z fid<|hd.at0 z)<|Ra z<|Wn<|Wg<|Rm z<|Rm z<|R z (b_W d_5 d_3 z)<|R z (add_ z z)<|Ra z<|Wn<|Wg<|R z (inc_ H (lt_ (repS.len p1_0) M_) z z)<|Rm z<|Wl (fun _ q=>⟨j_ x0<|byteI O,(som hmb).symm,⟨q.k<|s4 z z z z,s5,iA _ _⟩⟩)
 ·rintro x0 _ _ ⟨hSc,sf,h1⟩;refine Wu ?_ hSc;refine Ws<|R z (lss z z)<|Wn<|Wq<|Wc z (fun hc=>(a_4 hc).elim) (fun _=>?_)
  exact We<|fun a' ha'=>⟨rfl,⟨Sat.weaken ha'<|s1 z,sf,h1⟩⟩
 ·rintro x0 ag _ rfl ⟨_,sh,h1⟩;have hmi:=elL G;revert ag;refine Wo<|Ws<|Rm z<|R z (f_2 z z (by decide))<|Ra z<|Wn ?_
  obtain rfl:=som hmi;exact Wr<|h_ hr z ⟨sh,z,e_P h1⟩
 rintro _ _ _ _ rfl ⟨rfl,hqj⟩;have hmk:=elR G;obtain rfl:=som hmk;exact ⟨hqj,z⟩
theorem W_w1j {x1:List UInt8} {x2:Int} {x3:UInt8} {res:(List UInt8)×Int×Bool} (hm:e_y n x1 x2 x3=some res) (hBw:B≤w0.z) (p1_0:repS w0 B (sl A0 N0 C0) x1) (p2_0:inI x2):o_ prog 232 [sl A0 N0 C0,vI x2,vU<|byteI x3] w0 (Q16 w0 B res):=by
 unfold e_y at hm
 refine goF func232 z z (lb z) fun fn hr=>Ws<|Ra z<|Ra z<|Ra z<|Wn<|Ws<|E z (f0 (α:=UInt8) R_) ?_
 rintro _ wg ⟨aj,nk,cl,rfl,s8,hv⟩;refine Ra z<|Wn<|Wq<|Wq ?_
 obtain ⟨ao,huw,hmx⟩:=bdS hm;refine Wt (fun a w=>∃ (xm:Bool),xm=ao∧Sat 58 [(0,sl A0 N0 C0),(1,vI x2),(2,vU<|byteI x3),(9,sl aj nk cl),(19,vB xm)] a∧Below wg.z wg w) ?_ ?_
 ·refine Wg<|Rm z<|R z (lss z z)<|Rm z ?_
  rcases bs (decide<|x2<0) with I | I
  ·iterate 4 refine Nh z I ?_
   exact R z (pT z I z)<|Wl (fun _ q=>⟨true,som<|ifT huw I,q.k<|s5 z z z z z,br wg⟩)
  exact Rh z I (mv z)<|Rh z I (mv z)<|Rh z I (lnR n_ z<|p1_0.e s8)<|Rh z I (a_9 z z)<|R z (pF z I z)<|Wl (fun _ q=>⟨decide<|(x1.length:Int)<x2,som<|ifF huw I,q.k<|s5 z z z z z,br wg⟩)
 rintro ap G ⟨xm,rfl,_,s6⟩;revert ap;refine Wo<|Wc z (fun hcn=>?_) (fun hcn=>?_)
 ·refine Ws<|Rm z<|Rm z<|Ra z<|Ra z<|Ra z<|Wn ?_
  obtain rfl:=som<|ifT hmx hcn;exact Wr<|F_ hr z z z ⟨bup s8 s6,aj,nk,cl,[w0.z],z,hv.e s6,p2_0,a_h,b_ lr⟩
 refine Wk<|Wq<|Ws<|Rm z<|Ra z<|Wn ?_
 obtain ⟨_,aa,hmy⟩:=bdS<|ifF hmx hcn;refine b_Y (σ:=(List UInt8)×Int) (ρ:=(List UInt8)×Int×Bool) (fun s a w=>un2 (fun xb V=>∃ J L O H,Sat 58 [(0,sl A0 N0 C0),(1,vI x2),(2,vU<|byteI x3),(9,sl J L O),(10,vI V)] a∧Chg (· ∈ [w0.z]) G w∧a_ w H (sl J L O) xb∧H.Nodup∧(∀ k∈H,k∈[w0.z]∨G.z≤k)∧inI V) s) (fun s a w=>un2 (fun xb V=>∃ J L O H,Sat 58 [(1,vI x2)] a∧Chg (· ∈ [w0.z]) G w∧a_ w H (sl J L O) xb∧H.Nodup∧(∀ k∈H,k∈[w0.z]∨G.z≤k)∧inI V) s) (fun r ex a w=>ex = .ret∧L_ prog fn (Q16 w0 B r) a w) aa ?_ ?_ ?_ ?_
 ·exact fun _ q=>⟨aj,nk,cl,[w0.z],q.k<|s5 z z z z z,cr [w0.z] G,hv.e s6,a_h,io sr,p2_0⟩
 ·rintro ⟨xb,V⟩ _ W _ ⟨J,L,O,H,ab,sa,hc,hd,he,ho⟩ ad;have hmz:=b_1 ad;refine Wu ?_ ab;refine Wq<|Ws<|Rm z<|Rm z ?_
  have a4:=((s8.ag B).e s6).c sa<|c_ (or0 (b_ lr)  (m_ hBw) : ∀ k∈[w0.z],¬ B k)
  have hh:=p1_0.g a4;refine R z (lnR n_ z hh)<|R z (lss z z)<|Wn<|Wc z (fun hcp=>?_) (fun hcp=>?_)
  ·refine Wk<|Wq<|Wb<|Wq<|Ws<|Rm z<|Rm z ?_
   obtain ⟨_,aq,Y⟩:=bdS<|ifT hmz hcp;refine RX z (at_ (α:=UInt8) n_ z_5 z z z hh aq) ?_;rintro _ ⟨_,_,_,rfl,ar,au,_⟩;obtain rfl:=u8 au;refine R z (l1 g_5 z fid<|ar.at0 z)<|Rm z<|R z (eql z z)<|Wn<|Wc z (fun hcq=>?_) (fun hcq=>?_)
   ·refine Ws<|Rm z<|Rm z<|R z (add_ z z)<|Ra z<|Ra z<|Ra z<|Wn ?_
    exact Wr<|rtO<|qL (som<|ifT Y hcq).symm<|F_ hr z z z ⟨bM (bup s8 s6) sa<|b_ lr,J,L,O,H,z,hc,iA _ _,hd,(or1 he (b_ lr) (b_7<|lt_ s8.s s6.s) : ∀ k∈H,w0.z≤k)⟩
   refine Wk<|Wq<|Ws<|Rm z<|Rm z ?_
   obtain ⟨_,av,ae⟩:=bdS<|ifF Y hcq;refine RX z (at_ (α:=UInt8) n_ z_5 z z z hh av) ?_;rintro _ ⟨_,_,_,rfl,aw,ax,_⟩;obtain rfl:=u8 ax;refine R z (l1 g_5 z fid<|aw.at0 z)<|R z (eql z z)<|Wn ?_
   obtain ⟨ay,a0,a1⟩:=bdS ae;refine Wt (fun a w=>∃ (xf:Int),Sum.inl xf=ay∧Sat 58 [(0,sl A0 N0 C0),(1,vI x2),(2,vU<|byteI x3),(9,sl J L O),(10,vI xf)] a∧Below W.z W w∧inI xf) ?_ ?_
   ·refine Wc z (fun hcr=>?_)<|fun hcr=>?_
    ·have a2:=ifT a0 hcr;refine Ws<|Rm z<|R z (add_ z z)<|Ra z<|Wn<|Ws<|Rm z<|Rm z<|R z (lnR n_ z hh)<|R z (eql z z)<|Wn<|Wc z (fun hcs=>?_) (fun hcs=>?_)
     ·obtain rfl:=som<|ifT a2 hcs;have af:=elR a1;exact We<|exO z (fun a' ha'=>b_w (som af).symm ⟨J,L,O,H,Sat.weaken ha'<|s1 z,(cM (cr [w0.z] G) sa (io sr):Chg (· ∈ [w0.z]) G W),hc,hd,(or1 he (io sr) (z_ lr) : ∀ k∈H,k∈[w0.z]∨G.z≤k),iA _ _⟩)
     exact a_g<|fun _ q=>⟨j_ V 1,som<|ifF a2 hcs,q.k<|s5 z z z z z,br W,iA _ _⟩
    exact a_g<|fun _ q=>⟨V,som<|ifF a0 hcr,q.k<|s5 z z z z z,br W,ho⟩
   rintro az a5 ⟨xf,rfl,_,si,_⟩;have ah:=elL a1;revert az;refine Wo<|Wg<|Rm z<|Rm z<|Rm z ?_
   obtain ⟨aA,aB,ai⟩:=bdS ah;refine RX z (at_ (α:=UInt8) n_ z_5 z z z (p1_0.g<|a4.e si) aB) ?_;rintro _ ⟨_,_,_,rfl,aC,aD,_⟩;obtain rfl:=u8 aD;refine R z (l1 g_5 z fid<|aC.at0 z)<|E z (fS [(.tmp 53)] R_ z z z (a_d z) (lb z)<|lb z) ?_
   rintro _ a6 ⟨rfl,ht⟩;have hu:=ht.below;have aV:=a_E ht b_0;obtain ⟨aE,aF,ak⟩:=bdS ai;refine E z (a_Q (α:=UInt8) R_ aF z z ((hc.e si).e hu) hd (ht.blk:Blk a6 a5.z [vU (byteI aA)]) b_0 an_ H_) ?_;rintro _ aG ⟨a7,aH,aI,aJ,rfl,aK,aL,aM,aN⟩;refine Ra z<|Wn<|Wg<|Rm z<|R z (add_ z z)<|Ra z<|Wl ?_
   have a8 : ∀ k∈H,k∈[w0.z]∨G.z≤k:=or1 he (io sr)<|z_ lr;exact fun _ q=>⟨(aE,j_ xf 1),(som ak).symm,⟨aH,aI,aJ,a7,q.k<|s5 z z z z z,(cM (f_ (f_ (cM (cr [w0.z] G) sa (io sr):Chg (· ∈ [w0.z]) G W) si:Chg (· ∈ [w0.z]) G a5) hu:Chg (· ∈ [w0.z]) G a6) aK a8:Chg (· ∈ [w0.z]) G aG),aL,aM,(or2 aN a8 an_ (z_<|lt_ (lt_ sa.s si.s) hu.s) : ∀ k∈a7,k∈[w0.z]∨G.z≤k),iA _ _⟩⟩
  exact We<|fun a' ha'=>b_w (som<|ifF hmz hcp).symm ⟨J,L,O,H,Sat.weaken ha'<|s1 z,(cM (cr [w0.z] G) sa (io sr):Chg (· ∈ [w0.z]) G W),hc,hd,(or1 he (io sr) (z_ lr) : ∀ k∈H,k∈[w0.z]∨G.z≤k),ho⟩
 ·rintro ⟨xb,V⟩ aO aP rfl ⟨J,L,O,H,_,a9,hc,hd,he,ho⟩;have al:=elL hmy;revert aO;refine Wo<|Ws<|E z (f0 (α:=UInt8) R_) ?_
  rintro _ _ ⟨aQ,aR,aS,rfl,aT,aU⟩;refine Rm z<|Ra z<|Ra z<|Ra z<|Wn ?_
  obtain rfl:=som<|b_1 al;exact Wr<|F_ hr z z z ⟨bup (bM (bup s8 s6) a9<|b_ lr) aT,aQ,aR,aS,[aP.z],z,aU,p2_0,a_h,m1<|lt_ (lt_ s8.s s6.s) a9.s⟩
 rintro _ _ _ _ rfl ⟨rfl,am⟩;have an:=elR hmy;obtain rfl:=som an;exact ⟨am,z⟩
def Q26 (w0:World) (B:Zone) (S2_1:List Nat) (S2_2:List Nat) (r:Val×Int×(Option<|Int×Int)) (v:Value) (w':World):Prop:=Chg (· ∈ (S2_1++S2_2)) w0 w'∧un3 (fun G H W=>∃ (I:Option Addr) (J L:Nat) (S1:List Nat) (a2:Option Addr) (O V:Nat) (S2:List Nat) (v3:Value) (S3:List Nat),v = .tuple #[(.agg #[vI G.number,sl I J L,sl a2 O V]),vI H,v3]∧inI G.number∧a_ w' S1 (sl I J L) G.bytes∧a_ w' S2 (sl a2 O V) G.items∧inI H∧a_w 226 w' S3 v3 W∧(∀ k∈S3,w0.z≤k)∧(S1++S2).Nodup∧(∀ k∈(S1++S2),k∈(S2_1++S2_2)∨w0.z≤k)) r
structure i_y (f:a_n→Int→Int→Option (Val×Int×(Option<|Int×Int))):Prop where
  run : ∀ {A0 A5:Option Addr} {N0 C0 N5 C5 b1 o1:Nat} {B:Zone} {x1:a_n} {x2:Int} {x3:Int} {res:Val×Int×(Option<|Int×Int)} {w0:World} (hm:f x1 x2 x3=some res) (hBw:B≤w0.z) (p1_0:repS w0 B (sl A0 N0 C0) x1.d.rules) (p1_1:repS w0 B (sl A5 N5 C5) x1.b) (hC1:U_ w0 b1 o1 [sl A0 N0 C0,sl A5 N5 C5]) (hC1b:B b1) (p2_0:inI x2) (p3_0:inI x3),o_ prog 191 [(.pointer<|some ⟨b1,o1,none⟩),vI x2,vI x3] w0<|Q25 w0 B res
structure i_z (f:a_n→g_→Int→Option (Val×Int×(Option<|Int×Int))):Prop where
  run : ∀ {A0 A5 A2 A3 A1 A4:Option Addr} {N0 C0 N5 C5 b1 o1 N2 C2 N3 C3 N1 C1 N4 C4:Nat} {B:Zone} {x1:a_n} {x2:g_} {x3:Int} {res:Val×Int×(Option<|Int×Int)} {w0:World} (hm:f x1 x2 x3=some res) (hBw:B≤w0.z) (p1_0:repS w0 B (sl A0 N0 C0) x1.d.rules) (p1_1:repS w0 B (sl A5 N5 C5) x1.b) (hC1:U_ w0 b1 o1 [sl A0 N0 C0,sl A5 N5 C5]) (hC1b:B b1) (p2_0:x2.name.b.length≤LEN) (p2_1:inI x2.kind) (p2_2:inI x2.size) (p2_4:repS w0 B (sl A2 N2 C2) x2.bytes) (p2_5:repS w0 B (sl A3 N3 C3) x2.names) (p2_6:repS w0 B (sl A1 N1 C1) x2.tags) (p2_7:repS w0 B (sl A4 N4 C4) x2.kids) (p3_0:inI x3),o_ prog 227 [(.pointer<|some ⟨b1,o1,none⟩),.agg #[Str.v x2.name,vI x2.kind,vI x2.size,vB x2.little,sl A2 N2 C2,sl A3 N3 C3,sl A1 N1 C1,sl A4 N4 C4],vI x3] w0<|Q25 w0 B res
structure i_A (f:a_n→Val→(List Int)→Int→Option (Val×Int×(Option<|Int×Int))):Prop where
  run : ∀ {A0 A5 AE AF A7:Option Addr} {N0 C0 N5 C5 b1 o1 NE CE NF CF N7 C7:Nat} {S2_1 S2_2:List Nat} {B:Zone} {x1:a_n} {x2:Val} {x3:List Int} {x4:Int} {res:Val×Int×(Option<|Int×Int)} {w0:World} (hm:f x1 x2 x3 x4=some res) (hBw:B≤w0.z) (p1_0:repS w0 B (sl A0 N0 C0) x1.d.rules) (p1_1:repS w0 B (sl A5 N5 C5) x1.b) (hC1:U_ w0 b1 o1 [sl A0 N0 C0,sl A5 N5 C5]) (hC1b:B b1) (p2_0:inI x2.number) (p2_1:a_ w0 S2_1 (sl AE NE CE) x2.bytes) (p2_1n:S2_1.Nodup) (p2_1g : ∀ k∈S2_1,¬ B k) (p2_2:a_ w0 S2_2 (sl AF NF CF) x2.items) (p2_2n:S2_2.Nodup) (p2_2g : ∀ k∈S2_2,¬ B k) (p2_2d1 : ∀ k∈S2_2,k∉S2_1) (p3_0:repS w0 B (sl A7 N7 C7) x3) (p4_0:inI x4),o_ prog 228 [(.pointer<|some ⟨b1,o1,none⟩),.agg #[vI x2.number,sl AE NE CE,sl AF NF CF],sl A7 N7 C7,vI x4] w0<|Q26 w0 B S2_1 S2_2 res
structure i_B (f:a_n→g_→Int→Option (Val×Int×(Option<|Int×Int))):Prop where
  run : ∀ {A0 A5 A2 A3 A1 A4:Option Addr} {N0 C0 N5 C5 b1 o1 N2 C2 N3 C3 N1 C1 N4 C4:Nat} {B:Zone} {x1:a_n} {x2:g_} {x3:Int} {res:Val×Int×(Option<|Int×Int)} {w0:World} (hm:f x1 x2 x3=some res) (hBw:B≤w0.z) (p1_0:repS w0 B (sl A0 N0 C0) x1.d.rules) (p1_1:repS w0 B (sl A5 N5 C5) x1.b) (hC1:U_ w0 b1 o1 [sl A0 N0 C0,sl A5 N5 C5]) (hC1b:B b1) (p2_0:x2.name.b.length≤LEN) (p2_1:inI x2.kind) (p2_2:inI x2.size) (p2_4:repS w0 B (sl A2 N2 C2) x2.bytes) (p2_5:repS w0 B (sl A3 N3 C3) x2.names) (p2_6:repS w0 B (sl A1 N1 C1) x2.tags) (p2_7:repS w0 B (sl A4 N4 C4) x2.kids) (p3_0:inI x3),o_ prog 229 [(.pointer<|some ⟨b1,o1,none⟩),.agg #[Str.v x2.name,vI x2.kind,vI x2.size,vB x2.little,sl A2 N2 C2,sl A3 N3 C3,sl A1 N1 C1,sl A4 N4 C4],vI x3] w0<|Q25 w0 B res
structure i_C (f:a_n→g_→Int→Option (Val×Int×(Option<|Int×Int))):Prop where
  run : ∀ {A0 A5 A2 A3 A1 A4:Option Addr} {N0 C0 N5 C5 b1 o1 N2 C2 N3 C3 N1 C1 N4 C4:Nat} {B:Zone} {x1:a_n} {x2:g_} {x3:Int} {res:Val×Int×(Option<|Int×Int)} {w0:World} (hm:f x1 x2 x3=some res) (hBw:B≤w0.z) (p1_0:repS w0 B (sl A0 N0 C0) x1.d.rules) (p1_1:repS w0 B (sl A5 N5 C5) x1.b) (hC1:U_ w0 b1 o1 [sl A0 N0 C0,sl A5 N5 C5]) (hC1b:B b1) (p2_0:x2.name.b.length≤LEN) (p2_1:inI x2.kind) (p2_2:inI x2.size) (p2_4:repS w0 B (sl A2 N2 C2) x2.bytes) (p2_5:repS w0 B (sl A3 N3 C3) x2.names) (p2_6:repS w0 B (sl A1 N1 C1) x2.tags) (p2_7:repS w0 B (sl A4 N4 C4) x2.kids) (p3_0:inI x3),o_ prog 230 [(.pointer<|some ⟨b1,o1,none⟩),.agg #[Str.v x2.name,vI x2.kind,vI x2.size,vB x2.little,sl A2 N2 C2,sl A3 N3 C3,sl A1 N1 C1,sl A4 N4 C4],vI x3] w0<|Q25 w0 B res
structure i_D (f:a_n→g_→Int→Option (Val×Int×(Option<|Int×Int))):Prop where
  run : ∀ {A0 A5 A2 A3 A1 A4:Option Addr} {N0 C0 N5 C5 b1 o1 N2 C2 N3 C3 N1 C1 N4 C4:Nat} {B:Zone} {x1:a_n} {x2:g_} {x3:Int} {res:Val×Int×(Option<|Int×Int)} {w0:World} (hm:f x1 x2 x3=some res) (hBw:B≤w0.z) (p1_0:repS w0 B (sl A0 N0 C0) x1.d.rules) (p1_1:repS w0 B (sl A5 N5 C5) x1.b) (hC1:U_ w0 b1 o1 [sl A0 N0 C0,sl A5 N5 C5]) (hC1b:B b1) (p2_0:x2.name.b.length≤LEN) (p2_1:inI x2.kind) (p2_2:inI x2.size) (p2_4:repS w0 B (sl A2 N2 C2) x2.bytes) (p2_5:repS w0 B (sl A3 N3 C3) x2.names) (p2_6:repS w0 B (sl A1 N1 C1) x2.tags) (p2_7:repS w0 B (sl A4 N4 C4) x2.kids) (p3_0:inI x3),o_ prog 231 [(.pointer<|some ⟨b1,o1,none⟩),.agg #[Str.v x2.name,vI x2.kind,vI x2.size,vB x2.little,sl A2 N2 C2,sl A3 N3 C3,sl A1 N1 C1,sl A4 N4 C4],vI x3] w0<|Q25 w0 B res
abbrev d_B (n:Nat):Prop:=i_y (a_8 n).impl_fileReader_value∧i_z (a_8 n).impl_fileReader_array∧i_A (a_8 n).impl_fileReader_items∧i_B (a_8 n).impl_fileReader_choice∧i_C (a_8 n).impl_fileReader_option∧i_D (a_8 n).impl_fileReader_checked
end Go.Vw
