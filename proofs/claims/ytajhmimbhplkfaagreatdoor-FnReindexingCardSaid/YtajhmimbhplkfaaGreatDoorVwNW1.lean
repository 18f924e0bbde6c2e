
import Derived.Test.YtajhmimbhplkfaaGreatDoorVmB
import Derived.Test.YtajhmimbhplkfaaGreatDoorVwNFacts
import Derived.Test.YtajhmimbhplkfaaGreatDoorVwNExt
import Derived.Test.YtajhmimbhplkfaaGreatDoorVmA
import Derived.Test.YtajhmimbhplkfaaGreatDoorProg
set_option linter.unusedVariables false
namespace Go.Vw
open Go.RowKit Dat Go.Proofs
open Go.Proofs.Tryz
open Go.Vw renaming g_e→Wq,g_f→Wg,WC.of_KC→Wo,e_G→Wl,h_j→Wc,h_h→Wr,i_5→Wu,h_N→pT,h_O→pF,i_G→fd,i_H→l1,i_I→lN,g_G→mv,g_H→asg,h_P→lnR,i_R→lss,i_P→eql,i_K→ext_,h_S→bP,g_J→add_,h_z→inc_,i_S→not_,h_Q→at_,h_t→fc,e_O→fs,h_s→fb,h_r→fa,h_G→sr,h_L→cr,h_M→cM,h_K→bM,h_w→iS,h_v→iA,h_y→br,h_A→oA,h_C→bs,ltge→lg,inor→io,i_Q→nq,i_L→lnT,i_M→sb_,h_E→ar_,h_D→al_,h_F→ds,j_o→m1,h_I→nr_,h_H→nl_,g_l→aa_,d_v→an_,e_F→Wb,g_j→u8,h_o→pD,h_i→We,h_x→Wt,h_u→fS,e_E→or_,i_6→Wf,h_Z→qL,h_n→Wd,h_T→fN,g_m→na_,h_J→nj,h_U→f0,h_R→rX,h_V→tl_,h_W→ic
variable {A0:Option Addr} {N0 C0:Nat} {B:Zone} {w0:World} {n:Nat} {A6:Option Addr} {N6 C6:Nat} {AB:Option Addr} {A8:Option Addr} {AC:Option Addr} {AD:Option Addr} {NB CB:Nat} {N8 C8:Nat} {NC CC:Nat} {ND CD:Nat} {A2:Option Addr} {A3:Option Addr} {A1:Option Addr} {A4:Option Addr} {N2 C2:Nat} {N3 C3:Nat} {N1 C1:Nat} {N4 C4:Nat} {A9:Option Addr} {AA:Option Addr} {N9 C9:Nat} {NA CA:Nat} {AE:Option Addr} {AF:Option Addr} {NE CE:Nat} {NF CF:Nat} {A7:Option Addr} {N7 C7:Nat} {AI:Option Addr} {NI CI:Nat} {A5:Option Addr} {N5 C5:Nat} {AL:Option Addr} {NL CL:Nat}
def Q0 (w0:World) (B:Zone) (r:Bool) (v:Value) (w':World):Prop:=Bw w0 w'∧(fun G=>(vB G)=v) r
theorem W_w1x {x1:List UInt8} {res:Bool} (hm:g_h x1=some res) (hBw:B≤w0.z) (p1_0:repS w0 B (sl A0 N0 C0) x1):o_ prog 9 [sl A0 N0 C0] w0 (Q0 w0 B res):=by
 unfold g_h at hm
 refine goF func9 z z (lb z) fun fn hr=>Ws<|Ra z<|Wn<|Ws<|Rm z<|R z (lnR n_ z p1_0)<|R z (a_9 z z)<|Ra z<|Wn ?_
 obtain rfl:=som hm;exact Wr<|h_ hr z ⟨br w0,z⟩
def Q1 (w0:World) (B:Zone) (r:D_) (v:Value) (w':World):Prop:=Bw w0 w'∧(fun G=>∃ g1 a2 H I,(pt g1)=v∧Blk w' g1 [.slice a2 H I,vI G.i,vI G.h]∧w0.z≤g1∧repS w' B (sl a2 H I) G.b∧inI G.i∧inI G.h) r
theorem W_w13 {x1:List UInt8} {res:D_} (hm:d_X n x1=some res) (hBw:B≤w0.z) (p1_0:repS w0 B (sl A0 N0 C0) x1):o_ prog 51 [sl A0 N0 C0] w0 (Q1 w0 B res):=by
 unfold d_X at hm
 refine goF func51 z z (lb z) fun fn hr=>Ws<|Ra z<|Wn<|Ws<|Rm z<|R z (lnR n_ z p1_0)<|R z (add_ z z)<|Ra z<|Wn<|Wq<|Ws<|Ra z<|Wn ?_
 obtain ⟨_,huh,hma⟩:=bdS hm;refine b_Y (σ:=Int×Int) (ρ:=D_) (fun s a w=>un2 (fun x0 x2=>Sat 32 [(0,sl A0 N0 C0),(3,vI x0),(4,vI x2)] a∧Below w0.z w0 w∧inI x0∧inI x2) s) (fun s a w=>un2 (fun x0 x2=>Sat 32 [(0,sl A0 N0 C0),(3,vI x0)] a∧Below w0.z w0 w∧inI x0∧inI x2) s) (fun r ex a w=>ex = .ret∧L_ prog fn (Q1 w0 B r) a w) huh ?_ ?_ ?_ ?_
 ·exact fun _ q=>⟨q.k<|s3 z z z,br w0,iA _ _,ii z⟩
 ·rintro ⟨x0,x2⟩ _ H _ ⟨hSi,s5,h4,hb⟩ hmj;refine Wu ?_ hSi;refine Wq<|Wq ?_
  obtain ⟨ul,huc,hmd⟩:=bdS<|b_1 hmj;refine Wt (fun a w=>∃ (x6:Bool),x6=ul∧Sat 32 [(0,sl A0 N0 C0),(3,vI x0),(4,vI x2),(15,vB x6)] a∧Below H.z H w) ?_ ?_
  ·refine Wg<|Rm z<|Rm z<|R z (lnR n_ z<|p1_0.e s5)<|R z (lss z z)<|Rm z ?_
   rcases bs (decide<|x2<(x1.length:Int)) with G | G
   ·exact Rh z G (mv z)<|Rh z G (lss z z)<|R z (pT z G z)<|Wl (fun _ q=>⟨decide<|x2<4000,som<|ifT huc G,q.k<|s4 z z z z,br H⟩)
   exact Nh z G<|Nh z G<|R z (pF z G z)<|Wl (fun _ q=>⟨false,som<|ifF huc G,q.k<|s4 z z z z,br H⟩)
  rintro am _ ⟨x6,rfl,_,s7⟩;revert am;refine Wo<|Wc z (fun I=>?_) (fun I=>?_)
  ·refine Wk<|Wq<|Wb<|Wg<|Rm z<|R z (c_K z z)<|Rm z<|Rm z ?_
   obtain ⟨xn,eo,hmp⟩:=bdS<|ifT hmd I;refine RX z (at_ (α:=UInt8) n_ z_5 z z z (p1_0.g<|(s5.ag B).e s7) eo) ?_;rintro _ ⟨_,_,_,rfl,hq,ht,_⟩;obtain rfl:=u8 ht;exact R z (l1 g_5 z fid<|hq.at0 z)<|R z (b_W d_5 d_3 z)<|R z (add_ z z)<|R z (add_ z z)<|R z (i_N z z)<|Ra z<|Wn<|Wg<|Rm z<|R z (add_ z z)<|Ra z<|Wl (fun _ q=>⟨(a_u .i64 (· &&& ·) (j_ (j_ (a_e x0 137)<|byteI xn) 11) 1073741823,j_ x2 1),(som hmp).symm,⟨q.k<|s3 z z z,bup s5 s7,e_R _ _ _,iA _ _⟩⟩)
  exact We<|fun a' ha'=>b_w (som<|ifF hmd I).symm ⟨Sat.weaken ha'<|s2 z z,bup s5 s7,h4,hb⟩
 ·rintro ⟨x0,x2⟩ ar we rfl ⟨_,s9,h4,hb⟩;have hms:=elL hma;revert ar;refine Wo<|Ws<|Rm z<|Rm z<|R z (bP (parts:=[(0,.tmp 28),(2,.tmp 29)]) (cs:=[sl A0 N0 C0,vI 0,vI x0]) n_5 z z)<|E z (fb z) ?_
  rintro _ wv ⟨rfl,hf⟩;have hg:=hf.below;refine Ra z<|Wn ?_
  obtain rfl:=som<|b_1 hms;exact Wr<|h_ hr z ⟨bup s9 hg,we.z,A0,N0,C0,z,(hf.blk:Blk wv we.z [sl A0 N0 C0,vI 0,vI x0]),atp<|m1 s9.s,p1_0.g<|(s9.ag B).e hg,ii z,h4⟩
 rintro _ _ _ _ rfl ⟨rfl,hqx⟩;have hmy:=elR hma;obtain rfl:=som hmy;exact ⟨hqx,z⟩
def Q2 (w0:World) (g1:Nat) (B:Zone) (A0:Option Addr) (N0 C0:Nat) (x1:D_) (r:Int×Int×Int) (v:Value) (w':World):Prop:=Chg (· ∈ [g1]) w0 w'∧un3 (fun G H I=>(vI G)=v∧inI G∧inI H∧inI I∧Blk w' g1 [sl A0 N0 C0,vI H,vI I]) r
theorem e_W {x1:D_} {g1:Nat} {res:Int×Int×Int} (hm:c_l x1=some res) (hB1:Blk w0 g1 [sl A0 N0 C0,vI x1.i,vI x1.h]) (hBw:B≤w0.z) (hBg : ¬ B g1) (p1_0:repS w0 B (sl A0 N0 C0) x1.b) (p1_1:inI x1.i) (p1_2:inI x1.h):o_ prog 114 [pt g1] w0 (Q2 w0 g1 B A0 N0 C0 x1 res):=by
 unfold c_l at hm
 refine goF func114 z z (lb z) fun fn hr=>Ws<|Ra z<|Wn<|Ws<|Rm z<|Rm z<|R z (V_ z)<|R z (fd g_v z)<|R z (l1 g_3 z fid<|hB1.at z)<|R z (c_K z z)<|R z (add_ z z)<|R z (V_ z)<|R z (fd g_v z)<|E0 (fs (cur':=[sl A0 N0 C0,vI x1.i,(vI<|j_ (a_e x1.h 6364136223846793005) 1442695040888963407)]) z_3 z z hB1 z (lb z) (oA z) z) ?_
 rintro _ wd ⟨he,sf⟩;have ha:=sf.one;refine Wn<|Wq (Wd (X:=noX) 0 (.rd 0<|.rd 1<|.rd 2<|.rd 3<|.rd 4<|.rd 5<|.rd 6<|.rd 7<|.rd 8<|.rd 9<|.rd 10<|.rd 11<|.rd 12 .done) mo (by kernel_rfl) fun wg s5 _=>dR z z (mv z)<|dR z z (V_ z)<|dR z z (fd g_v z) ?_)
 have h6:=he.e s5;refine dR z z (l1 g_3 z fid<|h6.at z)<|dR z z (i_O z z (by decide))<|dR z z (mv z)<|dR z z (V_ z)<|dR z z (fd g_v z)<|dR z z (l1 g_3 z fid<|h6.at z)<|dR z z (i_O z z (by decide))<|dR z z (rd_xor z z)<|dR z z (i_N z z)<|dR z z (asg z)<|pD<|Wo<|Wq<|Wq (Wd (X:=noX) 0 (.rd 0<|.rd 1<|.rd 2<|.rd 3<|.rd 4<|.rd 5<|.rd 6<|.rd 7<|.rd 8<|.rd 9 .done) mo (by kernel_rfl) fun G s7 _=>dR z z (mv z)<|dR z z (V_ z)<|dR z z (fd g_u z) ?_)
 have H:=h6.e s7;refine dR z z (l1 g_3 z fid<|H.at z)<|dR z z (mv z)<|dR z z (V_ z)<|dR z z (fd k_6 z)<|dR z z (l1 Q_ z fid<|H.at z) ?_
 have hb:=((ha.agc B<|c_<|b_ hBg).e s5).e s7;refine dR z z (lnR n_ z<|p1_0.g hb)<|dR z z (lss z z)<|pD<|Wo ?_
 obtain ⟨uh,huc,hmi⟩:=bdS hm;refine Wt (fun a w=>∃ (x2:Int) (x3:Int),(x2,x3)=uh∧Sat 58 [(3,vI x2)] a∧Chg (· ∈ [g1]) G w∧inI x2∧inI x3∧Blk w g1 [sl A0 N0 C0,vI x3,(vI<|j_ (a_e x1.h 6364136223846793005) 1442695040888963407)]) ?_ ?_
 ·refine Wc z (fun I=>?_)<|fun I=>?_
  ·refine Wq (Wd (X:=noX) 0 (.rd 0<|.rd 1<|.rd 2<|.rd 3<|.rd 4<|.rd 5<|.rd 6<|.rd 7<|.rd 8<|.rd 9<|.rd 10<|.rd 11<|.rd 12<|.rd 13<|.rd 14 .done) mo (by kernel_rfl) fun wj s9 _=>dR z z (mv z)<|dR z z (mv z)<|dR z z (V_ z)<|dR z z (fd k_6 z) ?_);have h4:=H.e s9;refine dR z z (l1 Q_ z fid<|h4.at z)<|dR z z (mv z)<|dR z z (V_ z)<|dR z z (fd g_u z)<|dR z z (l1 g_3 z fid<|h4.at z) ?_
   obtain ⟨xk,el,hmm⟩:=bdS<|ifT huc I;refine dRX z z (at_ (α:=UInt8) n_ z_5 z z z (p1_0.g<|hb.e s9) el) ?_;rintro _ ⟨_,_,_,rfl,hn,ho,_⟩;obtain rfl:=u8 ho;refine dR z z (l1 g_5 z fid<|hn.at0 z)<|dR z z (b_W d_5 d_3 z)<|dR z z (add_ z z)<|dR z z (i_N z z)<|dR z z (asg z)<|pD<|Wo<|Wg<|Rm z<|Rm z<|R z (V_ z)<|R z (fd g_u z)<|R z (l1 g_3 z fid<|h4.at z)<|R z (add_ z z)<|R z (V_ z)<|R z (fd g_u z)<|E0 (fs (cur':=[sl A0 N0 C0,vI<|j_ x1.i 1,(vI<|j_ (a_e x1.h 6364136223846793005) 1442695040888963407)]) z_3 z z h4 z (lb z) (oA z) z) ?_
   rintro _ wp ⟨hq,ss⟩;refine Wl ?_;exact fun _ q=>⟨a_u .i64 (· &&& ·) (j_ (a_u .i64 (· &&& ·) (a_u .i64 (· ^^^ ·) (b_Q .i64 (j_ (a_e x1.h 6364136223846793005) 1442695040888963407) 33)<|b_Q .i64 (j_ (a_e x1.h 6364136223846793005) 1442695040888963407) 47) 255)<|byteI xk) 255,j_ x1.i 1,som hmm,q.k<|s1 z,(cM (f_ (cr [g1] G) s9:Chg (· ∈ [g1]) G wj) ss.one (io sr):Chg (· ∈ [g1]) G wp),e_R _ _ _,iA _ _,hq⟩
  exact a_g<|fun _ q=>⟨a_u .i64 (· &&& ·) (a_u .i64 (· ^^^ ·) (b_Q .i64 (j_ (a_e x1.h 6364136223846793005) 1442695040888963407) 33)<|b_Q .i64 (j_ (a_e x1.h 6364136223846793005) 1442695040888963407) 47) 255,x1.i,som<|ifF huc I,q.k<|s1 z,cr [g1] G,e_R _ _ _,p1_1,H⟩
 rintro ar wv ⟨x2,x3,rfl,_,sw,hx,hy,hz⟩;revert ar;refine Wo<|Ws<|Rm z<|Ra z<|Wn ?_
 obtain rfl:=som<|b_1 hmi;exact Wr<|h_ hr z ⟨(cM (f_ (f_ (cM (cr [g1] w0) ha (io sr):Chg (· ∈ [g1]) w0 wd) s5:Chg (· ∈ [g1]) w0 wg) s7:Chg (· ∈ [g1]) w0 G) sw (io sr):Chg (· ∈ [g1]) w0 wv),z,hx,hy,iA _ _,hz⟩
theorem a_V {x1:D_} {g1:Nat} {x2:Int} {res:Int×Int×Int} (hm:a_m x1 x2=some res) (hB1:Blk w0 g1 [sl A0 N0 C0,vI x1.i,vI x1.h]) (hBw:B≤w0.z) (hBg : ¬ B g1) (p1_0:repS w0 B (sl A0 N0 C0) x1.b) (p1_1:inI x1.i) (p1_2:inI x1.h) (p2_0:inI x2):o_ prog 57 [pt g1,vI x2] w0 (Q2 w0 g1 B A0 N0 C0 x1 res):=by
 unfold a_m at hm
 refine goF func57 z z (lb z) fun fn hr=>Ws<|Ra z<|Wn<|Wq<|Ws<|Rm z<|R z (b_y z z)<|Wn<|Wc z (fun H=>?_) (fun H=>?_)
 ·refine Ws<|Ra z<|Wn ?_
  obtain rfl:=som<|ifT hm H;exact Wr<|h_ hr z ⟨cr [g1] w0,z,ii z,p1_1,p1_2,hB1⟩
 have J:=ifF hm H;refine Wk<|Wq<|Ws<|Rm z<|R z (b_y z z)<|Wn<|Wc z (fun I=>?_) (fun I=>?_)
 ·refine Ws<|Rm z ?_
  obtain ⟨_,_,_,V,O⟩:=r_<|ifT J I;refine E z (fc call114 z<|e_W (B:=B) V hB1 hBw hBg p1_0 p1_1 p1_2) ?_;rintro _ W ⟨s8,rfl,Y,ha,hb,hc⟩;refine Rm z ?_;obtain ⟨_,ed,hme⟩:=bdS O;refine R z (f_0 z z<|nzS ed)<|Ra z<|Wn ?_
  obtain rfl:=som hme;exact Wr<|h_ hr z ⟨(cM (cr [g1] w0) s8 (io sr):Chg (· ∈ [g1]) w0 W),z,e_P Y,ha,hb,hc⟩
 refine Wk<|Ws<|Rm z ?_
 obtain ⟨_,_,_,eg,hmh⟩:=r_<|ifF J I;refine E z (fc call114 z<|e_W (B:=B) eg hB1 hBw hBg p1_0 p1_1 p1_2) ?_;rintro _ wi ⟨G,rfl,_,hj,hk,hl⟩;refine Ra z<|Wn<|Ws<|Rm z ?_
 obtain ⟨_,_,_,em,hmn⟩:=r_ hmh;refine E z (fc call114 z<|e_W (B:=B) em hl (zt' hBw G.s) hBg (p1_0.c G<|c_<|b_ hBg) hj hk) ?_;rintro _ wo ⟨s3,rfl,_,hp,hq,ht⟩;refine Ra z<|Wn<|Ws<|Rm z ?_
 obtain ⟨_,_,_,er,hms⟩:=r_ hmn;refine E z (fc call114 z<|e_W (B:=B) er ht (zt' hBw<|lt_ G.s s3.s) hBg (p1_0.g<|(G.agc B<|c_<|b_ hBg).c s3<|c_<|b_ hBg) hp hq) ?_;rintro _ wu ⟨sv,rfl,_,hw,hx,hy⟩;refine Ra z<|Wn<|Ws<|Rm z<|R z (c_K z z)<|Rm z<|R z (c_K z z)<|R z (add_ z z)<|Rm z<|R z (add_ z z)<|Rm z ?_
 obtain ⟨_,ez,L⟩:=bdS hms;refine R z (f_0 z z<|nzS ez)<|Ra z<|Wn ?_
 obtain rfl:=som L;exact Wr<|h_ hr z ⟨(cM (cM (cM (cr [g1] w0) G (io sr):Chg (· ∈ [g1]) w0 wi) s3 (io sr):Chg (· ∈ [g1]) w0 wo) sv (io sr):Chg (· ∈ [g1]) w0 wu),z,e_P<|iA _ _,hw,hx,hy⟩
def Q3 (w0:World) (g1:Nat) (B:Zone) (A0:Option Addr) (N0 C0:Nat) (x1:D_) (r:Str×Int×Int) (v:Value) (w':World):Prop:=Chg (· ∈ [g1]) w0 w'∧un3 (fun G H I=>(Str.v G)=v∧G.b.length≤LEN∧inI H∧inI I∧Blk w' g1 [sl A0 N0 C0,vI H,vI I]) r
theorem W_w14 {x1:D_} {g1:Nat} {x2:List Str} {res:Str×Int×Int} (hm:c_S x1 x2=some res) (hB1:Blk w0 g1 [sl A0 N0 C0,vI x1.i,vI x1.h]) (hBw:B≤w0.z) (hBg : ¬ B g1) (p1_0:repS w0 B (sl A0 N0 C0) x1.b) (p1_1:inI x1.i) (p1_2:inI x1.h) (p2_0:repS w0 B (sl A6 N6 C6) x2):o_ prog 113 [pt g1,sl A6 N6 C6] w0 (Q3 w0 g1 B A0 N0 C0 x1 res):=by
 unfold c_S at hm
 refine goF func113 z z (lb z) fun fn hr=>Ws<|Ra z<|Wn<|Ws<|Rm z<|Rm z<|Rm z<|R z (lnR a_N z p2_0) ?_
 obtain ⟨_,_,_,J,H⟩:=r_ hm;refine E z (fc call57 z<|a_V (B:=B) J hB1 hBw hBg p1_0 p1_1 p1_2<|a_M<|repS.len p2_0) ?_;rintro _ L ⟨G,rfl,_,h4,h5,h6⟩;obtain ⟨_,O,I⟩:=bdS H;refine RX z (at_ (α:=Str) a_N z_9 z z z (p2_0.c G<|c_<|b_ hBg) O) ?_;rintro _ ⟨_,_,_,rfl,V,ha,_⟩;obtain ⟨rfl,hb⟩:=c_n ha;refine R z (l1 g_9 z fid<|V.at0 z)<|Ra z<|Wn ?_
 obtain rfl:=som I;exact Wr<|h_ hr z ⟨(cM (cr [g1] w0) G (io sr):Chg (· ∈ [g1]) w0 L),z,hb,h4,h5,h6⟩
def Q4 (w0:World) (B:Zone) (r:Str) (v:Value) (w':World):Prop:=Bw w0 w'∧(fun G=>(Str.v G)=v∧G.b.length≤LEN) r
theorem i_a {x1:Int} {res:Str} (hm:c_O n x1=some res) (hBw:B≤w0.z) (p1_0:inI x1):o_ prog 162 [vI x1] w0 (Q4 w0 B res):=by
 unfold c_O at hm
 refine goF func162 z z (lb z) fun fn hr=>Ws<|Ra z<|Wn<|Wq<|Ws<|Rm z<|R z (eql z z)<|Wn<|Wc z (fun H=>?_) (fun H=>?_)
 ·refine Ws<|Ra z<|Wn ?_
  obtain rfl:=som<|ifT hm H;exact Wr<|h_ hr z ⟨br w0,z,lb z⟩
 refine Wk<|Ws<|Ra z<|Wn<|Wq<|Ws<|Rm z<|Ra z<|Wn ?_
 obtain ⟨_,huj,hmb⟩:=bdS<|ifF hm H;refine b_Y (σ:=Str×Int) (ρ:=Str) (fun s a w=>un2 (fun x2 x0=>Sat 31 [(0,vI x1),(3,Str.v x2),(4,vI x0)] a∧Below w0.z w0 w∧x2.b.length≤LEN∧inI x0) s) (fun s a w=>un2 (fun x2 x0=>Sat 31 [(0,vI x1),(3,Str.v x2)] a∧Below w0.z w0 w∧x2.b.length≤LEN∧inI x0) s) (fun r ex a w=>ex = .ret∧L_ prog fn (Q4 w0 B r) a w) huj ?_ ?_ ?_ ?_
 ·exact fun _ q=>⟨q.k<|s3 z z z,br w0,lb z,p1_0⟩
 ·rintro ⟨x2,x0⟩ _ G _ ⟨hSk,sc,h5,h6⟩ hml;have hmd:=b_1 hml;refine Wu ?_ hSk;refine Wq<|Ws<|Rm z<|R z (nq z z)<|Wn<|Wc z (fun I=>?_) (fun I=>?_)
  ·refine Wk<|Wq<|Wb<|Ws<|Rm z<|R z (f_0 z z (by decide))<|Ra z<|Wn<|Wq<|Ws<|Rm z<|R z (lss z z)<|Wn ?_
   obtain ⟨um,hue,hmn⟩:=bdS<|ifT hmd I;refine Wt (fun a w=>∃ (x3:Int),x3=um∧Sat 31 [(0,vI x1),(3,Str.v x2),(4,vI x0),(5,vI x3)] a∧Below G.z G w∧inI x3) ?_ ?_
   ·refine Wc z (fun J=>?_)<|fun J=>?_
    ·exact Wg<|Rm z<|R z (rd_neg z)<|Ra z<|Wl (fun _ q=>⟨e_b<|a_W x0 10,som<|ifT hue J,q.k<|s4 z z z z,br G,l_U _⟩)
    exact a_g<|fun _ q=>⟨a_W x0 10,som<|ifF hue J,q.k<|s4 z z z z,br G,e_P h6⟩
   rintro ao wp ⟨x3,rfl,_,sq,_⟩;revert ao;refine Wo<|Wg<|Rm z<|R z (add_ z z)<|R z (d_t d_3 d_5 z)<|E z (fS [(.tmp 21)] R_ z z z (a_d z) (lb z)<|lb z) ?_
   rintro _ wr ⟨rfl,L⟩;have O:Blk wr wp.z [(vU<|byteI<|mkB<|j_ 48 x3)]:=L.blk;refine R z (m_d n_ d_9 d_5 z_5 z<|a_.rep<|a_D L b_0)<|Rm z ?_
   obtain ⟨xs,ef,hmt⟩:=bdS hmn;exact R z (c_X z z ef)<|Ra z<|Wn<|Wg<|Rm z<|R z (e_c z z (by decide))<|Ra z<|Wl (fun _ q=>⟨(xs,b_F x0 10),(som hmt).symm,⟨q.k<|s3 z z z,bup (bup sc sq) L.below,d_u ef,e_0 _ _⟩⟩)
  exact We<|fun a' ha'=>b_w (som<|ifF hmd I).symm ⟨Sat.weaken ha'<|s2 z z,sc,h5,h6⟩
 ·rintro ⟨x2,x0⟩ au _ rfl ⟨_,sg,h5,h6⟩;have hmv:=elL hmb;have hmh:=b_1 hmv;revert au;refine Wo<|Wq<|Ws<|Rm z<|R z (lss z z)<|Wn<|Wc z (fun hca=>?_) (fun hca=>?_)
  ·refine Ws<|Rm z ?_
   obtain ⟨_,ei,hmw⟩:=bdS<|ifT hmh hca;refine R z (c_X z z ei)<|Ra z<|Wn ?_
   obtain rfl:=som hmw;exact Wr<|h_ hr z ⟨sg,z,d_u ei⟩
  refine Wk<|Ws<|Rm z<|Ra z<|Wn ?_
  obtain rfl:=som<|ifF hmh hca;exact Wr<|h_ hr z ⟨sg,z,h5⟩
 rintro _ _ _ _ rfl ⟨rfl,hqx⟩;have hmy:=elR hmb;obtain rfl:=som hmy;exact ⟨hqx,z⟩
def Q5 (w0:World) (g1:Nat) (B:Zone) (A0:Option Addr) (N0 C0:Nat) (x1:D_) (r:Bool×Int×Int) (v:Value) (w':World):Prop:=Chg (· ∈ [g1]) w0 w'∧un3 (fun I G H=>(vB I)=v∧inI G∧inI H∧Blk w' g1 [sl A0 N0 C0,vI G,vI H]) r
theorem g_y {x1:D_} {g1:Nat} {x2:Int} {res:Bool×Int×Int} (hm:c_T x1 x2=some res) (hB1:Blk w0 g1 [sl A0 N0 C0,vI x1.i,vI x1.h]) (hBw:B≤w0.z) (hBg : ¬ B g1) (p1_0:repS w0 B (sl A0 N0 C0) x1.b) (p1_1:inI x1.i) (p1_2:inI x1.h) (p2_0:inI x2):o_ prog 58 [pt g1,vI x2] w0 (Q5 w0 g1 B A0 N0 C0 x1 res):=by
 unfold c_T at hm
 refine goF func58 z z (lb z) fun fn hr=>Ws<|Ra z<|Wn<|Ws<|Rm z<|Rm z ?_
 obtain ⟨_,_,_,H,G⟩:=r_ hm;refine E z (fc call57 z<|a_V (B:=B) H hB1 hBw hBg p1_0 p1_1 p1_2 p2_0) ?_;rintro _ I ⟨s3,rfl,_,h4,h5,h6⟩;refine R z (eql z z)<|Ra z<|Wn ?_
 obtain rfl:=som G;exact Wr<|h_ hr z ⟨(cM (cr [g1] w0) s3 (io sr):Chg (· ∈ [g1]) w0 I),z,h4,h5,h6⟩
def Q6 (w0:World) (g1:Nat) (B:Zone) (A0:Option Addr) (N0 C0:Nat) (x1:D_) (r:(List UInt8)×Int×Int) (v:Value) (w':World):Prop:=Chg (· ∈ [g1]) w0 w'∧un3 (fun O G H=>∃ I J L S1,(sl I J L)=v∧a_ w' S1 (sl I J L) O∧inI G∧inI H∧Blk w' g1 [sl A0 N0 C0,vI G,vI H]∧S1.Nodup∧(∀ k∈S1,w0.z≤k)) r
theorem g_z {x1:D_} {g1:Nat} {x2:Int} {res:(List UInt8)×Int×Int} (hm:c_U x1 x2=some res) (hB1:Blk w0 g1 [sl A0 N0 C0,vI x1.i,vI x1.h]) (hBw:B≤w0.z) (hBg : ¬ B g1) (p1_0:repS w0 B (sl A0 N0 C0) x1.b) (p1_1:inI x1.i) (p1_2:inI x1.h) (p2_0:inI x2):o_ prog 56 [pt g1,vI x2] w0 (Q6 w0 g1 B A0 N0 C0 x1 res):=by
 unfold c_U at hm
 refine goF func56 z z (lb z) fun fn hr=>Ws<|Ra z<|Wn<|Ws<|E z (f0 (α:=UInt8) R_) ?_
 rintro _ G ⟨ar,ns,ct,rfl,s8,hu⟩;refine Ra z<|Wn<|Wq<|Ws<|Ra z<|Wn ?_
 obtain ⟨_,huv,hmj⟩:=bdS hm;refine Wf (σ:=(List UInt8)×Int×Int) (ρ:=(List UInt8)×Int×Int) (fun (kk:Nat) s a w=>un3 (fun O x5 x6=>∃ a2 I J H,Sat 20 [(0,pt g1),(1,vI x2),(5,sl a2 I J),(6,vI ((kk:Nat):Int))] a∧Chg (· ∈ ([g1]++[w0.z])) G w∧a_ w H (sl a2 I J) O∧H.Nodup∧(∀ k∈H,k∈[w0.z]∨G.z≤k)∧inI x5∧inI x6∧Blk w g1 [sl A0 N0 C0,vI x5,vI x6]) s) (fun s a w=>un3 (fun O x5 x6=>∃ a2 I J H,Sat 20 [(5,sl a2 I J)] a∧Chg (· ∈ ([g1]++[w0.z])) G w∧a_ w H (sl a2 I J) O∧H.Nodup∧(∀ k∈H,k∈[w0.z]∨G.z≤k)∧inI x5∧inI x6∧Blk w g1 [sl A0 N0 C0,vI x5,vI x6]) s) (fun r ex a w=>ex = .ret∧L_ prog fn (Q6 w0 g1 B A0 N0 C0 x1 r) a w) huv ?_ ?_ ?_ ?_ ?_
 ·exact fun _ q=>⟨ar,ns,ct,[w0.z],q.k<|s4 z z z z,cr ([g1]++[w0.z]) G,hu,a_h,io sr,p1_1,p1_2,hB1.e s8⟩
 ·rintro kk ⟨O,x5,x6⟩ _ ww _ hkl ⟨a2,I,J,H,hSx,sc,ha,hb,L,hd,he,hf⟩ hmy;refine Wu ?_ hSx;refine Wq<|Ws<|Rm z<|Rm z<|R z (lss z z)<|Wn<|Wc z (fun _=>?_) (fun hc=>(h_X hkl hc).elim)
  refine Wk<|Wq<|Wb<|Wg<|Rm z<|Rm z ?_
  obtain ⟨a4,a5,a6,a7,V⟩:=r_<|b_D hmy;refine E z (fc call114 z<|e_W (B:=B) a7 hf (zt' hBw<|lt_ s8.s sc.s) hBg (p1_0.g<|(s8.ag B).c sc<|nmA (c_<|b_ hBg)<|c_ (or0 (b_ lr)  (m_ hBw) : ∀ k∈[w0.z],¬ B k)) hd he) ?_;rintro _ wm ⟨sh,rfl,_,a8,a9,aa⟩;refine R z (d_t d_3 d_5 z)<|E z (fS [(.tmp 16)] R_ z z z (a_d z) (lb z)<|lb z) ?_
  rintro _ wn ⟨rfl,hi⟩;have hg:=hi.below;have au:=a_D hi b_0;have ho : ∀ k∈H,k∉[g1]:=or1 L (mmr<|Blk.lt hB1)<|P_ (b_<|Blk.lt hB1) s8.s;obtain ⟨ab,ad,W⟩:=bdS V;refine E z (a_Q (α:=UInt8) R_ ad z z ((ha.c sh ho).e hg) hb (hi.blk:Blk wn wm.z [(vU<|byteI<|mkB a4)]) b_0 an_ H_) ?_;rintro _ ae ⟨Sp,af,ah,ai,rfl,sq,aj,ak,al⟩;refine Ra z<|Wn<|Wg<|Rm z<|R z (inc_ hkl (tl_ p2_0) z z)<|Ra z<|Wl ?_
  exact fun _ q=>⟨(ab,a5,a6),(som W).symm,⟨af,ah,ai,Sp,q.k<|s4 z z z z,(cM (f_ (cM (cM (cr ([g1]++[w0.z]) G) sc (aa_ (io<|x_ sr)<|io<|A_ sr):Chg (· ∈ ([g1]++[w0.z])) G ww) sh (io<|x_ sr):Chg (· ∈ ([g1]++[w0.z])) G wm) hg:Chg (· ∈ ([g1]++[w0.z])) G wn) sq (or1 L (io<|A_ sr) (z_ lr) : ∀ k∈H,k∈([g1]++[w0.z])∨G.z≤k):Chg (· ∈ ([g1]++[w0.z])) G ae),aj,ak,(or2 al (or1 L (io sr) (z_ lr) : ∀ k∈H,k∈[w0.z]∨G.z≤k) an_ (z_<|lt_ (lt_ sc.s sh.s) hg.s) : ∀ k∈Sp,k∈[w0.z]∨G.z≤k),a8,a9,(aa.e hg).c sq<|djs ho⟩⟩
 ·rintro ⟨O,x5,x6⟩ _ am ⟨a2,I,J,H,Y,an,ha,hb,L,hd,he,hf⟩;refine Wu ?_ Y;refine Wq<|Ws<|Rm z<|Rm z<|R z (lss z z)<|Wn<|Wc z (fun hc=>(h_Y hc).elim) (fun _=>?_)
  exact We<|fun a' ha'=>⟨rfl,⟨a2,I,J,H,Sat.weaken ha'<|s1 z,(cM (cr ([g1]++[w0.z]) G) an (aa_ (io<|x_ sr)<|io<|A_ sr):Chg (· ∈ ([g1]++[w0.z])) G am),ha,hb,(or1 L (io sr) (z_ lr) : ∀ k∈H,k∈[w0.z]∨G.z≤k),hd,he,hf⟩⟩
 ·rintro ⟨O,x5,x6⟩ ao ap rfl ⟨a2,I,J,H,_,aq,ha,hb,L,hd,he,hf⟩;have a0:=elL hmj;revert ao;refine Wo<|Ws<|Rm z<|Ra z<|Wn ?_
  obtain rfl:=som<|b_D a0;exact Wr<|h_ hr z ⟨(cM (f_ (cr [g1] w0) s8:Chg (· ∈ [g1]) w0 G) aq (aa_ (io sr) (mor lr : ∀ k∈[w0.z],k∈[g1]∨w0.z≤k)):Chg (· ∈ [g1]) w0 ap),a2,I,J,H,z,ha,hd,he,hf,hb,(or1 L (b_ lr) (b_7 s8.s) : ∀ k∈H,w0.z≤k)⟩
 rintro _ _ _ _ rfl ⟨rfl,a1⟩;have a3:=elR hmj;obtain rfl:=som a3;exact ⟨a1,z⟩
theorem i_b {x1:D_} {g1:Nat} {x2:List Int} {res:Int×Int×Int} (hm:d_o x1 x2=some res) (hB1:Blk w0 g1 [sl A0 N0 C0,vI x1.i,vI x1.h]) (hBw:B≤w0.z) (hBg : ¬ B g1) (p1_0:repS w0 B (sl A0 N0 C0) x1.b) (p1_1:inI x1.i) (p1_2:inI x1.h) (p2_0:repS w0 B (sl A6 N6 C6) x2):o_ prog 108 [pt g1,sl A6 N6 C6] w0 (Q2 w0 g1 B A0 N0 C0 x1 res):=by
 unfold d_o at hm
 refine goF func108 z z (lb z) fun fn hr=>Ws<|Ra z<|Wn<|Ws<|Rm z<|Rm z<|Rm z<|R z (lnR w_ z p2_0) ?_
 obtain ⟨_,_,_,J,H⟩:=r_ hm;refine E z (fc call57 z<|a_V (B:=B) J hB1 hBw hBg p1_0 p1_1 p1_2<|a_M<|repS.len p2_0) ?_;rintro _ L ⟨G,rfl,_,h4,h5,h6⟩;obtain ⟨_,O,I⟩:=bdS H;refine RX z (at_ (α:=Int) w_ z_3 z z z (p2_0.c G<|c_<|b_ hBg) O) ?_;rintro _ ⟨_,_,_,rfl,V,ha,_⟩;obtain ⟨rfl,hb⟩:=O_ ha;refine R z (l1 g_3 z fid<|V.at0 z)<|Ra z<|Wn ?_
 obtain rfl:=som I;exact Wr<|h_ hr z ⟨(cM (cr [g1] w0) G (io sr):Chg (· ∈ [g1]) w0 L),z,hb,h4,h5,h6⟩
theorem i_c {x1:D_} {g1:Nat} {x2:d_} {res:Int×Int×Int} (hm:d_p x1 x2=some res) (hB1:Blk w0 g1 [sl A0 N0 C0,vI x1.i,vI x1.h]) (hBw:B≤w0.z) (hBg : ¬ B g1) (p1_0:repS w0 B (sl A0 N0 C0) x1.b) (p1_1:inI x1.i) (p1_2:inI x1.h) (p2_0:repS w0 B (sl A6 N6 C6) x2.rules):o_ prog 163 [pt g1,(.agg #[sl A6 N6 C6])] w0 (Q2 w0 g1 B A0 N0 C0 x1 res):=by
 unfold d_p at hm
 refine goF func163 z z (lb z) fun fn hr=>Ws<|E z (fb z) ?_
 rintro _ H ⟨rfl,ht⟩;have h3:=ht.below;have hf:Blk H w0.z [sl A6 N6 C6]:=ht.blk;refine Ra z<|Wn<|Ws<|E z (f0 (α:=Int) b_q) ?_
 rintro _ I ⟨ad,ae,af,rfl,s8,ah⟩;refine Ra z<|Wn<|Wq<|Ws<|Ra z<|Wn ?_
 obtain ⟨_,a0,hms⟩:=bdS hm;refine Wf (σ:=List Int) (ρ:=Int×Int×Int) (fun (kc:Nat) (W:List Int) a w=>∃ J L O G,Sat 29 [(0,pt g1),(3,pt w0.z),(5,sl J L O),(6,vI ((kc:Nat):Int))] a∧Chg (· ∈ [H.z]) I w∧a_ w G (sl J L O) W∧G.Nodup∧(∀ k∈G,k∈[H.z]∨I.z≤k)) (fun (W:List Int) a w=>∃ J L O G,Sat 29 [(0,pt g1),(5,sl J L O)] a∧Chg (· ∈ [H.z]) I w∧a_ w G (sl J L O) W∧G.Nodup∧(∀ k∈G,k∈[H.z]∨I.z≤k)) (fun r ex a w=>ex = .ret∧L_ prog fn (Q2 w0 g1 B A0 N0 C0 x1 r) a w) a0 ?_ ?_ ?_ ?_ ?_
 ·exact fun _ q=>⟨ad,ae,af,[H.z],q.k<|s4 z z z z,cr [H.z] I,ah,a_h,io sr⟩
 ·rintro kc W _ V _ hkg ⟨J,L,O,G,a1,sh,ha,hd,he⟩ a2;refine Wu ?_ a1;refine Wq<|Ws<|Rm z<|R z (fd X_ z) ?_
  have hu:=(hf.e s8).c sh<|djs<|mmr hf.lt
  refine R z (l1 a_0 z fid<|hu.at z) ?_;have hv:=p2_0.g<|((h3.ag B).e s8).c sh<|c_ (or0 (b_ lr)  (m_<|zt' hBw h3.s) : ∀ k∈[H.z],¬ B k)
  refine R z (lnR a_1 z hv)<|R z (lss z z)<|Wn<|Wc z (fun _=>?_) (fun hc=>(a_3 hkg hc).elim)
  refine Wk<|Wq<|Wb<|Ws<|R z (fd X_ z)<|R z (l1 a_0 z fid<|hu.at z)<|Rm z ?_
  obtain ⟨_,ai,a3⟩:=bdS a2;refine RX z (at_ (α:=g_) a_1 p_ z z z hv ai) ?_;rintro _ ⟨_,_,_,rfl,ak,al,_⟩;obtain ⟨_,_,_,_,_,_,_,_,_,_,_,_,rfl,_,_,_,_,_,_,_⟩:=a_z al;refine R z (fd a_x z)<|R z (l1 g_3 z fid<|ak.at (j:=1) z)<|R z (eql z z)<|Wn ?_
  obtain ⟨am,huw,a5⟩:=bdS a3;refine Wt (fun a w=>∃ (xi:List Int),xi=am ∧ ∃ aj nk cl Sb,Sat 29 [(0,pt g1),(3,pt w0.z),(5,sl aj nk cl),(6,vI ((kc:Nat):Int))] a∧Chg (· ∈ G) V w∧a_ w Sb (sl aj nk cl) xi∧Sb.Nodup∧(∀ k∈Sb,k∈G∨V.z≤k)) ?_ ?_
  ·refine Wc z (fun hcn=>?_)<|fun hcn=>?_
   ·refine Wg<|Rm z<|Rm z<|E z (fS [(.tmp 23)] b_q z z z (a_d z) (lb z)<|lb z) ?_
    rintro _ wx ⟨rfl,ho⟩;have hp:=ho.below;have aO:=a_D ho<|b_g<|ic (Nat.le_of_lt hkg)<|lt_ (repS.len p2_0) M_
    obtain ⟨an,ao,a6⟩:=bdS<|ifT huw hcn;refine E z (a_Q (α:=Int) b_q ao z z (ha.e hp) hd (ho.blk:Blk wx V.z [(vI ((kc:Nat):Int))]) (b_g<|ic (Nat.le_of_lt hkg)<|lt_ (repS.len p2_0) M_) an_ H_) ?_;rintro _ ap ⟨Sy,aq,ar,au,rfl,av,aw,ax,ay⟩;refine Ra z<|Wl ?_
    exact fun _ q=>⟨an,som a6,aq,ar,au,Sy,q.k<|s4 z z z z,(cM (f_ (cr G V) hp:Chg (· ∈ G) V wx) av (io sr):Chg (· ∈ G) V ap),aw,ax,(or2 ay (io sr) an_ (z_ hp.s) : ∀ k∈Sy,k∈G∨V.z≤k)⟩
   exact a_g<|fun _ q=>⟨W,som<|ifF huw hcn,J,L,O,G,q.k<|s4 z z z z,cr G V,ha,hd,io sr⟩
  rintro az aA ⟨xi,rfl,aj,nk,cl,Sb,_,aB,aC,aD,aE⟩;revert az;refine Wo<|Wg<|Rm z<|R z (inc_ hkg (lt_ (repS.len p2_0) M_) z z)<|Ra z<|Wl ?_
  have hz : ∀ k∈G,k∈[H.z]∨I.z≤k:=or1 he (io sr)<|z_ lr;exact fun _ q=>⟨xi,(som a5).symm,⟨aj,nk,cl,Sb,q.k<|s4 z z z z,(cM (cM (cr [H.z] I) sh (io sr):Chg (· ∈ [H.z]) I V) aB hz:Chg (· ∈ [H.z]) I aA),aC,aD,(or1 aE hz (z_ sh.s) : ∀ k∈Sb,k∈[H.z]∨I.z≤k)⟩⟩
 ·rintro W _ aF ⟨J,L,O,G,a7,sq,ha,hd,he⟩;refine Wu ?_ a7;refine Wq<|Ws<|Rm z<|R z (fd X_ z)<|R z (l1 a_0 z fid<|((hf.e s8).c sq<|djs<|mmr hf.lt).at z) ?_
  refine R z (lnR a_1 z<|p2_0.g<|((h3.ag B).e s8).c sq<|c_ (or0 (b_ lr)  (m_<|zt' hBw h3.s) : ∀ k∈[H.z],¬ B k))<|R z (lss z z)<|Wn<|Wc z (fun hc=>(a_4 hc).elim) (fun _=>?_)
  exact We<|fun a' ha'=>⟨rfl,⟨J,L,O,G,Sat.weaken ha'<|s2 z z,(cM (cr [H.z] I) sq (io sr):Chg (· ∈ [H.z]) I aF),ha,hd,(or1 he (io sr) (z_ lr) : ∀ k∈G,k∈[H.z]∨I.z≤k)⟩⟩
 ·rintro W aG wr rfl ⟨J,L,O,G,_,sm,ha,hd,he⟩;have a8:=elL hms;revert aG;refine Wo<|Ws<|Rm z<|Rm z ?_
  have Y:=lt_ h3.s s8.s;obtain ⟨_,_,_,aH,a9⟩:=r_ a8;refine E z (fc call108 z<|i_b (B:=zn B w0.z wr.z) aH (((hB1.e h3).e s8).c sm<|djs<|mm1 (Blk.lt hB1) h3.s) (c_c (zt' hBw<|lt_ Y sm.s) lr) (atp ((d_w (b_ hBg) (b_<|Blk.lt hB1) lr) : ∀ k∈[g1],¬ (zn B w0.z wr.z) k)) (repS.mono (p1_0.g<|((h3.ag B).e s8).c sm<|c_ (or0 (b_ lr)  (m_<|zt' hBw h3.s) : ∀ k∈[H.z],¬ B k)) b_M) p1_1 p1_2<|or_ ha<|zin (B:=B) (a_2 he (m1 h3.s) Y)<|a_.lt ha) ?_;rintro _ aI ⟨aJ,rfl,aK,aL,aM,aN⟩;refine Ra z<|Wn ?_
  obtain rfl:=som a9;exact Wr<|h_ hr z ⟨(cM (cM (f_ (f_ (cr [g1] w0) h3:Chg (· ∈ [g1]) w0 H) s8:Chg (· ∈ [g1]) w0 I) sm (mor h3.s : ∀ k∈[H.z],k∈[g1]∨w0.z≤k):Chg (· ∈ [g1]) w0 wr) aJ (io sr):Chg (· ∈ [g1]) w0 aI),z,aK,aL,aM,aN⟩
 rintro _ _ _ _ rfl ⟨rfl,aa⟩;have ab:=elR hms;obtain rfl:=som ab;exact ⟨aa,z⟩
def Q7 (w0:World) (g1:Nat) (B:Zone) (A0:Option Addr) (N0 C0:Nat) (x1:D_) (r:g_×Int×Int) (v:Value) (w':World):Prop:=Chg (· ∈ [g1]) w0 w'∧un3 (fun G H I=>∃ J L O S1 a2 V W S2 Y n3 c3 S3 a4 n4 c4 S4,(.agg #[Str.v G.name,vI G.kind,vI G.size,vB G.little,sl J L O,sl a2 V W,sl Y n3 c3,sl a4 n4 c4])=v∧G.name.b.length≤LEN∧inI G.kind∧inI G.size∧a_ w' S1 (sl J L O) G.bytes∧a_ w' S2 (sl a2 V W) G.names∧a_ w' S3 (sl Y n3 c3) G.tags∧a_ w' S4 (sl a4 n4 c4) G.kids∧inI H∧inI I∧Blk w' g1 [sl A0 N0 C0,vI H,vI I]∧(S1++(S2++(S3++S4))).Nodup∧(∀ k∈(S1++(S2++(S3++S4))),w0.z≤k)) r
theorem W_w15 {x1:D_} {g1:Nat} {x2:d_} {x3:Int} {res:g_×Int×Int} (hm:d_q n x1 x2 x3=some res) (hB1:Blk w0 g1 [sl A0 N0 C0,vI x1.i,vI x1.h]) (hBw:B≤w0.z) (hBg : ¬ B g1) (p1_0:repS w0 B (sl A0 N0 C0) x1.b) (p1_1:inI x1.i) (p1_2:inI x1.h) (p2_0:repS w0 B (sl A6 N6 C6) x2.rules) (p3_0:inI x3):o_ prog 106 [pt g1,.agg #[sl A6 N6 C6],vI x3] w0 (Q7 w0 g1 B A0 N0 C0 x1 res):=by
 unfold d_q at hm
 refine goF func106 z z (lb z) fun fn hr=>Ws<|E z (fb z) ?_
 rintro _ wb ⟨rfl,gD⟩;have be:=gD.below;have cl:Blk wb w0.z [sl A6 N6 C6]:=gD.blk;refine E z (fa b_i) ?_;rintro _ aU ⟨rfl,gE⟩;have ah:=gE.below;have bf:Blk aU wb.z [(Str.v (⟨[]⟩:Str)),vI 0,vI 0,vB false,sl none 0 0,sl none 0 0,sl none 0 0,sl none 0 0]:=gE.blk;refine Wn<|Ws<|R z (fd X_ z) ?_
 have cm:=cl.e ah;refine R z (l1 a_0 z fid<|cm.at z) ?_;have gF:=(be.ag B).e ah;have bg:=p2_0.g gF;refine R z (lnR a_1 z bg)<|Ra z<|Wn<|Ws<|Rm z<|E z (fS [(.const<|Str.v ⟨[97]⟩),.const<|Str.v ⟨[105,116,101,109]⟩,.const<|Str.v ⟨[98]⟩,.const<|Str.v ⟨[104,101,97,100]⟩,(.const<|Str.v ⟨[120]⟩)] g_t z z z (a_d z) (lb z)<|lb z) ?_
 rintro _ bM ⟨rfl,gG⟩;have hi:=gG.below;have gH:a_ bM [aU.z] (sl (some ⟨aU.z,0,none⟩) 5 5) ([(⟨[97]⟩:Str),(⟨[105,116,101,109]⟩:Str),(⟨[98]⟩:Str),(⟨[104,101,97,100]⟩:Str),(⟨[120]⟩:Str)]:List Str):=j_U (l:=[(⟨[97]⟩:Str),(⟨[105,116,101,109]⟩:Str),(⟨[98]⟩:Str),(⟨[104,101,97,100]⟩:Str),(⟨[120]⟩:Str)]) (gG.blk:Blk bM aU.z [(Str.v (⟨[97]⟩:Str)),Str.v (⟨[105,116,101,109]⟩:Str),Str.v (⟨[98]⟩:Str),Str.v (⟨[104,101,97,100]⟩:Str),(Str.v (⟨[120]⟩:Str))]) (ac0 (lb z)<|ac0 (lb z)<|ac0 (lb z)<|ac0 (lb z)<|ac0 (lb z) an0) z;have hn:=gF.e hi;have gI:=lt_ be.s ah.s;have gJ:=lt_ gI hi.s;obtain ⟨_,jK,jL,jM,iJ⟩:=r_ hm;refine E z (fc call113 z<|W_w14 (B:=zn B aU.z bM.z) jM (((hB1.e be).e ah).e hi) (c_c (zt' hBw gJ) lr) (atp ((d_w (b_ hBg) (b_<|Blk.lt hB1) gI) : ∀ k∈[g1],¬ (zn B aU.z bM.z) k)) (repS.mono (p1_0.g hn) b_M) p1_1 p1_2<|or_ gH<|zin (B:=B) (b_ lr)<|a_.lt gH) ?_;rintro _ jN ⟨sc,rfl,_,ho,hp,hq⟩;refine Rm z ?_;have hj:=lt_ gJ sc.s;obtain ⟨_,jO,iK⟩:=bdS iJ;refine E z (fc call162 z<|i_a (B:=B) jO (zt' hBw hj)<|a_M<|repS.len bg) ?_;rintro _ G ⟨s3,rfl,_⟩;obtain ⟨x5,gK,iL⟩:=bdS iK;refine R z (c_X z z gK)<|Rm z<|R z (bP (parts:=[(0,.tmp 19),(1,.tmp 20)]) (cs:=[Str.v x5,vI x3,vI 0,vB false,sl none 0 0,sl none 0 0,sl none 0 0,sl none 0 0]) n_a z z)<|E z (fa b_i) ?_
 rintro _ gL ⟨rfl,gM⟩;have h4:=gM.below;have ha:Blk gL G.z [(Str.v (⟨[]⟩:Str)),vI 0,vI 0,vB false,sl none 0 0,sl none 0 0,sl none 0 0,sl none 0 0]:=gM.blk;refine E0 (fs (cur':=[Str.v x5,vI x3,vI 0,vB false,sl none 0 0,sl none 0 0,sl none 0 0,sl none 0 0]) p_ z z ha z (lb z) (oA z) z) ?_;rintro _ H ⟨ht,jP⟩;have I:=jP.one;refine Wn<|Wq<|Ws<|Rm z<|Wn<|Wb<|Ws<|R z (eql z z)<|Ra z<|Wn ?_
 obtain ⟨jQ,gm,eZ⟩:=bdS iL;refine Wt (fun a w=>∃ (cn:Int) (co:Int) (bh:Int) (bN:Bool) (fO:List UInt8) (fP:List Str) (fQ:List Int) (fR:List Int),Sum.inl (cn,co,bh,bN,fO,fP,fQ,fR)=jQ ∧ ∃ bi bj bk ai bm bn bo aj bp bq bt al bu bv bw am,Sat 147 [(6,pt wb.z),(8,pt G.z)] a∧Chg (· ∈ ([g1]++[G.z])) H w∧inI cn∧inI co∧inI bh∧a_ w ai (sl bi bj bk) fO∧ai.Nodup∧(∀ k∈ai,H.z≤k)∧a_ w aj (sl bm bn bo) fP∧aj.Nodup∧(∀ k∈aj,H.z≤k)∧(∀ k∈aj,k∉ai)∧a_ w al (sl bp bq bt) fQ∧al.Nodup∧(∀ k∈al,H.z≤k)∧(∀ k∈al,k∉ai)∧(∀ k∈al,k∉aj)∧a_ w am (sl bu bv bw) fR∧am.Nodup∧(∀ k∈am,H.z≤k)∧(∀ k∈am,k∉ai)∧(∀ k∈am,k∉aj)∧(∀ k∈am,k∉al)∧Blk w g1 [sl A0 N0 C0,vI cn,vI co]∧Blk w G.z [Str.v x5,vI x3,vI bh,vB bN,sl bi bj bk,sl bm bn bo,sl bp bq bt,sl bu bv bw]) ?_ ?_
 ·refine Wc z (fun f0=>?_)<|fun f0=>?_
  ·refine Ws<|Rm z ?_
   have fT:=lt_ hj s3.s;have gN : ∀ k∈[G.z],¬ B k:=or0 (b_ lr)  (m_<|zt' hBw fT);have gO:=(((hn.c sc<|c_<|b_ hBg).e s3).e h4).c I<|c_ gN
   have aV:=mm1 (Blk.lt hB1) fT;have gP:=lt_ (lt_ fT h4.s) I.s;obtain ⟨bx,jR,jS,jT,iM⟩:=r_<|ifT gm f0;refine E z (fc call57 z<|a_V (B:=B) jT (((hq.e s3).e h4).c I<|djs aV) (zt' hBw gP) hBg (p1_0.g gO) ho hp<|ii z) ?_;rintro _ jU ⟨cp,rfl,_,gQ,gR,gS⟩;refine R z (add_ z z)<|R z (fd a_t z)<|E0 (fs (cur':=[Str.v x5,vI x3,vI<|j_ 1 bx,vB false,sl none 0 0,sl none 0 0,sl none 0 0,sl none 0 0]) z_3 z z (ht.c cp<|atp aV) z (lb z) (oA z) z) ?_
   rintro _ aW ⟨fU,jV⟩;have bO:=jV.one;refine Wn ?_;obtain ⟨jW,gn,iN⟩:=bdS iM;refine Wt (fun a w=>∃ (bQ:Int) (bR:Int) (cq:Bool),(bQ,bR,cq)=jW∧Sat 147 [(6,pt wb.z),(8,pt G.z)] a∧Chg (· ∈ ([g1]++[G.z])) aW w∧inI bQ∧inI bR∧Blk w g1 [sl A0 N0 C0,vI bQ,vI bR]∧Blk w G.z [Str.v x5,vI x3,vI<|j_ 1 bx,vB cq,sl none 0 0,sl none 0 0,sl none 0 0,sl none 0 0]) ?_ ?_
   ·refine Wg<|R z (fd a_t z)<|R z (l1 g_3 z fid<|fU.at z)<|R z (a_9 z z)<|Rm z ?_
    rcases bs (decide<|1<(j_ 1 bx)) with a2 | a2
    ·refine Rh z a2 (mv z) ?_;obtain ⟨gT,jX,jY,jZ,iO⟩:=r_<|ifT gn a2;refine Eg z z a2 z (fc call58 z<|g_y (B:=B) jZ (gS.c bO<|djs aV) (zt' hBw<|lt_ (lt_ gP cp.s) bO.s) hBg (p1_0.g<|(gO.c cp<|c_<|b_ hBg).c bO<|c_ gN) gQ gR<|ii z) ?_;rintro _ k0 ⟨gU,rfl,ka,kb,kc⟩;refine R z (pT z a2 z)<|R z (fd c_r z)<|E0 (fs (cur':=[Str.v x5,vI x3,vI<|j_ 1 bx,vB gT,sl none 0 0,sl none 0 0,sl none 0 0,sl none 0 0]) z_4 z z (fU.c gU<|atp aV) z (lb z) (oA z) z) ?_
     rintro _ kd ⟨ke,kf⟩;have gV:=kf.one;refine Wl ?_;exact fun _ q=>⟨jX,jY,gT,som iO,q.k<|s2 z z,(cM (cM (cr ([g1]++[G.z]) aW) gU (io<|x_ sr):Chg (· ∈ ([g1]++[G.z])) aW k0) gV (io<|A_ sr):Chg (· ∈ ([g1]++[G.z])) aW kd),ka,kb,kc.c gV<|djs aV,ke⟩
    refine Nh z a2<|Nh z a2<|R z (pF z a2 z)<|R z (fd c_r z)<|E0 (fs (cur':=[Str.v x5,vI x3,vI<|j_ 1 bx,vB false,sl none 0 0,sl none 0 0,sl none 0 0,sl none 0 0]) z_4 z z fU z (lb z) (oA z) z) ?_
    rintro _ kg ⟨kh,ki⟩;have gW:=ki.one;refine Wl ?_;exact fun _ q=>⟨jR,jS,false,som<|ifF gn a2,q.k<|s2 z z,(cM (cr ([g1]++[G.z]) aW) gW (io<|A_ sr):Chg (· ∈ ([g1]++[G.z])) aW kg),gQ,gR,(gS.c bO<|djs aV).c gW<|djs aV,kh⟩
   rintro kj kk ⟨bQ,bR,cq,rfl,_,kl,km,kn,ko,kp⟩;revert kj;exact fun _ q=>⟨bQ,bR,j_ 1 bx,cq,([]:List UInt8),([]:List Str),([]:List Int),([]:List Int),som<|b_D iN,none,0,0,[],none,0,0,[],none,0,0,[],none,0,0,[],q.k<|s2 z z,(cM (cM (cM (cr ([g1]++[G.z]) H) cp (io<|x_ sr):Chg (· ∈ ([g1]++[G.z])) H jU) bO (io<|A_ sr):Chg (· ∈ ([g1]++[G.z])) H aW) kl (aa_ (io<|x_ sr)<|io<|A_ sr):Chg (· ∈ ([g1]++[G.z])) H kk),km,kn,iA _ _,onL,H_,an_,onL,H_,an_,an_,onL,H_,an_,an_,an_,onL,H_,an_,an_,an_,an_,ko,kp⟩
  refine Ws<|R z (eql z z)<|Ra z<|Wn ?_
  obtain ⟨kq,gp,f1⟩:=bdS<|ifF gm f0;refine Wt (fun a w=>∃ (bS:Int) (bT:Int) (bU:Int) (ct:List UInt8) (cv:List Str) (cw:List Int) (cx:List Int),Sum.inl (bS,bT,bU,ct,cv,cw,cx)=kq ∧ ∃ cy cz cA an cB cC cD ao cE cF cG ap cH cI cJ aq,Sat 147 [(6,pt wb.z),(8,pt G.z)] a∧Chg (· ∈ ([g1]++[G.z])) H w∧inI bS∧inI bT∧inI bU∧a_ w an (sl cy cz cA) ct∧an.Nodup∧(∀ k∈an,H.z≤k)∧a_ w ao (sl cB cC cD) cv∧ao.Nodup∧(∀ k∈ao,H.z≤k)∧(∀ k∈ao,k∉an)∧a_ w ap (sl cE cF cG) cw∧ap.Nodup∧(∀ k∈ap,H.z≤k)∧(∀ k∈ap,k∉an)∧(∀ k∈ap,k∉ao)∧a_ w aq (sl cH cI cJ) cx∧aq.Nodup∧(∀ k∈aq,H.z≤k)∧(∀ k∈aq,k∉an)∧(∀ k∈aq,k∉ao)∧(∀ k∈aq,k∉ap)∧Blk w g1 [sl A0 N0 C0,vI bS,vI bT]∧Blk w G.z [Str.v x5,vI x3,vI bU,vB false,sl cy cz cA,sl cB cC cD,sl cE cF cG,sl cH cI cJ]) ?_ ?_
  ·refine Wc z (fun f2=>?_)<|fun f2=>?_
   ·refine Wg<|Rm z<|Rm z ?_
    have fV:=lt_ hj s3.s;have gX:=(((hn.c sc<|c_<|b_ hBg).e s3).e h4).c I<|c_ (or0 (b_ lr)  (m_<|zt' hBw fV) : ∀ k∈[G.z],¬ B k)
    have cK:=mm1 (Blk.lt hB1) fV;have gY:=lt_ (lt_ fV h4.s) I.s;obtain ⟨_,_,_,kr,iP⟩:=r_<|ifT gp f2;refine E z (fc call57 z<|a_V (B:=B) kr (((hq.e s3).e h4).c I<|djs cK) (zt' hBw gY) hBg (p1_0.g gX) ho hp<|ii z) ?_;rintro _ ks ⟨bz,rfl,_,kt,ku,kw⟩;refine R z (add_ z z) ?_;obtain ⟨kx,ky,kz,kA,iQ⟩:=r_ iP;refine E z (fc call56 z<|g_z (B:=B) kA kw (zt' hBw<|lt_ gY bz.s) hBg (p1_0.g<|gX.c bz<|c_<|b_ hBg) kt ku<|iA _ _) ?_;rintro _ kB ⟨gZ,h1,h2,h3,kC,rfl,kD,kE,kF,kG,kH,h5⟩;refine R z (fd a_K z)<|E0 (fs (cur':=[Str.v x5,vI x3,vI 0,vB false,sl h1 h2 h3,sl none 0 0,sl none 0 0,sl none 0 0]) z_22 z z ((ht.c bz<|atp cK).c gZ<|atp cK) z (lb z) (oA z) z) ?_
    rintro _ kI ⟨kJ,kK⟩;have fW:=kK.one;refine Wl ?_;exact fun _ q=>⟨ky,kz,0,kx,([]:List Str),([]:List Int),([]:List Int),som iQ,h1,h2,h3,kC,none,0,0,[],none,0,0,[],none,0,0,[],q.k<|s2 z z,(cM (cM (cM (cr ([g1]++[G.z]) H) bz (io<|x_ sr):Chg (· ∈ ([g1]++[G.z])) H ks) gZ (io<|x_ sr):Chg (· ∈ ([g1]++[G.z])) H kB) fW (io<|A_ sr):Chg (· ∈ ([g1]++[G.z])) H kI),kE,kF,ii z,kD.c fW<|k_ h5 ha.lt<|lt_ I.s bz.s,kH,l_ h5 bz.s,onL,H_,an_,an_,onL,H_,an_,an_,an_,onL,H_,an_,an_,an_,an_,kG.c fW<|djs cK,kJ⟩
   refine Ws<|R z (eql z z)<|Ra z<|Wn ?_
   obtain ⟨kL,gq,f3⟩:=bdS<|ifF gp f2;refine Wt (fun a w=>∃ (bV:Int) (bW:Int) (bX:Int) (cL:List UInt8) (cN:List Str) (cO:List Int) (cP:List Int),Sum.inl (bV,bW,bX,cL,cN,cO,cP)=kL ∧ ∃ cQ cR cS au cT cU cV av cW cX cY aw cZ d0 d1 ax,Sat 147 [(6,pt wb.z),(8,pt G.z)] a∧Chg (· ∈ ([g1]++[G.z])) H w∧inI bV∧inI bW∧inI bX∧a_ w au (sl cQ cR cS) cL∧au.Nodup∧(∀ k∈au,H.z≤k)∧a_ w av (sl cT cU cV) cN∧av.Nodup∧(∀ k∈av,H.z≤k)∧(∀ k∈av,k∉au)∧a_ w aw (sl cW cX cY) cO∧aw.Nodup∧(∀ k∈aw,H.z≤k)∧(∀ k∈aw,k∉au)∧(∀ k∈aw,k∉av)∧a_ w ax (sl cZ d0 d1) cP∧ax.Nodup∧(∀ k∈ax,H.z≤k)∧(∀ k∈ax,k∉au)∧(∀ k∈ax,k∉av)∧(∀ k∈ax,k∉aw)∧Blk w g1 [sl A0 N0 C0,vI bV,vI bW]∧Blk w G.z [Str.v x5,vI x3,vI bX,vB false,sl cQ cR cS,sl cT cU cV,sl cW cX cY,sl cZ d0 d1]) ?_ ?_
   ·refine Wc z (fun f4=>?_)<|fun f4=>?_
    ·refine Wg<|Rm z ?_
     have fX:=lt_ hj s3.s;have fY:=mm1 (Blk.lt hB1) fX;obtain ⟨h6,kM,kN,kO,iR⟩:=r_<|ifT gq f4;refine E z (fc call57 z<|a_V (B:=B) kO (((hq.e s3).e h4).c I<|djs fY) (zt' hBw<|lt_ (lt_ fX h4.s) I.s) hBg (p1_0.g<|(((hn.c sc<|c_<|b_ hBg).e s3).e h4).c I<|c_ (or0 (b_ lr)  (m_<|zt' hBw fX) : ∀ k∈[G.z],¬ B k)) ho hp<|ii z) ?_;rintro _ kP ⟨h7,rfl,_,kQ,kR,kS⟩;refine R z (add_ z z)<|R z (fd a_t z)<|E0 (fs (cur':=[Str.v x5,vI x3,vI<|j_ 1 h6,vB false,sl none 0 0,sl none 0 0,sl none 0 0,sl none 0 0]) z_3 z z (ht.c h7<|atp fY) z (lb z) (oA z) z) ?_
     rintro _ kT ⟨kU,kV⟩;have h8:=kV.one;refine Wl ?_;exact fun _ q=>⟨kM,kN,j_ 1 h6,([]:List UInt8),([]:List Str),([]:List Int),([]:List Int),som iR,none,0,0,[],none,0,0,[],none,0,0,[],none,0,0,[],q.k<|s2 z z,(cM (cM (cr ([g1]++[G.z]) H) h7 (io<|x_ sr):Chg (· ∈ ([g1]++[G.z])) H kP) h8 (io<|A_ sr):Chg (· ∈ ([g1]++[G.z])) H kT),kQ,kR,iA _ _,onL,H_,an_,onL,H_,an_,an_,onL,H_,an_,an_,an_,onL,H_,an_,an_,an_,an_,kS.c h8<|djs fY,kU⟩
    refine Ws<|R z (eql z z)<|Ra z<|Wn ?_
    obtain ⟨kW,gr,f5⟩:=bdS<|ifF gq f4;refine Wt (fun a w=>∃ (bY:Int) (bZ:Int) (d2:List UInt8) (d3:List Str) (d4:List Int) (d5:List Int),Sum.inl (bY,bZ,d2,d3,d4,d5)=kW ∧ ∃ d6 d7 d8 ay d9 da db az dc dd de aA df dg dh aB,Sat 147 [(6,pt wb.z),(8,pt G.z)] a∧Chg (· ∈ ([g1]++[G.z])) H w∧inI bY∧inI bZ∧a_ w ay (sl d6 d7 d8) d2∧ay.Nodup∧(∀ k∈ay,H.z≤k)∧a_ w az (sl d9 da db) d3∧az.Nodup∧(∀ k∈az,H.z≤k)∧(∀ k∈az,k∉ay)∧a_ w aA (sl dc dd de) d4∧aA.Nodup∧(∀ k∈aA,H.z≤k)∧(∀ k∈aA,k∉ay)∧(∀ k∈aA,k∉az)∧a_ w aB (sl df dg dh) d5∧aB.Nodup∧(∀ k∈aB,H.z≤k)∧(∀ k∈aB,k∉ay)∧(∀ k∈aB,k∉az)∧(∀ k∈aB,k∉aA)∧Blk w g1 [sl A0 N0 C0,vI bY,vI bZ]∧Blk w G.z [Str.v x5,vI x3,vI 0,vB false,sl d6 d7 d8,sl d9 da db,sl dc dd de,sl df dg dh]) ?_ ?_
    ·refine Wc z (fun f6=>?_)<|fun f6=>?_
     ·refine Wg<|Rm z ?_
      refine R z (lN (vs:=[sl A6 N6 C6]) y_ t_ z z fid<|(((((cm.e hi).c sc<|atp<|mmr<|Blk.lt hB1).e s3).e h4).c I<|djs<|mm1 cl.lt<|lt_ (lt_ (lt_ ah.s hi.s) sc.s) s3.s).row 0 1 z) ?_;have fZ:=lt_ hj s3.s;have h9:=(((hn.c sc<|c_<|b_ hBg).e s3).e h4).c I<|c_ (or0 (b_ lr)  (m_<|zt' hBw fZ) : ∀ k∈[G.z],¬ B k)
      have g0:=mm1 (Blk.lt hB1) fZ;obtain ⟨hb,kX,kY,kZ,iT⟩:=r_<|ifT gr f6;refine E z (fc call163 z<|i_c (B:=B) kZ (((hq.e s3).e h4).c I<|djs g0) (zt' hBw<|lt_ (lt_ fZ h4.s) I.s) hBg (p1_0.g h9) ho hp<|p2_0.g h9) ?_;rintro _ c0 ⟨di,rfl,l0,l2,l3,l4⟩;refine E z (fS [(.tmp 55)] b_q z z z (a_d z) (lb z)<|lb z) ?_;rintro _ hc ⟨rfl,g2⟩;have g3:=g2.below;have qA:Blk hc c0.z [vI hb]:=g2.blk;refine R z (fd K_ z)<|E0 (fs (cur':=[Str.v x5,vI x3,vI 0,vB false,sl none 0 0,sl none 0 0,sl none 0 0,sl (some ⟨c0.z,0,none⟩) 1 1]) d_y z z ((ht.c di<|atp g0).e g3) z (lb z) (oA z) z) ?_
      rintro _ l5 ⟨l6,l7⟩;have g4:=l7.one;refine Wl ?_;exact fun _ q=>⟨kX,kY,([]:List UInt8),([]:List Str),([]:List Int),[hb],som iT,none,0,0,[],none,0,0,[],none,0,0,[],some ⟨c0.z,0,none⟩,1,1,[c0.z],q.k<|s2 z z,(cM (f_ (cM (cr ([g1]++[G.z]) H) di (io<|x_ sr):Chg (· ∈ ([g1]++[G.z])) H c0) g3:Chg (· ∈ ([g1]++[G.z])) H hc) g4 (io<|A_ sr):Chg (· ∈ ([g1]++[G.z])) H l5),l2,l3,onL,H_,an_,onL,H_,an_,an_,onL,H_,an_,an_,an_,(a_D g2<|b_g l0).c g4<|mm1 ha.lt<|lt_ I.s di.s,a_h,m1 di.s,nmN _,nmN _,nmN _,(l4.e g3).c g4<|djs g0,l6⟩
     refine Ws<|R z (eql z z)<|Ra z<|Wn ?_
     obtain ⟨l8,gs,f7⟩:=bdS<|ifF gr f6;refine Wt (fun a w=>∃ (c1:Int) (c2:Int) (dj:List UInt8) (dk:List Str) (dl:List Int) (dm:List Int),Sum.inl (c1,c2,dj,dk,dl,dm)=l8 ∧ ∃ dn dp dq aC dr dt du aD dv dw dx aE dy dz dA aF,Sat 147 [(6,pt wb.z),(8,pt G.z)] a∧Chg (· ∈ ([g1]++[G.z])) H w∧inI c1∧inI c2∧a_ w aC (sl dn dp dq) dj∧aC.Nodup∧(∀ k∈aC,H.z≤k)∧a_ w aD (sl dr dt du) dk∧aD.Nodup∧(∀ k∈aD,H.z≤k)∧(∀ k∈aD,k∉aC)∧a_ w aE (sl dv dw dx) dl∧aE.Nodup∧(∀ k∈aE,H.z≤k)∧(∀ k∈aE,k∉aC)∧(∀ k∈aE,k∉aD)∧a_ w aF (sl dy dz dA) dm∧aF.Nodup∧(∀ k∈aF,H.z≤k)∧(∀ k∈aF,k∉aC)∧(∀ k∈aF,k∉aD)∧(∀ k∈aF,k∉aE)∧Blk w g1 [sl A0 N0 C0,vI c1,vI c2]∧Blk w G.z [Str.v x5,vI x3,vI 0,vB false,sl dn dp dq,sl dr dt du,sl dv dw dx,sl dy dz dA]) ?_ ?_
     ·refine Wc z (fun f8=>?_)<|fun f8=>?_
      ·refine Wg<|Rm z ?_
       refine R z (lN (vs:=[sl A6 N6 C6]) y_ t_ z z fid<|(((((cm.e hi).c sc<|atp<|mmr<|Blk.lt hB1).e s3).e h4).c I<|djs<|mm1 cl.lt<|lt_ (lt_ (lt_ ah.s hi.s) sc.s) s3.s).row 0 1 z) ?_;have g5:=lt_ hj s3.s;have g6:=(((hn.c sc<|c_<|b_ hBg).e s3).e h4).c I<|c_ (or0 (b_ lr)  (m_<|zt' hBw g5) : ∀ k∈[G.z],¬ B k)
       have dB:=mm1 (Blk.lt hB1) g5;have hd:=lt_ (lt_ g5 h4.s) I.s;obtain ⟨dC,_,_,l9,iU⟩:=r_<|ifT gs f8;refine E z (fc call163 z<|i_c (B:=B) l9 (((hq.e s3).e h4).c I<|djs dB) (zt' hBw hd) hBg (p1_0.g g6) ho hp<|p2_0.g g6) ?_;rintro _ la ⟨bA,rfl,lc,ld,le,lf⟩;refine Rm z<|Rm z ?_
       obtain ⟨dD,lg,lh,li,iV⟩:=r_ iU;refine E z (fc call57 z<|a_V (B:=B) li lf (zt' hBw<|lt_ hd bA.s) hBg (p1_0.g<|g6.c bA<|c_<|b_ hBg) ld le<|a_M<|repS.len bg) ?_;rintro _ aX ⟨dF,rfl,lj,lk,ll,lm⟩;refine E z (fS [(.tmp 62),(.tmp 65)] b_q z z z (a_d z) (lb z)<|lb z) ?_;rintro _ g7 ⟨rfl,he⟩;have g8:=he.below;refine R z (fd K_ z)<|E0 (fs (cur':=[Str.v x5,vI x3,vI 0,vB false,sl none 0 0,sl none 0 0,sl none 0 0,sl (some ⟨aX.z,0,none⟩) 2 2]) d_y z z (((ht.c bA<|atp dB).c dF<|atp dB).e g8) z (lb z) (oA z) z) ?_
       rintro _ ln ⟨lo,lp⟩;have g9:=lp.one;refine Wl ?_;exact fun _ q=>⟨lg,lh,([]:List UInt8),([]:List Str),([]:List Int),[dC,dD],som iV,none,0,0,[],none,0,0,[],none,0,0,[],some ⟨aX.z,0,none⟩,2,2,[aX.z],q.k<|s2 z z,(cM (f_ (cM (cM (cr ([g1]++[G.z]) H) bA (io<|x_ sr):Chg (· ∈ ([g1]++[G.z])) H la) dF (io<|x_ sr):Chg (· ∈ ([g1]++[G.z])) H aX) g8:Chg (· ∈ ([g1]++[G.z])) H g7) g9 (io<|A_ sr):Chg (· ∈ ([g1]++[G.z])) H ln),lk,ll,onL,H_,an_,onL,H_,an_,an_,onL,H_,an_,an_,an_,(i_0 (l:=[dC,dD]) (he.blk:Blk g7 aX.z [vI dC,vI dD]) (ac0 lc<|ac0 lj an0) z:a_ g7 [aX.z] (sl (some ⟨aX.z,0,none⟩) 2 2) ([dC,dD]:List Int)).c g9<|mm1 ha.lt<|lt_ (lt_ I.s bA.s) dF.s,a_h,m1<|lt_ bA.s dF.s,nmN _,nmN _,nmN _,(lm.e g8).c g9<|djs dB,lo⟩
      refine Ws<|R z (eql z z)<|Ra z<|Wn ?_
      obtain ⟨lq,gt,f9⟩:=bdS<|ifF gs f8;refine Wt (fun a w=>∃ (c3:Int) (c4:Int) (dG:List UInt8) (dH:List Str) (dI:List Int) (dJ:List Int),Sum.inl (c3,c4,dG,dH,dI,dJ)=lq ∧ ∃ dK dL dM aG dN dO dP aH dQ dS dT aI dU dV dW aJ,Sat 147 [(6,pt wb.z),(8,pt G.z)] a∧Chg (· ∈ ([g1]++[G.z])) H w∧inI c3∧inI c4∧a_ w aG (sl dK dL dM) dG∧aG.Nodup∧(∀ k∈aG,H.z≤k)∧a_ w aH (sl dN dO dP) dH∧aH.Nodup∧(∀ k∈aH,H.z≤k)∧(∀ k∈aH,k∉aG)∧a_ w aI (sl dQ dS dT) dI∧aI.Nodup∧(∀ k∈aI,H.z≤k)∧(∀ k∈aI,k∉aG)∧(∀ k∈aI,k∉aH)∧a_ w aJ (sl dU dV dW) dJ∧aJ.Nodup∧(∀ k∈aJ,H.z≤k)∧(∀ k∈aJ,k∉aG)∧(∀ k∈aJ,k∉aH)∧(∀ k∈aJ,k∉aI)∧Blk w g1 [sl A0 N0 C0,vI c3,vI c4]∧Blk w G.z [Str.v x5,vI x3,vI 0,vB false,sl dK dL dM,sl dN dO dP,sl dQ dS dT,sl dU dV dW]) ?_ ?_
      ·refine Wc z (fun fe=>?_)<|fun fe=>?_
       ·refine Ws<|Rm z ?_
        have ga:=lt_ hj s3.s;have gb : ∀ k∈[G.z],¬ B k:=or0 (b_ lr)  (m_<|zt' hBw ga);have hf:=(((hn.c sc<|c_<|b_ hBg).e s3).e h4).c I<|c_ gb
        have aK:=mm1 (Blk.lt hB1) ga;have hg:=lt_ (lt_ ga h4.s) I.s;obtain ⟨_,_,_,ls,iW⟩:=r_<|ifT gt fe;refine E z (fc call57 z<|a_V (B:=B) ls (((hq.e s3).e h4).c I<|djs aK) (zt' hBw hg) hBg (p1_0.g hf) ho hp<|ii z) ?_;rintro _ L ⟨aY,rfl,_,lu,lv,lw⟩;refine R z (add_ z z)<|Ra z<|Wn ?_
        obtain ⟨_,iX,gu⟩:=bdS iW;refine b_Y (σ:=Int×Int×Int×(List Str)×(List Int)) (ρ:=g_×Int×Int) (fun s a w=>un5 (fun aZ aL aM bB bC=>∃ a3 a4 a5 Se ak nm cu Sf,Sat 147 [(0,pt g1),(6,pt wb.z),(7,vI (x2.rules.length:Int)),(8,pt G.z),(9,vI aZ)] a∧Chg (· ∈ ([g1]++[G.z])) L w∧inI aZ∧inI aL∧inI aM∧a_ w Se (sl a3 a4 a5) bB∧Se.Nodup∧(∀ k∈Se,L.z≤k)∧a_ w Sf (sl ak nm cu) bC∧Sf.Nodup∧(∀ k∈Sf,L.z≤k)∧(∀ k∈Sf,k∉Se)∧Blk w g1 [sl A0 N0 C0,vI aL,vI aM]∧Blk w G.z [Str.v x5,vI x3,vI 0,vB false,sl none 0 0,sl a3 a4 a5,sl none 0 0,sl ak nm cu]) s) (fun s a w=>un5 (fun aZ aL aM bB bC=>∃ a3 a4 a5 Se ak nm cu Sf,Sat 147 [(6,pt wb.z),(8,pt G.z)] a∧Chg (· ∈ ([g1]++[G.z])) L w∧inI aZ∧inI aL∧inI aM∧a_ w Se (sl a3 a4 a5) bB∧Se.Nodup∧(∀ k∈Se,L.z≤k)∧a_ w Sf (sl ak nm cu) bC∧Sf.Nodup∧(∀ k∈Sf,L.z≤k)∧(∀ k∈Sf,k∉Se)∧Blk w g1 [sl A0 N0 C0,vI aL,vI aM]∧Blk w G.z [Str.v x5,vI x3,vI 0,vB false,sl none 0 0,sl a3 a4 a5,sl none 0 0,sl ak nm cu]) s) (fun r ex a w=>ex = .ret∧L_ prog fn (Q7 w0 g1 B A0 N0 C0 x1 r) a w) iX ?_ ?_ ?_ ?_
        ·exact fun _ q=>⟨none,0,0,[],none,0,0,[],q.k<|s5 z z z z z,cr ([g1]++[G.z]) L,iA _ _,lu,lv,onL,H_,an_,onL,H_,an_,an_,lw,ht.c aY<|atp aK⟩
        ·rintro ⟨aZ,aL,aM,bB,bC⟩ _ gc _ ⟨a3,a4,a5,Se,ak,nm,cu,Sf,iY,bD,ge,dX,dY,dZ,e0,aN,c5,e1,b0,c6,e2,e3⟩ iZ;have gv:=c_b iZ;refine Wu ?_ iY;refine Wq<|Ws<|Rm z<|R z (a_9 z z)<|Wn<|Wc z (fun ff=>?_) (fun ff=>?_)
         ·refine Wk<|Wq<|Wb<|Wq (Wd (X:=fun k=>k∈[g1]∨gc.z≤k) 2560 (.rd 0<|.rd 1<|.rd 2<|.rd 5<|.ef 3<|.ef 4<|.ef 6<|.rd 7<|.ef 8<|.ef 9<|.rd 10<|.ef 11 .done) mo (by kernel_rfl) fun bE ss _=>dR z z (fd b_P z) ?_)
          have hh:=e3.e ss;have gf:=lt_ I.s aY.s;have hu:=lt_ gf bD.s;refine dR z z (l1 b_Z z (a_y (atp aK)<|Nat.lt_of_lt_of_le ha.lt hu)<|hh.at z)<|dR z z (mv z)<|dR z z (mv z)<|dE z z (fS [(.const<|Str.v ⟨[112]⟩),.const<|Str.v ⟨[113]⟩,(.const<|Str.v ⟨[114]⟩)] g_t z z z (a_d z) (lb z)<|lb z) (.inr fun _ _ h=>v_<|h.2.below) ?_
          rintro _ c7 ⟨rfl,hw⟩;have hv:=hw.below;have hy:a_ c7 [bE.z] (sl (some ⟨bE.z,0,none⟩) 3 3) ([(⟨[112]⟩:Str),(⟨[113]⟩:Str),(⟨[114]⟩:Str)]:List Str):=j_U (l:=[(⟨[112]⟩:Str),(⟨[113]⟩:Str),(⟨[114]⟩:Str)]) (hw.blk:Blk c7 bE.z [(Str.v (⟨[112]⟩:Str)),Str.v (⟨[113]⟩:Str),(Str.v (⟨[114]⟩:Str))]) (ac0 (lb z)<|ac0 (lb z)<|ac0 (lb z) an0) z;have hz:=(((hf.c aY<|c_<|b_ hBg).c bD<|nmA (c_<|b_ hBg)<|c_ gb).e ss).e hv;have e4:=lt_ hg aY.s;have hA:=lt_ (lt_ e4 bD.s) ss.s;have hB:=lt_ hA hv.s;obtain ⟨_,_,_,lx,j0⟩:=r_<|ifT gv ff;refine dE z z (fc call113 z<|W_w14 (B:=zn B bE.z c7.z) lx ((e2.e ss).e hv) (c_c (zt' hBw hB) lr) (atp ((d_w (b_ hBg) (b_<|Blk.lt hB1) hA) : ∀ k∈[g1],¬ (zn B bE.z c7.z) k)) (repS.mono (p1_0.g hz) b_M) dX dY<|or_ hy<|zin (B:=B) (b_ lr)<|a_.lt hy) (.inr fun _ _ h=>h.1.mono fun k _ hk=>(io sr) k hk) ?_;rintro _ ly ⟨a6,rfl,_,lz,lA,lB⟩;have hC:=lt_ hB a6.s;obtain ⟨_,lC,j1⟩:=bdS j0;refine dE z z (fc call162 z<|i_a (B:=B) lC (zt' hBw hC) ge) (.inr fun _ _ h=>v_<|h.1) ?_;rintro _ hD ⟨sw,rfl,_⟩;obtain ⟨lD,gg,j2⟩:=bdS j1;refine dR z z (c_X z z gg)<|dE z z (fS [(.tmp 84)] g_t z z z (a_d z) (lb z)<|lb z) (.inr fun _ _ h=>v_<|h.2.below) ?_
          rintro _ hE ⟨rfl,gh⟩;have hx:=gh.below;have qB:=a_D gh<|g_k<|d_u gg
          have gi:=k_ aN (Blk.lt hB1) e4;obtain ⟨lE,lF,j3⟩:=bdS j2;refine dE z z (a_Q (α:=Str) g_t lF z z (((((dZ.e ss).e hv).c a6 gi).e sw).e hx) e0 (gh.blk:Blk hE hD.z [Str.v lD]) (g_k<|d_u gg) an_ H_) (.inl z) ?_;rintro _ lG ⟨bF,gj,gk,gl,rfl,aO,hF,lH,e5⟩;refine dR z z (fd b_P z) ?_;have hG:=k_ aN ha.lt gf;refine dE0 z (fs (cur':=[Str.v x5,vI x3,vI 0,vB false,sl none 0 0,sl gj gk gl,sl none 0 0,sl ak nm cu]) z_51 z z (((((hh.e hv).c a6<|atp aK).e sw).e hx).c aO<|djs hG) z (lb z) (oA z) z) (.inl z) ?_;rintro _ hH ⟨lI,lJ⟩;have a7:=lJ.one;refine pD<|Wo (Wd (X:=fun k=>k∈[g1]∨hH.z≤k) 320 (.rd 0<|.rd 1<|.rd 2<|.rd 3<|.ef 4<|.ef 5<|.ef 6<|.rd 7<|.ef 8 .done) mo (by kernel_rfl) fun lK sy _=>dR z z (fd K_ z) ?_)
          have hI:=lI.e sy;have hJ:=lt_ (lt_ (lt_ (lt_ (lt_ hu ss.s) hv.s) a6.s) sw.s) hx.s;have hK:=lt_ (lt_ hJ aO.s) a7.s;refine dR z z (l1 B_ z (a_y (atp aK)<|Nat.lt_of_lt_of_le ha.lt hK)<|hI.at z)<|dR z z (mv z)<|dR z z (mv z) ?_
          have hL:=lt_ (lt_ hC sw.s) hx.s;obtain ⟨lL,lM,lO,lP,j4⟩:=r_ j3;refine dE z z (fc call57 z<|a_V (B:=B) lP (((((lB.e sw).e hx).c aO<|djs gi).c a7<|djs aK).e sy) (zt' hBw<|lt_ (lt_ (lt_ hL aO.s) a7.s) sy.s) hBg (p1_0.g<|(((((hz.c a6<|c_<|b_ hBg).e sw).e hx).c aO<|c_ (or0 aN  (m_<|zt' hBw e4) : ∀ k∈Se,¬ B k)).c a7<|c_ gb).e sy) lz lA<|a_M<|repS.len bg) (.inr fun _ _ h=>h.1.mono fun k _ hk=>(io sr) k hk) ?_;rintro _ hM ⟨b1,rfl,hN,lQ,lR,lS⟩;refine dE z z (fS [(.tmp 92)] b_q z z z (a_d z) (lb z)<|lb z) (.inr fun _ _ h=>v_<|h.2.below) ?_;rintro _ hO ⟨rfl,fg⟩;have aP:=fg.below;have qC:=a_D fg<|b_g hN
          have fh:=k_ b0 (Blk.lt hB1) e4;have fi:=k_ b0 ha.lt gf;obtain ⟨lT,lU,j5⟩:=bdS j4;refine dE z z (a_Q (α:=Int) b_q lU z z ((((((((((c5.e ss).e hv).c a6 fh).e sw).e hx).c aO c6).c a7 fi).e sy).c b1 fh).e aP) e1 (fg.blk:Blk hO hM.z [vI lL]) (b_g hN) an_ H_) (.inl z) ?_;rintro _ lV ⟨e6,hP,hQ,hR,rfl,e7,lW,lX,fj⟩;refine dR z z (fd K_ z)<|dE0 z (fs (cur':=[Str.v x5,vI x3,vI 0,vB false,sl none 0 0,sl gj gk gl,sl none 0 0,sl hP hQ hR]) d_y z z (((hI.c b1<|atp aK).e aP).c e7<|djs fi) z (lb z) (oA z) z) (.inl z) ?_
          rintro _ lY ⟨lZ,m0⟩;have e8:=m0.one;refine pD<|Wo<|Wg<|Rm z<|R z (sb_ z z)<|Ra z<|Wl ?_
          have hS : ∀ k∈bF,k∉[G.z]:=or2 e5 hG an_<|P_ (b_ ha.lt) hJ;have hT : ∀ k∈bF,k∉Sf:=or2 e5 (ds c6) an_<|P_ (a_.lt c5)<|lt_ (lt_ (lt_ (lt_ ss.s hv.s) a6.s) sw.s) hx.s;have hU:=lt_ (lt_ (lt_ (lt_ (lt_ bD.s ss.s) hv.s) a6.s) sw.s) hx.s;exact fun _ q=>⟨(I_ aZ 1,lM,lO,lE,lT),(som j5).symm,⟨gj,gk,gl,bF,hP,hQ,hR,e6,q.k<|s5 z z z z z,(cM (cM (f_ (cM (f_ (cM (cM (f_ (f_ (cM (f_ (f_ (cM (cr ([g1]++[G.z]) L) bD (aa_ (io<|x_ sr)<|io<|A_ sr):Chg (· ∈ ([g1]++[G.z])) L gc) ss:Chg (· ∈ ([g1]++[G.z])) L bE) hv:Chg (· ∈ ([g1]++[G.z])) L c7) a6 (io<|x_ sr):Chg (· ∈ ([g1]++[G.z])) L ly) sw:Chg (· ∈ ([g1]++[G.z])) L hD) hx:Chg (· ∈ ([g1]++[G.z])) L hE) aO (or0 aN  (z_ lr) : ∀ k∈Se,k∈([g1]++[G.z])∨L.z≤k):Chg (· ∈ ([g1]++[G.z])) L lG) a7 (io<|A_ sr):Chg (· ∈ ([g1]++[G.z])) L hH) sy:Chg (· ∈ ([g1]++[G.z])) L lK) b1 (io<|x_ sr):Chg (· ∈ ([g1]++[G.z])) L hM) aP:Chg (· ∈ ([g1]++[G.z])) L hO) e7 (or0 b0  (z_ lr) : ∀ k∈Sf,k∈([g1]++[G.z])∨L.z≤k):Chg (· ∈ ([g1]++[G.z])) L lV) e8 (io<|A_ sr):Chg (· ∈ ([g1]++[G.z])) L lY),iS _ _,lQ,lR,(((((hF.c a7 hS).e sy).c b1 (or2 e5 gi an_ (P_ (b_<|Blk.lt hB1) hL) : ∀ k∈bF,k∉[g1])).e aP).c e7 hT).c e8 hS,lH,(or2 e5 aN an_ (b_7 hU) : ∀ k∈bF,L.z≤k),lW.c e8 (or2 fj fi an_ (P_ (b_ ha.lt)<|lt_ (lt_ (lt_ hK sy.s) b1.s) aP.s) : ∀ k∈e6,k∉[G.z]),lX,(or2 fj b0 an_ (b_7<|lt_ (lt_ (lt_ (lt_ (lt_ hU aO.s) a7.s) sy.s) b1.s) aP.s) : ∀ k∈e6,L.z≤k),(or2 fj (ds hT) an_ (P_ (a_.lt hF)<|lt_ (lt_ (lt_ a7.s sy.s) b1.s) aP.s) : ∀ k∈e6,k∉bF),((lS.e aP).c e7<|djs fh).c e8<|djs aK,lZ⟩⟩
         exact We<|fun a' ha'=>b_w (som<|ifF gv ff).symm ⟨a3,a4,a5,Se,ak,nm,cu,Sf,Sat.weaken ha'<|s2 z z,(cM (cr ([g1]++[G.z]) L) bD (aa_ (io<|x_ sr)<|io<|A_ sr):Chg (· ∈ ([g1]++[G.z])) L gc),ge,dX,dY,dZ,e0,aN,c5,e1,b0,c6,e2,e3⟩
        ·rintro ⟨aZ,aL,aM,bB,bC⟩ m2 m3 rfl ⟨a3,a4,a5,Se,ak,nm,cu,Sf,_,m4,ge,dX,dY,dZ,e0,aN,c5,e1,b0,c6,e2,e3⟩;have j6:=elL gu;revert m2;exact fun _ q=>⟨aL,aM,([]:List UInt8),bB,([]:List Int),bC,som<|c_b j6,none,0,0,[],a3,a4,a5,Se,none,0,0,[],ak,nm,cu,Sf,q.k<|s2 z z,(cM (cM (cr ([g1]++[G.z]) H) aY (io<|x_ sr):Chg (· ∈ ([g1]++[G.z])) H L) m4 (aa_ (io<|x_ sr)<|io<|A_ sr):Chg (· ∈ ([g1]++[G.z])) H m3),dX,dY,onL,H_,an_,dZ,e0,l_ aN aY.s,nmN _,onL,H_,an_,an_,an_,c5,e1,l_ b0 aY.s,nmN _,c6,nmN _,e2,e3⟩
        rintro _ _ _ _ rfl ⟨rfl,j7⟩;have j8:=elR gu;obtain rfl:=som j8;have j9:=elR f9;obtain rfl:=som j9;have ja:=elR f7;obtain rfl:=som ja;have jb:=elR f5;obtain rfl:=som jb;have jc:=elR f3;obtain rfl:=som jc;have jd:=elR f1;obtain rfl:=som jd;have je:=elR eZ;obtain rfl:=som je;exact ⟨j7,z⟩
       refine Ws<|R z (eql z z)<|Ra z<|Wn ?_
       obtain ⟨m5,gw,gx⟩:=bdS<|ifF gt fe;refine Wt (fun a w=>∃ (c8:Int) (c9:Int) (e9:List UInt8) (ea:List Int) (eb:List Int),Sum.inl (c8,c9,e9,ea,eb)=m5 ∧ ∃ ec ed ee b2 eg eh ei b3 ej ek em b4,Sat 147 [(6,pt wb.z),(8,pt G.z)] a∧Chg (· ∈ ([g1]++[G.z])) H w∧inI c8∧inI c9∧a_ w b2 (sl ec ed ee) e9∧b2.Nodup∧(∀ k∈b2,H.z≤k)∧a_ w b3 (sl eg eh ei) ea∧b3.Nodup∧(∀ k∈b3,H.z≤k)∧(∀ k∈b3,k∉b2)∧a_ w b4 (sl ej ek em) eb∧b4.Nodup∧(∀ k∈b4,H.z≤k)∧(∀ k∈b4,k∉b2)∧(∀ k∈b4,k∉b3)∧Blk w g1 [sl A0 N0 C0,vI c8,vI c9]∧Blk w G.z [Str.v x5,vI x3,vI 0,vB false,sl ec ed ee,sl none 0 0,sl eg eh ei,sl ej ek em]) ?_ ?_
       ·refine Wc z (fun eU=>?_)<|fun eU=>?_
        ·refine Ws<|Rm z ?_
         refine R z (lN (vs:=[sl A6 N6 C6]) y_ t_ z z fid<|(((((cm.e hi).c sc<|atp<|mmr<|Blk.lt hB1).e s3).e h4).c I<|djs<|mm1 cl.lt<|lt_ (lt_ (lt_ ah.s hi.s) sc.s) s3.s).row 0 1 z) ?_;have fk:=lt_ hj s3.s;have en : ∀ k∈[G.z],¬ B k:=or0 (b_ lr)  (m_<|zt' hBw fk);have fl:=(((hn.c sc<|c_<|b_ hBg).e s3).e h4).c I<|c_ en
         have hl:=mm1 (Blk.lt hB1) fk;have hV:=lt_ (lt_ fk h4.s) I.s;obtain ⟨m6,_,_,m7,jf⟩:=r_<|ifT gw eU;refine E z (fc call163 z<|i_c (B:=B) m7 (((hq.e s3).e h4).c I<|djs hl) (zt' hBw hV) hBg (p1_0.g fl) ho hp<|p2_0.g fl) ?_;rintro _ J ⟨a8,rfl,m8,m9,ma,mb⟩;refine E z (fS [(.tmp 100)] b_q z z z (a_d z) (lb z)<|lb z) ?_;rintro _ hW ⟨rfl,fm⟩;have b5:=fm.below;have qD:Blk hW J.z [vI m6]:=fm.blk;refine R z (fd K_ z)<|E0 (fs (cur':=[Str.v x5,vI x3,vI 0,vB false,sl none 0 0,sl none 0 0,sl none 0 0,sl (some ⟨J.z,0,none⟩) 1 1]) d_y z z ((ht.c a8<|atp hl).e b5) z (lb z) (oA z) z) ?_
         rintro _ mc ⟨md,me⟩;have b6:=me.one;refine Wn<|Ws<|Rm z ?_
         have hX:=((fl.c a8<|c_<|b_ hBg).e b5).c b6<|c_ en
         have eo:=lt_ hV a8.s;have hY:=lt_ (lt_ eo b5.s) b6.s;obtain ⟨_,_,_,mf,jg⟩:=r_ jf;refine E z (fc call57 z<|a_V (B:=B) mf ((mb.e b5).c b6<|djs hl) (zt' hBw hY) hBg (p1_0.g hX) m9 ma<|ii z) ?_;rintro _ O ⟨b7,rfl,_,mg,mh,mi⟩;refine R z (add_ z z)<|Ra z<|Wn ?_
         obtain ⟨_,jh,gy⟩:=bdS jg;refine b_Y (σ:=Int×Int×Int×(List Int)×(List Int)) (ρ:=g_×Int×Int) (fun s a w=>un5 (fun b8 aQ aR b9 bG=>∃ a9 aa ab Sg ar nz W Sd,Sat 147 [(0,pt g1),(6,pt wb.z),(7,vI (x2.rules.length:Int)),(8,pt G.z),(10,vI b8)] a∧Chg (· ∈ ([g1]++([G.z]++[J.z]))) O w∧inI b8∧inI aQ∧inI aR∧a_ w Sg (sl a9 aa ab) b9∧Sg.Nodup∧(∀ k∈Sg,O.z≤k)∧a_ w Sd (sl ar nz W) bG∧Sd.Nodup∧(∀ k∈Sd,k∈[J.z]∨O.z≤k)∧(∀ k∈Sd,k∉Sg)∧Blk w g1 [sl A0 N0 C0,vI aQ,vI aR]∧Blk w G.z [Str.v x5,vI x3,vI 0,vB false,sl none 0 0,sl none 0 0,sl a9 aa ab,sl ar nz W]) s) (fun s a w=>un5 (fun b8 aQ aR b9 bG=>∃ a9 aa ab Sg ar nz W Sd,Sat 147 [(6,pt wb.z),(8,pt G.z)] a∧Chg (· ∈ ([g1]++([G.z]++[J.z]))) O w∧inI b8∧inI aQ∧inI aR∧a_ w Sg (sl a9 aa ab) b9∧Sg.Nodup∧(∀ k∈Sg,O.z≤k)∧a_ w Sd (sl ar nz W) bG∧Sd.Nodup∧(∀ k∈Sd,k∈[J.z]∨O.z≤k)∧(∀ k∈Sd,k∉Sg)∧Blk w g1 [sl A0 N0 C0,vI aQ,vI aR]∧Blk w G.z [Str.v x5,vI x3,vI 0,vB false,sl none 0 0,sl none 0 0,sl a9 aa ab,sl ar nz W]) s) (fun r ex a w=>ex = .ret∧L_ prog fn (Q7 w0 g1 B A0 N0 C0 x1 r) a w) jh ?_ ?_ ?_ ?_
         ·exact fun _ q=>⟨none,0,0,[],some ⟨J.z,0,none⟩,1,1,[J.z],q.k<|s5 z z z z z,cr ([g1]++([G.z]++[J.z])) O,iA _ _,mg,mh,onL,H_,an_,((a_D fm<|b_g m8).c b6<|mm1 ha.lt<|lt_ I.s a8.s).c b7<|mm1 (Blk.lt hB1) eo,a_h,io sr,nmN _,mi,md.c b7<|atp hl⟩
         ·rintro ⟨b8,aQ,aR,b9,bG⟩ _ fo _ ⟨a9,aa,ab,Sg,ar,nz,W,Sd,ji,bH,hZ,ep,er,ca,es,ad,cb,eu,ba,cc,ew,ey⟩ jj;have gz:=c_b jj;refine Wu ?_ ji;refine Wq<|Ws<|Rm z<|R z (a_9 z z)<|Wn<|Wc z (fun eV=>?_) (fun eV=>?_)
          ·refine Wk<|Wq<|Wb<|Wq (Wd (X:=fun k=>k∈[g1]∨fo.z≤k) 5120 (.rd 0<|.rd 1<|.rd 2<|.rd 3<|.rd 4<|.rd 5<|.rd 6<|.ef 7<|.rd 8<|.ef 9<|.ef 10<|.rd 11<|.ef 12 .done) mo (by kernel_rfl) fun mj Y _=>dR z z (fd a_L z) ?_)
           have fp:=ey.e Y;have i0:=lt_ I.s a8.s;have fq:=lt_ (lt_ (lt_ i0 b5.s) b6.s) b7.s;have fr:=lt_ fq bH.s;refine dR z z (l1 B_ z (a_y (atp hl)<|Nat.lt_of_lt_of_le ha.lt fr)<|fp.at z)<|dR z z (fd a_L z)<|dR z z (l1 B_ z (a_y (atp hl)<|Nat.lt_of_lt_of_le ha.lt fr)<|fp.at z) ?_
           have i1:=ca.e Y;refine dR z z (lnR w_ z<|or_ i1<|zin (B:=B) ad<|a_.lt ca)<|dR z z (c_K z z)<|dR z z (mv z) ?_
           have i2:=((hX.c b7<|c_<|b_ hBg).c bH<|nmA (c_<|b_ hBg)<|nmA (c_ en)<|c_ (or0 (b_ lr)  (m_<|zt' hBw eo) : ∀ k∈[J.z],¬ B k)).e Y;have ez:=lt_ hY b7.s;have i3:=lt_ (lt_ ez bH.s) Y.s;obtain ⟨mk,_,_,ml,jk⟩:=r_<|ifT gz eV;refine dE z z (fc call57 z<|a_V (B:=B) ml (ew.e Y) (zt' hBw i3) hBg (p1_0.g i2) ep er<|ii z) (.inr fun _ _ h=>h.1.mono fun k _ hk=>(io sr) k hk) ?_;rintro _ i4 ⟨ae,rfl,_,mm,mn,mp⟩;refine dR z z (add_ z z)<|dE z z (fS [(.tmp 118)] b_q z z z (a_d z) (lb z)<|lb z) (.inr fun _ _ h=>v_<|h.2.below) ?_
           rintro _ i5 ⟨rfl,ft⟩;have a0:=ft.below;have qE:=a_D ft<|b_g<|iA _ _
           have fu:=k_ ad (Blk.lt hB1) ez;obtain ⟨mq,mr,jl⟩:=bdS jk;refine dE z z (a_Q (α:=Int) b_q mr z z ((i1.c ae fu).e a0) es (ft.blk:Blk i5 i4.z [(vI<|j_ (a_e 4 (b9.length:Int)) mk)]) (b_g<|iA _ _) an_ H_) (.inl z) ?_;rintro _ ms ⟨bI,fv,fw,fx,rfl,aS,i6,mt,eA⟩;refine dR z z (fd a_L z) ?_;have i7:=k_ ad ha.lt fq;refine dE0 z (fs (cur':=[Str.v x5,vI x3,vI 0,vB false,sl none 0 0,sl none 0 0,sl fv fw fx,sl ar nz W]) d_y z z (((fp.c ae<|atp hl).e a0).c aS<|djs i7) z (lb z) (oA z) z) (.inl z) ?_;rintro _ i8 ⟨mu,mw⟩;have af:=mw.one;refine pD<|Wo (Wd (X:=fun k=>k∈[g1]∨i8.z≤k) 320 (.rd 0<|.rd 1<|.rd 2<|.rd 3<|.ef 4<|.ef 5<|.ef 6<|.rd 7<|.ef 8 .done) mo (by kernel_rfl) fun mx a1 _=>dR z z (fd K_ z) ?_)
           have i9:=mu.e a1;have ia:=lt_ (lt_ (lt_ fr Y.s) ae.s) a0.s;have ib:=lt_ (lt_ ia aS.s) af.s;refine dR z z (l1 B_ z (a_y (atp hl)<|Nat.lt_of_lt_of_le ha.lt ib)<|i9.at z)<|dR z z (mv z)<|dR z z (mv z) ?_
           have ic:=lt_ (lt_ i3 ae.s) a0.s;obtain ⟨my,mz,mA,mB,jm⟩:=r_ jl;refine dE z z (fc call57 z<|a_V (B:=B) mB ((((mp.e a0).c aS<|djs fu).c af<|djs hl).e a1) (zt' hBw<|lt_ (lt_ (lt_ ic aS.s) af.s) a1.s) hBg (p1_0.g<|((((i2.c ae<|c_<|b_ hBg).e a0).c aS<|c_ (or0 ad  (m_<|zt' hBw ez) : ∀ k∈Sg,¬ B k)).c af<|c_ en).e a1) mm mn<|a_M<|repS.len bg) (.inr fun _ _ h=>h.1.mono fun k _ hk=>(io sr) k hk) ?_;rintro _ id ⟨bb,rfl,ie,mC,mD,mE⟩;refine dE z z (fS [(.tmp 126)] b_q z z z (a_d z) (lb z)<|lb z) (.inr fun _ _ h=>v_<|h.2.below) ?_;rintro _ ig ⟨rfl,fy⟩;have aT:=fy.below;have qF:=a_D fy<|b_g ie
           have fz : ∀ k∈Sd,k∉[g1]:=or1 ba (mm1 (Blk.lt hB1) eo)<|P_ (b_<|Blk.lt hB1) ez;have fA : ∀ k∈Sd,k∉[G.z]:=or1 ba (mm1 ha.lt i0)<|P_ (b_ ha.lt) fq;obtain ⟨mF,mG,jn⟩:=bdS jm;refine dE z z (a_Q (α:=Int) b_q mG z z ((((((((cb.e Y).c ae fz).e a0).c aS cc).c af fA).e a1).c bb fz).e aT) eu (fy.blk:Blk ig id.z [vI my]) (b_g ie) an_ H_) (.inl z) ?_;rintro _ mH ⟨eB,ih,ij,ik,rfl,eC,mI,mJ,fB⟩;refine dR z z (fd K_ z)<|dE0 z (fs (cur':=[Str.v x5,vI x3,vI 0,vB false,sl none 0 0,sl none 0 0,sl fv fw fx,sl ih ij ik]) d_y z z (((i9.c bb<|atp hl).e aT).c eC<|djs fA) z (lb z) (oA z) z) (.inl z) ?_
           rintro _ mK ⟨mL,mM⟩;have eD:=mM.one;refine pD<|Wo<|Wg<|Rm z<|R z (sb_ z z)<|Ra z<|Wl ?_
           have il : ∀ k∈bI,k∉[G.z]:=or2 eA i7 an_<|P_ (b_ ha.lt) ia;have im : ∀ k∈bI,k∉Sd:=or2 eA (ds cc) an_<|P_ (a_.lt cb)<|lt_ (lt_ Y.s ae.s) a0.s;have ip:=lt_ (lt_ (lt_ bH.s Y.s) ae.s) a0.s;exact fun _ q=>⟨(I_ b8 1,mz,mA,mq,mF),(som jn).symm,⟨fv,fw,fx,bI,ih,ij,ik,eB,q.k<|s5 z z z z z,(cM (cM (f_ (cM (f_ (cM (cM (f_ (cM (f_ (cM (cr ([g1]++([G.z]++[J.z])) O) bH (aa_ (io<|x_ sr)<|aa_ (io<|A_<|x_ sr)<|io<|A_<|A_ sr):Chg (· ∈ ([g1]++([G.z]++[J.z]))) O fo) Y:Chg (· ∈ ([g1]++([G.z]++[J.z]))) O mj) ae (io<|x_ sr):Chg (· ∈ ([g1]++([G.z]++[J.z]))) O i4) a0:Chg (· ∈ ([g1]++([G.z]++[J.z]))) O i5) aS (or0 ad  (z_ lr) : ∀ k∈Sg,k∈([g1]++([G.z]++[J.z]))∨O.z≤k):Chg (· ∈ ([g1]++([G.z]++[J.z]))) O ms) af (io<|A_<|x_ sr):Chg (· ∈ ([g1]++([G.z]++[J.z]))) O i8) a1:Chg (· ∈ ([g1]++([G.z]++[J.z]))) O mx) bb (io<|x_ sr):Chg (· ∈ ([g1]++([G.z]++[J.z]))) O id) aT:Chg (· ∈ ([g1]++([G.z]++[J.z]))) O ig) eC (or1 ba (io<|A_<|A_ sr) (z_ lr) : ∀ k∈Sd,k∈([g1]++([G.z]++[J.z]))∨O.z≤k):Chg (· ∈ ([g1]++([G.z]++[J.z]))) O mH) eD (io<|A_<|x_ sr):Chg (· ∈ ([g1]++([G.z]++[J.z]))) O mK),iS _ _,mC,mD,(((((i6.c af il).e a1).c bb (or2 eA fu an_ (P_ (b_<|Blk.lt hB1) ic) : ∀ k∈bI,k∉[g1])).e aT).c eC im).c eD il,mt,(or2 eA ad an_ (b_7 ip) : ∀ k∈bI,O.z≤k),mI.c eD (or2 fB fA an_ (P_ (b_ ha.lt)<|lt_ (lt_ (lt_ ib a1.s) bb.s) aT.s) : ∀ k∈eB,k∉[G.z]),mJ,(or2 fB (or1 ba (io sr) (z_ lr) : ∀ k∈Sd,k∈[J.z]∨O.z≤k) an_ (z_<|lt_ (lt_ (lt_ (lt_ (lt_ ip aS.s) af.s) a1.s) bb.s) aT.s) : ∀ k∈eB,k∈[J.z]∨O.z≤k),(or2 fB (ds im) an_ (P_ (a_.lt i6)<|lt_ (lt_ (lt_ af.s a1.s) bb.s) aT.s) : ∀ k∈eB,k∉bI),((mE.e aT).c eC<|djs fz).c eD<|djs hl,mL⟩⟩
          exact We<|fun a' ha'=>b_w (som<|ifF gz eV).symm ⟨a9,aa,ab,Sg,ar,nz,W,Sd,Sat.weaken ha'<|s2 z z,(cM (cr ([g1]++([G.z]++[J.z])) O) bH (aa_ (io<|x_ sr)<|aa_ (io<|A_<|x_ sr)<|io<|A_<|A_ sr):Chg (· ∈ ([g1]++([G.z]++[J.z]))) O fo),hZ,ep,er,ca,es,ad,cb,eu,(or1 ba (io sr) (z_ lr) : ∀ k∈Sd,k∈[J.z]∨O.z≤k),cc,ew,ey⟩
         ·rintro ⟨b8,aQ,aR,b9,bG⟩ mN mO rfl ⟨a9,aa,ab,Sg,ar,nz,W,Sd,_,mP,hZ,ep,er,ca,es,ad,cb,eu,ba,cc,ew,ey⟩;have jo:=elL gy;revert mN;have iq:=lt_ (lt_ (lt_ a8.s b5.s) b6.s) b7.s;exact fun _ q=>⟨aQ,aR,([]:List UInt8),b9,bG,som<|c_b jo,none,0,0,[],a9,aa,ab,Sg,ar,nz,W,Sd,q.k<|s2 z z,(cM (cM (cM (f_ (cM (cr ([g1]++[G.z]) H) a8 (io<|x_ sr):Chg (· ∈ ([g1]++[G.z])) H J) b5:Chg (· ∈ ([g1]++[G.z])) H hW) b6 (io<|A_ sr):Chg (· ∈ ([g1]++[G.z])) H mc) b7 (io<|x_ sr):Chg (· ∈ ([g1]++[G.z])) H O) mP (aa_ (io<|x_ sr)<|aa_ (io<|A_ sr) (mor a8.s : ∀ k∈[J.z],k∈([g1]++[G.z])∨H.z≤k)):Chg (· ∈ ([g1]++[G.z])) H mO),ep,er,onL,H_,an_,ca,es,l_ ad iq,nmN _,cb,eu,a_2 ba (m1 a8.s) iq,nmN _,cc,ew,ey⟩
         rintro _ _ _ _ rfl ⟨rfl,jp⟩;have jq:=elR gy;obtain rfl:=som jq;have jr:=elR gx;obtain rfl:=som jr;have js:=elR f9;obtain rfl:=som js;have jt:=elR f7;obtain rfl:=som jt;have ju:=elR f5;obtain rfl:=som ju;have jv:=elR f3;obtain rfl:=som jv;have jw:=elR f1;obtain rfl:=som jw;have jx:=elR eZ;obtain rfl:=som jx;exact ⟨jp,z⟩
        refine Wq<|Ws<|R z (eql z z)<|Ra z<|Wn ?_
        obtain ⟨mQ,gA,jy⟩:=bdS<|ifF gw eU;refine Wt (fun a w=>∃ (fC:Bool),fC=mQ∧Sat 147 [(0,pt g1),(6,pt wb.z),(7,vI (x2.rules.length:Int)),(8,pt G.z),(22,vI x3),(130,vB fC)] a∧Below H.z H w) ?_ ?_
        ·refine Wc z (fun eW=>?_)<|fun eW=>?_
         ·exact a_g<|fun _ q=>⟨x3==8,som<|ifT gA eW,q.k<|s6 z z z z z z,br H⟩
         exact Wg<|R z (eql z z)<|Ra z<|Wl (fun _ q=>⟨x3==9,som<|ifF gA eW,q.k<|s6 z z z z z z,br H⟩)
        rintro mR V ⟨fC,rfl,_,sh⟩;revert mR;refine Wo ?_;obtain ⟨mS,gB,jz⟩:=bdS jy;refine Wt (fun a w=>∃ (cd:Int) (ce:Int) (eE:List UInt8) (eF:List Int),(cd,ce,eE,eF)=mS ∧ ∃ eG eH eI bJ eJ eK eL bK,Sat 147 [(6,pt wb.z),(8,pt G.z)] a∧Chg (· ∈ ([g1]++[G.z])) V w∧inI cd∧inI ce∧a_ w bJ (sl eG eH eI) eE∧bJ.Nodup∧(∀ k∈bJ,V.z≤k)∧a_ w bK (sl eJ eK eL) eF∧bK.Nodup∧(∀ k∈bK,V.z≤k)∧(∀ k∈bK,k∉bJ)∧Blk w g1 [sl A0 N0 C0,vI cd,vI ce]∧Blk w G.z [Str.v x5,vI x3,vI 0,vB false,sl eG eH eI,sl none 0 0,sl none 0 0,sl eJ eK eL]) ?_ ?_
        ·refine Wc z (fun eX=>?_)<|fun eX=>?_
         ·refine Wg<|Rm z<|Rm z ?_
          have fD:=lt_ hj s3.s;have fE:=mm1 (Blk.lt hB1) fD;obtain ⟨ir,mT,mU,mV,jA⟩:=r_<|ifT gB eX;refine E z (fc call57 z<|a_V (B:=B) mV ((((hq.e s3).e h4).c I<|djs fE).e sh) (zt' hBw<|lt_ (lt_ (lt_ fD h4.s) I.s) sh.s) hBg (p1_0.g<|((((hn.c sc<|c_<|b_ hBg).e s3).e h4).c I<|c_ (or0 (b_ lr)  (m_<|zt' hBw fD) : ∀ k∈[G.z],¬ B k)).e sh) ho hp<|a_M<|repS.len bg) ?_;rintro _ cf ⟨eM,rfl,mW,mX,mY,mZ⟩;refine E z (fS [(.tmp 135)] b_q z z z (a_d z) (lb z)<|lb z) ?_;rintro _ it ⟨rfl,fF⟩;have fG:=fF.below;have qG:Blk it cf.z [vI ir]:=fF.blk;refine R z (fd K_ z)<|E0 (fs (cur':=[Str.v x5,vI x3,vI 0,vB false,sl none 0 0,sl none 0 0,sl none 0 0,sl (some ⟨cf.z,0,none⟩) 1 1]) d_y z z (((ht.e sh).c eM<|atp fE).e fG) z (lb z) (oA z) z) ?_
          rintro _ n0 ⟨n1,n2⟩;have fH:=n2.one;refine Wl ?_;exact fun _ q=>⟨mT,mU,([]:List UInt8),[ir],som jA,none,0,0,[],some ⟨cf.z,0,none⟩,1,1,[cf.z],q.k<|s2 z z,(cM (f_ (cM (cr ([g1]++[G.z]) V) eM (io<|x_ sr):Chg (· ∈ ([g1]++[G.z])) V cf) fG:Chg (· ∈ ([g1]++[G.z])) V it) fH (io<|A_ sr):Chg (· ∈ ([g1]++[G.z])) V n0),mX,mY,onL,H_,an_,(a_D fF<|b_g mW).c fH<|mm1 ha.lt<|lt_ (lt_ I.s sh.s) eM.s,a_h,m1 eM.s,nmN _,(mZ.e fG).c fH<|djs fE,n1⟩
         refine Ws<|R z (eql z z)<|Ra z<|Wn ?_
         obtain ⟨n3,gC,jB⟩:=bdS<|ifF gB eX;refine Wt (fun a w=>∃ (cg:Int) (ch:Int) (eN:List UInt8),(cg,ch,eN)=n3 ∧ ∃ eO eP eQ ci,Sat 147 [(6,pt wb.z),(8,pt G.z)] a∧Chg (· ∈ ([g1]++[G.z])) V w∧inI cg∧inI ch∧a_ w ci (sl eO eP eQ) eN∧ci.Nodup∧(∀ k∈ci,V.z≤k)∧Blk w g1 [sl A0 N0 C0,vI cg,vI ch]∧Blk w G.z [Str.v x5,vI x3,vI 0,vB false,sl eO eP eQ,sl none 0 0,sl none 0 0,sl none 0 0]) ?_ ?_
         ·refine Wc z (fun eY=>?_)<|fun eY=>?_
          ·refine Wg<|Rm z<|E z (fS [(.const<|.int .i64 0),.const<|.int .i64 10,.const<|.int .i64 59,(.const<|.int .i64 255)] b_q z z z (a_d z) (lb z)<|lb z) ?_
           rintro _ cj ⟨rfl,iu⟩;have bc:=iu.below;have iv:a_ cj [V.z] (sl (some ⟨V.z,0,none⟩) 4 4) ([0,10,59,255]:List Int):=i_0 (l:=[0,10,59,255]) (iu.blk:Blk cj V.z [vI 0,vI 10,vI 59,vI 255]) (ac0 (ii z)<|ac0 (ii z)<|ac0 (ii z)<|ac0 (ii z) an0) z;have fI:=lt_ hj s3.s;have fJ:=mm1 (Blk.lt hB1) fI;have iw:=lt_ (lt_ (lt_ fI h4.s) I.s) sh.s;obtain ⟨ix,n4,n5,n6,jC⟩:=r_<|ifT gC eY;refine E z (fc call108 z<|i_b (B:=zn B V.z cj.z) n6 (((((hq.e s3).e h4).c I<|djs fJ).e sh).e bc) (c_c (zt' hBw<|lt_ iw bc.s) lr) (atp ((d_w (b_ hBg) (b_<|Blk.lt hB1) iw) : ∀ k∈[g1],¬ (zn B V.z cj.z) k)) (repS.mono (p1_0.g<|(((((hn.c sc<|c_<|b_ hBg).e s3).e h4).c I<|c_ (or0 (b_ lr)  (m_<|zt' hBw fI) : ∀ k∈[G.z],¬ B k)).e sh).e bc) b_M) ho hp<|or_ iv<|zin (B:=B) (b_ lr)<|a_.lt iv) ?_;rintro _ ck ⟨eR,rfl,_,n7,n8,n9⟩;refine R z (d_t d_3 d_5 z)<|E z (fS [(.tmp 143)] R_ z z z (a_d z) (lb z)<|lb z) ?_
           rintro _ iy ⟨rfl,fK⟩;have fL:=fK.below;have qH:Blk iy ck.z [(vU<|byteI<|mkB ix)]:=fK.blk;refine R z (fd a_K z)<|E0 (fs (cur':=[Str.v x5,vI x3,vI 0,vB false,sl (some ⟨ck.z,0,none⟩) 1 1,sl none 0 0,sl none 0 0,sl none 0 0]) z_22 z z ((((ht.e sh).e bc).c eR<|atp fJ).e fL) z (lb z) (oA z) z) ?_
           rintro _ na ⟨nb,nc⟩;have fM:=nc.one;refine Wl ?_;exact fun _ q=>⟨n4,n5,[mkB ix],som jC,some ⟨ck.z,0,none⟩,1,1,[ck.z],q.k<|s2 z z,(cM (f_ (cM (f_ (cr ([g1]++[G.z]) V) bc:Chg (· ∈ ([g1]++[G.z])) V cj) eR (io<|x_ sr):Chg (· ∈ ([g1]++[G.z])) V ck) fL:Chg (· ∈ ([g1]++[G.z])) V iy) fM (io<|A_ sr):Chg (· ∈ ([g1]++[G.z])) V na),n7,n8,(a_D fK b_0).c fM<|mm1 ha.lt<|lt_ (lt_ (lt_ I.s sh.s) bc.s) eR.s,a_h,m1<|lt_ bc.s eR.s,(n9.e fL).c fM<|djs fJ,nb⟩
          exact a_g<|fun _ q=>⟨jK,jL,([]:List UInt8),som<|ifF gC eY,none,0,0,[],q.k<|s2 z z,cr ([g1]++[G.z]) V,ho,hp,onL,H_,an_,(((hq.e s3).e h4).c I<|djs<|mm1 (Blk.lt hB1)<|lt_ hj s3.s).e sh,ht.e sh⟩
         rintro nd ne ⟨cg,ch,eN,rfl,eO,eP,eQ,ci,_,nf,ng,nh,ni,nj,nk,nl,np⟩;revert nd;exact fun _ q=>⟨cg,ch,eN,([]:List Int),som<|b_D jB,eO,eP,eQ,ci,none,0,0,[],q.k<|s2 z z,(cM (cr ([g1]++[G.z]) V) nf (aa_ (io<|x_ sr)<|io<|A_ sr):Chg (· ∈ ([g1]++[G.z])) V ne),ng,nh,ni,nj,nk,onL,H_,an_,an_,nl,np⟩
        rintro nq nr ⟨cd,ce,eE,eF,rfl,eG,eH,eI,bJ,eJ,eK,eL,bK,_,ns,nt,nu,nv,nw,nx,ny,nA,nB,nC,nD,nE⟩;revert nq;exact fun _ q=>⟨cd,ce,eE,([]:List Int),eF,som<|c_p jz,eG,eH,eI,bJ,none,0,0,[],eJ,eK,eL,bK,q.k<|s2 z z,(cM (f_ (cr ([g1]++[G.z]) H) sh:Chg (· ∈ ([g1]++[G.z])) H V) ns (aa_ (io<|x_ sr)<|io<|A_ sr):Chg (· ∈ ([g1]++[G.z])) H nr),nt,nu,nv,nw,l_ nx sh.s,onL,H_,an_,an_,ny,nA,l_ nB sh.s,nC,nmN _,nD,nE⟩
       rintro nF nG ⟨c8,c9,e9,ea,eb,rfl,ec,ed,ee,b2,eg,eh,ei,b3,ej,ek,em,b4,_,nH,nI,nJ,nK,nL,nM,nN,nO,nP,nQ,nR,nS,nT,nU,nV,nW,nX⟩;have jD:=elL gx;revert nF;exact fun _ q=>⟨c8,c9,e9,([]:List Str),ea,eb,som<|c_b jD,ec,ed,ee,b2,none,0,0,[],eg,eh,ei,b3,ej,ek,em,b4,q.k<|s2 z z,(cM (cr ([g1]++[G.z]) H) nH (aa_ (io<|x_ sr)<|io<|A_ sr):Chg (· ∈ ([g1]++[G.z])) H nG),nI,nJ,nK,nL,nM,onL,H_,an_,an_,nN,nO,nP,nQ,nmN _,nR,nS,nT,nU,nmN _,nV,nW,nX⟩
      rintro nY nZ ⟨c3,c4,dG,dH,dI,dJ,rfl,dK,dL,dM,aG,dN,dO,dP,aH,dQ,dS,dT,aI,dU,dV,dW,aJ,_,o0,o1,o2,o3,o4,o5,o6,o7,o8,o9,oa,ob,oc,od,oe,og,oh,oi,oj,ol,om,oo,oq⟩;have jE:=elL f9;revert nY;exact fun _ q=>⟨c3,c4,dG,dH,dI,dJ,som<|un6S jE,dK,dL,dM,aG,dN,dO,dP,aH,dQ,dS,dT,aI,dU,dV,dW,aJ,q.k<|s2 z z,(cM (cr ([g1]++[G.z]) H) o0 (aa_ (io<|x_ sr)<|io<|A_ sr):Chg (· ∈ ([g1]++[G.z])) H nZ),o1,o2,o3,o4,o5,o6,o7,o8,o9,oa,ob,oc,od,oe,og,oh,oi,oj,ol,om,oo,oq⟩
     rintro os ot ⟨c1,c2,dj,dk,dl,dm,rfl,dn,dp,dq,aC,dr,dt,du,aD,dv,dw,dx,aE,dy,dz,dA,aF,_,ou,ov,ow,ox,oy,oz,oB,oC,oD,oE,oF,oG,oH,oI,oJ,oK,oL,oM,oN,oO,oP,oQ,oR⟩;have jF:=elL f7;revert os;exact fun _ q=>⟨c1,c2,dj,dk,dl,dm,som<|un6S jF,dn,dp,dq,aC,dr,dt,du,aD,dv,dw,dx,aE,dy,dz,dA,aF,q.k<|s2 z z,(cM (cr ([g1]++[G.z]) H) ou (aa_ (io<|x_ sr)<|io<|A_ sr):Chg (· ∈ ([g1]++[G.z])) H ot),ov,ow,ox,oy,oz,oB,oC,oD,oE,oF,oG,oH,oI,oJ,oK,oL,oM,oN,oO,oP,oQ,oR⟩
    rintro oS oT ⟨bY,bZ,d2,d3,d4,d5,rfl,d6,d7,d8,ay,d9,da,db,az,dc,dd,de,aA,df,dg,dh,aB,_,oU,oV,oW,oX,oY,oZ,p0,p1,p2,p3,p4,p5,p6,p7,p8,p9,pa,pb,pc,pd,pe,pf,pg⟩;have jG:=elL f5;revert oS;exact fun _ q=>⟨bY,bZ,0,d2,d3,d4,d5,som<|un6S jG,d6,d7,d8,ay,d9,da,db,az,dc,dd,de,aA,df,dg,dh,aB,q.k<|s2 z z,(cM (cr ([g1]++[G.z]) H) oU (aa_ (io<|x_ sr)<|io<|A_ sr):Chg (· ∈ ([g1]++[G.z])) H oT),oV,oW,ii z,oX,oY,oZ,p0,p1,p2,p3,p4,p5,p6,p7,p8,p9,pa,pb,pc,pd,pe,pf,pg⟩
   rintro ph pi ⟨bV,bW,bX,cL,cN,cO,cP,rfl,cQ,cR,cS,au,cT,cU,cV,av,cW,cX,cY,aw,cZ,d0,d1,ax,_,pj,pk,pl,pm,pn,po,pp,pq,pr,ps,pu,pw,px,py,pz,pA,pB,pC,pE,pG,pH,pI,pJ,pK⟩;have jH:=elL f3;revert ph;exact fun _ q=>⟨bV,bW,bX,cL,cN,cO,cP,som<|un7S jH,cQ,cR,cS,au,cT,cU,cV,av,cW,cX,cY,aw,cZ,d0,d1,ax,q.k<|s2 z z,(cM (cr ([g1]++[G.z]) H) pj (aa_ (io<|x_ sr)<|io<|A_ sr):Chg (· ∈ ([g1]++[G.z])) H pi),pk,pl,pm,pn,po,pp,pq,pr,ps,pu,pw,px,py,pz,pA,pB,pC,pE,pG,pH,pI,pJ,pK⟩
  rintro pL pM ⟨bS,bT,bU,ct,cv,cw,cx,rfl,cy,cz,cA,an,cB,cC,cD,ao,cE,cF,cG,ap,cH,cI,cJ,aq,_,pN,pO,pP,pQ,pR,pS,pU,pV,pW,pX,pY,pZ,q0,q1,q2,q3,q4,q5,q6,q7,q8,q9,qa,qb⟩;have jI:=elL f1;revert pL;exact fun _ q=>⟨bS,bT,bU,false,ct,cv,cw,cx,som<|un7S jI,cy,cz,cA,an,cB,cC,cD,ao,cE,cF,cG,ap,cH,cI,cJ,aq,q.k<|s2 z z,(cM (cr ([g1]++[G.z]) H) pN (aa_ (io<|x_ sr)<|io<|A_ sr):Chg (· ∈ ([g1]++[G.z])) H pM),pO,pP,pQ,pR,pS,pU,pV,pW,pX,pY,pZ,q0,q1,q2,q3,q4,q5,q6,q7,q8,q9,qa,qb⟩
 rintro qc qd ⟨cn,co,bh,bN,fO,fP,fQ,fR,rfl,bi,bj,bk,ai,bm,bn,bo,aj,bp,bq,bt,al,bu,bv,bw,am,_,iz,qe,qf,qg,qh,qi,iB,qj,qk,iC,ql,qm,qn,iD,qo,qp,qq,qr,iE,qs,qt,qu,qv,qw⟩;have jJ:=elL eZ;revert qc;refine Wo<|Ws<|R z (lN (vs:=[Str.v x5,vI x3,vI bh,vB bN,sl bi bj bk,sl bm bn bo,sl bp bq bt,sl bu bv bw]) J_ p_ z z fid<|qw.row 0 8 z) ?_
 have fN:=mm1 (Blk.lt hB1) be.s;have iF:=lt_ (lt_ hi.s sc.s) s3.s;have iG:=mm1 bf.lt iF;refine E0 (fs (cur':=[Str.v x5,vI x3,vI bh,vB bN,sl bi bj bk,sl bm bn bo,sl bp bq bt,sl bu bv bw]) p_ z z ((((((bf.e hi).c sc<|atp fN).e s3).e h4).c I<|djs iG).c iz<|atp<|nmA fN<|ds iG) z (lb z) (oA z) z) ?_;rintro _ qx ⟨qy,qz⟩;have bL:=qz.one;refine Wn ?_;obtain rfl:=som<|un8S jJ;have eS:=lt_ (lt_ iF h4.s) I.s;have iH:=lt_ hj s3.s;have iI : ∀ k∈[G.z],k∈[g1]∨w0.z≤k:=mor iH;have eT:=lt_ (lt_ iH h4.s) I.s;exact Wr<|h_ hr (q_ J_ p_ z qy z) ⟨(cM (cM (cM (f_ (f_ (cM (f_ (f_ (f_ (cr [g1] w0) be:Chg (· ∈ [g1]) w0 wb) ah:Chg (· ∈ [g1]) w0 aU) hi:Chg (· ∈ [g1]) w0 bM) sc (io sr):Chg (· ∈ [g1]) w0 jN) s3:Chg (· ∈ [g1]) w0 G) h4:Chg (· ∈ [g1]) w0 gL) I iI:Chg (· ∈ [g1]) w0 H) iz (aa_ (io sr) iI):Chg (· ∈ [g1]) w0 qd) bL (mor be.s : ∀ k∈[wb.z],k∈[g1]∨w0.z≤k):Chg (· ∈ [g1]) w0 qx),bi,bj,bk,ai,bm,bn,bo,aj,bp,bq,bt,al,bu,bv,bw,am,z,d_u gK,p3_0,qg,qh.c bL<|k_ iB bf.lt eS,qj.c bL<|k_ iC bf.lt eS,qm.c bL<|k_ iD bf.lt eS,qq.c bL<|k_ iE bf.lt eS,qe,qf,qv.c bL<|djs fN,na_ qi (na_ qk (na_ qn qr<|ds qu)<|nmA (ds qp)<|ds qt)<|nmA (ds ql)<|nmA (ds qo)<|ds qs,aa_ (l_ iB eT)<|aa_ (l_ iC eT)<|aa_ (l_ iD eT)<|l_ iE eT⟩
def Q8 (w0:World) (g1:Nat) (B:Zone) (A0:Option Addr) (N0 C0:Nat) (x1:D_) (r:d_×Int×Int) (v:Value) (w':World):Prop:=Chg (· ∈ [g1]) w0 w'∧un3 (fun O G H=>∃ I J L S1,(.agg #[.slice I J L])=v∧a_ w' S1 (sl I J L) O.rules∧inI G∧inI H∧Blk w' g1 [sl A0 N0 C0,vI G,vI H]∧S1.Nodup∧(∀ k∈S1,w0.z≤k)) r
theorem W_w1y {x1:D_} {g1:Nat} {res:d_×Int×Int} (hm:e_J n x1=some res) (hB1:Blk w0 g1 [sl A0 N0 C0,vI x1.i,vI x1.h]) (hBw:B≤w0.z) (hBg : ¬ B g1) (p1_0:repS w0 B (sl A0 N0 C0) x1.b) (p1_1:inI x1.i) (p1_2:inI x1.h):o_ prog 52 [pt g1] w0 (Q8 w0 g1 B A0 N0 C0 x1 res):=by
 unfold e_J at hm
 refine goF func52 z z (lb z) fun fn hr=>Ws<|E z (fa d_z) ?_
 rintro _ I ⟨rfl,aD⟩;have ht:=aD.below;have ho:Blk I w0.z [sl none 0 0]:=aD.blk;refine Wn<|Ws<|R z (bP (parts:=[]) (cs:=[sl none 0 0]) n_9 z z)<|E z (fa d_z) ?_
 rintro _ aE ⟨rfl,aF⟩;have hx:=aF.below;have h4:Blk aE I.z [sl none 0 0]:=aF.blk;refine E0 (fs (cur':=[sl none 0 0]) t_ z z h4 z (lb z) (oA z) z) ?_;rintro _ aG ⟨bq,br⟩;have hd:=br.one;refine Wn<|Wq (Wd (X:=fun k=>k∈[g1]∨aG.z≤k) 320 (.rd 0<|.rd 1<|.rd 2<|.rd 3<|.ef 4<|.ef 5<|.ef 6<|.rd 7<|.ef 8 .done) mo (by kernel_rfl) fun bs sh _=>dR z z (fd X_ z) ?_)
 have ai:=bq.e sh;have hc:=mm1 (Blk.lt hB1) ht.s;refine dR z z (l1 a_0 z (a_y (atp hc)<|Nat.lt_of_lt_of_le h4.lt hd.s)<|ai.at z)<|dR z z (mv z)<|dR z z (lN (vs:=[sl none 0 0]) y_ t_ z z (a_y (atp hc)<|Nat.lt_of_lt_of_le h4.lt hd.s)<|ai.row 0 1 z) ?_
 have aj : ∀ k∈[I.z],¬ B k:=or0 (b_ lr)  (m_<|zt' hBw ht.s);have aH:=(((ht.ag B).e hx).c hd<|c_ aj).e sh;have h3:=lt_ (lt_ (lt_ ht.s hx.s) hd.s) sh.s;have Y:=zt' hBw h3;obtain ⟨aI,_,_,bt,bc⟩:=r_ hm;refine dE z z (fc call106 z<|W_w15 (B:=B) (x2:=(⟨([]:List g_)⟩:d_)) bt ((((hB1.e ht).e hx).c hd<|djs hc).e sh) Y hBg (p1_0.g aH) p1_1 p1_2 (or_ (B:=B) onL an_)<|ii z) (.inr fun _ _ h=>h.1.mono fun k _ hk=>(io sr) k hk) ?_;rintro _ aJ ⟨sm,bu,bv,bw,ak,bx,bz,bA,al,bB,bC,bD,am,bE,bF,bG,an,rfl,bH,bI,bJ,bK,bL,bM,bN,bO,bQ,bR,he,G⟩;refine dE z z (fS [(.tmp 10)] g_s z z z (a_d z) (lb z)<|lb z) (.inr fun _ _ h=>v_<|h.2.below) ?_;rintro _ aK ⟨rfl,aL⟩;have O:=aL.below;obtain ⟨_,bS,be⟩:=bdS bc;refine dE z z (a_Q (α:=g_) g_s bS z z onL H_ (aL.blk:Blk aK aJ.z (vR aI bu bv bw bx bz bA bB bC bD bE bF bG)) (j_A (x:=aI) (S1:=ak) (S2:=al) (S3:=am) (S4:=an) bH bI bJ (bK.e O) (bL.e O) (bM.e O)<|bN.e O) (nmN _)<|na_ (nl_ he) (na_ (nl_<|nr_ he) (na_ (nl_<|nr_<|nr_ he) (nr_<|nr_<|nr_ he)<|nj<|nr_<|nr_ he)<|nmA (nmL<|nj<|nr_ he)<|nmR<|nj<|nr_ he)<|nmA (nmL<|nj he)<|nmA (nmL<|nmR<|nj he)<|nmR<|nmR<|nj he) (.inl z) ?_;rintro _ bT ⟨H,aM,aN,aO,rfl,sp,bU,bV,hi⟩;refine dR z z (fd X_ z)<|dE0 z (fs (cur':=[sl aM aN aO]) z_24 z z (((ai.c sm<|atp hc).e O).c sp<|atp<|nmN _) z (lb z) (oA z) z) (.inl z) ?_
 rintro _ bW ⟨bX,bY⟩;have hq:=bY.one;refine pD<|Wo<|Wq<|Ws<|Rm z ?_
 have aP:=(((aH.c sm<|c_<|b_ hBg).e O).c sp<|c_ an_).c hq<|c_ aj
 have hu:=lt_ (lt_ h3 sm.s) O.s;have ao:=lt_ (lt_ hu sp.s) hq.s;obtain ⟨_,_,_,bZ,bf⟩:=r_ be;refine E z (fc call57 z<|a_V (B:=B) bZ (((bR.e O).c sp<|atp<|nmN _).c hq<|djs hc) (zt' hBw ao) hBg (p1_0.g aP) bO bQ<|ii z) ?_;rintro _ J ⟨sj,rfl,c0,c1,c2,c3⟩;refine Ra z<|Wn ?_
 obtain ⟨_,bg,aB⟩:=bdS bf;refine b_Y (σ:=Int×Int×Int×(List g_)) (ρ:=d_×Int×Int) (fun s a w=>un4 (fun xr xv xw xy=>∃ V W ca L,Sat 32 [(0,pt g1),(2,pt w0.z),(3,pt I.z),(4,vI xr)] a∧Chg (· ∈ ([g1]++(H++[I.z]))) J w∧inI xr∧inI xv∧inI xw∧a_ w L (sl V W ca) xy∧L.Nodup∧(∀ k∈L,k∈H∨J.z≤k)∧Blk w g1 [sl A0 N0 C0,vI xv,vI xw]∧Blk w I.z [sl V W ca]) s) (fun s a w=>un4 (fun xr xv xw xy=>∃ V W ca L,Sat 32 [(2,pt w0.z),(3,pt I.z)] a∧Chg (· ∈ ([g1]++(H++[I.z]))) J w∧inI xr∧inI xv∧inI xw∧a_ w L (sl V W ca) xy∧L.Nodup∧(∀ k∈L,k∈H∨J.z≤k)∧Blk w g1 [sl A0 N0 C0,vI xv,vI xw]∧Blk w I.z [sl V W ca]) s) (fun r ex a w=>ex = .ret∧L_ prog fn (Q8 w0 g1 B A0 N0 C0 x1 r) a w) bg ?_ ?_ ?_ ?_
 ·have a0:=lt_ hd.s sh.s;exact fun _ q=>⟨aM,aN,aO,H,q.k<|s4 z z z z,cr ([g1]++(H++[I.z])) J,c0,c1,c2,(bU.c hq (or2 hi an_ (aa_ (k_ (al_ G) h4.lt a0)<|aa_ (k_ (al_<|ar_ G) h4.lt a0)<|aa_ (k_ (al_<|ar_<|ar_ G) h4.lt a0)<|k_ (ar_<|ar_<|ar_ G) h4.lt a0) (P_ (b_ h4.lt)<|lt_ (lt_ a0 sm.s) O.s) : ∀ k∈H,k∉[I.z])).c sj (or2 hi an_ (aa_ (k_ (al_ G) (Blk.lt hB1) h3)<|aa_ (k_ (al_<|ar_ G) (Blk.lt hB1) h3)<|aa_ (k_ (al_<|ar_<|ar_ G) (Blk.lt hB1) h3)<|k_ (ar_<|ar_<|ar_ G) (Blk.lt hB1) h3) (P_ (b_<|Blk.lt hB1) hu) : ∀ k∈H,k∉[g1]),bV,io sr,c3,bX.c sj<|atp hc⟩
 ·rintro ⟨xr,xv,xw,xy⟩ _ a1 _ ⟨V,W,ca,L,bh,sz,aQ,a9,aa,hl,ab,hn,ad,ae⟩ bi;have aC:=c_p bi;refine Wu ?_ bh;refine Wq<|Ws<|Rm z<|R z (a_9 z z)<|Wn<|Wc z (fun ah=>?_) (fun ah=>?_)
  ·refine Wk<|Wq<|Wb (Wd (X:=fun k=>k∈[g1]∨a1.z≤k) 2560 (.rd 0<|.rd 1<|.rd 2<|.rd 3<|.rd 4<|.ef 5<|.rd 6<|.ef 7<|.ef 8<|.ef 9<|.rd 10<|.ef 11 .done) mo (by kernel_rfl) fun c4 sk _=>dR z z (fd X_ z) ?_)
   have ap:=ae.e sk;have a2:=lt_ hd.s sh.s;have aR:=lt_ (lt_ a2 sm.s) O.s;have aS:=lt_ (lt_ (lt_ aR sp.s) hq.s) sj.s;have aq:=lt_ aS sz.s;refine dR z z (l1 a_0 z (a_y (atp hc)<|Nat.lt_of_lt_of_le h4.lt aq)<|ap.at z)<|dR z z (mv z)<|dR z z (lN (vs:=[sl V W ca]) y_ t_ z z (a_y (atp hc)<|Nat.lt_of_lt_of_le h4.lt aq)<|ap.row 0 1 z)<|dR z z (mv z) ?_
   have aT:=((aP.c sj<|c_<|b_ hBg).c sz<|nmA (c_<|b_ hBg)<|nmA (c_ (or2 hi an_ (aa_ (or0 (al_ G)  (m_ Y) : ∀ k∈ak,¬ B k)<|aa_ (or0 (al_<|ar_ G)  (m_ Y) : ∀ k∈al,¬ B k)<|aa_ (or0 (al_<|ar_<|ar_ G)  (m_ Y) : ∀ k∈am,¬ B k) (or0 (ar_<|ar_<|ar_ G)  (m_ Y) : ∀ k∈an,¬ B k)) (m_<|zt' hBw hu) : ∀ k∈H,¬ B k))<|c_ aj).e sk;have ar:=lt_ ao sj.s;have aU:=lt_ (lt_ ar sz.s) sk.s;obtain ⟨_,_,_,c5,bj⟩:=r_<|ifT aC ah;refine dE z z (fc call57 z<|a_V (B:=B) c5 (ad.e sk) (zt' hBw aU) hBg (p1_0.g aT) a9 aa<|ii z) (.inr fun _ _ h=>h.1.mono fun k _ hk=>(io sr) k hk) ?_;rintro _ c6 ⟨ss,rfl,_,c7,c8,c9⟩;refine dR z z (add_ z z) ?_;have au : ∀ k∈L,k∉[g1]:=or1 hn (or2 hi an_ (aa_ (k_ (al_ G) (Blk.lt hB1) h3)<|aa_ (k_ (al_<|ar_ G) (Blk.lt hB1) h3)<|aa_ (k_ (al_<|ar_<|ar_ G) (Blk.lt hB1) h3)<|k_ (ar_<|ar_<|ar_ G) (Blk.lt hB1) h3) (P_ (b_<|Blk.lt hB1) hu) : ∀ k∈H,k∉[g1])<|P_ (b_<|Blk.lt hB1) ar;have aV:=(hl.e sk).c ss au;have a3:=lt_ sk.s ss.s;obtain ⟨aW,cb,cc,cd,bk⟩:=r_ bj;refine dE z z (fc call106 z<|W_w15 (B:=zn B w0.z a1.z) (x2:=(⟨xy⟩:d_)) cd c9 (c_c (zt' hBw<|lt_ aU ss.s) a3) (atp ((d_w (b_ hBg) (b_<|Blk.lt hB1) lr) : ∀ k∈[g1],¬ (zn B w0.z a1.z) k)) (repS.mono (p1_0.g<|aT.c ss<|c_<|b_ hBg) b_M) c7 c8 (or_ aV<|zin (B:=B) (a_2 hn (or2 hi an_ (aa_ (l_ (al_ G) h3)<|aa_ (l_ (al_<|ar_ G) h3)<|aa_ (l_ (al_<|ar_<|ar_ G) h3)<|l_ (ar_<|ar_<|ar_ G) h3) (b_7 hu) : ∀ k∈H,w0.z≤k) ar)<|a_.lt hl)<|iA _ _) (.inr fun _ _ h=>h.1.mono fun k _ hk=>(io sr) k hk) ?_;rintro _ aX ⟨a4,ce,cf,cg,aY,ch,ci,cj,aZ,ck,cl,cm,b0,cn,co,cp,b1,rfl,cq,ct,cu,cv,cw,cx,cy,cz,cA,cB,hf,hb⟩;refine dE z z (fS [(.tmp 27)] g_s z z z (a_d z) (lb z)<|lb z) (.inr fun _ _ h=>v_<|h.2.below) ?_;rintro _ b2 ⟨rfl,b3⟩;have hg:=b3.below;obtain ⟨cC,cD,bm⟩:=bdS bk;refine dE z z (a_Q (α:=g_) g_s cD z z ((aV.c a4 au).e hg) ab (b3.blk:Blk b2 aX.z (vR aW ce cf cg ch ci cj ck cl cm cn co cp)) (j_A (x:=aW) (S1:=aY) (S2:=aZ) (S3:=b0) (S4:=b1) cq ct cu (cv.e hg) (cw.e hg) (cx.e hg)<|cy.e hg) (aa_ (a_G (al_ hb) (a_.lt hl) a3)<|aa_ (a_G (al_<|ar_ hb) (a_.lt hl) a3)<|aa_ (a_G (al_<|ar_<|ar_ hb) (a_.lt hl) a3)<|a_G (ar_<|ar_<|ar_ hb) (a_.lt hl) a3)<|na_ (nl_ hf) (na_ (nl_<|nr_ hf) (na_ (nl_<|nr_<|nr_ hf) (nr_<|nr_<|nr_ hf)<|nj<|nr_<|nr_ hf)<|nmA (nmL<|nj<|nr_ hf)<|nmR<|nj<|nr_ hf)<|nmA (nmL<|nj hf)<|nmA (nmL<|nmR<|nj hf)<|nmR<|nmR<|nj hf) (.inl z) ?_;rintro _ cE ⟨av,b4,b5,b6,rfl,aw,cF,cG,b7⟩;refine dR z z (fd X_ z) ?_;have b8 : ∀ k∈L,k∉[I.z]:=or1 hn (or2 hi an_ (aa_ (k_ (al_ G) h4.lt a2)<|aa_ (k_ (al_<|ar_ G) h4.lt a2)<|aa_ (k_ (al_<|ar_<|ar_ G) h4.lt a2)<|k_ (ar_<|ar_<|ar_ G) h4.lt a2) (P_ (b_ h4.lt) aR) : ∀ k∈H,k∉[I.z])<|P_ (b_ h4.lt) aS;refine dE0 z (fs (cur':=[sl b4 b5 b6]) z_24 z z ((((ap.c ss<|atp hc).c a4<|atp hc).e hg).c aw<|djs b8) z (lb z) (oA z) z) (.inl z) ?_;rintro _ cH ⟨cI,cJ⟩;have ax:=cJ.one;refine pD<|Wo<|Wg<|Rm z<|R z (sb_ z z)<|Ra z<|Wl ?_
   have a5:=lt_ (lt_ aq sk.s) ss.s;have a6:=lt_ (lt_ sz.s sk.s) ss.s;exact fun _ q=>⟨(I_ xr 1,cb,cc,cC),(som bm).symm,⟨b4,b5,b6,av,q.k<|s4 z z z z,(cM (cM (f_ (cM (cM (f_ (cM (cr ([g1]++(H++[I.z])) J) sz (aa_ (io<|x_ sr)<|aa_ (io<|A_<|x_ sr)<|io<|A_<|A_ sr):Chg (· ∈ ([g1]++(H++[I.z]))) J a1) sk:Chg (· ∈ ([g1]++(H++[I.z]))) J c4) ss (io<|x_ sr):Chg (· ∈ ([g1]++(H++[I.z]))) J c6) a4 (io<|x_ sr):Chg (· ∈ ([g1]++(H++[I.z]))) J aX) hg:Chg (· ∈ ([g1]++(H++[I.z]))) J b2) aw (or1 hn (io<|A_<|x_ sr) (z_ lr) : ∀ k∈L,k∈([g1]++(H++[I.z]))∨J.z≤k):Chg (· ∈ ([g1]++(H++[I.z]))) J cE) ax (io<|A_<|A_ sr):Chg (· ∈ ([g1]++(H++[I.z]))) J cH),iS _ _,cz,cA,cF.c ax (or2 b7 b8 (aa_ (k_ (al_ hb) h4.lt a5)<|aa_ (k_ (al_<|ar_ hb) h4.lt a5)<|aa_ (k_ (al_<|ar_<|ar_ hb) h4.lt a5)<|k_ (ar_<|ar_<|ar_ hb) h4.lt a5) (P_ (b_ h4.lt)<|lt_ (lt_ a5 a4.s) hg.s) : ∀ k∈av,k∉[I.z]),cG,(or2 b7 (or1 hn (io sr) (z_ lr) : ∀ k∈L,k∈H∨J.z≤k) (aa_ (or0 (al_ hb)  (z_ a6) : ∀ k∈aY,k∈H∨J.z≤k)<|aa_ (or0 (al_<|ar_ hb)  (z_ a6) : ∀ k∈aZ,k∈H∨J.z≤k)<|aa_ (or0 (al_<|ar_<|ar_ hb)  (z_ a6) : ∀ k∈b0,k∈H∨J.z≤k) (or0 (ar_<|ar_<|ar_ hb)  (z_ a6) : ∀ k∈b1,k∈H∨J.z≤k)) (z_<|lt_ (lt_ a6 a4.s) hg.s) : ∀ k∈av,k∈H∨J.z≤k),((cB.e hg).c aw<|djs au).c ax<|djs hc,cI⟩⟩
  exact We<|fun a' ha'=>b_w (som<|ifF aC ah).symm ⟨V,W,ca,L,Sat.weaken ha'<|s2 z z,(cM (cr ([g1]++(H++[I.z])) J) sz (aa_ (io<|x_ sr)<|aa_ (io<|A_<|x_ sr)<|io<|A_<|A_ sr):Chg (· ∈ ([g1]++(H++[I.z]))) J a1),aQ,a9,aa,hl,ab,(or1 hn (io sr) (z_ lr) : ∀ k∈L,k∈H∨J.z≤k),ad,ae⟩
 ·rintro ⟨xr,xv,xw,xy⟩ cK cL rfl ⟨V,W,ca,L,_,b9,aQ,a9,aa,hl,ab,hn,ad,ae⟩;have bn:=elL aB;revert cK;refine Wo<|Ws<|R z (lN (vs:=[sl V W ca]) y_ t_ z z fid<|ae.row 0 1 z) ?_
  have ay:=mmr ho.lt;have af:=mmr<|Blk.lt hB1
  have a7:=lt_ (lt_ hx.s hd.s) sh.s;have ba:=lt_ (lt_ a7 sm.s) O.s;have bb : ∀ k∈H,k∉[w0.z]:=or2 hi an_ (aa_ (k_ (al_ G) ho.lt a7)<|aa_ (k_ (al_<|ar_ G) ho.lt a7)<|aa_ (k_ (al_<|ar_<|ar_ G) ho.lt a7)<|k_ (ar_<|ar_<|ar_ G) ho.lt a7)<|P_ (b_ ho.lt) ba;refine E0 (fs (cur':=[sl V W ca]) t_ z z (((((((((ho.e hx).c hd<|djs ay).e sh).c sm<|atp af).e O).c sp<|atp<|nmN _).c hq<|djs ay).c sj<|atp af).c b9<|atp<|nmA af<|nmA (ds bb)<|ds ay) z (lb z) (oA z) z) ?_;rintro _ cN ⟨cO,cP⟩;have az:=cP.one;refine Wn ?_;obtain rfl:=som<|c_p bn;have aA : ∀ k∈[I.z],k∈[g1]∨w0.z≤k:=mor ht.s;exact Wr<|h_ hr (q_ y_ t_ z cO z) ⟨(cM (cM (cM (cM (cM (f_ (cM (f_ (cM (f_ (f_ (cr [g1] w0) ht:Chg (· ∈ [g1]) w0 I) hx:Chg (· ∈ [g1]) w0 aE) hd aA:Chg (· ∈ [g1]) w0 aG) sh:Chg (· ∈ [g1]) w0 bs) sm (io sr):Chg (· ∈ [g1]) w0 aJ) O:Chg (· ∈ [g1]) w0 aK) sp an_:Chg (· ∈ [g1]) w0 bT) hq aA:Chg (· ∈ [g1]) w0 bW) sj (io sr):Chg (· ∈ [g1]) w0 J) b9 (aa_ (io sr)<|aa_ (or2 hi an_ (aa_ (or0 (al_ G)  (z_ h3) : ∀ k∈ak,k∈[g1]∨w0.z≤k)<|aa_ (or0 (al_<|ar_ G)  (z_ h3) : ∀ k∈al,k∈[g1]∨w0.z≤k)<|aa_ (or0 (al_<|ar_<|ar_ G)  (z_ h3) : ∀ k∈am,k∈[g1]∨w0.z≤k) (or0 (ar_<|ar_<|ar_ G)  (z_ h3) : ∀ k∈an,k∈[g1]∨w0.z≤k)) (z_ hu) : ∀ k∈H,k∈[g1]∨w0.z≤k) aA):Chg (· ∈ [g1]) w0 cL) az (mor lr : ∀ k∈[w0.z],k∈[g1]∨w0.z≤k):Chg (· ∈ [g1]) w0 cN),V,W,ca,L,z,hl.c az (or1 hn bb (P_ (b_ ho.lt)<|lt_ (lt_ (lt_ ba sp.s) hq.s) sj.s) : ∀ k∈L,k∉[w0.z]),a9,aa,ad.c az<|djs af,ab,a_2 hn (or2 hi an_ (aa_ (l_ (al_ G) h3)<|aa_ (l_ (al_<|ar_ G) h3)<|aa_ (l_ (al_<|ar_<|ar_ G) h3)<|l_ (ar_<|ar_<|ar_ G) h3) (b_7 hu) : ∀ k∈H,w0.z≤k)<|lt_ ao sj.s⟩
 rintro _ _ _ _ rfl ⟨rfl,bo⟩;have bp:=elR aB;obtain rfl:=som bp;exact ⟨bo,z⟩
def Q9 (w0:World) (B:Zone) (r:Int) (v:Value) (w':World):Prop:=Bw w0 w'∧(fun G=>(vI G)=v∧inI G) r
theorem g_A {x1:Int} {res:Int} (hm:c_B x1=some res) (hBw:B≤w0.z) (p1_0:inI x1):o_ prog 107 [vI x1] w0 (Q9 w0 B res):=by
 unfold c_B at hm
 refine goF func107 z z (lb z) fun fn hr=>Ws<|Ra z<|Wn<|Ws<|Rm z<|R z (c_K z z) ?_
 obtain ⟨_,H,G⟩:=bdS hm;refine R z (g_K z z<|nnS H)<|Ra z<|Wn ?_
 obtain rfl:=som G;exact Wr<|h_ hr z ⟨br w0,z,m_b<|ii z⟩
theorem e_8 {x1:Int} {x2:Int} {res:Int} (hm:c_j x1 x2=some res) (hBw:B≤w0.z) (p1_0:inI x1) (p2_0:inI x2):o_ prog 104 [vI x1,vI x2] w0 (Q9 w0 B res):=by
 unfold c_j at hm
 refine goF func104 z z (lb z) fun fn hr=>Ws<|Ra z<|Wn<|Wq<|Ws<|Rm z<|Rm z<|R z (lss z z)<|Wn<|Wc z (fun G=>?_) (fun G=>?_)
 ·refine Ws<|Rm z<|Ra z<|Wn ?_
  obtain rfl:=som<|ifT hm G;exact Wr<|h_ hr z ⟨br w0,z,p2_0⟩
 refine Wk<|Ws<|Rm z<|Ra z<|Wn ?_
 obtain rfl:=som<|ifF hm G;exact Wr<|h_ hr z ⟨br w0,z,p1_0⟩
def Q10 (w0:World) (g1:Nat) (B:Zone) (A0:Option Addr) (N0 C0:Nat) (x1:D_) (r:Val×Int×Int) (v:Value) (w':World):Prop:=Chg (· ∈ [g1]) w0 w'∧un3 (fun G H I=>∃ J L O S1 a2 V W S2,(.agg #[vI G.number,sl J L O,sl a2 V W])=v∧inI G.number∧a_ w' S1 (sl J L O) G.bytes∧a_ w' S2 (sl a2 V W) G.items∧inI H∧inI I∧Blk w' g1 [sl A0 N0 C0,vI H,vI I]∧(S1++S2).Nodup∧(∀ k∈(S1++S2),w0.z≤k)) r
structure i_d (f:D_→d_→Int→Int→Option (Val×Int×Int)):Prop where
  run : ∀ {A0 A6:Option Addr} {N0 C0 g1 N6 C6:Nat} {B:Zone} {x1:D_} {x2:d_} {x3:Int} {x4:Int} {res:Val×Int×Int} {w0:World} (hm:f x1 x2 x3 x4=some res) (hB1:Blk w0 g1 [sl A0 N0 C0,vI x1.i,vI x1.h]) (hBw:B≤w0.z) (hBg : ¬ B g1) (p1_0:repS w0 B (sl A0 N0 C0) x1.b) (p1_1:inI x1.i) (p1_2:inI x1.h) (p2_0:repS w0 B (sl A6 N6 C6) x2.rules) (p3_0:inI x3) (p4_0:inI x4),o_ prog 53 [pt g1,.agg #[sl A6 N6 C6],vI x3,vI x4] w0<|Q10 w0 g1 B A0 N0 C0 x1 res
abbrev k_b (n:Nat):Prop:=i_d (d_r n).spec_l9Make
theorem T_w0c (aU:k_b n):i_d (e_K n<|d_r n):=by
 constructor
 intro A0 A6 N0 C0 g1 N6 C6 B x1 x2 x3 x4 res w0 hm hB1 hBw hBg p1_0 p1_1 p1_2 p2_0 p3_0 p4_0;unfold e_K at hm
 refine goF func53 z z (lb z) fun fn hr=>Ws<|E z (fb z) ?_
 rintro _ wb ⟨rfl,gt⟩;have L:=gt.below;have hf:Blk wb w0.z [sl A6 N6 C6]:=gt.blk;refine E z (fa a_b) ?_;rintro _ wc ⟨rfl,gu⟩;have J:=gu.below;have aV:Blk wc wb.z [vI 0,sl none 0 0,sl none 0 0]:=gu.blk;refine Wn<|Ws<|R z (fd X_ z) ?_
 have av:=hf.e J;refine R z (l1 a_0 z fid<|av.at z)<|Rm z ?_
 obtain ⟨aw,iL,hE⟩:=bdS hm;have a3:=(L.ag B).e J;refine RX z (at_ (α:=g_) a_1 p_ z z z (p2_0.g a3) iL) ?_;rintro _ ⟨_,_,_,rfl,iM,iN,_⟩;obtain ⟨gv,gw,gx,gy,gz,gA,gB,gC,gD,gE,gF,gG,rfl,_,_,gH,iO,_,gI,ae⟩:=a_z iN;refine R z (lN (vs:=vR aw gv gw gx gy gz gA gB gC gD gE gF gG) J_ p_ z z fid iM)<|E z (fa b_i) ?_
 rintro _ gJ ⟨rfl,gK⟩;have h5:=gK.below;have aW:Blk gJ wc.z [(Str.v (⟨[]⟩:Str)),vI 0,vI 0,vB false,sl none 0 0,sl none 0 0,sl none 0 0,sl none 0 0]:=gK.blk;refine E0 (fs (cur':=vR aw gv gw gx gy gz gA gB gC gD gE gF gG) p_ z z aW z (lb z) (oA z) z) ?_;rintro _ G ⟨iP,iQ⟩;have h4:=iQ.one;refine Wn<|Ws<|R z (bP (parts:=[]) (cs:=[vI 0,sl none 0 0,sl none 0 0]) W_ z z)<|E z (fa a_b) ?_
 rintro _ gL ⟨rfl,gM⟩;have h6:=gM.below;have O:Blk gL G.z [vI 0,sl none 0 0,sl none 0 0]:=gM.blk;refine E0 (fs (cur':=[vI 0,sl none 0 0,sl none 0 0]) i_ z z O z (lb z) (oA z) z) ?_;rintro _ wa ⟨hw,iR⟩;have h3:=iR.one;refine Wn<|Wq<|Ws<|R z (fd a_x z) ?_
 have am:=mm1 aW.lt h4.s;have ht:=(iP.e h6).c h3<|djs am
 refine R z (l1 g_3 z fid<|ht.at z)<|Wn<|Wb<|Ws<|R z (eql z z)<|Ra z<|Wn ?_
 obtain ⟨iT,eG,cT⟩:=bdS hE;refine Wt (fun a w=>∃ (bN:Int) (bO:Int) (ax:Int) (d9:List UInt8) (da:List Val),Sum.inl (bN,bO,ax,d9,da)=iT ∧ ∃ ay aA aB aC aD aE aF aG,Sat 178 [(8,pt wb.z),(10,pt G.z)] a∧Chg (· ∈ ([g1]++[G.z])) wa w∧inI bN∧inI bO∧inI ax∧a_ w aC (sl ay aA aB) d9∧aC.Nodup∧(∀ k∈aC,wa.z≤k)∧a_ w aG (sl aD aE aF) da∧aG.Nodup∧(∀ k∈aG,wa.z≤k)∧(∀ k∈aG,k∉aC)∧Blk w g1 [sl A0 N0 C0,vI bN,vI bO]∧Blk w G.z [vI ax,sl ay aA aB,sl aD aE aF]) ?_ ?_
 ·refine Wc z (fun cU=>?_)<|fun cU=>?_
  ·refine Wg<|Rm z<|R z (fd a_t z)<|R z (l1 g_3 z fid<|ht.at z) ?_
   have db:=lt_ L.s J.s;have dc:=lt_ (lt_ db h5.s) h4.s;have gN:=lt_ (lt_ dc h6.s) h3.s;obtain ⟨_,iU,hF⟩:=bdS<|ifT eG cU;refine E z (fc call107 z<|g_A (B:=B) iU (zt' hBw gN) gH) ?_;rintro _ iV ⟨aX,rfl,iW⟩;have gO:=lt_ gN aX.s;obtain ⟨_,iX,hG⟩:=bdS hF;refine E z (fc call104 z<|e_8 (B:=B) iX (zt' hBw gO) iW<|ii z) ?_;rintro _ iY ⟨aY,rfl,iZ⟩;have dd:=mm1 (Blk.lt hB1) dc;obtain ⟨gP,j0,j1,j2,hH⟩:=r_ hG;refine E z (fc call57 z<|a_V (B:=B) j2 ((((((((hB1.e L).e J).e h5).c h4<|djs<|mm1 (Blk.lt hB1) db).e h6).c h3<|djs dd).e aX).e aY) (zt' hBw<|lt_ gO aY.s) hBg (p1_0.g<|(((((a3.e h5).c h4<|c_ (or0 (b_ lr)  (m_<|zt' hBw db) : ∀ k∈[wc.z],¬ B k)).e h6).c h3<|c_ (or0 (b_ lr)  (m_<|zt' hBw dc) : ∀ k∈[G.z],¬ B k)).e aX).e aY) p1_1 p1_2 iZ) ?_;rintro _ j3 ⟨gQ,rfl,j4,j5,j6,j7⟩;refine R z (fd b_c z)<|E0 (fs (cur':=[vI gP,sl none 0 0,sl none 0 0]) z_3 z z (((hw.e aX).e aY).c gQ<|atp dd) z (lb z) (oA z) z) ?_
   rintro _ j8 ⟨j9,ja⟩;have gR:=ja.one;refine Wl ?_;exact fun _ q=>⟨j0,j1,gP,([]:List UInt8),([]:List Val),som hH,none,0,0,[],none,0,0,[],q.k<|s2 z z,(cM (cM (f_ (f_ (cr ([g1]++[G.z]) wa) aX:Chg (· ∈ ([g1]++[G.z])) wa iV) aY:Chg (· ∈ ([g1]++[G.z])) wa iY) gQ (io<|x_ sr):Chg (· ∈ ([g1]++[G.z])) wa j3) gR (io<|A_ sr):Chg (· ∈ ([g1]++[G.z])) wa j8),j5,j6,j4,onL,H_,an_,onL,H_,an_,an_,j7.c gR<|djs dd,j9⟩
  refine Ws<|R z (eql z z)<|Ra z<|Wn ?_
  obtain ⟨jb,eH,cV⟩:=bdS<|ifF eG cU;refine Wt (fun a w=>∃ (aZ:Int) (b0:Int) (b1:Int) (bQ:List UInt8) (bR:List Val),Sum.inl (aZ,b0,b1,bQ,bR)=jb ∧ ∃ bS bT bU aH bV bW bX aI,Sat 178 [(8,pt wb.z),(10,pt G.z)] a∧Chg (· ∈ ([g1]++[G.z])) wa w∧inI aZ∧inI b0∧inI b1∧a_ w aH (sl bS bT bU) bQ∧aH.Nodup∧(∀ k∈aH,wa.z≤k)∧a_ w aI (sl bV bW bX) bR∧aI.Nodup∧(∀ k∈aI,wa.z≤k)∧(∀ k∈aI,k∉aH)∧Blk w g1 [sl A0 N0 C0,vI aZ,vI b0]∧Blk w G.z [vI b1,sl bS bT bU,sl bV bW bX]) ?_ ?_
  ·refine Wc z (fun cW=>?_)<|fun cW=>?_
   ·refine Wg<|Rm z<|R z (fd a_t z)<|R z (l1 g_3 z fid<|ht.at z) ?_
    have de:=lt_ L.s J.s;have df:=lt_ (lt_ de h5.s) h4.s;have dg:=mm1 (Blk.lt hB1) df;obtain ⟨jc,jd,je,jf,hI⟩:=r_<|ifT eH cW;refine E z (fc call56 z<|g_z (B:=B) jf ((((((hB1.e L).e J).e h5).c h4<|djs<|mm1 (Blk.lt hB1) de).e h6).c h3<|djs dg) (zt' hBw<|lt_ (lt_ df h6.s) h3.s) hBg (p1_0.g<|(((a3.e h5).c h4<|c_ (or0 (b_ lr)  (m_<|zt' hBw de) : ∀ k∈[wc.z],¬ B k)).e h6).c h3<|c_ (or0 (b_ lr)  (m_<|zt' hBw df) : ∀ k∈[G.z],¬ B k)) p1_1 p1_2 gH) ?_;rintro _ jg ⟨gS,gT,gU,gV,jh,rfl,ji,jj,jk,jl,jm,gW⟩;refine R z (fd a_T z)<|E0 (fs (cur':=[vI 0,sl gT gU gV,sl none 0 0]) z_22 z z (hw.c gS<|atp dg) z (lb z) (oA z) z) ?_
    rintro _ jn ⟨jo,jp⟩;have dh:=jp.one;refine Wl ?_;exact fun _ q=>⟨jd,je,0,jc,([]:List Val),som hI,gT,gU,gV,jh,none,0,0,[],q.k<|s2 z z,(cM (cM (cr ([g1]++[G.z]) wa) gS (io<|x_ sr):Chg (· ∈ ([g1]++[G.z])) wa jg) dh (io<|A_ sr):Chg (· ∈ ([g1]++[G.z])) wa jn),jj,jk,ii z,ji.c dh<|k_ gW O.lt h3.s,jm,gW,onL,H_,an_,an_,jl.c dh<|djs dg,jo⟩
   refine Wq<|Ws<|R z (eql z z)<|Ra z<|Wn ?_
   obtain ⟨jq,eI,hJ⟩:=bdS<|ifF eH cW;refine Wt (fun a w=>∃ (di:Bool),di=jq∧Sat 178 [(0,pt g1),(3,vI x4),(5,pt w0.z),(8,pt wb.z),(9,pt wc.z),(10,pt G.z),(21,vI aw.kind),(38,vB di)] a∧Below wa.z wa w) ?_ ?_
   ·refine Wc z (fun cX=>?_)<|fun cX=>?_
    ·exact a_g<|fun _ q=>⟨aw.kind==4,som<|ifT eI cX,q.k<|s8 z z z z z z z z,br wa⟩
    exact Wg<|R z (eql z z)<|Ra z<|Wl (fun _ q=>⟨aw.kind==10,som<|ifF eI cX,q.k<|s8 z z z z z z z z,br wa⟩)
   rintro jr H ⟨di,rfl,_,I⟩;revert jr;refine Wo ?_;obtain ⟨js,eJ,cY⟩:=bdS hJ;refine Wt (fun a w=>∃ (b2:Int) (b3:Int) (b4:Int) (bY:List UInt8) (bZ:List Val),Sum.inl (b2,b3,b4,bY,bZ)=js ∧ ∃ c0 c1 c2 aJ c3 c4 c5 aK,Sat 178 [(8,pt wb.z),(10,pt G.z)] a∧Chg (· ∈ ([g1]++[G.z])) H w∧inI b2∧inI b3∧inI b4∧a_ w aJ (sl c0 c1 c2) bY∧aJ.Nodup∧(∀ k∈aJ,H.z≤k)∧a_ w aK (sl c3 c4 c5) bZ∧aK.Nodup∧(∀ k∈aK,H.z≤k)∧(∀ k∈aK,k∉aJ)∧Blk w g1 [sl A0 N0 C0,vI b2,vI b3]∧Blk w G.z [vI b4,sl c0 c1 c2,sl c3 c4 c5]) ?_ ?_
   ·refine Wc z (fun cZ=>?_)<|fun cZ=>?_
    ·refine Ws<|Rm z<|Rm z<|Rm z ?_
     have dj:=lt_ L.s J.s;have dk:=lt_ (lt_ dj h5.s) h4.s;have gX:=lt_ (lt_ (lt_ dk h6.s) h3.s) I.s;obtain ⟨_,jt,hK⟩:=bdS<|ifT eJ cZ;refine E z (fc call104 z<|e_8 (B:=B) jt (zt' hBw gX) p4_0<|ii z) ?_;rintro _ ju ⟨sg,rfl,_⟩;refine R z (add_ z z) ?_;have gY : ∀ k∈[wc.z],¬ B k:=or0 (b_ lr)  (m_<|zt' hBw dj);have b5 : ∀ k∈[G.z],¬ B k:=or0 (b_ lr)  (m_<|zt' hBw dk);have gZ:=(((((a3.e h5).c h4<|c_ gY).e h6).c h3<|c_ b5).e I).e sg;have an:=mm1 (Blk.lt hB1) dj;have hx:=mm1 (Blk.lt hB1) dk;have h0:=lt_ gX sg.s;obtain ⟨_,_,_,jv,hL⟩:=r_ hK;refine E z (fc call57 z<|a_V (B:=B) jv ((((((((hB1.e L).e J).e h5).c h4<|djs an).e h6).c h3<|djs hx).e I).e sg) (zt' hBw h0) hBg (p1_0.g gZ) p1_1 p1_2<|iA _ _) ?_;rintro _ jw ⟨sk,rfl,jx,jy,jz,jA⟩;have dl:=gZ.c sk<|c_<|b_ hBg
     have b6:=lt_ h0 sk.s;obtain ⟨h1,h2,ha,jB,hM⟩:=r_ hL;refine E z (fc call56 z<|g_z (B:=B) jB jA (zt' hBw b6) hBg (p1_0.g dl) jy jz jx) ?_;rintro _ jC ⟨sm,c6,c7,c8,Sr,rfl,c9,dm,dn,dp,hb,af⟩;refine R z (fd a_T z)<|E0 (fs (cur':=[vI 0,sl c6 c7 c8,sl none 0 0]) z_22 z z ((((hw.e I).e sg).c sk<|atp hx).c sm<|atp hx) z (lb z) (oA z) z) ?_
     rintro _ aL ⟨dq,jD⟩;have hd:=jD.one;refine Wn<|Wq ?_
     obtain ⟨jE,eK,hN⟩:=bdS hM;refine Wt (fun a w=>∃ (dr:Bool) (b7:Int) (b8:Int),(dr,b7,b8)=jE∧Sat 178 [(0,pt g1),(8,pt wb.z),(9,pt wc.z),(10,pt G.z),(61,vB dr)] a∧Chg (· ∈ [g1]) aL w∧inI b7∧inI b8∧Blk w g1 [sl A0 N0 C0,vI b7,vI b8]) ?_ ?_
     ·refine Wg<|R z (fd a_x z)<|R z (l1 g_3 z fid<|(((((ht.e I).e sg).c sk<|atp an).c sm<|atp an).c hd<|djs am).at z)<|R z (eql z z)<|Rm z ?_
      rcases bs (aw.kind==10) with hcy | hcy
      ·have eL:=ifT eK hcy;refine Rh z hcy (fd a_T z)<|Rh z hcy (l1 Q_ z fid<|dq.at z)<|Rh z hcy (lnR n_ z<|or_ (c9.c hd<|k_ af O.lt<|lt_ (lt_ (lt_ h3.s I.s) sg.s) sk.s)<|zin (B:=B) af<|a_.lt c9)<|Rh z hcy (a_9 z z)<|R z (pT z hcy z)<|Rm z ?_
       rcases bs (decide<|0<(h1.length:Int)) with a2 | a2
       ·refine Rh z a2 (mv z) ?_;obtain ⟨jF,jG,jH,jI,hO⟩:=r_<|ifT eL a2;refine Eg z z a2 z (fc call58 z<|g_y (B:=B) jI (dp.c hd<|djs hx) (zt' hBw<|lt_ (lt_ b6 sm.s) hd.s) hBg (p1_0.g<|(dl.c sm<|c_<|b_ hBg).c hd<|c_ b5) dm dn<|ii z) ?_;rintro _ jJ ⟨jK,rfl,jL,jM,jN⟩;refine R z (pT z a2 z)<|Wl ?_
        exact fun _ q=>⟨jF,jG,jH,som hO,q.k<|s5 z z z z z,(cM (cr [g1] aL) jK (io sr):Chg (· ∈ [g1]) aL jJ),jL,jM,jN⟩
       exact Nh z a2<|Nh z a2<|R z (pF z a2 z)<|Wl (fun _ q=>⟨false,h2,ha,som<|ifF eL a2,q.k<|s5 z z z z z,cr [g1] aL,dm,dn,dp.c hd<|djs hx⟩)
      iterate 4 refine Nh z hcy ?_
      exact R z (pF z hcy z)<|Rm z<|Nh z z<|Nh z z<|R z (pF z z z)<|Wl (fun _ q=>⟨false,h2,ha,som<|ifF eK hcy,q.k<|s5 z z z z z,cr [g1] aL,dm,dn,dp.c hd<|djs hx⟩)
     rintro jO ws ⟨dr,b7,b8,rfl,_,sn,he,hg,hh⟩;revert jO;refine Wo ?_;obtain ⟨jP,eM,hP⟩:=bdS<|b_D hN;refine Wt (fun a w=>∃ (b9:Int) (ba:Int) (ca:List UInt8),(b9,ba,ca)=jP ∧ ∃  (bb:List Nat),Sat 178 [(8,pt wb.z),(10,pt G.z)] a∧Chg (· ∈ ([g1]++Sr)) ws w∧inI b9∧inI ba∧a_ w bb (sl c6 c7 c8) ca∧bb.Nodup∧(∀ k∈bb,k∈Sr∨ws.z≤k)∧Blk w g1 [sl A0 N0 C0,vI b9,vI ba]∧Blk w G.z [vI 0,sl c6 c7 c8,sl none 0 0]) ?_ ?_
     ·refine Wc z (fun d0=>?_)<|fun d0=>?_
      ·refine Wd (X:=fun k=>k∈[g1]∨ws.z≤k) 4096 (.rd 0<|.rd 1<|.rd 2<|.rd 3<|.rd 4<|.rd 5<|.rd 6<|.rd 7<|.ef 8<|.ef 9<|.rd 10<|.rd 11<|.ef 12 .done) mo (by kernel_rfl) fun aM a4 _=>dR z z (fd a_T z) ?_
       have hi:=(dq.c sn<|atp hx).e a4;have hj:=lt_ (lt_ (lt_ h3.s I.s) sg.s) sk.s;refine dR z z (l1 Q_ z (a_y (atp hx)<|Nat.lt_of_lt_of_le O.lt<|lt_ (lt_ (lt_ hj sm.s) hd.s) sn.s)<|hi.at z)<|dR z z (mv z)<|dR z z (fd a_K z) ?_
       refine dR z z (l1 Q_ z (a_y (atp an)<|Nat.lt_of_lt_of_le aW.lt<|lt_ (lt_ (lt_ (lt_ (lt_ (lt_ (lt_ (lt_ h4.s h6.s) h3.s) I.s) sg.s) sk.s) sm.s) hd.s) sn.s)<|(((((((ht.e I).e sg).c sk<|atp an).c sm<|atp an).c hd<|djs am).c sn<|atp an).e a4).at z) ?_;obtain ⟨dt,jQ,hQ⟩:=bdS<|ifT eM d0;refine dRX z z (at_ (α:=UInt8) n_ z_5 z z z (iO.g<|((((((((((h5.ag B).c h4<|c_ gY).e h6).c h3<|c_ b5).e I).e sg).c sk<|c_<|b_ hBg).c sm<|c_<|b_ hBg).c hd<|c_ b5).c sn<|c_<|b_ hBg).e a4) jQ) ?_;rintro _ ⟨_,_,_,rfl,jR,jS,hl⟩;obtain rfl:=u8 jS;have hn:=lt_ (lt_ (lt_ b6 sm.s) hd.s) sn.s;refine dR z z (l1 g_5 z (a_y ((c_<|b_ hBg) _ hl)<|zap (zt' hBw hn) hl)<|jR.at0 z)<|dR z z (b_W d_5 d_3 z)<|dE z z (fS [(.tmp 69),(.const<|.int .i64 92)] b_q z z z (a_d z) (lb z)<|lb z) (.inr fun _ _ h=>v_<|h.2.below) ?_
       rintro _ bc ⟨rfl,ho⟩;have ao:=ho.below;have hp:a_ bc [aM.z] (sl (some ⟨aM.z,0,none⟩) 2 2) ([byteI dt,92]:List Int):=i_0 (l:=[byteI dt,92]) (ho.blk:Blk bc aM.z [vI (byteI dt),vI 92]) (ac0 (j_M _)<|ac0 (ii z) an0) z;have hq:=lt_ hn a4.s;obtain ⟨_,jT,jU,jV,hR⟩:=r_ hQ;refine dE z z (fc call108 z<|i_b (B:=zn B aM.z bc.z) jV ((hh.e a4).e ao) (c_c (zt' hBw<|lt_ hq ao.s) lr) (atp ((d_w (b_ hBg) (b_<|Blk.lt hB1) hq) : ∀ k∈[g1],¬ (zn B aM.z bc.z) k)) (repS.mono (p1_0.g<|((((dl.c sm<|c_<|b_ hBg).c hd<|c_ b5).c sn<|c_<|b_ hBg).e a4).e ao) b_M) he hg<|or_ hp<|zin (B:=B) (b_ lr)<|a_.lt hp) (.inr fun _ _ h=>h.1.mono fun k _ hk=>(io sr) k hk) ?_;rintro _ jW ⟨cb,rfl,_,jX,jY,jZ⟩;refine dR z z (d_t d_3 d_5 z) ?_;obtain ⟨k0,hu,hS⟩:=bdS hR;have hv:=k_ af O.lt hj;have du:=k_ af (Blk.lt hB1) b6;have hy:=((((c9.c hd hv).c sn du).e a4).e ao).c cb du;refine dRX z z (j_P (α:=UInt8) n_ z_5 z z hy hu) ?_;rintro _ ⟨_,ka,rfl⟩;refine dE0 z (j_Q (α:=UInt8) z_5 z ka z z z hu hy hb b_0 an_ H_) (.inl z) ?_;rintro _ kb ⟨hz,dv,kc,kd,ke⟩;refine pD ?_;exact fun _ q=>⟨jT,jU,k0,som hS,hz,q.k<|s2 z z,(cM (cM (f_ (f_ (cr ([g1]++Sr) ws) a4:Chg (· ∈ ([g1]++Sr)) ws aM) ao:Chg (· ∈ ([g1]++Sr)) ws bc) cb (io<|x_ sr):Chg (· ∈ ([g1]++Sr)) ws jW) dv (io<|A_ sr):Chg (· ∈ ([g1]++Sr)) ws kb),jX,jY,kc,kd,(or2 ke (io sr) an_ (z_<|lt_ (lt_ a4.s ao.s) cb.s) : ∀ k∈hz,k∈Sr∨ws.z≤k),jZ.c dv<|djs du,((hi.e ao).c cb<|atp hx).c dv<|djs hv⟩
      exact a_g<|fun _ q=>⟨b7,b8,h1,som<|ifF eM d0,Sr,q.k<|s2 z z,cr ([g1]++Sr) ws,he,hg,(c9.c hd<|k_ af O.lt<|lt_ (lt_ (lt_ h3.s I.s) sg.s) sk.s).c sn<|k_ af (Blk.lt hB1) b6,hb,io sr,hh,dq.c sn<|atp hx⟩
     rintro kf kg ⟨b9,ba,ca,rfl,bb,_,kh,ki,kj,kk,kl,km,kn,ko⟩;revert kf;have dw:=lt_ sg.s sk.s;exact fun _ q=>⟨b9,ba,0,ca,([]:List Val),som<|b_D hP,c6,c7,c8,bb,none,0,0,[],q.k<|s2 z z,(cM (cM (cM (cM (cM (f_ (cr ([g1]++[G.z]) H) sg:Chg (· ∈ ([g1]++[G.z])) H ju) sk (io<|x_ sr):Chg (· ∈ ([g1]++[G.z])) H jw) sm (io<|x_ sr):Chg (· ∈ ([g1]++[G.z])) H jC) hd (io<|A_ sr):Chg (· ∈ ([g1]++[G.z])) H aL) sn (io<|x_ sr):Chg (· ∈ ([g1]++[G.z])) H ws) kh (aa_ (io<|x_ sr) (or0 af  (z_ dw) : ∀ k∈Sr,k∈([g1]++[G.z])∨H.z≤k)):Chg (· ∈ ([g1]++[G.z])) H kg),ki,kj,ii z,kk,kl,a_2 km (l_ af dw)<|lt_ (lt_ (lt_ dw sm.s) hd.s) sn.s,onL,H_,an_,an_,kn,ko⟩
    refine Ws<|R z (eql z z)<|Ra z<|Wn ?_
    obtain ⟨kp,eN,d1⟩:=bdS<|ifF eJ cZ;refine Wt (fun a w=>∃ (be:Int) (bf:Int) (bg:Int) (cc:List Val),Sum.inl (be,bf,bg,cc)=kp ∧ ∃ cd ce cf bh,Sat 178 [(8,pt wb.z),(10,pt G.z)] a∧Chg (· ∈ ([g1]++[G.z])) H w∧inI be∧inI bf∧inI bg∧a_ w bh (sl cd ce cf) cc∧bh.Nodup∧(∀ k∈bh,H.z≤k)∧Blk w g1 [sl A0 N0 C0,vI be,vI bf]∧Blk w G.z [vI bg,sl none 0 0,sl cd ce cf]) ?_ ?_
    ·refine Wc z (fun d2=>?_)<|fun d2=>?_
     ·refine Ws<|Rm z<|Rm z ?_
      have dx:=lt_ L.s J.s;have dy:=lt_ (lt_ dx h5.s) h4.s;have hA:=lt_ (lt_ (lt_ dy h6.s) h3.s) I.s;obtain ⟨_,kq,hT⟩:=bdS<|ifT eN d2;refine E z (fc call104 z<|e_8 (B:=B) kq (zt' hBw hA) p4_0<|ii z) ?_;rintro _ kr ⟨so,rfl,_⟩;refine R z (add_ z z) ?_;have hB : ∀ k∈[wc.z],¬ B k:=or0 (b_ lr)  (m_<|zt' hBw dx);have cg : ∀ k∈[G.z],¬ B k:=or0 (b_ lr)  (m_<|zt' hBw dy);have hC:=(((((a3.e h5).c h4<|c_ hB).e h6).c h3<|c_ cg).e I).e so;have ch:=mm1 (Blk.lt hB1) dx;have bi:=mm1 (Blk.lt hB1) dy;have hD:=lt_ hA so.s;obtain ⟨_,_,_,ks,hU⟩:=r_ hT;refine E z (fc call57 z<|a_V (B:=B) ks ((((((((hB1.e L).e J).e h5).c h4<|djs ch).e h6).c h3<|djs bi).e I).e so) (zt' hBw hD) hBg (p1_0.g hC) p1_1 p1_2<|iA _ _) ?_;rintro _ we ⟨su,rfl,kt,ku,kw,kx⟩;refine Ra z<|Wn ?_
      obtain ⟨_,hV,eO⟩:=bdS hU;refine b_Y (σ:=Int×Int×Int×(List Val)) (ρ:=Val×Int×Int) (fun s a w=>un4 (fun ap ah ai aN=>∃ a5 a6 a7 Sl,Sat 178 [(0,pt g1),(3,vI x4),(5,pt w0.z),(8,pt wb.z),(9,pt wc.z),(10,pt G.z),(11,vI ap)] a∧Chg (· ∈ ([g1]++[G.z])) we w∧inI ap∧inI ah∧inI ai∧a_ w Sl (sl a5 a6 a7) aN∧Sl.Nodup∧(∀ k∈Sl,we.z≤k)∧Blk w g1 [sl A0 N0 C0,vI ah,vI ai]∧Blk w G.z [vI 0,sl none 0 0,sl a5 a6 a7]) s) (fun s a w=>un4 (fun ap ah ai aN=>∃ a5 a6 a7 Sl,Sat 178 [(8,pt wb.z),(10,pt G.z)] a∧Chg (· ∈ ([g1]++[G.z])) we w∧inI ap∧inI ah∧inI ai∧a_ w Sl (sl a5 a6 a7) aN∧Sl.Nodup∧(∀ k∈Sl,we.z≤k)∧Blk w g1 [sl A0 N0 C0,vI ah,vI ai]∧Blk w G.z [vI 0,sl none 0 0,sl a5 a6 a7]) s) (fun r ex a w=>ex = .ret∧L_ prog fn (Q10 w0 g1 B A0 N0 C0 x1 r) a w) hV ?_ ?_ ?_ ?_
      ·exact fun _ q=>⟨none,0,0,[],q.k<|s7 z z z z z z z,cr ([g1]++[G.z]) we,kt,ku,kw,onL,H_,an_,kx,((hw.e I).e so).c su<|atp bi⟩
      ·rintro ⟨ap,ah,ai,aN⟩ _ dz _ ⟨a5,a6,a7,Sl,hW,sv,eP,ci,cj,aO,ck,aq,cl,cm⟩ hX;have ew:=c_p hX;refine Wu ?_ hW;refine Wq<|Ws<|Rm z<|R z (a_9 z z)<|Wn<|Wc z (fun d3=>?_) (fun d3=>?_)
       ·refine Wk<|Wq<|Wb (Wd (X:=fun k=>k∈[g1]∨dz.z≤k) 20480 (.rd 0<|.rd 1<|.rd 2<|.rd 3<|.rd 4<|.rd 5<|.rd 6<|.rd 7<|.rd 8<|.rd 9<|.ef 10<|.ef 11<|.ef 12<|.rd 13<|.ef 14 .done) mo (by kernel_rfl) fun ky sh _=>dR z z (fd a_j z) ?_)
        have eQ:=cm.e sh;have eR:=lt_ (lt_ (lt_ h3.s I.s) so.s) su.s;have eS:=lt_ eR sv.s;refine dR z z (l1 a_E z (a_y (atp bi)<|Nat.lt_of_lt_of_le O.lt eS)<|eQ.at z)<|dR z z (mv z) ?_
        have eT:=lt_ (lt_ J.s h5.s) h4.s;have eU:=mm1 hf.lt eT;have dA:=mmr<|Blk.lt hB1
        refine dR z z (lN (vs:=[sl A6 N6 C6]) y_ t_ z z (a_y (atp dA)<|Nat.lt_of_lt_of_le hf.lt<|lt_ (lt_ (lt_ (lt_ (lt_ (lt_ eT h6.s) h3.s) I.s) so.s) su.s) sv.s)<|(((((((((av.e h5).c h4<|djs<|mm1 hf.lt J.s).e h6).c h3<|djs eU).e I).e so).c su<|atp dA).c sv<|atp<|nmA dA<|ds eU).e sh).row 0 1 z)<|dR z z (fd K_ z)<|dR z z (l1 B_ z (a_y (atp ch)<|Nat.lt_of_lt_of_le aW.lt<|lt_ (lt_ (lt_ (lt_ (lt_ (lt_ h4.s h6.s) h3.s) I.s) so.s) su.s) sv.s)<|(((((ht.e I).e so).c su<|atp ch).c sv<|atp<|nmA ch<|ds am).e sh).at z) ?_
        obtain ⟨_,kz,hY⟩:=bdS<|ifT ew d3;refine dRX z z (at_ (α:=Int) w_ z_3 z z z (ae.g<|((((((((h5.ag B).c h4<|c_ hB).e h6).c h3<|c_ cg).e I).e so).c su<|c_<|b_ hBg).c sv<|nmA (c_<|b_ hBg)<|c_ cg).e sh) kz) ?_;rintro _ ⟨_,_,_,rfl,kA,kB,eV⟩;obtain ⟨rfl,kC⟩:=O_ kB;have eW:=lt_ hD su.s;have eX:=lt_ eW sv.s;refine dR z z (l1 g_3 z (a_y ((c_<|b_ hBg) _ eV)<|zap (zt' hBw eX) eV)<|kA.at0 z)<|dR z z (mv z)<|dR z z (e_c z z (by decide)) ?_
        have eY:=((hC.c su<|c_<|b_ hBg).c sv<|nmA (c_<|b_ hBg)<|c_ cg).e sh;obtain ⟨eZ,kD,kE,kF,hZ⟩:=r_ hY;refine dE z z (fc call53 z<|aU.run (B:=B) kF (cl.e sh) (zt' hBw<|lt_ eX sh.s) hBg (p1_0.g eY) ci cj (p2_0.g eY) kC<|e_0 _ _) (.inr fun _ _ h=>h.1.mono fun k _ hk=>(io sr) k hk) ?_;rintro _ f0 ⟨bj,kG,kH,kI,kJ,kK,kL,kM,kN,rfl,kO,kP,kQ,kR,kS,kT,dB,aP⟩;refine dE z z (fS [(.tmp 95)] b_E z z z (a_d z) (lb z)<|lb z) (.inr fun _ _ h=>v_<|h.2.below) ?_;rintro _ f1 ⟨rfl,f2⟩;have aj:=f2.below;have f3:=k_ aq (Blk.lt hB1) eW;obtain ⟨kU,kV,i0⟩:=bdS hZ;refine dE z z (a_Q (α:=Val) b_E kV z z (((aO.e sh).c bj f3).e aj) ck (f2.blk:Blk f1 f0.z [vI eZ.number,sl kG kH kI,sl kK kL kM]) (c_R (x:=eZ) (S1:=kJ) (S2:=kN) kO (kP.e aj)<|kQ.e aj) (aa_ (a_G (al_ aP) (a_.lt aO) sh.s)<|a_G (ar_ aP) (a_.lt aO) sh.s)<|na_ (nl_ dB) (nr_ dB)<|nj dB) (.inl z) ?_;rintro _ kW ⟨dC,f4,f5,f6,rfl,dD,kX,kY,f7⟩;refine dR z z (fd a_j z) ?_;have f8:=k_ aq O.lt eR;refine dE0 z (fs (cur':=[vI 0,sl none 0 0,sl f4 f5 f6]) d_0 z z (((eQ.c bj<|atp bi).e aj).c dD<|djs f8) z (lb z) (oA z) z) (.inl z) ?_;rintro _ kZ ⟨l0,l2⟩;have dF:=l2.one;refine pD<|Wo<|Wg<|Rm z<|R z (sb_ z z)<|Ra z<|Wl ?_
        have dG:=lt_ eS sh.s;have dH:=lt_ sv.s sh.s;exact fun _ q=>⟨(I_ ap 1,kD,kE,kU),(som i0).symm,⟨f4,f5,f6,dC,q.k<|s7 z z z z z z z,(cM (cM (f_ (cM (f_ (cM (cr ([g1]++[G.z]) we) sv (aa_ (io<|x_ sr)<|io<|A_ sr):Chg (· ∈ ([g1]++[G.z])) we dz) sh:Chg (· ∈ ([g1]++[G.z])) we ky) bj (io<|x_ sr):Chg (· ∈ ([g1]++[G.z])) we f0) aj:Chg (· ∈ ([g1]++[G.z])) we f1) dD (or0 aq  (z_ lr) : ∀ k∈Sl,k∈([g1]++[G.z])∨we.z≤k):Chg (· ∈ ([g1]++[G.z])) we kW) dF (io<|A_ sr):Chg (· ∈ ([g1]++[G.z])) we kZ),iS _ _,kR,kS,kX.c dF (or2 f7 f8 (aa_ (k_ (al_ aP) O.lt dG)<|k_ (ar_ aP) O.lt dG) (P_ (b_ O.lt)<|lt_ (lt_ dG bj.s) aj.s) : ∀ k∈dC,k∉[G.z]),kY,(or2 f7 aq (aa_ (l_ (al_ aP) dH)<|l_ (ar_ aP) dH) (b_7<|lt_ (lt_ dH bj.s) aj.s) : ∀ k∈dC,we.z≤k),((kT.e aj).c dD<|djs f3).c dF<|djs bi,l0⟩⟩
       exact We<|fun a' ha'=>b_w (som<|ifF ew d3).symm ⟨a5,a6,a7,Sl,Sat.weaken ha'<|s2 z z,(cM (cr ([g1]++[G.z]) we) sv (aa_ (io<|x_ sr)<|io<|A_ sr):Chg (· ∈ ([g1]++[G.z])) we dz),eP,ci,cj,aO,ck,aq,cl,cm⟩
      ·rintro ⟨ap,ah,ai,aN⟩ l3 l4 rfl ⟨a5,a6,a7,Sl,_,l5,eP,ci,cj,aO,ck,aq,cl,cm⟩;have i1:=elL eO;revert l3;exact fun _ q=>⟨ah,ai,0,aN,som<|c_p i1,a5,a6,a7,Sl,q.k<|s2 z z,(cM (cM (f_ (cr ([g1]++[G.z]) H) so:Chg (· ∈ ([g1]++[G.z])) H kr) su (io<|x_ sr):Chg (· ∈ ([g1]++[G.z])) H we) l5 (aa_ (io<|x_ sr)<|io<|A_ sr):Chg (· ∈ ([g1]++[G.z])) H l4),ci,cj,ii z,aO,ck,l_ aq<|lt_ so.s su.s,cl,cm⟩
      rintro _ _ _ _ rfl ⟨rfl,i2⟩;have i3:=elR eO;obtain rfl:=som i3;have i4:=elR d1;obtain rfl:=som i4;have i5:=elR cY;obtain rfl:=som i5;have i6:=elR cV;obtain rfl:=som i6;have i7:=elR cT;obtain rfl:=som i7;exact ⟨i2,z⟩
     refine Ws<|R z (eql z z)<|Ra z<|Wn ?_
     obtain ⟨l6,ey,ez⟩:=bdS<|ifF eN d2;refine Wt (fun a w=>∃ (bk:Int) (bm:Int) (bn:Int) (cn:List Val),Sum.inl (bk,bm,bn,cn)=l6 ∧ ∃ co cp cq bo,Sat 178 [(8,pt wb.z),(10,pt G.z)] a∧Chg (· ∈ ([g1]++[G.z])) H w∧inI bk∧inI bm∧inI bn∧a_ w bo (sl co cp cq) cn∧bo.Nodup∧(∀ k∈bo,H.z≤k)∧Blk w g1 [sl A0 N0 C0,vI bk,vI bm]∧Blk w G.z [vI bn,sl none 0 0,sl co cp cq]) ?_ ?_
     ·refine Wc z (fun d4=>?_)<|fun d4=>?_
      ·refine Ws<|Ra z<|Wn ?_
       obtain ⟨_,i8,eA⟩:=bdS<|ifT ey d4;refine Wf (σ:=Int×Int×(List Val)) (ρ:=Val×Int×Int) (fun (f9:Nat) s a w=>un3 (fun a8 a9 ar=>∃ az V W Si,Sat 178 [(0,pt g1),(3,vI x4),(5,pt w0.z),(8,pt wb.z),(9,pt wc.z),(10,pt G.z),(12,vI ((f9:Nat):Int))] a∧Chg (· ∈ ([g1]++[G.z])) H w∧inI a8∧inI a9∧a_ w Si (sl az V W) ar∧Si.Nodup∧(∀ k∈Si,H.z≤k)∧Blk w g1 [sl A0 N0 C0,vI a8,vI a9]∧Blk w G.z [vI 0,sl none 0 0,sl az V W]) s) (fun s a w=>un3 (fun a8 a9 ar=>∃ az V W Si,Sat 178 [(8,pt wb.z),(10,pt G.z)] a∧Chg (· ∈ ([g1]++[G.z])) H w∧inI a8∧inI a9∧a_ w Si (sl az V W) ar∧Si.Nodup∧(∀ k∈Si,H.z≤k)∧Blk w g1 [sl A0 N0 C0,vI a8,vI a9]∧Blk w G.z [vI 0,sl none 0 0,sl az V W]) s) (fun r ex a w=>ex = .ret∧L_ prog fn (Q10 w0 g1 B A0 N0 C0 x1 r) a w) i8 ?_ ?_ ?_ ?_ ?_
       ·have fe:=lt_ L.s J.s;exact fun _ q=>⟨none,0,0,[],q.k<|s7 z z z z z z z,cr ([g1]++[G.z]) H,p1_1,p1_2,onL,H_,an_,((((((hB1.e L).e J).e h5).c h4<|djs<|mm1 (Blk.lt hB1) fe).e h6).c h3<|djs<|mm1 (Blk.lt hB1)<|lt_ (lt_ fe h5.s) h4.s).e I,hw.e I⟩
       ·rintro f9 ⟨a8,a9,ar⟩ _ ff _ eB ⟨az,V,W,Si,i9,Y,bp,bq,au,bt,ak,bu,bv⟩ ia;refine Wu ?_ i9;refine Wq<|Ws<|Rm z<|R z (fd K_ z) ?_
        have dI:=lt_ L.s J.s;have fg:=mm1 (Blk.lt hB1) dI;have fh:=(ht.e I).c Y<|atp<|nmA fg<|ds am
        refine R z (l1 B_ z fid<|fh.at z) ?_;have fi : ∀ k∈[wc.z],¬ B k:=or0 (b_ lr)  (m_<|zt' hBw dI);have dJ:=lt_ (lt_ dI h5.s) h4.s;have ct : ∀ k∈[G.z],¬ B k:=or0 (b_ lr)  (m_<|zt' hBw dJ);have fj:=(((((h5.ag B).c h4<|c_ fi).e h6).c h3<|c_ ct).e I).c Y<|nmA (c_<|b_ hBg)<|c_ ct
        refine R z (lnR w_ z<|ae.g fj)<|R z (lss z z)<|Wn<|Wc z (fun _=>?_) (fun hc=>(a_3 eB hc).elim)
        refine Wk<|Wq<|Wb (Wd (X:=fun k=>k∈[g1]∨ff.z≤k) 40960 (.rd 0<|.rd 1<|.rd 2<|.rd 3<|.rd 4<|.rd 5<|.rd 6<|.rd 7<|.rd 8<|.rd 9<|.rd 10<|.ef 11<|.ef 12<|.ef 13<|.rd 14<|.ef 15 .done) mo (by kernel_rfl) fun l7 sj _=>dR z z (fd a_j z) ?_)
        have fk:=bv.e sj;have dK:=mm1 (Blk.lt hB1) dJ;have fl:=lt_ h3.s I.s;have fm:=lt_ fl Y.s;refine dR z z (l1 a_E z (a_y (atp dK)<|Nat.lt_of_lt_of_le O.lt fm)<|fk.at z)<|dR z z (mv z) ?_
        have fo:=lt_ (lt_ J.s h5.s) h4.s;have fp:=mm1 hf.lt fo;have fq:=mmr<|Blk.lt hB1
        refine dR z z (lN (vs:=[sl A6 N6 C6]) y_ t_ z z (a_y (atp fq)<|Nat.lt_of_lt_of_le hf.lt<|lt_ (lt_ (lt_ (lt_ fo h6.s) h3.s) I.s) Y.s)<|(((((((av.e h5).c h4<|djs<|mm1 hf.lt J.s).e h6).c h3<|djs fp).e I).c Y<|atp<|nmA fq<|ds fp).e sj).row 0 1 z)<|dR z z (fd K_ z)<|dR z z (l1 B_ z (a_y (atp fg)<|Nat.lt_of_lt_of_le aW.lt<|lt_ (lt_ (lt_ (lt_ h4.s h6.s) h3.s) I.s) Y.s)<|(fh.e sj).at z)<|dR z z (mv z) ?_
        obtain ⟨_,l8,ib⟩:=bdS<|b_D ia;refine dRX z z (at_ (α:=Int) w_ z_3 z z z (ae.g<|fj.e sj) l8) ?_;rintro _ ⟨_,_,_,rfl,l9,la,fr⟩;obtain ⟨rfl,lc⟩:=O_ la;have ft:=lt_ (lt_ (lt_ dJ h6.s) h3.s) I.s;have fu:=lt_ ft Y.s;refine dR z z (l1 g_3 z (a_y ((c_<|b_ hBg) _ fr)<|zap (zt' hBw fu) fr)<|l9.at0 z)<|dR z z (mv z)<|dR z z (e_c z z (by decide)) ?_
        have fv:=((((((a3.e h5).c h4<|c_ fi).e h6).c h3<|c_ ct).e I).c Y<|nmA (c_<|b_ hBg)<|c_ ct).e sj;obtain ⟨fw,ld,le,lf,ic⟩:=r_ ib;refine dE z z (fc call53 z<|aU.run (B:=B) lf (bu.e sj) (zt' hBw<|lt_ fu sj.s) hBg (p1_0.g fv) bp bq (p2_0.g fv) lc<|e_0 _ _) (.inr fun _ _ h=>h.1.mono fun k _ hk=>(io sr) k hk) ?_;rintro _ fx ⟨bw,lg,lh,li,lj,lk,ll,lm,ln,rfl,lo,lp,lq,ls,lu,lv,dL,aQ⟩;refine dE z z (fS [(.tmp 119)] b_E z z z (a_d z) (lb z)<|lb z) (.inr fun _ _ h=>v_<|h.2.below) ?_;rintro _ fy ⟨rfl,fz⟩;have al:=fz.below;have fA:=k_ ak (Blk.lt hB1) ft;obtain ⟨lw,lx,id⟩:=bdS ic;refine dE z z (a_Q (α:=Val) b_E lx z z (((au.e sj).c bw fA).e al) bt (fz.blk:Blk fy fx.z [vI fw.number,sl lg lh li,sl lk ll lm]) (c_R (x:=fw) (S1:=lj) (S2:=ln) lo (lp.e al)<|lq.e al) (aa_ (a_G (al_ aQ) (a_.lt au) sj.s)<|a_G (ar_ aQ) (a_.lt au) sj.s)<|na_ (nl_ dL) (nr_ dL)<|nj dL) (.inl z) ?_;rintro _ ly ⟨dM,fB,fC,fD,rfl,dN,lz,lA,fE⟩;refine dR z z (fd a_j z) ?_;have fF:=k_ ak O.lt fl;refine dE0 z (fs (cur':=[vI 0,sl none 0 0,sl fB fC fD]) d_0 z z (((fk.c bw<|atp dK).e al).c dN<|djs fF) z (lb z) (oA z) z) (.inl z) ?_;rintro _ lB ⟨lC,lD⟩;have dO:=lD.one;refine pD<|Wo<|Wg<|Rm z<|R z (inc_ eB (lt_ (repS.len ae) M_) z z)<|Ra z<|Wl ?_
        have dP:=lt_ fm sj.s;have dQ:=lt_ Y.s sj.s;exact fun _ q=>⟨(ld,le,lw),(som id).symm,⟨fB,fC,fD,dM,q.k<|s7 z z z z z z z,(cM (cM (f_ (cM (f_ (cM (cr ([g1]++[G.z]) H) Y (aa_ (io<|x_ sr)<|io<|A_ sr):Chg (· ∈ ([g1]++[G.z])) H ff) sj:Chg (· ∈ ([g1]++[G.z])) H l7) bw (io<|x_ sr):Chg (· ∈ ([g1]++[G.z])) H fx) al:Chg (· ∈ ([g1]++[G.z])) H fy) dN (or0 ak  (z_ lr) : ∀ k∈Si,k∈([g1]++[G.z])∨H.z≤k):Chg (· ∈ ([g1]++[G.z])) H ly) dO (io<|A_ sr):Chg (· ∈ ([g1]++[G.z])) H lB),ls,lu,lz.c dO (or2 fE fF (aa_ (k_ (al_ aQ) O.lt dP)<|k_ (ar_ aQ) O.lt dP) (P_ (b_ O.lt)<|lt_ (lt_ dP bw.s) al.s) : ∀ k∈dM,k∉[G.z]),lA,(or2 fE ak (aa_ (l_ (al_ aQ) dQ)<|l_ (ar_ aQ) dQ) (b_7<|lt_ (lt_ dQ bw.s) al.s) : ∀ k∈dM,H.z≤k),((lv.e al).c dN<|djs fA).c dO<|djs dK,lC⟩⟩
       ·rintro ⟨a8,a9,ar⟩ _ lE ⟨az,V,W,Si,ie,dS,bp,bq,au,bt,ak,bu,bv⟩;refine Wu ?_ ie;refine Wq<|Ws<|Rm z<|R z (fd K_ z) ?_
        have dT:=lt_ L.s J.s;refine R z (l1 B_ z fid<|((ht.e I).c dS<|atp<|nmA (mm1 (Blk.lt hB1) dT)<|ds am).at z) ?_;have fG : ∀ k∈[G.z],¬ B k:=or0 (b_ lr)  (m_<|zt' hBw<|lt_ (lt_ dT h5.s) h4.s);refine R z (lnR w_ z<|ae.g<|(((((h5.ag B).c h4<|c_ (or0 (b_ lr)  (m_<|zt' hBw dT) : ∀ k∈[wc.z],¬ B k)).e h6).c h3<|c_ fG).e I).c dS<|nmA (c_<|b_ hBg)<|c_ fG)<|R z (lss z z)<|Wn<|Wc z (fun hc=>(a_4 hc).elim) (fun _=>?_)
        exact We<|fun a' ha'=>⟨rfl,⟨az,V,W,Si,Sat.weaken ha'<|s2 z z,(cM (cr ([g1]++[G.z]) H) dS (aa_ (io<|x_ sr)<|io<|A_ sr):Chg (· ∈ ([g1]++[G.z])) H lE),bp,bq,au,bt,ak,bu,bv⟩⟩
       ·rintro ⟨a8,a9,ar⟩ lF lG rfl ⟨az,V,W,Si,_,lH,bp,bq,au,bt,ak,bu,bv⟩;have ig:=elL eA;revert lF;exact fun _ q=>⟨a8,a9,0,ar,som<|b_D ig,az,V,W,Si,q.k<|s2 z z,(cM (cr ([g1]++[G.z]) H) lH (aa_ (io<|x_ sr)<|io<|A_ sr):Chg (· ∈ ([g1]++[G.z])) H lG),bp,bq,ii z,au,bt,ak,bu,bv⟩
       rintro _ _ _ _ rfl ⟨rfl,ih⟩;have ij:=elR eA;obtain rfl:=som ij;have ik:=elR ez;obtain rfl:=som ik;have il:=elR d1;obtain rfl:=som il;have im:=elR cY;obtain rfl:=som im;have ip:=elR cV;obtain rfl:=som ip;have iq:=elR cT;obtain rfl:=som iq;exact ⟨ih,z⟩
      refine Ws<|R z (eql z z)<|Ra z<|Wn ?_
      obtain ⟨lI,eC,ir⟩:=bdS<|ifF ey d4;refine Wt (fun a w=>∃ (bx:Int) (bz:Int) (bA:Int) (cu:List Val),(bx,bz,bA,cu)=lI ∧ ∃ cv cw cx bB,Sat 178 [(8,pt wb.z),(10,pt G.z)] a∧Chg (· ∈ ([g1]++[G.z])) H w∧inI bx∧inI bz∧inI bA∧a_ w bB (sl cv cw cx) cu∧bB.Nodup∧(∀ k∈bB,H.z≤k)∧Blk w g1 [sl A0 N0 C0,vI bx,vI bz]∧Blk w G.z [vI bA,sl none 0 0,sl cv cw cx]) ?_ ?_
      ·refine Wc z (fun d5=>?_)<|fun d5=>?_
       ·refine Ws<|Rm z<|R z (fd a_L z) ?_
        have fH:=ht.e I;refine R z (l1 B_ z fid<|fH.at z) ?_;have dU:=lt_ L.s J.s;have fI : ∀ k∈[wc.z],¬ B k:=or0 (b_ lr)  (m_<|zt' hBw dU);have dV:=lt_ (lt_ dU h5.s) h4.s;have cy : ∀ k∈[G.z],¬ B k:=or0 (b_ lr)  (m_<|zt' hBw dV);have fJ:=((((h5.ag B).c h4<|c_ fI).e h6).c h3<|c_ cy).e I;have fK:=gI.g fJ;refine R z (lnR w_ z fK) ?_;have fL:=((((a3.e h5).c h4<|c_ fI).e h6).c h3<|c_ cy).e I;have fM:=mm1 (Blk.lt hB1) dU;have bC:=mm1 (Blk.lt hB1) dV;have fN:=lt_ (lt_ (lt_ dV h6.s) h3.s) I.s;obtain ⟨_,_,_,lJ,it⟩:=r_<|ifT eC d5;refine E z (fc call57 z<|a_V (B:=B) lJ (((((((hB1.e L).e J).e h5).c h4<|djs fM).e h6).c h3<|djs bC).e I) (zt' hBw fN) hBg (p1_0.g fL) p1_1 p1_2<|a_M<|repS.len fK) ?_;rintro _ lK ⟨aa,rfl,_,lL,lM,lO⟩;refine Ra z<|Wn<|Ws<|R z (fd a_L z) ?_
        have fO:=fH.c aa<|atp fM
        refine R z (l1 B_ z fid<|fO.at z)<|Rm z ?_
        obtain ⟨dW,lP,iu⟩:=bdS it;have fP:=fJ.c aa<|c_<|b_ hBg
        refine RX z (at_ (α:=Int) w_ z_3 z z z (gI.g fP) lP) ?_;rintro _ ⟨_,_,_,rfl,lQ,lR,_⟩;obtain ⟨rfl,lS⟩:=O_ lR;refine R z (l1 g_3 z fid<|lQ.at0 z)<|R z (fd b_c z)<|E0 (fs (cur':=[vI dW,sl none 0 0,sl none 0 0]) z_3 z z ((hw.e I).c aa<|atp bC) z (lb z) (oA z) z) ?_
        rintro _ lT ⟨lU,lV⟩;have ab:=lV.one;refine Wn<|Wd (X:=noX) 9216 (.rd 0<|.rd 1<|.rd 2<|.rd 3<|.rd 4<|.rd 5<|.rd 6<|.rd 7<|.rd 8<|.rd 9<|.ef 10<|.ef 11<|.rd 12<|.ef 13 .done) mo (by kernel_rfl) fun lW a0 _=>dR z z (mv z) ?_;have fQ:=mm1 hf.lt<|lt_ (lt_ J.s h5.s) h4.s
        refine dR z z (lN (vs:=[sl A6 N6 C6]) y_ t_ z z fid<|((((((((av.e h5).c h4<|djs<|mm1 hf.lt J.s).e h6).c h3<|djs fQ).e I).c aa<|atp<|mmr<|Blk.lt hB1).c ab<|djs fQ).e a0).row 0 1 z)<|dR z z (fd K_ z)<|dR z z (l1 B_ z fid<|((fO.c ab<|djs am).e a0).at z)<|dR z z (mv z)<|dR z z (add_ z z) ?_
        obtain ⟨_,lX,iv⟩:=bdS iu;refine dRX z z (at_ (α:=Int) w_ z_3 z z z (ae.g<|(fP.c ab<|c_ cy).e a0) lX) ?_;rintro _ ⟨_,_,_,rfl,lY,lZ,_⟩;obtain ⟨rfl,m0⟩:=O_ lZ;refine dR z z (l1 g_3 z fid<|lY.at0 z)<|dR z z (mv z)<|dR z z (e_c z z (by decide)) ?_
        have fR:=((fL.c aa<|c_<|b_ hBg).c ab<|c_ cy).e a0;obtain ⟨dX,m1,m2,m3,iw⟩:=r_ iv;refine dE z z (fc call53 z<|aU.run (B:=B) m3 ((lO.c ab<|djs bC).e a0) (zt' hBw<|lt_ (lt_ (lt_ fN aa.s) ab.s) a0.s) hBg (p1_0.g fR) lL lM (p2_0.g fR) m0<|e_0 _ _) (.inl z) ?_;rintro _ aR ⟨cz,m4,m5,m6,dY,m7,m8,m9,dZ,rfl,ma,fT,fU,mb,mc,md,e0,cA⟩;refine dE z z (fS [(.tmp 146)] b_E z z z (a_d z) (lb z)<|lb z) (.inr fun _ _ h=>v_<|h.2.below) ?_;rintro _ fV ⟨rfl,e1⟩;have e2:=e1.below;have oZ:Blk fV aR.z [vI dX.number,sl m4 m5 m6,sl m7 m8 m9]:=e1.blk;refine dR z z (fd a_j z)<|dE0 z (fs (cur':=[vI dW,sl none 0 0,sl (some ⟨aR.z,0,none⟩) 1 1]) d_0 z z (((lU.e a0).c cz<|atp bC).e e2) z (lb z) (oA z) z) (.inl z) ?_
        rintro _ me ⟨mf,mg⟩;have e3:=mg.one;refine pD ?_;have e4:=lt_ (lt_ (lt_ (lt_ h3.s I.s) aa.s) ab.s) a0.s;have e5:=lt_ (lt_ aa.s ab.s) a0.s;exact fun _ q=>⟨m1,m2,dW,[dX],som iw,some ⟨aR.z,0,none⟩,1,1,(aR.z::(dY++dZ)),q.k<|s2 z z,(cM (f_ (cM (f_ (cM (cM (cr ([g1]++[G.z]) H) aa (io<|x_ sr):Chg (· ∈ ([g1]++[G.z])) H lK) ab (io<|A_ sr):Chg (· ∈ ([g1]++[G.z])) H lT) a0:Chg (· ∈ ([g1]++[G.z])) H lW) cz (io<|x_ sr):Chg (· ∈ ([g1]++[G.z])) H aR) e2:Chg (· ∈ ([g1]++[G.z])) H fV) e3 (io<|A_ sr):Chg (· ∈ ([g1]++[G.z])) H me),mb,mc,lS,(a_D e1<|c_R (x:=dX) (S1:=dY) (S2:=dZ) ma fT fU).c e3 (or1 c_Z (aa_ (k_ (al_ cA) O.lt e4)<|k_ (ar_ cA) O.lt e4) (P_ (b_ O.lt)<|lt_ e4 cz.s) : ∀ k∈(aR.z::(dY++dZ)),k∉[G.z]),g_o (na_ (nl_ e0) (nr_ e0)<|nj e0)<|aa_ (a_.lt fT)<|a_.lt fU,a_2 c_Z (aa_ (l_ (al_ cA) e5)<|l_ (ar_ cA) e5)<|lt_ e5 cz.s,(md.e e2).c e3<|djs bC,mf⟩
       refine Ws<|R z (eql z z)<|Ra z<|Wn ?_
       obtain ⟨mh,eD,ix⟩:=bdS<|ifF eC d5;refine Wt (fun a w=>∃ (bD:Int) (bE:Int) (cB:List Val),(bD,bE,cB)=mh ∧ ∃ cC cD cE bF,Sat 178 [(8,pt wb.z),(10,pt G.z)] a∧Chg (· ∈ ([g1]++[G.z])) H w∧inI bD∧inI bE∧a_ w bF (sl cC cD cE) cB∧bF.Nodup∧(∀ k∈bF,H.z≤k)∧Blk w g1 [sl A0 N0 C0,vI bD,vI bE]∧Blk w G.z [vI 0,sl none 0 0,sl cC cD cE]) ?_ ?_
       ·refine Wc z (fun d6=>?_)<|fun d6=>?_
        ·refine Ws<|Rm z ?_
         have e6:=lt_ L.s J.s;have fW : ∀ k∈[wc.z],¬ B k:=or0 (b_ lr)  (m_<|zt' hBw e6);have e7:=lt_ (lt_ e6 h5.s) h4.s;have fX : ∀ k∈[G.z],¬ B k:=or0 (b_ lr)  (m_<|zt' hBw e7);have fY:=((((a3.e h5).c h4<|c_ fW).e h6).c h3<|c_ fX).e I;have fZ:=mm1 (Blk.lt hB1) e6;have bG:=mm1 (Blk.lt hB1) e7;have g0:=lt_ (lt_ (lt_ e7 h6.s) h3.s) I.s;obtain ⟨_,mi,mj,mk,iy⟩:=r_<|ifT eD d6;refine E z (fc call58 z<|g_y (B:=B) mk (((((((hB1.e L).e J).e h5).c h4<|djs fZ).e h6).c h3<|djs bG).e I) (zt' hBw g0) hBg (p1_0.g fY) p1_1 p1_2<|ii z) ?_;rintro _ ad ⟨a1,rfl,g2,g3,g4⟩;refine Wn ?_;obtain ⟨ml,eE,iz⟩:=bdS iy;refine Wt (fun a w=>∃ (bH:Int) (bI:Int) (cF:List Val),(bH,bI,cF)=ml ∧ ∃ cG cH cI bJ,Sat 178 [(8,pt wb.z),(10,pt G.z)] a∧Chg (· ∈ ([g1]++[G.z])) ad w∧inI bH∧inI bI∧a_ w bJ (sl cG cH cI) cF∧bJ.Nodup∧(∀ k∈bJ,ad.z≤k)∧Blk w g1 [sl A0 N0 C0,vI bH,vI bI]∧Blk w G.z [vI 0,sl none 0 0,sl cG cH cI]) ?_ ?_
         ·refine Wc z (fun d7=>?_)<|fun d7=>?_
          ·refine Wd (X:=noX) 2304 (.rd 0<|.rd 1<|.rd 2<|.rd 3<|.rd 4<|.rd 5<|.rd 6<|.rd 7<|.ef 8<|.ef 9<|.rd 10<|.ef 11 .done) mo (by kernel_rfl) fun mm sp _=>dR z z (mv z) ?_
           refine dR z z (lN (vs:=[sl A6 N6 C6]) y_ t_ z z fid<|(((((((av.e h5).c h4<|djs<|mm1 hf.lt J.s).e h6).c h3<|djs<|mm1 hf.lt<|lt_ (lt_ J.s h5.s) h4.s).e I).c a1<|atp<|mmr<|Blk.lt hB1).e sp).row 0 1 z)<|dR z z (fd K_ z)<|dR z z (l1 B_ z fid<|(((ht.e I).c a1<|atp fZ).e sp).at z) ?_
           obtain ⟨_,mn,iB⟩:=bdS<|ifT eE d7;refine dRX z z (at_ (α:=Int) w_ z_3 z z z (ae.g<|((((((h5.ag B).c h4<|c_ fW).e h6).c h3<|c_ fX).e I).c a1<|c_<|b_ hBg).e sp) mn) ?_;rintro _ ⟨_,_,_,rfl,mp,mq,_⟩;obtain ⟨rfl,mr⟩:=O_ mq;refine dR z z (l1 g_3 z fid<|mp.at0 z)<|dR z z (mv z)<|dR z z (e_c z z (by decide)) ?_
           have g5:=(fY.c a1<|c_<|b_ hBg).e sp;obtain ⟨e8,ms,mt,mu,iC⟩:=r_ iB;refine dE z z (fc call53 z<|aU.run (B:=B) mu (g4.e sp) (zt' hBw<|lt_ (lt_ g0 a1.s) sp.s) hBg (p1_0.g g5) g2 g3 (p2_0.g g5) mr<|e_0 _ _) (.inl z) ?_;rintro _ aS ⟨cJ,mw,mx,my,e9,mz,mA,mB,ea,rfl,mC,g6,g7,mD,mE,mF,eb,cK⟩;refine dE z z (fS [(.tmp 161)] b_E z z z (a_d z) (lb z)<|lb z) (.inr fun _ _ h=>v_<|h.2.below) ?_;rintro _ g8 ⟨rfl,ec⟩;have ed:=ec.below;have p0:Blk g8 aS.z [vI e8.number,sl mw mx my,sl mz mA mB]:=ec.blk;refine dR z z (fd a_j z)<|dE0 z (fs (cur':=[vI 0,sl none 0 0,sl (some ⟨aS.z,0,none⟩) 1 1]) d_0 z z (((((hw.e I).c a1<|atp bG).e sp).c cJ<|atp bG).e ed) z (lb z) (oA z) z) (.inl z) ?_
           rintro _ mG ⟨mH,mI⟩;have ee:=mI.one;refine pD ?_;have eg:=lt_ (lt_ (lt_ h3.s I.s) a1.s) sp.s;exact fun _ q=>⟨ms,mt,[e8],som iC,some ⟨aS.z,0,none⟩,1,1,(aS.z::(e9++ea)),q.k<|s2 z z,(cM (f_ (cM (f_ (cr ([g1]++[G.z]) ad) sp:Chg (· ∈ ([g1]++[G.z])) ad mm) cJ (io<|x_ sr):Chg (· ∈ ([g1]++[G.z])) ad aS) ed:Chg (· ∈ ([g1]++[G.z])) ad g8) ee (io<|A_ sr):Chg (· ∈ ([g1]++[G.z])) ad mG),mD,mE,(a_D ec<|c_R (x:=e8) (S1:=e9) (S2:=ea) mC g6 g7).c ee (or1 c_Z (aa_ (k_ (al_ cK) O.lt eg)<|k_ (ar_ cK) O.lt eg) (P_ (b_ O.lt)<|lt_ eg cJ.s) : ∀ k∈(aS.z::(e9++ea)),k∉[G.z]),g_o (na_ (nl_ eb) (nr_ eb)<|nj eb)<|aa_ (a_.lt g6)<|a_.lt g7,a_2 c_Z (aa_ (l_ (al_ cK) sp.s)<|l_ (ar_ cK) sp.s)<|lt_ sp.s cJ.s,(mF.e ed).c ee<|djs bG,mH⟩
          exact a_g<|fun _ q=>⟨mi,mj,([]:List Val),som<|ifF eE d7,none,0,0,[],q.k<|s2 z z,cr ([g1]++[G.z]) ad,g2,g3,onL,H_,an_,g4,(hw.e I).c a1<|atp bG⟩
         rintro mJ mK ⟨bH,bI,cF,rfl,cG,cH,cI,bJ,_,mL,mM,mN,mO,mP,mQ,mR,mS⟩;revert mJ;exact fun _ q=>⟨bH,bI,cF,som<|b_D iz,cG,cH,cI,bJ,q.k<|s2 z z,(cM (cM (cr ([g1]++[G.z]) H) a1 (io<|x_ sr):Chg (· ∈ ([g1]++[G.z])) H ad) mL (aa_ (io<|x_ sr)<|io<|A_ sr):Chg (· ∈ ([g1]++[G.z])) H mK),mM,mN,mO,mP,l_ mQ a1.s,mR,mS⟩
        refine Ws<|R z (eql z z)<|Ra z<|Wn ?_
        obtain ⟨mT,eF,iD⟩:=bdS<|ifF eD d6;refine Wt (fun a w=>∃ (bK:Int) (bL:Int) (cL:List Val),(bK,bL,cL)=mT ∧ ∃ cN cO cP bM,Sat 178 [(8,pt wb.z),(10,pt G.z)] a∧Chg (· ∈ ([g1]++[G.z])) H w∧inI bK∧inI bL∧a_ w bM (sl cN cO cP) cL∧bM.Nodup∧(∀ k∈bM,H.z≤k)∧Blk w g1 [sl A0 N0 C0,vI bK,vI bL]∧Blk w G.z [vI 0,sl none 0 0,sl cN cO cP]) ?_ ?_
        ·refine Wc z (fun d8=>?_)<|fun d8=>?_
         ·refine Wd (X:=noX) 2304 (.rd 0<|.rd 1<|.rd 2<|.rd 3<|.rd 4<|.rd 5<|.rd 6<|.rd 7<|.ef 8<|.ef 9<|.rd 10<|.ef 11 .done) mo (by kernel_rfl) fun mU sq _=>dR z z (mv z) ?_
          refine dR z z (lN (vs:=[sl A6 N6 C6]) y_ t_ z z fid<|((((((av.e h5).c h4<|djs<|mm1 hf.lt J.s).e h6).c h3<|djs<|mm1 hf.lt<|lt_ (lt_ J.s h5.s) h4.s).e I).e sq).row 0 1 z)<|dR z z (fd K_ z)<|dR z z (l1 B_ z fid<|((ht.e I).e sq).at z) ?_
          obtain ⟨_,mV,iE⟩:=bdS<|ifT eF d8;have eh:=lt_ L.s J.s;have g9 : ∀ k∈[wc.z],¬ B k:=or0 (b_ lr)  (m_<|zt' hBw eh);have ei:=lt_ (lt_ eh h5.s) h4.s;have ga : ∀ k∈[G.z],¬ B k:=or0 (b_ lr)  (m_<|zt' hBw ei);refine dRX z z (at_ (α:=Int) w_ z_3 z z z (ae.g<|(((((h5.ag B).c h4<|c_ g9).e h6).c h3<|c_ ga).e I).e sq) mV) ?_;rintro _ ⟨_,_,_,rfl,mW,mX,_⟩;obtain ⟨rfl,mY⟩:=O_ mX;refine dR z z (l1 g_3 z fid<|mW.at0 z)<|dR z z (mv z)<|dR z z (e_c z z (by decide)) ?_
          have gb:=(((((a3.e h5).c h4<|c_ g9).e h6).c h3<|c_ ga).e I).e sq;have ej:=mm1 (Blk.lt hB1) ei;obtain ⟨ek,mZ,n0,n1,iF⟩:=r_ iE;refine dE z z (fc call53 z<|aU.run (B:=B) n1 ((((((((hB1.e L).e J).e h5).c h4<|djs<|mm1 (Blk.lt hB1) eh).e h6).c h3<|djs ej).e I).e sq) (zt' hBw<|lt_ (lt_ (lt_ (lt_ ei h6.s) h3.s) I.s) sq.s) hBg (p1_0.g gb) p1_1 p1_2 (p2_0.g gb) mY<|e_0 _ _) (.inl z) ?_;rintro _ aT ⟨cQ,n2,n3,n4,em,n5,n6,n7,en,rfl,n8,gc,ge,n9,na,nb,eo,cR⟩;refine dE z z (fS [(.tmp 174)] b_E z z z (a_d z) (lb z)<|lb z) (.inr fun _ _ h=>v_<|h.2.below) ?_;rintro _ gf ⟨rfl,ep⟩;have er:=ep.below;have p1:Blk gf aT.z [vI ek.number,sl n2 n3 n4,sl n5 n6 n7]:=ep.blk;refine dR z z (fd a_j z)<|dE0 z (fs (cur':=[vI 0,sl none 0 0,sl (some ⟨aT.z,0,none⟩) 1 1]) d_0 z z ((((hw.e I).e sq).c cQ<|atp ej).e er) z (lb z) (oA z) z) (.inl z) ?_
          rintro _ nc ⟨nd,ne⟩;have es:=ne.one;refine pD ?_;have eu:=lt_ (lt_ h3.s I.s) sq.s;exact fun _ q=>⟨mZ,n0,[ek],som iF,some ⟨aT.z,0,none⟩,1,1,(aT.z::(em++en)),q.k<|s2 z z,(cM (f_ (cM (f_ (cr ([g1]++[G.z]) H) sq:Chg (· ∈ ([g1]++[G.z])) H mU) cQ (io<|x_ sr):Chg (· ∈ ([g1]++[G.z])) H aT) er:Chg (· ∈ ([g1]++[G.z])) H gf) es (io<|A_ sr):Chg (· ∈ ([g1]++[G.z])) H nc),n9,na,(a_D ep<|c_R (x:=ek) (S1:=em) (S2:=en) n8 gc ge).c es (or1 c_Z (aa_ (k_ (al_ cR) O.lt eu)<|k_ (ar_ cR) O.lt eu) (P_ (b_ O.lt)<|lt_ eu cQ.s) : ∀ k∈(aT.z::(em++en)),k∉[G.z]),g_o (na_ (nl_ eo) (nr_ eo)<|nj eo)<|aa_ (a_.lt gc)<|a_.lt ge,a_2 c_Z (aa_ (l_ (al_ cR) sq.s)<|l_ (ar_ cR) sq.s)<|lt_ sq.s cQ.s,(nb.e er).c es<|djs ej,nd⟩
         refine a_g ?_;have gg:=lt_ L.s J.s;exact fun _ q=>⟨x1.i,x1.h,([]:List Val),som<|ifF eF d8,none,0,0,[],q.k<|s2 z z,cr ([g1]++[G.z]) H,p1_1,p1_2,onL,H_,an_,((((((hB1.e L).e J).e h5).c h4<|djs<|mm1 (Blk.lt hB1) gg).e h6).c h3<|djs<|mm1 (Blk.lt hB1)<|lt_ (lt_ gg h5.s) h4.s).e I,hw.e I⟩
        rintro nf ng ⟨bK,bL,cL,rfl,cN,cO,cP,bM,_,nh,ni,nk,nl,nm,np,nq,nr⟩;revert nf;exact fun _ q=>⟨bK,bL,cL,som<|b_D iD,cN,cO,cP,bM,q.k<|s2 z z,(cM (cr ([g1]++[G.z]) H) nh (aa_ (io<|x_ sr)<|io<|A_ sr):Chg (· ∈ ([g1]++[G.z])) H ng),ni,nk,nl,nm,np,nq,nr⟩
       rintro ns nt ⟨bD,bE,cB,rfl,cC,cD,cE,bF,_,nu,nv,nw,nx,ny,nA,nB,nC⟩;revert ns;exact fun _ q=>⟨bD,bE,0,cB,som<|b_D ix,cC,cD,cE,bF,q.k<|s2 z z,(cM (cr ([g1]++[G.z]) H) nu (aa_ (io<|x_ sr)<|io<|A_ sr):Chg (· ∈ ([g1]++[G.z])) H nt),nv,nw,ii z,nx,ny,nA,nB,nC⟩
      rintro nD nE ⟨bx,bz,bA,cu,rfl,cv,cw,cx,bB,_,nF,nG,nH,nI,nJ,nK,nL,nM,nN⟩;revert nD;exact fun _ q=>⟨bx,bz,bA,cu,som<|c_p ir,cv,cw,cx,bB,q.k<|s2 z z,(cM (cr ([g1]++[G.z]) H) nF (aa_ (io<|x_ sr)<|io<|A_ sr):Chg (· ∈ ([g1]++[G.z])) H nE),nG,nH,nI,nJ,nK,nL,nM,nN⟩
     rintro nO nP ⟨bk,bm,bn,cn,rfl,co,cp,cq,bo,_,nQ,nR,nS,nT,nU,nV,nW,nX,nY⟩;have iG:=elL ez;revert nO;exact fun _ q=>⟨bk,bm,bn,cn,som<|c_p iG,co,cp,cq,bo,q.k<|s2 z z,(cM (cr ([g1]++[G.z]) H) nQ (aa_ (io<|x_ sr)<|io<|A_ sr):Chg (· ∈ ([g1]++[G.z])) H nP),nR,nS,nT,nU,nV,nW,nX,nY⟩
    rintro nZ o0 ⟨be,bf,bg,cc,rfl,cd,ce,cf,bh,_,o1,o2,o3,o4,o5,o6,o7,o8,o9⟩;have iH:=elL d1;revert nZ;exact fun _ q=>⟨be,bf,bg,([]:List UInt8),cc,som<|c_p iH,none,0,0,[],cd,ce,cf,bh,q.k<|s2 z z,(cM (cr ([g1]++[G.z]) H) o1 (aa_ (io<|x_ sr)<|io<|A_ sr):Chg (· ∈ ([g1]++[G.z])) H o0),o2,o3,o4,onL,H_,an_,o5,o6,o7,nmN _,o8,o9⟩
   rintro oa ob ⟨b2,b3,b4,bY,bZ,rfl,c0,c1,c2,aJ,c3,c4,c5,aK,_,oc,od,oe,og,oh,oi,oj,ol,om,oo,oq,os,ot⟩;have iI:=elL cY;revert oa;exact fun _ q=>⟨b2,b3,b4,bY,bZ,som<|c_b iI,c0,c1,c2,aJ,c3,c4,c5,aK,q.k<|s2 z z,(cM (f_ (cr ([g1]++[G.z]) wa) I:Chg (· ∈ ([g1]++[G.z])) wa H) oc (aa_ (io<|x_ sr)<|io<|A_ sr):Chg (· ∈ ([g1]++[G.z])) wa ob),od,oe,og,oh,oi,l_ oj I.s,ol,om,l_ oo I.s,oq,os,ot⟩
  rintro ou ov ⟨aZ,b0,b1,bQ,bR,rfl,bS,bT,bU,aH,bV,bW,bX,aI,_,ow,ox,oy,oz,oB,oC,oD,oE,oF,oG,oH,oI,oJ⟩;have iJ:=elL cV;revert ou;exact fun _ q=>⟨aZ,b0,b1,bQ,bR,som<|c_b iJ,bS,bT,bU,aH,bV,bW,bX,aI,q.k<|s2 z z,(cM (cr ([g1]++[G.z]) wa) ow (aa_ (io<|x_ sr)<|io<|A_ sr):Chg (· ∈ ([g1]++[G.z])) wa ov),ox,oy,oz,oB,oC,oD,oE,oF,oG,oH,oI,oJ⟩
 rintro oK oL ⟨bN,bO,ax,d9,da,rfl,ay,aA,aB,aC,aD,aE,aF,aG,_,gh,oM,oN,oO,oP,oQ,gi,oR,oS,gj,oT,oU,oV⟩;have iK:=elL cT;revert oK;refine Wo<|Ws<|R z (lN (vs:=[vI ax,sl ay aA aB,sl aD aE aF]) u_ i_ z z fid<|oV.row 0 3 z) ?_
 have gk:=lt_ h5.s h4.s;have gl:=mm1 aV.lt gk;have gm:=mm1 (Blk.lt hB1) L.s;refine E0 (fs (cur':=[vI ax,sl ay aA aB,sl aD aE aF]) i_ z z (((((aV.e h5).c h4<|djs<|mmr aV.lt).e h6).c h3<|djs gl).c gh<|atp<|nmA gm<|ds gl) z (lb z) (oA z) z) ?_;rintro _ oW ⟨oX,oY⟩;have cS:=oY.one;refine Wn ?_;obtain rfl:=som<|c_b iK;have gn:=lt_ (lt_ gk h6.s) h3.s;have gp:=lt_ L.s J.s;have gq:=lt_ (lt_ gp h5.s) h4.s;have gr : ∀ k∈[G.z],k∈[g1]∨w0.z≤k:=mor gq;have gs:=lt_ (lt_ gq h6.s) h3.s;exact Wr<|h_ hr (q_ u_ i_ z oX z) ⟨(cM (cM (cM (f_ (cM (f_ (f_ (f_ (cr [g1] w0) L:Chg (· ∈ [g1]) w0 wb) J:Chg (· ∈ [g1]) w0 wc) h5:Chg (· ∈ [g1]) w0 gJ) h4 (mor gp : ∀ k∈[wc.z],k∈[g1]∨w0.z≤k):Chg (· ∈ [g1]) w0 G) h6:Chg (· ∈ [g1]) w0 gL) h3 gr:Chg (· ∈ [g1]) w0 wa) gh (aa_ (io sr) gr):Chg (· ∈ [g1]) w0 oL) cS (mor L.s : ∀ k∈[wb.z],k∈[g1]∨w0.z≤k):Chg (· ∈ [g1]) w0 oW),ay,aA,aB,aC,aD,aE,aF,aG,z,oO,oP.c cS<|k_ gi aV.lt gn,oR.c cS<|k_ gj aV.lt gn,oM,oN,oU.c cS<|djs gm,na_ oQ oS<|ds oT,aa_ (l_ gi gs)<|l_ gj gs⟩
theorem A_w0c : ∀ n,k_b n
  | 0=>⟨fun hm=>by intros;exact nomatch (show none=some _ from hm)⟩
  | n+1=>T_w0c<|A_w0c n
theorem W_w0c:i_d (d_r n).spec_l9Make:=A_w0c n

theorem d_A {x1:g_} {x2:Int} {x3:Int} {res:Int} (hm:b_u x1 x2 x3=some res) (hBw:B≤w0.z) (p1_0:x1.name.b.length≤LEN) (p1_1:inI x1.kind) (p1_2:inI x1.size) (aJ:repS w0 B (sl AB NB CB) x1.bytes) (aK:repS w0 B (sl A8 N8 C8) x1.names) (I:repS w0 B (sl AC NC CC) x1.tags) (J:repS w0 B (sl AD ND CD) x1.kids) (p2_0:inI x2) (p3_0:inI x3):o_ prog 109 [(.agg #[Str.v x1.name,vI x1.kind,vI x1.size,vB x1.little,sl AB NB CB,sl A8 N8 C8,sl AC NC CC,sl AD ND CD]),vI x2,vI x3] w0 (Q9 w0 B res):=by
 unfold b_u at hm
 refine goF func109 z z (lb z) fun fn hr=>Ws<|E z (fb z) ?_
 rintro _ G ⟨rfl,hi⟩;have H:=hi.below;have h2:Blk G w0.z (vR x1 AB NB CB A8 N8 C8 AC NC CC AD ND CD):=hi.blk;refine Ra z<|Wn<|Wq<|Ws<|R z (fd a_x z)<|R z (l1 g_3 z fid<|h2.at z)<|Wn<|Wb<|Ws<|R z (eql z z)<|Ra z<|Wn<|Wc z (fun O=>?_) (fun O=>?_)
 ·refine Ws<|R z (fd K_ z)<|R z (l1 B_ z fid<|h2.at z) ?_
  obtain ⟨_,eu,hmv⟩:=bdS<|ifT hm O;refine RX z (at_ (α:=Int) w_ z_3 z z z (J.e H) eu) ?_;rintro _ ⟨_,_,_,rfl,hw,hx,_⟩;obtain ⟨rfl,hy⟩:=O_ hx;refine R z (l1 g_3 z fid<|hw.at0 z)<|Ra z<|Wn ?_
  obtain rfl:=som hmv;exact Wr<|rtO<|h_ hr z ⟨H,z,hy⟩
 refine Ws<|R z (eql z z)<|Ra z<|Wn ?_
 obtain ⟨uz,huj,L⟩:=bdS<|ifF hm O;refine Wt (fun a w=>Sum.inl ()=uz∧Sat 57 [] a∧Below G.z G w) ?_ ?_
 ·refine Wc z (fun V=>?_)<|fun V=>?_
  ·have hmk:=ifT huj V;refine Ws<|Rm z<|R z (fd K_ z)<|R z (l1 B_ z fid<|h2.at z) ?_
   have hl:=J.e H;refine R z (lnR w_ z hl)<|R z (lss z z)<|Wn<|Wc z (fun W=>?_) (fun W=>?_)
   ·refine Ws<|R z (fd K_ z)<|R z (l1 B_ z fid<|h2.at z)<|Rm z ?_
    obtain ⟨_,aj,a0⟩:=bdS<|ifT hmk W;refine RX z (at_ (α:=Int) w_ z_3 z z z hl aj) ?_;rintro _ ⟨_,_,_,rfl,ak,al,_⟩;obtain ⟨rfl,am⟩:=O_ al;refine R z (l1 g_3 z fid<|ak.at0 z)<|Ra z<|Wn ?_
    obtain rfl:=som a0;have a1:=elR L;obtain rfl:=som a1;exact Wr<|rtO<|h_ hr z ⟨H,z,am⟩
   exact a_g<|fun _ q=>⟨som<|ifF hmk W,q.k sn,br G⟩
  refine Ws<|R z (eql z z)<|Ra z<|Wn ?_
  obtain ⟨an,hum,Y⟩:=bdS<|ifF huj V;refine Wt (fun a w=>Sum.inl ()=an∧Sat 57 [] a∧Below G.z G w) ?_ ?_
  ·refine Wc z (fun hca=>?_)<|fun hca=>?_
   ·refine Ws<|Ra z<|Wn ?_
    obtain ⟨_,a2,hmn⟩:=bdS<|ifT hum hca;refine Wf (σ:=Unit) (ρ:=Int) (fun (ko:Nat) (_:Unit) a w=>Sat 57 [(1,vI x2),(3,pt w0.z),(7,vI ((ko:Nat):Int))] a∧Below G.z G w) (fun (_:Unit) a w=>Sat 57 [] a∧Below G.z G w) (fun r ex a w=>ex = .ret∧L_ prog fn (Q9 w0 B r) a w) a2 ?_ ?_ ?_ ?_ ?_
    ·exact fun _ q=>⟨q.k<|s3 z z z,br G⟩
    ·rintro ko _ _ _ _ hkb ⟨a3,s4⟩ a4;refine Wu ?_ a3;refine Wq<|Ws<|Rm z<|R z (fd a_L z) ?_
     have hd:=h2.e s4;refine R z (l1 B_ z fid<|hd.at z) ?_;have hp:=(H.ag B).e s4;have hq:=I.g hp;refine R z (lnR w_ z hq)<|R z (lss z z)<|Wn<|Wc z (fun _=>?_) (fun hc=>(a_3 hkb hc).elim)
     refine Wk<|Wq<|Wb<|Ws<|R z (fd a_L z)<|R z (l1 B_ z fid<|hd.at z)<|Rm z ?_
     obtain ⟨_,ao,hmr⟩:=bdS a4;refine RX z (at_ (α:=Int) w_ z_3 z z z hq ao) ?_;rintro _ ⟨_,_,_,rfl,ap,aq,_⟩;obtain ⟨rfl,_⟩:=O_ aq;refine R z (l1 g_3 z fid<|ap.at0 z)<|Rm z<|R z (eql z z)<|Wn<|Wc z (fun hcc=>?_) (fun hcc=>?_)
     ·refine Ws<|R z (fd K_ z)<|R z (l1 B_ z fid<|hd.at z)<|Rm z<|R z (inc_ hkb (lt_ (repS.len I) M_) z z) ?_
      obtain ⟨_,ar,a5⟩:=bdS<|ifT hmr hcc;refine RX z (at_ (α:=Int) w_ z_3 z z z (J.g hp) ar) ?_;rintro _ ⟨_,_,_,rfl,au,av,_⟩;obtain ⟨rfl,aw⟩:=O_ av;exact R z (l1 g_3 z fid<|au.at0 z)<|Ra z<|Wn<|Wr<|rtO<|qL (som a5).symm<|h_ hr z ⟨bup H s4,z,aw⟩
     exact Wk<|Wg<|Rm z<|R z (inc_ hkb (lt_ (repS.len I) M_) z z)<|Ra z<|Wl (fun _ q=>⟨(),(som<|ifF hmr hcc).symm,⟨q.k<|s3 z z z,s4⟩⟩)
    ·rintro _ _ _ ⟨a6,se⟩;refine Wu ?_ a6;refine Wq<|Ws<|Rm z<|R z (fd a_L z)<|R z (l1 B_ z fid<|(h2.e se).at z)<|R z (lnR w_ z<|I.g<|(H.ag B).e se)<|R z (lss z z)<|Wn<|Wc z (fun hc=>(a_4 hc).elim) (fun _=>?_)
     exact We<|fun a' ha'=>⟨rfl,⟨Sat.weaken ha' sn,se⟩⟩
    ·rintro _ ax _ rfl ⟨_,ay⟩;have a7:=elL hmn;revert ax;exact fun _ q=>⟨som a7,q.k sn,ay⟩
    rintro _ _ _ _ rfl ⟨rfl,a8⟩;have a9:=elR hmn;obtain rfl:=som a9;have aa:=elR Y;obtain rfl:=som aa;have ab:=elR L;obtain rfl:=som ab;exact ⟨a8,z⟩
   refine Wq<|Ws<|R z (eql z z)<|Ra z<|Wn ?_
   obtain ⟨az,hus,hmt⟩:=bdS<|ifF hum hca;refine Wt (fun a w=>∃ (xf:Bool),xf=az∧Sat 57 [(3,pt w0.z),(50,vB xf)] a∧Below G.z G w) ?_ ?_
   ·refine Wc z (fun hcg=>?_)<|fun hcg=>?_
    ·exact a_g<|fun _ q=>⟨x1.kind==8,som<|ifT hus hcg,q.k<|s2 z z,br G⟩
    exact Wg<|R z (eql z z)<|Ra z<|Wl (fun _ q=>⟨x1.kind==9,som<|ifF hus hcg,q.k<|s2 z z,br G⟩)
   rintro aA _ ⟨xf,rfl,_,s5⟩;revert aA;refine Wo<|Wc z (fun hch=>?_) (fun hch=>?_)
   ·refine Ws<|R z (fd K_ z)<|R z (l1 B_ z fid<|(h2.e s5).at z) ?_
    obtain ⟨_,aB,ad⟩:=bdS<|ifT hmt hch;refine RX z (at_ (α:=Int) w_ z_3 z z z (J.g<|(H.ag B).e s5) aB) ?_;rintro _ ⟨_,_,_,rfl,aC,aD,_⟩;obtain ⟨rfl,aE⟩:=O_ aD;refine R z (l1 g_3 z fid<|aC.at0 z)<|Ra z<|Wn ?_
    obtain rfl:=som ad;have ae:=elR Y;obtain rfl:=som ae;have af:=elR L;obtain rfl:=som af;exact Wr<|rtO<|h_ hr z ⟨bup H s5,z,aE⟩
   exact a_g<|fun _ q=>⟨som<|ifF hmt hch,q.k sn,s5⟩
  rintro aF _ ⟨rfl,_,aG⟩;have ah:=elL Y;revert aF;exact fun _ q=>⟨som ah,q.k sn,aG⟩
 rintro aH _ ⟨rfl,_,aI⟩;have ai:=elL L;revert aH;refine Wo<|Ws<|Ra z<|Wn ?_
 obtain rfl:=som ai;exact Wr<|h_ hr z ⟨bup H aI,z,ii z⟩
theorem b_d {x1:Int} {x2:Int} {x3:Int} {res:Bool} (hm:a_H x1 x2 x3=some res) (hBw:B≤w0.z) (p1_0:inI x1) (p2_0:inI x2) (p3_0:inI x3):o_ prog 103 [vI x1,vI x2,vI x3] w0 (Q0 w0 B res):=by
 unfold a_H at hm
 refine goF func103 z z (lb z) fun fn hr=>Ws<|Ra z<|Wn<|Wq ?_
 obtain ⟨J,H,I⟩:=bdS hm;refine Wt (fun a w=>∃ (x4:Bool),x4=J∧Sat 15 [(6,vB x4)] a∧Below w0.z w0 w) ?_ ?_
 ·refine Wg<|Rm z<|Rm z<|R z (b_r z z)<|Rm z ?_
  rcases bs (decide<|x2≤x1) with G | G
  ·exact Rh z G (mv z)<|Rh z G (mv z)<|Rh z G (b_y z z)<|R z (pT z G z)<|Ra z<|Wl (fun _ q=>⟨decide<|x1≤x3,som<|ifT H G,q.k<|s1 z,br w0⟩)
  iterate 3 refine Nh z G ?_
  exact R z (pF z G z)<|Ra z<|Wl (fun _ q=>⟨false,som<|ifF H G,q.k<|s1 z,br w0⟩)
 rintro L _ ⟨x4,rfl,_,s6⟩;revert L;refine Wo ?_;obtain rfl:=som I;exact Wr<|h_ hr z ⟨s6,z⟩
def Q11 (w0:World) (B:Zone) (r:(List UInt8)) (v:Value) (w':World):Prop:=Bw w0 w'∧(fun J=>∃ G H I S1,(sl G H I)=v∧a_ w' S1 (sl G H I) J∧S1.Nodup∧(∀ k∈S1,w0.z≤k)) r
theorem W_w16 {x1:Int} {x2:Int} {res:(List UInt8)} (hm:e_C n x1 x2=some res) (hBw:B≤w0.z) (p1_0:inI x1) (p2_0:inI x2):o_ prog 165 [vI x1,vI x2] w0 (Q11 w0 B res):=by
 unfold e_C at hm
 refine goF func165 z z (lb z) fun fn hr=>Ws<|Ra z<|Wn<|Ws<|E z (f0 (α:=UInt8) R_) ?_
 rintro _ wm ⟨ad,ne,cf,rfl,s7,hp⟩;refine Ra z<|Wn<|Wq<|Wq ?_
 obtain ⟨aa,W,hmq⟩:=bdS hm;refine Wt (fun a w=>∃ (xg:Bool),xg=aa∧Sat 35 [(0,vI x1),(1,vI x2),(5,sl ad ne cf),(18,vB xg)] a∧Below wm.z wm w) ?_ ?_
 ·refine Wg<|Rm z ?_
  obtain ⟨ab,ae,hmr⟩:=bdS W;refine E z (fc call103 z<|b_d (B:=B) ae (zt' hBw s7.s) p2_0 (ii z)<|ii z) ?_;rintro _ _ ⟨sh,rfl⟩;refine R z (not_ z)<|Rm z ?_
  rcases bs (!ab) with I | I
  ·iterate 6 refine Nh z I ?_
   exact R z (pT z I z)<|Wl (fun _ q=>⟨true,som<|ifT hmr I,q.k<|s4 z z z z,sh⟩)
  refine Rh z I (mv z)<|Rh z I (mv z) ?_
  have ht:=lt_ s7.s sh.s;obtain ⟨_,af,Y⟩:=bdS<|ifF hmr I;refine Eg z z I z (fc call107 z<|g_A (B:=B) af (zt' hBw ht) p2_0) ?_;rintro _ _ ⟨ss,rfl,_⟩;refine Rh z I (sb_ z z) ?_;obtain ⟨ah,ai,a0⟩:=bdS Y;refine Eg z z I z (fc call103 z<|b_d (B:=B) ai (zt' hBw<|lt_ ht ss.s) p1_0 (ii z)<|iS _ _) ?_;rintro _ _ ⟨aj,rfl⟩;exact Rh z I (not_ z)<|R z (pF z I z)<|Wl (fun _ q=>⟨!ah,som a0,q.k<|s4 z z z z,bup (bup sh ss) aj⟩)
 rintro ak G ⟨xg,rfl,_,s8⟩;revert ak;refine Wo<|Wc z (fun hci=>?_) (fun hci=>?_)
 ·refine Ws<|Rm z<|Ra z<|Wn ?_
  obtain rfl:=som<|ifT hmq hci;exact Wr<|h_ hr z ⟨bup s7 s8,ad,ne,cf,[w0.z],z,hp.e s8,a_h,b_ lr⟩
 refine Wk<|Wq<|Ws<|Rm z<|R z (sb_ z z)<|Ra z<|Wn ?_
 obtain ⟨_,a1,hmu⟩:=bdS<|ifF hmq hci;refine b_Y (σ:=(List UInt8)×Int) (ρ:=List UInt8) (fun s a w=>un2 (fun V x6=>∃ J L O H,Sat 35 [(0,vI x1),(5,sl J L O),(6,vI x6)] a∧Chg (· ∈ [w0.z]) G w∧a_ w H (sl J L O) V∧H.Nodup∧(∀ k∈H,k∈[w0.z]∨G.z≤k)∧inI x6) s) (fun s a w=>un2 (fun V x6=>∃ J L O H,Sat 35 [(5,sl J L O)] a∧Chg (· ∈ [w0.z]) G w∧a_ w H (sl J L O) V∧H.Nodup∧(∀ k∈H,k∈[w0.z]∨G.z≤k)∧inI x6) s) (fun r ex a w=>ex = .ret∧L_ prog fn (Q11 w0 B r) a w) a1 ?_ ?_ ?_ ?_
 ·exact fun _ q=>⟨ad,ne,cf,[w0.z],q.k<|s3 z z z,cr [w0.z] G,hp.e s8,a_h,io sr,iS _ _⟩
 ·rintro ⟨V,x6⟩ _ wj _ ⟨J,L,O,H,a2,sk,ha,hb,hc,hv⟩ a4;have hmw:=b_1 a4;refine Wu ?_ a2;refine Wq<|Ws<|Rm z<|R z (b_r z z)<|Wn<|Wc z (fun hcl=>?_) (fun hcl=>?_)
  ·refine Wk<|Wq<|Wb<|Wg<|Rm z<|Rm z<|Rm z<|R z (c_K z z) ?_
   obtain ⟨_,al,a5⟩:=bdS<|ifT hmw hcl;refine R z (i_O z z<|nnS al)<|R z (d_t d_3 d_5 z)<|E z (fS [(.tmp 31)] R_ z z z (a_d z) (lb z)<|lb z) ?_
   rintro _ wx ⟨rfl,hn⟩;have ho:=hn.below;have aA:=a_D hn b_0;obtain ⟨am,an,a6⟩:=bdS a5;refine E z (a_Q (α:=UInt8) R_ an z z (ha.e ho) hb (hn.blk:Blk wx wj.z [(vU<|byteI<|mkB<|b_Q .i64 x1<|a_e 8 x6)]) b_0 an_ H_) ?_;rintro _ ao ⟨Sy,ap,aq,ar,rfl,au,av,aw,ax⟩;refine Ra z<|Wn<|Wg<|Rm z<|R z (sb_ z z)<|Ra z<|Wl ?_
   have hz : ∀ k∈H,k∈[w0.z]∨G.z≤k:=or1 hc (io sr)<|z_ lr;exact fun _ q=>⟨(am,I_ x6 1),(som a6).symm,⟨ap,aq,ar,Sy,q.k<|s3 z z z,(cM (f_ (cM (cr [w0.z] G) sk (io sr):Chg (· ∈ [w0.z]) G wj) ho:Chg (· ∈ [w0.z]) G wx) au hz:Chg (· ∈ [w0.z]) G ao),av,aw,(or2 ax hz an_ (z_<|lt_ sk.s ho.s) : ∀ k∈Sy,k∈[w0.z]∨G.z≤k),iS _ _⟩⟩
  exact We<|fun a' ha'=>b_w (som<|ifF hmw hcl).symm ⟨J,L,O,H,Sat.weaken ha'<|s1 z,(cM (cr [w0.z] G) sk (io sr):Chg (· ∈ [w0.z]) G wj),ha,hb,(or1 hc (io sr) (z_ lr) : ∀ k∈H,k∈[w0.z]∨G.z≤k),hv⟩
 ·rintro ⟨V,x6⟩ ay _ rfl ⟨J,L,O,H,_,az,ha,hb,hc,hv⟩;have a7:=elL hmu;revert ay;refine Wo<|Ws<|Rm z<|Ra z<|Wn ?_
  obtain rfl:=som<|b_1 a7;exact Wr<|h_ hr z ⟨bM (bup s7 s8) az<|b_ lr,J,L,O,H,z,ha,hb,(or1 hc (b_ lr) (b_7<|lt_ s7.s s8.s) : ∀ k∈H,w0.z≤k)⟩
 rintro _ _ _ _ rfl ⟨rfl,a8⟩;have a9:=elR hmu;obtain rfl:=som a9;exact ⟨a8,z⟩
theorem W_w1z {x1:Int} {x2:Int} {res:(List UInt8)} (hm:e_L n x1 x2=some res) (hBw:B≤w0.z) (p1_0:inI x1) (p2_0:inI x2):o_ prog 164 [vI x1,vI x2] w0 (Q11 w0 B res):=by
 unfold e_L at hm
 refine goF func164 z z (lb z) fun fn hr=>Ws<|Ra z<|Wn<|Ws<|Rm z<|Rm z ?_
 obtain ⟨_,er,hms⟩:=bdS hm;refine E z (fc call165 z<|W_w16 (B:=B) er hBw p1_0 p2_0) ?_;rintro _ G ⟨sd,au,nt,cv,_,rfl,W,_,_⟩;refine Ra z<|Wn<|Ws<|E z (f0 (α:=UInt8) R_) ?_
 rintro _ H ⟨aw,nx,cy,rfl,se,hz⟩;refine Ra z<|Wn<|Wq<|Ws<|Rm z ?_
 have hj:=W.e se;refine R z (lnR n_ z<|or_ hj<|a_.lt W)<|R z (sb_ z z)<|Ra z<|Wn ?_
 obtain ⟨_,Y,hmk⟩:=bdS hms;refine b_Y (σ:=(List UInt8)×Int) (ρ:=List UInt8) (fun s a w=>un2 (fun V x6=>∃ J L O I,Sat 27 [(5,sl au nt cv),(6,sl J L O),(7,vI x6)] a∧Chg (· ∈ [G.z]) H w∧a_ w I (sl J L O) V∧I.Nodup∧(∀ k∈I,k∈[G.z]∨H.z≤k)∧inI x6) s) (fun s a w=>un2 (fun V x6=>∃ J L O I,Sat 27 [(6,sl J L O)] a∧Chg (· ∈ [G.z]) H w∧a_ w I (sl J L O) V∧I.Nodup∧(∀ k∈I,k∈[G.z]∨H.z≤k)∧inI x6) s) (fun r ex a w=>ex = .ret∧L_ prog fn (Q11 w0 B r) a w) Y ?_ ?_ ?_ ?_
 ·exact fun _ q=>⟨aw,nx,cy,[G.z],q.k<|s3 z z z,cr [G.z] H,hz,a_h,io sr,iS _ _⟩
 ·rintro ⟨V,x6⟩ _ wf _ ⟨J,L,O,I,a0,s9,ha,hb,hc,hl⟩ a1;have hmm:=b_1 a1;refine Wu ?_ a0;refine Wq<|Ws<|Rm z<|R z (b_r z z)<|Wn<|Wc z (fun hcg=>?_) (fun hcg=>?_)
  ·refine Wk<|Wq<|Wb<|Wg<|Rm z<|Rm z<|Rm z ?_
   obtain ⟨a8,a9,a2⟩:=bdS<|ifT hmm hcg;refine RX z (at_ (α:=UInt8) n_ z_5 z z z (or_ (hj.c s9<|ds<|mnr<|a_.lt W)<|a_.lt W) a9) ?_;rintro _ ⟨_,_,_,rfl,aa,ab,_⟩;obtain rfl:=u8 ab;refine R z (l1 g_5 z fid<|aa.at0 z)<|E z (fS [(.tmp 23)] R_ z z z (a_d z) (lb z)<|lb z) ?_
   rintro _ wn ⟨rfl,hh⟩;have hi:=hh.below;have aq:=a_D hh b_0;obtain ⟨ad,ae,a4⟩:=bdS a2;refine E z (a_Q (α:=UInt8) R_ ae z z (ha.e hi) hb (hh.blk:Blk wn wf.z [vU (byteI a8)]) b_0 an_ H_) ?_;rintro _ af ⟨So,ah,ai,aj,rfl,ak,al,am,an⟩;refine Ra z<|Wn<|Wg<|Rm z<|R z (sb_ z z)<|Ra z<|Wl ?_
   have hp : ∀ k∈I,k∈[G.z]∨H.z≤k:=or1 hc (io sr)<|z_ lr;exact fun _ q=>⟨(ad,I_ x6 1),(som a4).symm,⟨ah,ai,aj,So,q.k<|s3 z z z,(cM (f_ (cM (cr [G.z] H) s9 (io sr):Chg (· ∈ [G.z]) H wf) hi:Chg (· ∈ [G.z]) H wn) ak hp:Chg (· ∈ [G.z]) H af),al,am,(or2 an hp an_ (z_<|lt_ s9.s hi.s) : ∀ k∈So,k∈[G.z]∨H.z≤k),iS _ _⟩⟩
  exact We<|fun a' ha'=>b_w (som<|ifF hmm hcg).symm ⟨J,L,O,I,Sat.weaken ha'<|s1 z,(cM (cr [G.z] H) s9 (io sr):Chg (· ∈ [G.z]) H wf),ha,hb,(or1 hc (io sr) (z_ lr) : ∀ k∈I,k∈[G.z]∨H.z≤k),hl⟩
 ·rintro ⟨V,x6⟩ ao _ rfl ⟨J,L,O,I,_,ap,ha,hb,hc,hl⟩;have a5:=elL hmk;revert ao;refine Wo<|Ws<|Rm z<|Ra z<|Wn ?_
  obtain rfl:=som<|b_1 a5;have hq:=m1 sd.s;exact Wr<|h_ hr z ⟨bM (bup sd se) ap hq,J,L,O,I,z,ha,hb,a_2 hc hq<|lt_ sd.s se.s⟩
 rintro _ _ _ _ rfl ⟨rfl,a6⟩;have a7:=elR hmk;obtain rfl:=som a7;exact ⟨a6,z⟩
theorem g_B {x1:g_} {x2:Int} {res:(List UInt8)} (hm:c_V n x1 x2=some res) (hBw:B≤w0.z) (p1_0:x1.name.b.length≤LEN) (p1_1:inI x1.kind) (p1_2:inI x1.size) (W:repS w0 B (sl AB NB CB) x1.bytes) (Y:repS w0 B (sl A8 N8 C8) x1.names) (a0:repS w0 B (sl AC NC CC) x1.tags) (a1:repS w0 B (sl AD ND CD) x1.kids) (p2_0:inI x2):o_ prog 110 [(.agg #[Str.v x1.name,vI x1.kind,vI x1.size,vB x1.little,sl AB NB CB,sl A8 N8 C8,sl AC NC CC,sl AD ND CD]),vI x2] w0 (Q11 w0 B res):=by
 unfold c_V at hm
 refine goF func110 z z (lb z) fun fn hr=>Ws<|E z (fb z) ?_
 rintro _ J ⟨rfl,h3⟩;have G:=h3.below;have h1:Blk J w0.z (vR x1 AB NB CB A8 N8 C8 AC NC CC AD ND CD):=h3.blk;refine Ra z<|Wn<|Wq<|Ws<|R z (fd c_r z)<|R z (l1 g_4 z fid<|h1.at z)<|Wn<|Wc z (fun H=>?_) (fun H=>?_)
 ·refine Ws<|Rm z<|R z (fd a_t z)<|R z (l1 g_3 z fid<|h1.at z) ?_
  obtain ⟨_,L,I⟩:=bdS<|ifT hm H;refine E z (fc call164 z<|W_w1z (B:=B) L (zt' hBw G.s) p2_0 p1_2) ?_;rintro _ _ ⟨s7,O,V,ca,Sb,rfl,hc,hd,he⟩;refine Ra z<|Wn ?_
  obtain rfl:=som I;exact Wr<|h_ hr z ⟨bup G s7,O,V,ca,Sb,z,hc,hd,l_ he G.s⟩
 refine Wk<|Ws<|Rm z<|R z (fd a_t z)<|R z (l1 g_3 z fid<|h1.at z) ?_
 obtain ⟨_,ef,hmg⟩:=bdS<|ifF hm H;refine E z (fc call165 z<|W_w16 (B:=B) ef (zt' hBw G.s) p2_0 p1_2) ?_;rintro _ _ ⟨sh,ai,nj,ck,Sl,rfl,hn,ho,hp⟩;refine Ra z<|Wn ?_
 obtain rfl:=som hmg;exact Wr<|h_ hr z ⟨bup G sh,ai,nj,ck,Sl,z,hn,ho,l_ hp G.s⟩
theorem W_w17 {x1:List UInt8} {res:Int} (hm:e_s x1=some res) (hBw:B≤w0.z) (p1_0:repS w0 B (sl A0 N0 C0) x1):o_ prog 111 [sl A0 N0 C0] w0 (Q9 w0 B res):=by
 unfold e_s at hm
 refine goF func111 z z (lb z) fun fn hr=>Ws<|Ra z<|Wn<|Ws<|Ra z<|Wn<|Wq<|Ws<|Ra z<|Wn ?_
 obtain ⟨_,I,G⟩:=bdS hm;refine Wf (σ:=Int) (ρ:=Int) (fun (k3:Nat) (x0:Int) a w=>Sat 20 [(0,sl A0 N0 C0),(3,vI x0),(4,vI ((k3:Nat):Int))] a∧Below w0.z w0 w∧inI x0) (fun (x0:Int) a w=>Sat 20 [(3,vI x0)] a∧Below w0.z w0 w∧inI x0) (fun r ex a w=>ex = .ret∧L_ prog fn (Q9 w0 B r) a w) I ?_ ?_ ?_ ?_ ?_
 ·exact fun _ q=>⟨q.k<|s3 z z z,br w0,ii z⟩
 ·rintro k3 x0 _ _ _ H ⟨J,s5,h1⟩ hma;refine Wu ?_ J;refine Wq<|Ws<|Rm z<|Rm z ?_
  have h6:=p1_0.e s5;refine R z (lnR n_ z h6)<|R z (lss z z)<|Wn<|Wc z (fun _=>?_) (fun hc=>(a_3 H hc).elim)
  refine Wk<|Wq<|Wb<|Wg<|Rm z<|Rm z<|Rm z ?_
  obtain ⟨xb,ec,hmd⟩:=bdS hma;refine RX z (at_ (α:=UInt8) n_ z_5 z z z h6 ec) ?_;rintro _ ⟨_,_,_,rfl,he,hf,_⟩;obtain rfl:=u8 hf;exact R z (l1 g_5 z fid<|he.at0 z)<|R z (b_W d_5 d_3 z)<|R z (add_ z z)<|R z (f_0 z z (by decide))<|Ra z<|Wn<|Wg<|Rm z<|R z (inc_ H (lt_ (repS.len p1_0) M_) z z)<|Ra z<|Wl (fun _ q=>⟨a_W (j_ x0<|byteI xb) 256,(som hmd).symm,⟨q.k<|s3 z z z,s5,e_P<|iA _ _⟩⟩)
 ·rintro x0 _ _ ⟨hSg,s7,h1⟩;refine Wu ?_ hSg;refine Wq<|Ws<|Rm z<|Rm z<|R z (lnR n_ z<|p1_0.e s7)<|R z (lss z z)<|Wn<|Wc z (fun hc=>(a_4 hc).elim) (fun _=>?_)
  exact We<|fun a' ha'=>⟨rfl,⟨Sat.weaken ha'<|s1 z,s7,h1⟩⟩
 ·rintro x0 ah _ rfl ⟨_,si,h1⟩;have hmj:=elL G;revert ah;refine Wo<|Ws<|Rm z<|Ra z<|Wn ?_
  obtain rfl:=som hmj;exact Wr<|h_ hr z ⟨si,z,h1⟩
 rintro _ _ _ _ rfl ⟨rfl,hqk⟩;have hml:=elR G;obtain rfl:=som hml;exact ⟨hqk,z⟩
structure i_e (f:d_→Int→Val→Option (List UInt8)):Prop where
  run : ∀ {A0 A9 AA:Option Addr} {N0 C0 N9 C9 NA CA:Nat} {B:Zone} {x1:d_} {x2:Int} {x3:Val} {res:(List UInt8)} {w0:World} (hm:f x1 x2 x3=some res) (hBw:B≤w0.z) (p1_0:repS w0 B (sl A0 N0 C0) x1.rules) (p2_0:inI x2) (p3_0:inI x3.number) (p3_1:repS w0 B (sl A9 N9 C9) x3.bytes) (p3_2:repS w0 B (sl AA NA CA) x3.items),o_ prog 54 [(.agg #[sl A0 N0 C0]),vI x2,(.agg #[vI x3.number,sl A9 N9 C9,sl AA NA CA])] w0<|Q11 w0 B res
abbrev k_c (n:Nat):Prop:=i_e (c_W n).spec_l11Print
theorem T_w0a (gS:k_c n):i_e (e_M n<|c_W n):=by
 constructor
 intro A0 A9 AA N0 C0 N9 C9 NA CA B x1 x2 x3 res w0 hm hBw p1_0 p2_0 p3_0 p3_1 p3_2;unfold e_M at hm
 refine goF func54 z z (lb z) fun fn hr=>Ws<|E z (fb z) ?_
 rintro _ wm ⟨rfl,bN⟩;have I:=bN.below;have ho:Blk wm w0.z [sl A0 N0 C0]:=bN.blk;refine E z (fb z) ?_;rintro _ wa ⟨rfl,bO⟩;have h4:=bO.below;have h5:Blk wa wm.z [vI x3.number,sl A9 N9 C9,sl AA NA CA]:=bO.blk;refine Ra z<|Wn<|Ws<|R z (fd X_ z) ?_
 have a1:=ho.e h4;refine R z (l1 a_0 z fid<|a1.at z)<|Rm z ?_
 obtain ⟨a6,gT,dF⟩:=bdS hm;have hn:=(I.ag B).e h4;refine RX z (at_ (α:=g_) a_1 p_ z z z (p1_0.g hn) gT) ?_;rintro _ ⟨_,_,_,rfl,gU,gV,_⟩;obtain ⟨a7,a8,a9,aa,ab,ad,ae,af,ai,ak,al,am,rfl,bP,bQ,bR,a2,bS,bT,a3⟩:=a_z gV;refine R z (lN (vs:=vR a6 a7 a8 a9 aa ab ad ae af ai ak al am) J_ p_ z z fid gU)<|E z (fa b_i) ?_
 rintro _ gW ⟨rfl,bU⟩;have h1:=bU.below;have a4:Blk gW wa.z [(Str.v (⟨[]⟩:Str)),vI 0,vI 0,vB false,sl none 0 0,sl none 0 0,sl none 0 0,sl none 0 0]:=bU.blk;refine E0 (fs (cur':=vR a6 a7 a8 a9 aa ab ad ae af ai ak al am) p_ z z a4 z (lb z) (oA z) z) ?_;rintro _ H ⟨bV,gX⟩;have G:=gX.one;refine Wn<|Ws<|E z (f0 (α:=UInt8) R_) ?_
 rintro _ wc ⟨gY,gZ,h2,rfl,s3,h3⟩;refine Ra z<|Wn<|Wq<|Ws<|Ra z<|Wn ?_
 obtain ⟨_,dG,bx⟩:=bdS dF;refine Wf (σ:=List UInt8) (ρ:=List UInt8) (fun (bW:Nat) (L:List UInt8) a w=>∃ ah ng ci S2,Sat 169 [(3,pt w0.z),(5,pt wm.z),(7,pt wa.z),(8,sl ah ng ci),(9,vI ((bW:Nat):Int))] a∧Chg (· ∈ [H.z]) wc w∧a_ w S2 (sl ah ng ci) L∧S2.Nodup∧(∀ k∈S2,k∈[H.z]∨wc.z≤k)) (fun (L:List UInt8) a w=>∃ ah ng ci S2,Sat 169 [(3,pt w0.z),(5,pt wm.z),(7,pt wa.z),(8,sl ah ng ci)] a∧Chg (· ∈ [H.z]) wc w∧a_ w S2 (sl ah ng ci) L∧S2.Nodup∧(∀ k∈S2,k∈[H.z]∨wc.z≤k)) (fun r ex a w=>ex = .ret∧L_ prog fn (Q11 w0 B r) a w) dG ?_ ?_ ?_ ?_ ?_
 ·exact fun _ q=>⟨gY,gZ,h2,[H.z],q.k<|s5 z z z z z,cr [H.z] wc,h3,a_h,io sr⟩
 ·rintro bW L _ h6 _ aw ⟨ah,ng,ci,S2,dH,ss,hd,hw,he⟩ dI;refine Wu ?_ dH;refine Wq<|Ws<|Rm z<|R z (fd a_j z) ?_
  have bX:=(((h5.e h1).c G<|djs<|mmr h5.lt).e s3).c ss<|djs<|mm1 h5.lt<|lt_ h1.s G.s
  refine R z (l1 a_E z fid<|bX.at z) ?_;have bY:=lt_ I.s h4.s;have bZ : ∀ k∈[wa.z],¬ B k:=or0 (b_ lr)  (m_<|zt' hBw bY);have c0:=lt_ (lt_ bY h1.s) G.s;have c1 : ∀ k∈[H.z],¬ B k:=or0 (b_ lr)  (m_<|zt' hBw c0);have c2:=(((hn.e h1).c G<|c_ bZ).e s3).c ss<|c_ c1
  refine R z (lnR a_U z<|p3_2.g c2)<|R z (lss z z)<|Wn<|Wc z (fun _=>?_) (fun hc=>(a_3 aw hc).elim)
  refine Wk<|Wq<|Wb (Wd (X:=noX) 8192 (.rd 0<|.rd 1<|.rd 2<|.rd 3<|.rd 4<|.rd 5<|.rd 7<|.rd 8<|.rd 9<|.rd 10<|.rd 11<|.ef 6<|.ef 12<|.ef 13<|.rd 14 .done) mo (by kernel_rfl) fun h7 sp _=>dR z z (mv z) ?_)
  refine dR z z (lN (vs:=[sl A0 N0 C0]) y_ t_ z z fid<|(((((a1.e h1).c G<|djs<|mm1 ho.lt h4.s).e s3).c ss<|djs<|mm1 ho.lt<|lt_ (lt_ h4.s h1.s) G.s).e sp).row 0 1 z)<|dR z z (lN (vs:=vR a6 a7 a8 a9 aa ab ad ae af ai ak al am) J_ p_ z z fid<|(((bV.e s3).c ss<|djs<|mm1 a4.lt G.s).e sp).row 0 8 z)<|dR z z (fd b_c z) ?_
  have c3:=bX.e sp;refine dR z z (l1 g_3 z fid<|c3.at z)<|dR z z (mv z)<|dR z z (fd a_j z)<|dR z z (l1 a_E z fid<|c3.at z)<|dR z z (mv z) ?_
  obtain ⟨h9,ha,dJ⟩:=bdS dI;have c4:=c2.e sp;refine dRX z z (at_ (α:=Val) a_U i_ z z z (p3_2.g c4) ha) ?_;rintro _ ⟨_,_,_,rfl,hb,hf,_⟩;obtain ⟨hg,hh,hi,hj,hk,hl,rfl,hp,hq,hu⟩:=j_p hf;refine dR z z (lN (vs:=[vI h9.number,sl hg hh hi,sl hj hk hl]) u_ i_ z z fid hb) ?_;have an:=((((h1.ag B).c G<|c_ bZ).e s3).c ss<|c_ c1).e sp;have c5:=lt_ (lt_ (lt_ c0 s3.s) ss.s) sp.s;obtain ⟨_,hv,dK⟩:=bdS dJ;refine dE z z (fc call109 z<|d_A (B:=B) hv (zt' hBw c5) bP bQ bR (a2.g an) (bS.g an) (bT.g an) (a3.g an) p3_0<|ic (Nat.le_of_lt aw)<|lt_ (repS.len p3_2) M_) (.inr fun _ _ h=>v_<|h.1) ?_;rintro _ hx ⟨sx,rfl,hy⟩;obtain ⟨_,hA,dL⟩:=bdS dK;refine dE z z (fc call54 z<|gS.run (B:=B) hA (zt' hBw<|lt_ c5 sx.s) (p1_0.g<|c4.e sx) hy hp (hq.e sx)<|hu.e sx) (.inr fun _ _ h=>v_<|h.1) ?_;rintro _ hB ⟨aH,_,_,_,_,rfl,hC,_,_⟩;obtain ⟨hD,hE,dM⟩:=bdS dL;refine dE z z (fN (α:=UInt8) R_ hE z z (((hd.e sp).e sx).e aH) hw<|a_.rep hC) (.inl z) ?_;rintro _ hF ⟨c6,hG,hH,hI,rfl,hJ,hK,hL,hM⟩;refine dR z z (asg z)<|pD<|Wo<|Wg<|Rm z<|R z (inc_ aw (lt_ (repS.len p3_2) M_) z z)<|Ra z<|Wl ?_
  have c7 : ∀ k∈S2,k∈[H.z]∨wc.z≤k:=or1 he (io sr)<|z_ lr;exact fun _ q=>⟨hD,(som dM).symm,⟨hG,hH,hI,c6,q.k<|s5 z z z z z,(cM (f_ (f_ (f_ (cM (cr [H.z] wc) ss (io sr):Chg (· ∈ [H.z]) wc h6) sp:Chg (· ∈ [H.z]) wc h7) sx:Chg (· ∈ [H.z]) wc hx) aH:Chg (· ∈ [H.z]) wc hB) hJ c7:Chg (· ∈ [H.z]) wc hF),hK,hL,(or1 hM c7 (z_<|lt_ (lt_ (lt_ ss.s sp.s) sx.s) aH.s) : ∀ k∈c6,k∈[H.z]∨wc.z≤k)⟩⟩
 ·rintro L _ hN ⟨ah,ng,ci,S2,dN,aI,hd,hw,he⟩;refine Wu ?_ dN;refine Wq<|Ws<|Rm z<|R z (fd a_j z)<|R z (l1 a_E z fid<|((((h5.e h1).c G<|djs<|mmr h5.lt).e s3).c aI<|djs<|mm1 h5.lt<|lt_ h1.s G.s).at z) ?_
  have c8:=lt_ I.s h4.s;refine R z (lnR a_U z<|p3_2.g<|(((hn.e h1).c G<|c_ (or0 (b_ lr)  (m_<|zt' hBw c8) : ∀ k∈[wa.z],¬ B k)).e s3).c aI<|c_ (or0 (b_ lr)  (m_<|zt' hBw<|lt_ (lt_ c8 h1.s) G.s) : ∀ k∈[H.z],¬ B k))<|R z (lss z z)<|Wn<|Wc z (fun hc=>(a_4 hc).elim) (fun _=>?_)
  exact We<|fun a' ha'=>⟨rfl,⟨ah,ng,ci,S2,Sat.weaken ha'<|s4 z z z z,(cM (cr [H.z] wc) aI (io sr):Chg (· ∈ [H.z]) wc hN),hd,hw,(or1 he (io sr) (z_ lr) : ∀ k∈S2,k∈[H.z]∨wc.z≤k)⟩⟩
 ·rintro L hO wb rfl ⟨ah,ng,ci,S2,_,s6,hd,hw,he⟩;have bz:=elL bx;revert hO;refine Wo<|Wq<|Ws<|R z (fd a_x z) ?_
  have aJ:=mm1 a4.lt G.s;have ht:=(bV.e s3).c s6<|djs aJ
  refine R z (l1 g_3 z fid<|ht.at z)<|Wn<|Wb<|Ws<|R z (eql z z)<|Ra z<|Wn<|Wc z (fun ax=>?_) (fun ax=>?_)
  ·refine Ws<|R z (lN (vs:=vR a6 a7 a8 a9 aa ab ad ae af ai ak al am) J_ p_ z z fid<|ht.row 0 8 z)<|R z (fd b_c z)<|R z (l1 g_3 z fid<|((((h5.e h1).c G<|djs<|mmr h5.lt).e s3).c s6<|djs<|mm1 h5.lt<|lt_ h1.s G.s).at z) ?_
   have aK:=lt_ I.s h4.s;have aL:=lt_ (lt_ aK h1.s) G.s;have ao:=(((h1.ag B).c G<|c_ (or0 (b_ lr)  (m_<|zt' hBw aK) : ∀ k∈[wa.z],¬ B k)).e s3).c s6<|c_ (or0 (b_ lr)  (m_<|zt' hBw aL) : ∀ k∈[H.z],¬ B k)
   have c9:=lt_ (lt_ aL s3.s) s6.s;obtain ⟨_,hP,dO⟩:=bdS<|ifT bz ax;refine E z (fc call110 z<|g_B (B:=B) hP (zt' hBw c9) bP bQ bR (a2.g ao) (bS.g ao) (bT.g ao) (a3.g ao) p3_0) ?_;rintro _ _ ⟨hQ,hR,hS,hT,hU,rfl,hV,hW,hX⟩;refine Ra z<|Wn ?_
   obtain rfl:=som dO;exact Wr<|rtO<|h_ hr z ⟨bup (bM (bup (bM (bup (bup I h4) h1) G<|m1 aK) s3) s6<|m1 aL) hQ,hR,hS,hT,hU,z,hV,hW,l_ hX c9⟩
  have bA:=ifF bz ax;refine Ws<|R z (eql z z)<|Ra z<|Wn<|Wc z (fun ay=>?_) (fun ay=>?_)
  ·refine Ws<|E z (f0 (α:=UInt8) R_) ?_
   rintro _ _ ⟨_,_,_,rfl,ap,hY⟩;refine R z (fd a_K z)<|R z (l1 Q_ z fid<|(ht.e ap).at z) ?_
   obtain ⟨_,hZ,dP⟩:=bdS<|ifT bA ay;have aM:=lt_ I.s h4.s;have aN:=lt_ (lt_ aM h1.s) G.s;refine E z (fN (α:=UInt8) R_ hZ z z hY a_h<|a2.g<|((((h1.ag B).c G<|c_ (or0 (b_ lr)  (m_<|zt' hBw aM) : ∀ k∈[wa.z],¬ B k)).e s3).c s6<|c_ (or0 (b_ lr)  (m_<|zt' hBw aN) : ∀ k∈[H.z],¬ B k)).e ap) ?_;rintro _ _ ⟨i0,i1,i2,i3,rfl,i4,i5,i6,i7⟩;refine Ra z<|Wn ?_
   obtain rfl:=som dP;have ca:=lt_ (lt_ aN s3.s) s6.s;have cb:=m1 ca;exact Wr<|rtO<|h_ hr z ⟨bM (bup (bM (bup (bM (bup (bup I h4) h1) G<|m1 aM) s3) s6<|m1 aN) ap) i4 cb,i1,i2,i3,i0,z,i5,i6,a_2 i7 cb<|lt_ ca ap.s⟩
  have bB:=ifF bA ay;refine Ws<|R z (eql z z)<|Ra z<|Wn<|Wc z (fun az=>?_) (fun az=>?_)
  ·refine Wq<|Wd (X:=noX) 16384 (.rd 0<|.rd 1<|.rd 2<|.rd 3<|.rd 4<|.rd 5<|.rd 6<|.rd 7<|.rd 8<|.rd 9<|.rd 10<|.rd 12<|.rd 13<|.ef 11<|.ef 14<|.rd 15 .done) mo (by kernel_rfl) fun iW sy _=>dR z z (fd X_ z) ?_;refine dR z z (l1 a_0 z fid<|(((((a1.e h1).c G<|djs<|mm1 ho.lt h4.s).e s3).c s6<|djs<|mm1 ho.lt<|lt_ (lt_ h4.s h1.s) G.s).e sy).at z)<|dR z z (fd K_ z)<|dR z z (l1 B_ z fid<|(ht.e sy).at z) ?_
   obtain ⟨_,i8,dQ⟩:=bdS<|ifT bB az;have aO:=lt_ I.s h4.s;have cc : ∀ k∈[wa.z],¬ B k:=or0 (b_ lr)  (m_<|zt' hBw aO);have aP:=lt_ (lt_ aO h1.s) G.s;have cd : ∀ k∈[H.z],¬ B k:=or0 (b_ lr)  (m_<|zt' hBw aP);refine dRX z z (at_ (α:=Int) w_ z_3 z z z (a3.g<|((((h1.ag B).c G<|c_ cc).e s3).c s6<|c_ cd).e sy) i8) ?_;rintro _ ⟨_,_,_,rfl,i9,ia,_⟩;obtain ⟨rfl,_⟩:=O_ ia;refine dR z z (l1 g_3 z fid<|i9.at0 z) ?_;obtain ⟨ib,id,dS⟩:=bdS dQ;have aQ:=((((hn.e h1).c G<|c_ cc).e s3).c s6<|c_ cd).e sy;refine dRX z z (at_ (α:=g_) a_1 p_ z z z (p1_0.g aQ) id) ?_;rintro _ ⟨_,_,_,rfl,ie,ig,_⟩;obtain ⟨ih,ij,ik,il,im,ip,iq,ir,it,iu,iv,iw,rfl,ix,iy,iz,iA,iB,iC,iD⟩:=a_z ig;refine dR z z (lN (vs:=vR ib ih ij ik il im ip iq ir it iu iv iw) J_ p_ z z fid ie)<|dR z z (fd a_T z) ?_
   have ce:=((((h5.e h1).c G<|djs<|mmr h5.lt).e s3).c s6<|djs<|mm1 h5.lt<|lt_ h1.s G.s).e sy;refine dR z z (l1 Q_ z fid<|ce.at z) ?_;have cf:=p3_1.g aQ;refine dR z z (lnR n_ z cf)<|dR z z (fd a_T z)<|dR z z (l1 Q_ z fid<|ce.at z) ?_
   have aR:=lt_ (lt_ (lt_ aP s3.s) s6.s) sy.s;obtain ⟨_,iE,dT⟩:=bdS dS;refine dE z z (fc call110 z<|g_B (B:=B) iE (zt' hBw aR) ix iy iz iA iB iC iD<|a_M<|repS.len cf) (.inr fun _ _ h=>v_<|h.1) ?_;rintro _ _ ⟨aS,_,_,_,_,rfl,iF,iG,iH⟩;obtain ⟨_,iI,dU⟩:=bdS dT;refine dE z z (fN (α:=UInt8) R_ iI z z iF iG<|p3_1.g<|aQ.e aS) (.inl z) ?_;rintro _ _ ⟨iJ,iK,iL,iM,rfl,iN,iO,iP,iQ⟩;refine dR z z (asg z)<|pD<|Wo ?_
   obtain rfl:=som dU;have cg:=l_ iH aR;exact Wr<|rtO<|h_ hr z ⟨bM (bup (bup (bM (bup (bM (bup (bup I h4) h1) G<|m1 aO) s3) s6<|m1 aP) sy) aS) iN cg,iK,iL,iM,iJ,z,iO,iP,a_2 iQ cg<|lt_ aR aS.s⟩
  have bC:=ifF bB az;refine Ws<|R z (eql z z)<|Ra z<|Wn<|Wc z (fun aA=>?_) (fun aA=>?_)
  ·refine Wq<|Wd (X:=noX) 8192 (.rd 0<|.rd 1<|.rd 2<|.rd 3<|.rd 4<|.rd 5<|.rd 6<|.rd 7<|.rd 8<|.rd 9<|.rd 10<|.rd 12<|.ef 11<|.ef 13<|.rd 14 .done) mo (by kernel_rfl) fun iX su _=>dR z z (fd X_ z) ?_;refine dR z z (l1 a_0 z fid<|(((((a1.e h1).c G<|djs<|mm1 ho.lt h4.s).e s3).c s6<|djs<|mm1 ho.lt<|lt_ (lt_ h4.s h1.s) G.s).e su).at z)<|dR z z (fd K_ z)<|dR z z (l1 B_ z fid<|(ht.e su).at z) ?_
   obtain ⟨_,iR,dV⟩:=bdS<|ifT bC aA;have aT:=lt_ I.s h4.s;have ch : ∀ k∈[wa.z],¬ B k:=or0 (b_ lr)  (m_<|zt' hBw aT);have aU:=lt_ (lt_ aT h1.s) G.s;have cj : ∀ k∈[H.z],¬ B k:=or0 (b_ lr)  (m_<|zt' hBw aU);refine dRX z z (at_ (α:=Int) w_ z_3 z z z (a3.g<|((((h1.ag B).c G<|c_ ch).e s3).c s6<|c_ cj).e su) iR) ?_;rintro _ ⟨_,_,_,rfl,iS,iT,_⟩;obtain ⟨rfl,_⟩:=O_ iT;refine dR z z (l1 g_3 z fid<|iS.at0 z) ?_;obtain ⟨iU,iV,dW⟩:=bdS dV;have ck:=((((hn.e h1).c G<|c_ ch).e s3).c s6<|c_ cj).e su;refine dRX z z (at_ (α:=g_) a_1 p_ z z z (p1_0.g ck) iV) ?_;rintro _ ⟨_,_,_,rfl,dX,dY,_⟩;obtain ⟨dZ,e0,e1,e2,e3,e4,e5,e6,e7,e8,e9,ea,rfl,eb,ec,ed,ee,eg,eh,ei⟩:=a_z dY;refine dR z z (lN (vs:=vR iU dZ e0 e1 e2 e3 e4 e5 e6 e7 e8 e9 ea) J_ p_ z z fid dX)<|dR z z (fd a_j z)<|dR z z (l1 a_E z fid<|(((((h5.e h1).c G<|djs<|mmr h5.lt).e s3).c s6<|djs<|mm1 h5.lt<|lt_ h1.s G.s).e su).at z) ?_
   have cm:=p3_2.g ck;refine dR z z (lnR a_U z cm)<|dR z z (mv z) ?_
   have aV:=lt_ (lt_ (lt_ aU s3.s) s6.s) su.s;obtain ⟨_,ej,da⟩:=bdS dW;refine dE z z (fc call110 z<|g_B (B:=B) ej (zt' hBw aV) eb ec ed ee eg eh ei<|a_M<|repS.len cm) (.inr fun _ _ h=>v_<|h.1) ?_;rintro _ _ ⟨aW,_,_,_,_,rfl,ek,em,en⟩;obtain ⟨_,eo,db⟩:=bdS da;refine dE z z (fN (α:=UInt8) R_ eo z z ek em<|or_ ((hd.e su).e aW)<|a_.lt hd) (.inl z) ?_;rintro _ _ ⟨ep,er,es,eu,rfl,ew,ey,ez,eA⟩;refine dR z z (asg z)<|pD<|Wo ?_
   obtain rfl:=som db;have cn:=l_ en aV;exact Wr<|rtO<|h_ hr z ⟨bM (bup (bup (bM (bup (bM (bup (bup I h4) h1) G<|m1 aT) s3) s6<|m1 aU) su) aW) ew cn,er,es,eu,ep,z,ey,ez,a_2 eA cn<|lt_ aV aW.s⟩
  have bD:=ifF bC aA;refine Ws<|R z (eql z z)<|Ra z<|Wn<|Wc z (fun aB=>?_) (fun aB=>?_)
  ·refine Wq<|Wd (X:=noX) 4096 (.rd 0<|.rd 1<|.rd 2<|.rd 3<|.rd 4<|.rd 5<|.rd 6<|.rd 7<|.rd 8<|.rd 9<|.rd 11<|.ef 10<|.ef 12<|.rd 13 .done) mo (by kernel_rfl) fun iY sv _=>dR z z (fd X_ z) ?_;refine dR z z (l1 a_0 z fid<|(((((a1.e h1).c G<|djs<|mm1 ho.lt h4.s).e s3).c s6<|djs<|mm1 ho.lt<|lt_ (lt_ h4.s h1.s) G.s).e sv).at z)<|dR z z (fd K_ z)<|dR z z (l1 B_ z fid<|(ht.e sv).at z) ?_
   obtain ⟨_,eB,dc⟩:=bdS<|ifT bD aB;have aX:=lt_ I.s h4.s;have co : ∀ k∈[wa.z],¬ B k:=or0 (b_ lr)  (m_<|zt' hBw aX);have aY:=lt_ (lt_ aX h1.s) G.s;have cp : ∀ k∈[H.z],¬ B k:=or0 (b_ lr)  (m_<|zt' hBw aY);refine dRX z z (at_ (α:=Int) w_ z_3 z z z (a3.g<|((((h1.ag B).c G<|c_ co).e s3).c s6<|c_ cp).e sv) eB) ?_;rintro _ ⟨_,_,_,rfl,eC,eD,_⟩;obtain ⟨rfl,_⟩:=O_ eD;refine dR z z (l1 g_3 z fid<|eC.at0 z) ?_;obtain ⟨eE,eF,dd⟩:=bdS dc;refine dRX z z (at_ (α:=g_) a_1 p_ z z z (p1_0.g<|((((hn.e h1).c G<|c_ co).e s3).c s6<|c_ cp).e sv) eF) ?_;rintro _ ⟨_,_,_,rfl,eG,eH,_⟩;obtain ⟨eI,eJ,eK,eL,eM,eN,eO,eP,eQ,eR,eS,eT,rfl,eU,eV,eW,eX,eY,eZ,f1⟩:=a_z eH;refine dR z z (lN (vs:=vR eE eI eJ eK eL eM eN eO eP eQ eR eS eT) J_ p_ z z fid eG)<|dR z z (fd b_c z)<|dR z z (l1 g_3 z fid<|(((((h5.e h1).c G<|djs<|mmr h5.lt).e s3).c s6<|djs<|mm1 h5.lt<|lt_ h1.s G.s).e sv).at z)<|dR z z (mv z) ?_
   have aZ:=lt_ (lt_ (lt_ aY s3.s) s6.s) sv.s;obtain ⟨_,f2,de⟩:=bdS dd;refine dE z z (fc call110 z<|g_B (B:=B) f2 (zt' hBw aZ) eU eV eW eX eY eZ f1 p3_0) (.inr fun _ _ h=>v_<|h.1) ?_;rintro _ _ ⟨b0,_,_,_,_,rfl,f3,f4,f5⟩;obtain ⟨_,f6,df⟩:=bdS de;refine dE z z (fN (α:=UInt8) R_ f6 z z f3 f4<|or_ ((hd.e sv).e b0)<|a_.lt hd) (.inl z) ?_;rintro _ _ ⟨f7,f8,f9,fe,rfl,ff,fg,fh,fi⟩;refine dR z z (asg z)<|pD<|Wo ?_
   obtain rfl:=som df;have cq:=l_ f5 aZ;exact Wr<|rtO<|h_ hr z ⟨bM (bup (bup (bM (bup (bM (bup (bup I h4) h1) G<|m1 aX) s3) s6<|m1 aY) sv) b0) ff cq,f8,f9,fe,f7,z,fg,fh,a_2 fi cq<|lt_ aZ b0.s⟩
  have bE:=ifF bD aB;refine Ws<|R z (eql z z)<|Ra z<|Wn<|Wc z (fun aC=>?_) (fun aC=>?_)
  ·refine Ws<|R z (fd a_j z)<|R z (l1 a_E z fid<|((((h5.e h1).c G<|djs<|mmr h5.lt).e s3).c s6<|djs<|mm1 h5.lt<|lt_ h1.s G.s).at z) ?_
   have b1:=lt_ I.s h4.s;have b2:=lt_ (lt_ b1 h1.s) G.s;refine R z (lnR a_U z<|p3_2.g<|(((hn.e h1).c G<|c_ (or0 (b_ lr)  (m_<|zt' hBw b1) : ∀ k∈[wa.z],¬ B k)).e s3).c s6<|c_ (or0 (b_ lr)  (m_<|zt' hBw b2) : ∀ k∈[H.z],¬ B k))<|R z (d_t d_3 d_5 z)<|E z (fS [(.tmp 105)] R_ z z z (a_d z) (lb z)<|lb z) ?_
   rintro _ fj ⟨rfl,b3⟩;have b4:=b3.below;have iZ:Blk fj wb.z [(vU<|byteI<|mkB (x3.items.length:Int))]:=b3.blk;refine Rm z ?_;obtain ⟨_,fk,dg⟩:=bdS<|ifT bE aC;refine E z (fN (α:=UInt8) R_ fk z z (a_D b3 b_0) a_h<|or_ (hd.e b4)<|a_.lt hd) ?_;rintro _ _ ⟨fl,fm,fo,fp,rfl,fq,fr,ft,fu⟩;refine Ra z<|Wn ?_
   obtain rfl:=som dg;have ct:=lt_ (lt_ b2 s3.s) s6.s;have cu:=m1 ct;exact Wr<|rtO<|h_ hr z ⟨bM (bup (bM (bup (bM (bup (bup I h4) h1) G<|m1 b1) s3) s6<|m1 b2) b4) fq cu,fm,fo,fp,fl,z,fr,ft,a_2 fu cu<|lt_ ct b4.s⟩
  have bF:=ifF bE aC;refine Ws<|R z (eql z z)<|Ra z<|Wn<|Wc z (fun aD=>?_) (fun aD=>?_)
  ·refine Ws<|Rm z<|Rm z ?_
   obtain ⟨fv,fw,dh⟩:=bdS<|ifT bF aD;refine E z (fc call111 z<|W_w17 (B:=wb.z) fw zr<|a_.rep hd) ?_;rintro _ fx ⟨b5,rfl,_⟩;refine R z (d_t d_3 d_5 z)<|E z (fS [(.tmp 114)] R_ z z z (a_d z) (lb z)<|lb z) ?_
   rintro _ fy ⟨rfl,b6⟩;have b7:=b6.below;have j0:=a_D b6 b_0;obtain ⟨_,fz,di⟩:=bdS dh;refine E z (a_Q (α:=UInt8) R_ fz z z ((hd.e b5).e b7) hw (b6.blk:Blk fy fx.z [(vU<|byteI<|mkB fv)]) b_0 an_ H_) ?_;rintro _ _ ⟨cv,fA,fB,fC,rfl,fD,fE,fF,fG⟩;refine Ra z<|Wn ?_
   obtain rfl:=som di;have cw:=lt_ I.s h4.s;have cx:=lt_ (lt_ cw h1.s) G.s;have cy:=m1 cx;have cz:=lt_ cx s3.s;have cA:=a_2 he cy cz;exact Wr<|rtO<|h_ hr z ⟨bM (bup (bup (bM (bup (bM (bup (bup I h4) h1) G<|m1 cw) s3) s6 cy) b5) b7) fD cA,fA,fB,fC,cv,z,fE,fF,(or2 fG cA an_ (b_7<|lt_ (lt_ (lt_ cz s6.s) b5.s) b7.s) : ∀ k∈cv,w0.z≤k)⟩
  have bG:=ifF bF aD;refine Ws<|R z (eql z z)<|Ra z<|Wn<|Wc z (fun aE=>?_) (fun aE=>?_)
  ·refine Wq<|Ws<|Ra z<|Wn ?_
   obtain ⟨_,dj,bH⟩:=bdS<|ifT bG aE;refine Wf (σ:=List UInt8) (ρ:=List UInt8) (fun (aq:Nat) (xr:List UInt8) a w=>∃ aj nk cl J,Sat 169 [(5,pt wm.z),(7,pt wa.z),(8,sl aj nk cl),(10,vI ((aq:Nat):Int))] a∧Chg (· ∈ S2) wb w∧a_ w J (sl aj nk cl) xr∧J.Nodup∧(∀ k∈J,k∈S2∨wb.z≤k)) (fun (xr:List UInt8) a w=>∃ aj nk cl J,Sat 169 [(7,pt wa.z),(8,sl aj nk cl)] a∧Chg (· ∈ S2) wb w∧a_ w J (sl aj nk cl) xr∧J.Nodup∧(∀ k∈J,k∈S2∨wb.z≤k)) (fun r ex a w=>ex = .ret∧L_ prog fn (Q11 w0 B r) a w) dj ?_ ?_ ?_ ?_ ?_
   ·exact fun _ q=>⟨ah,ng,ci,S2,q.k<|s4 z z z z,cr S2 wb,hd,hw,io sr⟩
   ·rintro aq xr _ b8 _ bI ⟨aj,nk,cl,J,dk,O,V,W,hz⟩ dl;refine Wu ?_ dk;refine Wq<|Ws<|Rm z<|R z (fd a_T z) ?_
    have cB:=lt_ h1.s G.s;have cC:=mm1 h5.lt cB;have cD:=lt_ cB s3.s;have cE : ∀ k∈S2,k∉[wm.z]:=or1 he cC<|P_ (b_ h5.lt) cD;have b9:=((((h5.e h1).c G<|djs<|mmr h5.lt).e s3).c s6<|djs cC).c O<|djs cE
    refine R z (l1 Q_ z fid<|b9.at z) ?_;have cF:=lt_ I.s h4.s;have cG : ∀ k∈[wa.z],¬ B k:=or0 (b_ lr)  (m_<|zt' hBw cF);have cH:=lt_ (lt_ cF h1.s) G.s;have ba : ∀ k∈[H.z],¬ B k:=or0 (b_ lr)  (m_<|zt' hBw cH);have cI:=lt_ cH s3.s;have bb : ∀ k∈S2,¬ B k:=or1 he ba<|m_<|zt' hBw cI;have bc:=((((hn.e h1).c G<|c_ cG).e s3).c s6<|c_ ba).c O<|c_ bb
    refine R z (lnR n_ z<|p3_1.g bc)<|R z (lss z z)<|Wn<|Wc z (fun _=>?_) (fun hc=>(a_3 bI hc).elim)
    refine Wk<|Wq<|Wb<|Wq<|Wq ?_
    obtain ⟨fH,dm,dn⟩:=bdS dl;refine Wt (fun a w=>∃ (be:Bool),be=fH∧Sat 169 [(5,pt wm.z),(7,pt wa.z),(8,sl aj nk cl),(10,vI ((aq:Nat):Int)),(143,vB be)] a∧Below b8.z b8 w) ?_ ?_
    ·refine Wd (X:=noX) 0 (.rd 0<|.rd 1<|.rd 2<|.rd 3<|.rd 4<|.rd 5<|.rd 6<|.rd 7<|.rd 8<|.rd 9<|.rd 10<|.rd 11<|.rd 12<|.rd 13<|.rd 14<|.rd 15<|.rd 16<|.rd 17 .done) mo (by kernel_rfl) fun j1 Y _=>dR z z (fd a_T z) ?_
     have cJ:=b9.e Y;refine dR z z (l1 Q_ z fid<|cJ.at z)<|dR z z (mv z) ?_
     obtain ⟨fI,fJ,dp⟩:=bdS dm;have cK:=p3_1.g<|bc.e Y
     refine dRX z z (at_ (α:=UInt8) n_ z_5 z z z cK fJ) ?_;rintro _ ⟨_,_,_,rfl,fK,fL,_⟩;obtain rfl:=u8 fL;refine dR z z (l1 g_5 z fid<|fK.at0 z)<|dR z z (fd a_K z) ?_
     refine dR z z (l1 Q_ z fid<|((ht.c O<|djs (or1 he aJ (P_ (b_ a4.lt)<|lt_ G.s s3.s) : ∀ k∈S2,k∉[wa.z])).e Y).at z) ?_;obtain ⟨fM,fO,bJ⟩:=bdS dp;refine dRX z z (at_ (α:=UInt8) n_ z_5 z z z (a2.g<|(((((h1.ag B).c G<|c_ cG).e s3).c s6<|c_ ba).c O<|c_ bb).e Y) fO) ?_;rintro _ ⟨_,_,_,rfl,fP,fQ,_⟩;obtain rfl:=u8 fQ;refine dR z z (l1 g_5 z fid<|fP.at0 z)<|dR z z (eql z z)<|dR z z (mv z) ?_
     rcases bs ((byteI fI)==(byteI fM)) with hcf | hcf
     ·iterate 6 refine dRn z z z hcf z ?_
      exact dR z z (pT z hcf z)<|pD (fun _ q=>⟨true,som<|ifT bJ hcf,q.k<|s5 z z z z z,Y⟩)
     refine dRg z z z hcf z (fd a_T z)<|dRg z z z hcf z (l1 Q_ z fid<|cJ.at z)<|dRg z z z hcf z (mv z) ?_
     obtain ⟨fR,fT,dq⟩:=bdS<|ifF bJ hcf;refine b_K z z z hcf z (at_ (α:=UInt8) n_ z_5 z z z cK fT) ?_;rintro _ ⟨_,_,_,rfl,fU,fV,_⟩;obtain rfl:=u8 fV;exact dRg z z z hcf z (l1 g_5 z fid<|fU.at0 z)<|dRg z z z hcf z (eql z z)<|dR z z (pF z hcf z)<|pD (fun _ q=>⟨(byteI fR)==(byteI (92:UInt8)),som dq,q.k<|s5 z z z z z,Y⟩)
    rintro fW wq ⟨be,rfl,_,a0⟩;revert fW;refine Wo ?_;obtain ⟨fX,bK,dr⟩:=bdS dn;refine Wt (fun a w=>∃ (bf:List UInt8),bf=fX ∧ ∃ bg bh bi a5,Sat 169 [(5,pt wm.z),(7,pt wa.z),(8,sl bg bh bi),(10,vI ((aq:Nat):Int))] a∧Chg (· ∈ J) wq w∧a_ w a5 (sl bg bh bi) bf∧a5.Nodup∧(∀ k∈a5,k∈J∨wq.z≤k)) ?_ ?_
    ·refine Wc z (fun aF=>?_)<|fun aF=>?_
     ·refine Wg<|Rm z<|E z (fS [(.const<|.int .u8 92)] R_ z z z (a_d z) (lb z)<|lb z) ?_
      rintro _ cL ⟨rfl,bj⟩;have bk:=bj.below;have j2:=a_D bj<|j_L (x:=(92:UInt8)) z
      obtain ⟨fY,fZ,ds⟩:=bdS<|ifT bK aF;refine E z (a_Q (α:=UInt8) R_ fZ z z ((V.e a0).e bk) W (bj.blk:Blk cL wq.z [(vU<|byteI (92:UInt8))]) (j_L (x:=(92:UInt8)) z) an_ H_) ?_;rintro _ g0 ⟨cN,g1,g2,g3,rfl,g4,g5,g6,g7⟩;refine Ra z<|Wl ?_
      exact fun _ q=>⟨fY,som ds,g1,g2,g3,cN,q.k<|s4 z z z z,(cM (f_ (cr J wq) bk:Chg (· ∈ J) wq cL) g4 (io sr):Chg (· ∈ J) wq g0),g5,g6,(or2 g7 (io sr) an_ (z_ bk.s) : ∀ k∈cN,k∈J∨wq.z≤k)⟩
     exact a_g<|fun _ q=>⟨xr,som<|ifF bK aF,aj,nk,cl,J,q.k<|s4 z z z z,cr J wq,V.e a0,W,io sr⟩
    rintro g8 cO ⟨bf,rfl,bg,bh,bi,a5,_,ar,g9,ga,gb⟩;revert g8;refine Wo<|Wg<|Rm z<|R z (fd a_T z) ?_
    refine R z (l1 Q_ z fid<|((b9.e a0).c ar<|djs (or1 hz cE (P_ (b_ h5.lt)<|lt_ cD s6.s) : ∀ k∈J,k∉[wm.z])).at z)<|Rm z ?_
    obtain ⟨gc,ge,dt⟩:=bdS dr;refine RX z (at_ (α:=UInt8) n_ z_5 z z z (p3_1.g<|(bc.e a0).c ar<|c_ (or1 hz bb (m_<|zt' hBw<|lt_ cI s6.s) : ∀ k∈J,¬ B k)) ge) ?_;rintro _ ⟨_,_,_,rfl,gf,gg,_⟩;obtain rfl:=u8 gg;refine R z (l1 g_5 z fid<|gf.at0 z)<|E z (fS [(.tmp 152)] R_ z z z (a_d z) (lb z)<|lb z) ?_
    rintro _ cP ⟨rfl,bm⟩;have bn:=bm.below;have j3:=a_D bm b_0;obtain ⟨gh,gi,du⟩:=bdS dt;refine E z (a_Q (α:=UInt8) R_ gi z z (g9.e bn) ga (bm.blk:Blk cP cO.z [vU (byteI gc)]) b_0 an_ H_) ?_;rintro _ gj ⟨cQ,gk,gl,gm,rfl,gn,gp,gq,gr⟩;refine Ra z<|Wn<|Wg<|Rm z<|R z (inc_ bI (lt_ (repS.len p3_1) M_) z z)<|Ra z<|Wl ?_
    have cR:=lt_ O.s a0.s;have cS : ∀ k∈J,k∈S2∨wb.z≤k:=or1 hz (io sr)<|z_ lr;have cT : ∀ k∈a5,k∈S2∨wb.z≤k:=or1 gb cS<|z_ cR;exact fun _ q=>⟨gh,(som du).symm,⟨gk,gl,gm,cQ,q.k<|s4 z z z z,(cM (f_ (cM (f_ (cM (cr S2 wb) O (io sr):Chg (· ∈ S2) wb b8) a0:Chg (· ∈ S2) wb wq) ar cS:Chg (· ∈ S2) wb cO) bn:Chg (· ∈ S2) wb cP) gn cT:Chg (· ∈ S2) wb gj),gp,gq,(or2 gr cT an_ (z_<|lt_ (lt_ cR ar.s) bn.s) : ∀ k∈cQ,k∈S2∨wb.z≤k)⟩⟩
   ·rintro xr _ gs ⟨aj,nk,cl,J,dv,bo,V,W,hz⟩;refine Wu ?_ dv;refine Wq<|Ws<|Rm z<|R z (fd a_T z) ?_
    have cU:=lt_ h1.s G.s;have cV:=mm1 h5.lt cU;refine R z (l1 Q_ z fid<|(((((h5.e h1).c G<|djs<|mmr h5.lt).e s3).c s6<|djs cV).c bo<|djs (or1 he cV (P_ (b_ h5.lt)<|lt_ cU s3.s) : ∀ k∈S2,k∉[wm.z])).at z) ?_;have cW:=lt_ I.s h4.s;have cX:=lt_ (lt_ cW h1.s) G.s;have cY : ∀ k∈[H.z],¬ B k:=or0 (b_ lr)  (m_<|zt' hBw cX);refine R z (lnR n_ z<|p3_1.g<|((((hn.e h1).c G<|c_ (or0 (b_ lr)  (m_<|zt' hBw cW) : ∀ k∈[wa.z],¬ B k)).e s3).c s6<|c_ cY).c bo<|c_ (or1 he cY (m_<|zt' hBw<|lt_ cX s3.s) : ∀ k∈S2,¬ B k))<|R z (lss z z)<|Wn<|Wc z (fun hc=>(a_4 hc).elim) (fun _=>?_)
    exact We<|fun a' ha'=>⟨rfl,⟨aj,nk,cl,J,Sat.weaken ha'<|s2 z z,(cM (cr S2 wb) bo (io sr):Chg (· ∈ S2) wb gs),V,W,(or1 hz (io sr) (z_ lr) : ∀ k∈J,k∈S2∨wb.z≤k)⟩⟩
   ·rintro xr gt gu rfl ⟨aj,nk,cl,J,_,au,V,W,hz⟩;have dw:=elL bH;revert gt;refine Wo<|Ws<|Rm z<|R z (fd a_K z) ?_
    refine R z (l1 Q_ z fid<|(ht.c au<|djs (or1 he aJ (P_ (b_ a4.lt)<|lt_ G.s s3.s) : ∀ k∈S2,k∉[wa.z])).at z) ?_;obtain ⟨gv,gw,dx⟩:=bdS dw;have bp:=lt_ I.s h4.s;have bq:=lt_ (lt_ bp h1.s) G.s;have cZ : ∀ k∈[H.z],¬ B k:=or0 (b_ lr)  (m_<|zt' hBw bq);have br:=lt_ bq s3.s;refine RX z (at_ (α:=UInt8) n_ z_5 z z z (a2.g<|((((h1.ag B).c G<|c_ (or0 (b_ lr)  (m_<|zt' hBw bp) : ∀ k∈[wa.z],¬ B k)).e s3).c s6<|c_ cZ).c au<|c_ (or1 he cZ (m_<|zt' hBw br) : ∀ k∈S2,¬ B k)) gw) ?_;rintro _ ⟨_,_,_,rfl,gx,gy,_⟩;obtain rfl:=u8 gy;refine R z (l1 g_5 z fid<|gx.at0 z)<|E z (fS [(.tmp 159)] R_ z z z (a_d z) (lb z)<|lb z) ?_
    rintro _ gz ⟨rfl,bt⟩;have bu:=bt.below;have j4:=a_D bt b_0;obtain ⟨_,gA,dy⟩:=bdS dx;refine E z (a_Q (α:=UInt8) R_ gA z z (V.e bu) W (bt.blk:Blk gz gu.z [vU (byteI gv)]) b_0 an_ H_) ?_;rintro _ _ ⟨d0,gB,gC,gD,rfl,gE,gF,gG,gH⟩;refine Ra z<|Wn ?_
    obtain rfl:=som dy;have d1:=m1 bq;have d2:=a_2 he d1 br;have d3:=lt_ br s6.s;have d4:=a_2 hz d2 d3;exact Wr<|rtO<|h_ hr z ⟨bM (bup (bM (bM (bup (bM (bup (bup I h4) h1) G<|m1 bp) s3) s6 d1) au d2) bu) gE d4,gB,gC,gD,d0,z,gF,gG,(or2 gH d4 an_ (b_7<|lt_ (lt_ d3 au.s) bu.s) : ∀ k∈d0,w0.z≤k)⟩
   rintro _ _ _ _ rfl ⟨rfl,dz⟩;have dA:=elR bH;obtain rfl:=som dA;exact ⟨dz,z⟩
  have bL:=ifF bG aE;refine Ws<|R z (eql z z)<|Ra z<|Wn<|Wc z (fun aG=>?_) (fun aG=>?_)
  ·refine Ws<|E z (f0 (α:=UInt8) R_) ?_
   rintro _ _ ⟨_,_,_,rfl,av,gI⟩;refine R z (fd a_T z)<|R z (l1 Q_ z fid<|(((((h5.e h1).c G<|djs<|mmr h5.lt).e s3).c s6<|djs<|mm1 h5.lt<|lt_ h1.s G.s).e av).at z) ?_
   obtain ⟨_,gJ,dB⟩:=bdS<|ifT bL aG;have bv:=lt_ I.s h4.s;have bw:=lt_ (lt_ bv h1.s) G.s;refine E z (fN (α:=UInt8) R_ gJ z z gI a_h<|p3_1.g<|((((hn.e h1).c G<|c_ (or0 (b_ lr)  (m_<|zt' hBw bv) : ∀ k∈[wa.z],¬ B k)).e s3).c s6<|c_ (or0 (b_ lr)  (m_<|zt' hBw bw) : ∀ k∈[H.z],¬ B k)).e av) ?_;rintro _ _ ⟨gK,gL,gM,gN,rfl,gO,gP,gQ,gR⟩;refine Ra z<|Wn ?_
   obtain rfl:=som dB;have d5:=lt_ (lt_ bw s3.s) s6.s;have d6:=m1 d5;exact Wr<|rtO<|h_ hr z ⟨bM (bup (bM (bup (bM (bup (bup I h4) h1) G<|m1 bv) s3) s6<|m1 bw) av) gO d6,gL,gM,gN,gK,z,gP,gQ,a_2 gR d6<|lt_ d5 av.s⟩
  refine Wk<|Ws<|Rm z<|Ra z<|Wn ?_
  obtain rfl:=som<|ifF bL aG;have d7:=lt_ I.s h4.s;have d8:=lt_ (lt_ d7 h1.s) G.s;have d9:=m1 d8;exact Wr<|h_ hr z ⟨bM (bup (bM (bup (bup I h4) h1) G<|m1 d7) s3) s6 d9,ah,ng,ci,S2,z,hd,hw,a_2 he d9<|lt_ d8 s3.s⟩
 rintro _ _ _ _ rfl ⟨rfl,dC⟩;have dD:=elR bx;obtain rfl:=som dD;exact ⟨dC,z⟩
theorem A_w0a : ∀ n,k_c n
  | 0=>⟨fun hm=>by intros;exact nomatch (show none=some _ from hm)⟩
  | n+1=>T_w0a<|A_w0a n
theorem W_w0a:i_e (c_W n).spec_l11Print:=A_w0a n

theorem e_X {x1:d_} {res:Int} (hm:d_h x1=some res) (hBw:B≤w0.z) (p1_0:repS w0 B (sl A0 N0 C0) x1.rules):o_ prog 65 [(.agg #[sl A0 N0 C0])] w0 (Q9 w0 B res):=by
 unfold d_h at hm
 refine goF func65 z z (lb z) fun fn hr=>Ws<|E z (fb z) ?_
 rintro _ H ⟨rfl,G⟩;have h1:=G.below;refine Ra z<|Wn<|Ws<|R z (fd X_ z)<|R z (l1 a_0 z fid<|(G.blk:Blk H w0.z [sl A0 N0 C0]).at z)<|R z (lnR a_1 z<|p1_0.e h1)<|R z (sb_ z z)<|Ra z<|Wn ?_
 obtain rfl:=som hm;exact Wr<|h_ hr z ⟨h1,z,iS _ _⟩
theorem W_w18 {x1:Str} {res:Bool} (hm:e_p x1=some res) (hBw:B≤w0.z) (p1_0:x1.b.length≤LEN):o_ prog 173 [Str.v x1] w0 (Q0 w0 B res):=by
 unfold e_p at hm
 refine goF func173 z z (lb z) fun fn hr=>Ws<|Ra z<|Wn<|Wq<|Ws<|Ra z<|Wn ?_
 obtain ⟨_,hus,hmc⟩:=bdS hm;refine Wf (σ:=Unit) (ρ:=Bool) (fun (k4:Nat) (_:Unit) a w=>Sat 45 [(0,Str.v x1),(3,vI ((k4:Nat):Int))] a∧Below w0.z w0 w) (fun (_:Unit) a w=>Sat 45 [(0,Str.v x1)] a∧Below w0.z w0 w) (fun r ex a w=>ex = .ret∧L_ prog fn (Q0 w0 B r) a w) hus ?_ ?_ ?_ ?_ ?_
 ·exact fun _ q=>⟨q.k<|s2 z z,br w0⟩
 ·rintro k4 _ _ O _ hkd ⟨hSt,se⟩ hmu;refine Wu ?_ hSt;refine Wq<|Ws<|Rm z<|Rm z<|R z (lnT d_9 z)<|R z (lss z z)<|Wn<|Wc z (fun _=>?_) (fun hc=>(a_3 hkd hc).elim)
  refine Wk<|Wq<|Wb<|Wq ?_
  obtain ⟨uv,huw,hmx⟩:=bdS hmu;refine Wt (fun a w=>∃ (x5:Bool),x5=uv∧Sat 45 [(0,Str.v x1),(3,vI ((k4:Nat):Int)),(4,vB x5)] a∧Below O.z O w) ?_ ?_
  ·refine Wg<|Rm z<|Rm z ?_
   obtain ⟨xy,ef,hmg⟩:=bdS huw;refine R z (g_I d_9 z z (b_J ef).1 (b_J ef).2.1)<|R z (b_r z z)<|Rm z ?_
   rcases bs (decide<|(byteI (97:UInt8))≤(byteI xy)) with H | H
   ·refine Rh z H (mv z)<|Rh z H (mv z) ?_
    obtain ⟨xz,eh,Y⟩:=bdS<|ifT hmg H;exact Rh z H (g_I d_9 z z (b_J eh).1 (b_J eh).2.1)<|Rh z H (b_y z z)<|R z (pT z H z)<|Ra z<|Wl (fun _ q=>⟨decide<|(byteI xz)≤(byteI (122:UInt8)),som Y,q.k<|s3 z z z,br O⟩)
   iterate 4 refine Nh z H ?_
   exact R z (pF z H z)<|Ra z<|Wl (fun _ q=>⟨false,som<|ifF hmg H,q.k<|s3 z z z,br O⟩)
  rintro a8 V ⟨x5,rfl,_,si⟩;revert a8;refine Wo<|Wq ?_
  obtain ⟨a9,a0,a1⟩:=bdS hmx;refine Wt (fun a w=>∃ (W:Bool),W=a9∧Sat 45 [(0,Str.v x1),(3,vI ((k4:Nat):Int)),(4,vB x5),(5,vB W)] a∧Below V.z V w) ?_ ?_
  ·refine Wg<|Rm z<|Rm z ?_
   obtain ⟨aa,ej,hmk⟩:=bdS a0;refine R z (g_I d_9 z z (b_J ej).1 (b_J ej).2.1)<|R z (b_r z z)<|Rm z ?_
   rcases bs (decide<|(byteI (48:UInt8))≤(byteI aa)) with I | I
   ·refine Rh z I (mv z)<|Rh z I (mv z) ?_
    obtain ⟨ab,el,a2⟩:=bdS<|ifT hmk I;exact Rh z I (g_I d_9 z z (b_J el).1 (b_J el).2.1)<|Rh z I (b_y z z)<|R z (pT z I z)<|Ra z<|Wl (fun _ q=>⟨decide<|(byteI ab)≤(byteI (57:UInt8)),som a2,q.k<|s4 z z z z,br V⟩)
   iterate 4 refine Nh z I ?_
   exact R z (pF z I z)<|Ra z<|Wl (fun _ q=>⟨false,som<|ifF hmk I,q.k<|s4 z z z z,br V⟩)
  rintro ad L ⟨W,rfl,_,sm⟩;revert ad;refine Wo<|Wq ?_
  obtain ⟨ae,hun,hmo⟩:=bdS a1;refine Wt (fun a w=>∃ (xa:Bool),xa=ae∧Sat 45 [(0,Str.v x1),(3,vI ((k4:Nat):Int)),(41,vB xa)] a∧Below L.z L w) ?_ ?_
  ·refine Wg<|Rm z<|R z (not_ z)<|Rm z ?_
   rcases bs (!x5) with G | G
   ·have hmp:=ifT hun G;refine Rh z G (mv z)<|Rh z G (not_ z)<|Rh z G (mv z) ?_
    rcases bs (!W) with J | J
    ·exact Nh z J<|Nh z J<|Rh z G (pT z J z)<|R z (pT z G z)<|Wl (fun _ q=>⟨true,som<|ifT hmp J,q.k<|s3 z z z,br L⟩)
    exact Rh z J (mv z)<|Rh z J (eql z z)<|Rh z G (pF z J z)<|R z (pT z G z)<|Wl (fun _ q=>⟨((k4:Nat):Int)==0,som<|ifF hmp J,q.k<|s3 z z z,br L⟩)
   iterate 3 refine Nh z G ?_
   exact Nv z<|Nv z<|Nh z G<|R z (pF z G z)<|Wl (fun _ q=>⟨false,som<|ifF hun G,q.k<|s3 z z z,br L⟩)
  rintro af _ ⟨xa,rfl,_,sq⟩;revert af;refine Wo<|Wc z (fun hcb=>?_) (fun hcb=>?_)
  ·exact Ws<|Ra z<|Wn<|Wr<|rtO<|qL (som<|ifT hmo hcb).symm<|h_ hr z ⟨bup (bup (bup se si) sm) sq,z⟩
  exact Wk<|Wg<|Rm z<|R z (inc_ hkd (lt_ p1_0 M_) z z)<|Ra z<|Wl (fun _ q=>⟨(),(som<|ifF hmo hcb).symm,⟨q.k<|s2 z z,bup (bup (bup se si) sm) sq⟩⟩)
 ·rintro _ _ _ ⟨a3,ah⟩;refine Wu ?_ a3;refine Wq<|Ws<|Rm z<|Rm z<|R z (lnT d_9 z)<|R z (lss z z)<|Wn<|Wc z (fun hc=>(a_4 hc).elim) (fun _=>?_)
  exact We<|fun a' ha'=>⟨rfl,⟨Sat.weaken ha'<|s1 z,ah⟩⟩
 ·rintro _ ai _ rfl ⟨_,sr⟩;have a4:=elL hmc;revert ai;refine Wo<|Ws<|Rm z<|R z (lnT d_9 z) ?_
  obtain ⟨_,aj,a5⟩:=bdS a4;refine E z (fc call103 z<|b_d (B:=B) aj (zt' hBw sr.s) (a_M p1_0) (ii z)<|ii z) ?_;rintro _ _ ⟨ak,rfl⟩;refine Ra z<|Wn ?_
  obtain rfl:=som a5;exact Wr<|h_ hr z ⟨bup sr ak,z⟩
 rintro _ _ _ _ rfl ⟨rfl,a6⟩;have a7:=elR hmc;obtain rfl:=som a7;exact ⟨a6,z⟩
theorem c_I {x1:g_} {x2:Bool} {x3:Bool} {x4:Bool} {x5:Bool} {x6:Int} {res:Bool} (hm:b_T x1 x2 x3 x4 x5 x6=some res) (hBw:B≤w0.z) (p1_0:x1.name.b.length≤LEN) (p1_1:inI x1.kind) (p1_2:inI x1.size) (a1:repS w0 B (sl AB NB CB) x1.bytes) (a2:repS w0 B (sl A8 N8 C8) x1.names) (a3:repS w0 B (sl AC NC CC) x1.tags) (a4:repS w0 B (sl AD ND CD) x1.kids) (p6_0:inI x6):o_ prog 205 [(.agg #[Str.v x1.name,vI x1.kind,vI x1.size,vB x1.little,sl AB NB CB,sl A8 N8 C8,sl AC NC CC,sl AD ND CD]),vB x2,vB x3,vB x4,vB x5,vI x6] w0 (Q0 w0 B res):=by
 unfold b_T at hm
 refine goF func205 z z (lb z) fun fn hr=>Ws<|E z (fb z) ?_
 rintro _ wc ⟨rfl,hf⟩;have hd:=hf.below;have hb:Blk wc w0.z (vR x1 AB NB CB A8 N8 C8 AC NC CC AD ND CD):=hf.blk;refine Ra z<|Wn<|Wq ?_
 obtain ⟨uw,hux,hmy⟩:=bdS hm;refine Wt (fun a w=>∃ (xe:Bool),xe=uw∧Sat 67 [(12,vB xe)] a∧Below wc.z wc w) ?_ ?_
 ·refine Wg<|Rm z<|Rm z ?_
  obtain ⟨ug,huh,hmz⟩:=bdS hux;refine c_C 18 ug 4 ?_ ?_
  ·rcases bs x2 with a0 | a0
   ·iterate 3 refine Nh z a0 ?_
    exact R z (pT z a0 z)<|WLq 4 (ifT huh a0) z z z
   exact Rh z a0 (fd a_t z)<|Rh z a0 (l1 g_3 z fid<|hb.at z)<|Rh z a0 (eql z z)<|R z (pF z a0 z)<|WLq 4 (ifF huh a0) z z z
  refine Rm z ?_;obtain ⟨ui,huj,a5⟩:=bdS hmz;refine c_C 27 ui 8 ?_ ?_
  ·rcases bs ug with H | H
   ·have hmk:=ifT huj H;refine Rh z H (mv z)<|Rh z H (mv z) ?_
    rcases bs x3 with V | V
    ·iterate 4 refine Nh z V ?_
     exact Rh z H (pT z V z)<|R z (pT z H z)<|WLq 8 (ifT hmk V) z z z
    exact Rh z V (fd a_K z)<|Rh z V (l1 Q_ z fid<|hb.at z)<|Rh z V (lnR n_ z<|a1.e hd)<|Rh z V (eql z z)<|Rh z H (pF z V z)<|R z (pT z H z)<|WLq 8 (ifF hmk V) z z z
   exact Nh z H<|Nh z H<|Nv z<|Nv z<|Nv z<|Nv z<|Nh z H<|R z (pF z H z)<|WLq 8 (ifF huj H) z z z
  refine Rm z ?_;obtain ⟨ul,hum,a6⟩:=bdS a5;refine c_C 36 ul 8 ?_ ?_
  ·rcases bs ui with I | I
   ·have hmn:=ifT hum I;refine Rh z I (mv z)<|Rh z I (mv z) ?_
    rcases bs x4 with W | W
    ·iterate 4 refine Nh z W ?_
     exact Rh z I (pT z W z)<|R z (pT z I z)<|WLq 8 (ifT hmn W) z z z
    exact Rh z W (fd b_P z)<|Rh z W (l1 b_Z z fid<|hb.at z)<|Rh z W (lnR a_N z<|a2.e hd)<|Rh z W (eql z z)<|Rh z I (pF z W z)<|R z (pT z I z)<|WLq 8 (ifF hmn W) z z z
   exact Nh z I<|Nh z I<|Nv z<|Nv z<|Nv z<|Nv z<|Nh z I<|R z (pF z I z)<|WLq 8 (ifF hum I) z z z
  refine Rm z ?_;obtain ⟨uo,hup,a7⟩:=bdS a6;refine c_C 45 uo 8 ?_ ?_
  ·rcases bs ul with J | J
   ·have hmq:=ifT hup J;refine Rh z J (mv z)<|Rh z J (mv z) ?_
    rcases bs x5 with Y | Y
    ·iterate 4 refine Nh z Y ?_
     exact Rh z J (pT z Y z)<|R z (pT z J z)<|WLq 8 (ifT hmq Y) z z z
    exact Rh z Y (fd a_L z)<|Rh z Y (l1 B_ z fid<|hb.at z)<|Rh z Y (lnR w_ z<|a3.e hd)<|Rh z Y (eql z z)<|Rh z J (pF z Y z)<|R z (pT z J z)<|WLq 8 (ifF hmq Y) z z z
   exact Nh z J<|Nh z J<|Nv z<|Nv z<|Nv z<|Nv z<|Nh z J<|R z (pF z J z)<|WLq 8 (ifF hup J) z z z
  refine Rm z ?_;obtain ⟨ur,hus,hmt⟩:=bdS a7;refine c_C 56 ur 10 ?_ ?_
  ·rcases bs uo with L | L
   ·have hmu:=ifT hus L;refine Rh z L (mv z)<|Rh z L (lss z z)<|Rh z L (mv z) ?_
    rcases bs (decide<|x6<0) with O | O
    ·iterate 5 refine Nh z O ?_
     exact Rh z L (pT z O z)<|R z (pT z L z)<|WLq 10 (ifT hmu O) z z z
    exact Rh z O (fd K_ z)<|Rh z O (l1 B_ z fid<|hb.at z)<|Rh z O (lnR w_ z<|a4.e hd)<|Rh z O (mv z)<|Rh z O (eql z z)<|Rh z L (pF z O z)<|R z (pT z L z)<|WLq 10 (ifF hmu O) z z z
   iterate 3 refine Nh z L ?_
   exact Nv z<|Nv z<|Nv z<|Nv z<|Nv z<|Nh z L<|R z (pF z L z)<|WLq 10 (ifF hus L) z z z
  refine Rm z ?_
  rcases bs ur with G | G
  ·have hmv:=ifT hmt G;refine Rh z G (fd c_r z)<|Rh z G (l1 g_4 z fid<|hb.at z)<|Rh z G (not_ z)<|Rh z G (mv z) ?_
   rcases bs (!x1.little) with hca | hca
   ·iterate 3 refine Nh z hca ?_
    exact Rh z G (pT z hca z)<|R z (pT z G z)<|Ra z<|Wl (fun _ q=>⟨true,som<|ifT hmv hca,q.k<|s1 z,br wc⟩)
   exact Rh z hca (fd a_x z)<|Rh z hca (l1 g_3 z fid<|hb.at z)<|Rh z hca (eql z z)<|Rh z G (pF z hca z)<|R z (pT z G z)<|Ra z<|Wl (fun _ q=>⟨x1.kind==1,som<|ifF hmv hca,q.k<|s1 z,br wc⟩)
  iterate 4 refine Nh z G ?_
  exact Nv z<|Nv z<|Nv z<|Nh z G<|R z (pF z G z)<|Ra z<|Wl (fun _ q=>⟨false,som<|ifF hmt G,q.k<|s1 z,br wc⟩)
 rintro a8 _ ⟨xe,rfl,_,a9⟩;revert a8;refine Wo ?_;obtain rfl:=som hmy;exact Wr<|h_ hr z ⟨bup hd a9,z⟩
theorem e_Y {x1:d_} {x2:Int} {res:Int} (hm:c_P x1 x2=some res) (hBw:B≤w0.z) (p1_0:repS w0 B (sl A0 N0 C0) x1.rules) (p2_0:inI x2):o_ prog 206 [(.agg #[sl A0 N0 C0]),vI x2] w0 (Q9 w0 B res):=by
 unfold c_P at hm
 refine goF func206 z z (lb z) fun fn hr=>Ws<|E z (fb z) ?_
 rintro _ J ⟨rfl,O⟩;have h2:=O.below;have h6:Blk J w0.z [sl A0 N0 C0]:=O.blk;refine Ra z<|Wn<|Wq<|Wq ?_
 obtain ⟨uf,hug,hma⟩:=bdS hm;refine Wt (fun a w=>∃ (L:Bool),L=uf∧Sat 39 [(1,vI x2),(2,pt w0.z),(30,vB L)] a∧Below J.z J w) ?_ ?_
 ·refine Wg<|Rm z<|R z (fd X_ z)<|R z (l1 a_0 z fid<|h6.at z)<|R z (lnR a_1 z<|p1_0.e h2)<|R z (sb_ z z) ?_
  obtain ⟨rh,ei,hmb⟩:=bdS hug;refine E z (fc call103 z<|b_d (B:=B) ei (zt' hBw h2.s) p2_0 (ii z)<|iS _ _) ?_;rintro _ _ ⟨s4,rfl⟩;refine R z (not_ z)<|Rm z ?_
  rcases bs (!rh) with H | H
  ·iterate 7 refine Nh z H ?_
   exact R z (pT z H z)<|Rm z<|Nh z z<|Nh z z<|Nh z z<|Nh z z<|Nh z z<|Nh z z<|Nh z z<|Nh z z<|R z (pT z z z)<|Wl (fun _ q=>⟨true,som<|ifT hmb H,q.k<|s3 z z z,s4⟩)
  refine Rh z H (fd X_ z) ?_;have hc:=h6.e s4;refine Rh z H (l1 a_0 z fid<|hc.at z)<|Rh z H (mv z) ?_
  obtain ⟨xj,ek,hmd⟩:=bdS<|ifF hmb H;have he:=p1_0.g<|(h2.ag B).e s4
  refine RXg z z H z (at_ (α:=g_) a_1 p_ z z z he ek) ?_;rintro _ ⟨_,_,_,rfl,hl,hn,_⟩;obtain ⟨_,_,_,_,_,_,_,_,_,_,_,_,rfl,_,_,_,_,_,_,_⟩:=a_z hn;refine Rh z H (fd a_x z)<|Rh z H (l1 g_3 z fid<|hl.at (j:=1) z)<|Rh z H (nq z z)<|R z (pF z H z)<|Rm z ?_
  rcases bs (xj.kind != 1) with G | G
  ·iterate 8 refine Nh z G ?_
   exact R z (pT z G z)<|Wl (fun _ q=>⟨true,som<|ifT hmd G,q.k<|s3 z z z,s4⟩)
  refine Rh z G (fd X_ z)<|Rh z G (l1 a_0 z fid<|hc.at z)<|Rh z G (mv z) ?_
  obtain ⟨_,em,hmo⟩:=bdS<|ifF hmd G;refine RXg z z G z (at_ (α:=g_) a_1 p_ z z z he em) ?_;rintro _ ⟨_,_,_,rfl,hp,hq,_⟩;obtain ⟨_,_,_,_,_,_,_,_,_,_,_,_,rfl,_,_,ht,_,_,_,_⟩:=a_z hq;refine Rh z G (fd a_t z)<|Rh z G (l1 g_3 z fid<|hp.at (j:=2) z) ?_
  obtain ⟨rr,es,hmu⟩:=bdS hmo;refine Eg z z G z (fc call103 z<|b_d (B:=B) es (zt' hBw<|lt_ h2.s s4.s) ht (ii z)<|ii z) ?_;rintro _ _ ⟨sv,rfl⟩;exact Rh z G (not_ z)<|R z (pF z G z)<|Wl (fun _ q=>⟨!rr,som hmu,q.k<|s3 z z z,bup s4 sv⟩)
 rintro aw _ ⟨L,rfl,_,s5⟩;revert aw;refine Wo<|Wc z (fun I=>?_) (fun I=>?_)
 ·refine Ws<|Ra z<|Wn ?_
  obtain rfl:=som<|ifT hma I;exact Wr<|h_ hr z ⟨bup h2 s5,z,ii z⟩
 refine Wk<|Ws<|R z (fd X_ z)<|R z (l1 a_0 z fid<|(h6.e s5).at z)<|Rm z ?_
 obtain ⟨_,ex,hmy⟩:=bdS<|ifF hma I;refine RX z (at_ (α:=g_) a_1 p_ z z z (p1_0.g<|(h2.ag B).e s5) ex) ?_;rintro _ ⟨_,_,_,rfl,hz,W,_⟩;obtain ⟨_,_,_,_,_,_,_,_,_,_,_,_,rfl,_,_,Y,_,_,_,_⟩:=a_z W;refine R z (fd a_t z)<|R z (l1 g_3 z fid<|hz.at (j:=2) z) ?_
 obtain ⟨_,a0,V⟩:=bdS hmy;refine E z (fc call107 z<|g_A (B:=B) a0 (zt' hBw<|lt_ h2.s s5.s) Y) ?_;rintro _ _ ⟨a1,rfl,_⟩;refine R z (sb_ z z)<|Ra z<|Wn ?_
 obtain rfl:=som V;exact Wr<|h_ hr z ⟨bup (bup h2 s5) a1,z,iS _ _⟩
theorem W_w20 {x1:List Str} {x2:Str} {res:Bool} (hm:f_r x1 x2=some res) (hBw:B≤w0.z) (p1_0:repS w0 B (sl A0 N0 C0) x1) (p2_0:x2.b.length≤LEN):o_ prog 252 [sl A0 N0 C0,Str.v x2] w0 (Q0 w0 B res):=by
 unfold f_r at hm
 refine goF func252 z z (lb z) fun fn hr=>Ws<|Ra z<|Wn<|Wq<|Ws<|Ra z<|Wn ?_
 obtain ⟨_,O,I⟩:=bdS hm;refine Wf (σ:=Unit) (ρ:=Bool) (fun (k3:Nat) (_:Unit) a w=>Sat 18 [(0,sl A0 N0 C0),(1,Str.v x2),(5,vI ((k3:Nat):Int))] a∧Below w0.z w0 w) (fun (_:Unit) a w=>Sat 18 [] a∧Below w0.z w0 w) (fun r ex a w=>ex = .ret∧L_ prog fn (Q0 w0 B r) a w) O ?_ ?_ ?_ ?_ ?_
 ·exact fun _ q=>⟨q.k<|s3 z z z,br w0⟩
 ·rintro k3 _ _ _ _ J ⟨V,H⟩ hma;refine Wu ?_ V;refine Wq<|Ws<|Rm z<|Rm z ?_
  have h5:=p1_0.e H;refine R z (lnR a_N z h5)<|R z (lss z z)<|Wn<|Wc z (fun _=>?_) (fun hc=>(a_3 J hc).elim)
  refine Wk<|Wq<|Wb<|Ws<|Rm z<|Rm z ?_
  obtain ⟨_,eb,L⟩:=bdS hma;refine RX z (at_ (α:=Str) a_N z_9 z z z h5 eb) ?_;rintro _ ⟨_,_,_,rfl,hd,he,_⟩;obtain ⟨rfl,_⟩:=c_n he;refine R z (l1 g_9 z fid<|hd.at0 z)<|Rm z<|R z (f_1 z z)<|Wn<|Wc z (fun G=>?_) (fun G=>?_)
  ·exact Ws<|Ra z<|Wn<|Wr<|rtO<|qL (som<|ifT L G).symm<|h_ hr z ⟨H,z⟩
  exact Wk<|Wg<|Rm z<|R z (inc_ J (lt_ (repS.len p1_0) M_) z z)<|Ra z<|Wl (fun _ q=>⟨(),(som<|ifF L G).symm,⟨q.k<|s3 z z z,H⟩⟩)
 ·rintro _ _ _ ⟨hSc,s7⟩;refine Wu ?_ hSc;refine Wq<|Ws<|Rm z<|Rm z<|R z (lnR a_N z<|p1_0.e s7)<|R z (lss z z)<|Wn<|Wc z (fun hc=>(a_4 hc).elim) (fun _=>?_)
  exact We<|fun a' ha'=>⟨rfl,⟨Sat.weaken ha' sn,s7⟩⟩
 ·rintro _ af _ rfl ⟨_,sg⟩;have hmh:=elL I;revert af;refine Wo<|Ws<|Ra z<|Wn ?_
  obtain rfl:=som hmh;exact Wr<|h_ hr z ⟨sg,z⟩
 rintro _ _ _ _ rfl ⟨rfl,hqi⟩;have hmj:=elR I;obtain rfl:=som hmj;exact ⟨hqi,z⟩
theorem W_w21 {x1:List Str} {res:Bool} (hm:f_s x1=some res) (hBw:B≤w0.z) (p1_0:repS w0 B (sl A0 N0 C0) x1):o_ prog 207 [sl A0 N0 C0] w0 (Q0 w0 B res):=by
 unfold f_s at hm
 refine goF func207 z z (lb z) fun fn hr=>Ws<|Ra z<|Wn<|Wq<|Ws<|Ra z<|Wn ?_
 obtain ⟨_,huj,I⟩:=bdS hm;refine Wf (σ:=Unit) (ρ:=Bool) (fun (k1:Nat) (_:Unit) a w=>Sat 29 [(0,sl A0 N0 C0),(3,vI ((k1:Nat):Int))] a∧Below w0.z w0 w) (fun (_:Unit) a w=>Sat 29 [(0,sl A0 N0 C0)] a∧Below w0.z w0 w) (fun r ex a w=>ex = .ret∧L_ prog fn (Q0 w0 B r) a w) huj ?_ ?_ ?_ ?_ ?_
 ·exact fun _ q=>⟨q.k<|s2 z z,br w0⟩
 ·rintro k1 _ _ J _ hka ⟨hSk,s4⟩ hml;refine Wu ?_ hSk;refine Wq<|Ws<|Rm z<|Rm z<|R z (lnR a_N z<|p1_0.e s4)<|R z (lss z z)<|Wn<|Wc z (fun _=>?_) (fun hc=>(a_3 hka hc).elim)
  refine Wk<|Wq<|Wb<|Wq ?_
  obtain ⟨um,hun,hmb⟩:=bdS hml;refine Wt (fun a w=>∃ (x2:Bool),x2=um∧Sat 29 [(0,sl A0 N0 C0),(3,vI ((k1:Nat):Int)),(25,vB x2)] a∧Below J.z J w) ?_ ?_
  ·refine Wd (X:=noX) 0 (.rd 0<|.rd 1<|.rd 2<|.rd 3<|.ef 4<|.rd 5<|.rd 6<|.rd 7<|.rd 8<|.rd 9<|.rd 10<|.rd 11<|.rd 12<|.rd 13<|.ef 14<|.rd 15 .done) mo (by kernel_rfl) fun ab s5 _=>dR z z (mv z)<|dR z z (mv z) ?_
   obtain ⟨_,eo,hmp⟩:=bdS hun;have hd:=(s4.ag B).e s5;refine dRX z z (at_ (α:=Str) a_N z_9 z z z (p1_0.g hd) eo) ?_;rintro _ ⟨_,_,_,rfl,hq,ht,_⟩;obtain ⟨rfl,hu⟩:=c_n ht;refine dR z z (l1 g_9 z fid<|hq.at0 z) ?_;have he:=lt_ s4.s s5.s;obtain ⟨rr,es,hmc⟩:=bdS hmp;refine dE z z (fc call173 z<|W_w18 (B:=B) es (zt' hBw he) hu) (.inr fun _ _ h=>v_<|h.1) ?_;rintro _ _ ⟨s6,rfl⟩;refine dR z z (not_ z)<|dR z z (mv z) ?_
   rcases bs (!rr) with G | G
   ·iterate 7 refine dRn z z z G z ?_
    exact dEn z z z G z<|dR z z (pT z G z)<|pD (fun _ q=>⟨true,som<|ifT hmc G,q.k<|s3 z z z,bup s5 s6⟩)
   refine dRg z z z G z (mv z)<|dRg z z z G z (mv z) ?_
   obtain ⟨_,ev,hmw⟩:=bdS<|ifF hmc G;have hf:=p1_0.g<|hd.e s6
   refine b_K z z z G z (rX a_N z_9 z z hf z z ev) ?_;rintro _ ⟨_,_,_,rfl,hx⟩;refine dRg z z z G z (mv z)<|dRg z z z G z (mv z) ?_
   obtain ⟨_,ey,hmz⟩:=bdS hmw;refine b_K z z z G z (at_ (α:=Str) a_N z_9 z z z hf ey) ?_;rintro _ ⟨_,_,_,rfl,a1,a2,_⟩;obtain ⟨rfl,a3⟩:=c_n a2;refine dRg z z z G z (l1 g_9 z fid<|a1.at0 z) ?_;obtain ⟨a4,a5,L⟩:=bdS hmz;refine dEg z z z G z (fc call252 z<|W_w20 (B:=B) a5 (zt' hBw<|lt_ he s6.s) hx a3) (.inr fun _ _ h=>v_<|h.1) ?_;rintro _ _ ⟨a6,rfl⟩;exact dR z z (pF z G z)<|pD (fun _ q=>⟨a4,som L,q.k<|s3 z z z,bup (bup s5 s6) a6⟩)
  rintro a7 _ ⟨x2,rfl,_,sg⟩;revert a7;refine Wo<|Wc z (fun H=>?_) (fun H=>?_)
  ·exact Ws<|Ra z<|Wn<|Wr<|rtO<|qL (som<|ifT hmb H).symm<|h_ hr z ⟨bup s4 sg,z⟩
  exact Wk<|Wg<|Rm z<|R z (inc_ hka (lt_ (repS.len p1_0) M_) z z)<|Ra z<|Wl (fun _ q=>⟨(),(som<|ifF hmb H).symm,⟨q.k<|s2 z z,bup s4 sg⟩⟩)
 ·rintro _ _ _ ⟨O,sh⟩;refine Wu ?_ O;refine Wq<|Ws<|Rm z<|Rm z<|R z (lnR a_N z<|p1_0.e sh)<|R z (lss z z)<|Wn<|Wc z (fun hc=>(a_4 hc).elim) (fun _=>?_)
  exact We<|fun a' ha'=>⟨rfl,⟨Sat.weaken ha'<|s1 z,sh⟩⟩
 ·rintro _ a8 _ rfl ⟨_,s7⟩;have V:=elL I;revert a8;refine Wo<|Ws<|Rm z ?_
  have hi:=p1_0.e s7;refine R z (lnR a_N z hi) ?_;obtain ⟨_,a9,W⟩:=bdS V;refine E z (fc call103 z<|b_d (B:=B) a9 (zt' hBw s7.s) (a_M<|repS.len hi) (ii z)<|ii z) ?_;rintro _ _ ⟨aa,rfl⟩;refine Ra z<|Wn ?_
  obtain rfl:=som W;exact Wr<|h_ hr z ⟨bup s7 aa,z⟩
 rintro _ _ _ _ rfl ⟨rfl,Y⟩;have a0:=elR I;obtain rfl:=som a0;exact ⟨Y,z⟩
theorem W_w22 {x1:d_} {x2:g_} {res:Bool} (hm:f_t x1 x2=some res) (hBw:B≤w0.z) (p1_0:repS w0 B (sl A0 N0 C0) x1.rules) (p2_0:x2.name.b.length≤LEN) (p2_1:inI x2.kind) (p2_2:inI x2.size) (p2_4:repS w0 B (sl A2 N2 C2) x2.bytes) (p2_5:repS w0 B (sl A3 N3 C3) x2.names) (p2_6:repS w0 B (sl A1 N1 C1) x2.tags) (p2_7:repS w0 B (sl A4 N4 C4) x2.kids):o_ prog 208 [(.agg #[sl A0 N0 C0]),(.agg #[Str.v x2.name,vI x2.kind,vI x2.size,vB x2.little,sl A2 N2 C2,sl A3 N3 C3,sl A1 N1 C1,sl A4 N4 C4])] w0 (Q0 w0 B res):=by
 unfold f_t at hm
 refine goF func208 z z (lb z) fun fn hr=>Ws<|E z (fb z) ?_
 rintro _ J ⟨rfl,hn⟩;have h4:=hn.below;refine E z (fb z) ?_;rintro _ wd ⟨rfl,ho⟩;have h3:=ho.below;have ha:Blk wd J.z (vR x2 A2 N2 C2 A3 N3 C3 A1 N1 C1 A4 N4 C4):=ho.blk;refine Ra z<|Wn<|Wq<|Wq ?_
 obtain ⟨ae,hup,hmq⟩:=bdS hm;refine Wt (fun a w=>∃ (xg:Bool),xg=ae∧Sat 59 [(2,pt w0.z),(3,pt J.z),(20,vB xg)] a∧Below wd.z wd w) ?_ ?_
 ·refine Wg<|R z (fd K_ z)<|R z (l1 B_ z fid<|ha.at z) ?_
  have ht:=(h4.ag B).e h3;refine R z (lnR w_ z<|p2_7.g ht)<|R z (fd a_L z)<|R z (l1 B_ z fid<|ha.at z) ?_
  have hh:=p2_6.g ht;refine R z (lnR w_ z hh)<|R z (add_ z z)<|R z (nq z z)<|Rm z ?_
  rcases bs ((x2.kids.length:Int) != (j_ (x2.tags.length:Int) 1)) with I | I
  ·iterate 5 refine Nh z I ?_
   exact R z (pT z I z)<|Wl (fun _ q=>⟨true,som<|ifT hup I,q.k<|s3 z z z,br wd⟩)
  refine Rh z I (fd a_L z)<|Rh z I (l1 B_ z fid<|ha.at z)<|Rh z I (lnR w_ z hh) ?_
  obtain ⟨af,ah,Y⟩:=bdS<|ifF hup I;refine Eg z z I z (fc call103 z<|b_d (B:=B) ah (zt' hBw<|lt_ h4.s h3.s) (a_M<|repS.len hh) (ii z)<|ii z) ?_;rintro _ _ ⟨ai,rfl⟩;exact Rh z I (not_ z)<|R z (pF z I z)<|Wl (fun _ q=>⟨!af,som Y,q.k<|s3 z z z,ai⟩)
 rintro aj wb ⟨xg,rfl,_,s5⟩;revert aj;refine Wo<|Wc z (fun hci=>?_) (fun hci=>?_)
 ·refine Ws<|Ra z<|Wn ?_
  obtain rfl:=som<|ifT hmq hci;exact Wr<|h_ hr z ⟨bup (bup h4 h3) s5,z⟩
 refine Wk<|Wq<|Ws<|Ra z<|Wn ?_
 obtain ⟨_,a0,hmr⟩:=bdS<|ifF hmq hci;refine Wf (σ:=Unit) (ρ:=Bool) (fun (ke:Nat) (_:Unit) a w=>Sat 59 [(2,pt w0.z),(3,pt J.z),(5,vI ((ke:Nat):Int))] a∧Below wb.z wb w) (fun (_:Unit) a w=>Sat 59 [] a∧Below wb.z wb w) (fun r ex a w=>ex = .ret∧L_ prog fn (Q0 w0 B r) a w) a0 ?_ ?_ ?_ ?_ ?_
 ·exact fun _ q=>⟨q.k<|s3 z z z,br wb⟩
 ·rintro ke _ _ ws _ hku ⟨a1,s7⟩ a2;refine Wu ?_ a1;refine Wq<|Ws<|Rm z<|R z (fd a_L z) ?_
  have hv:=(ha.e s5).e s7;refine R z (l1 B_ z fid<|hv.at z) ?_;have hw:=(((h4.ag B).e h3).e s5).e s7;refine R z (lnR w_ z<|p2_6.g hw)<|R z (lss z z)<|Wn<|Wc z (fun _=>?_) (fun hc=>(a_3 hku hc).elim)
  refine Wk<|Wq<|Wb<|Wq ?_
  obtain ⟨ak,a3,hmx⟩:=bdS a2;refine Wt (fun a w=>∃ (xj:Bool),xj=ak∧Sat 59 [(2,pt w0.z),(3,pt J.z),(5,vI ((ke:Nat):Int)),(58,vB xj)] a∧Below ws.z ws w) ?_ ?_
  ·refine Wd (X:=noX) 0 (.rd 0<|.rd 1<|.rd 2<|.rd 3<|.rd 4<|.rd 5<|.rd 6<|.rd 7<|.rd 8<|.rd 9<|.ef 10<|.ef 11<|.rd 12<|.rd 13<|.rd 14<|.rd 15<|.rd 16<|.rd 17<|.rd 18<|.rd 19<|.rd 20<|.rd 21<|.rd 22<|.rd 23<|.rd 24<|.rd 25<|.rd 26<|.rd 27<|.rd 28<|.rd 29<|.rd 30 .done) mo (by kernel_rfl) fun aK s6 _=>dR z z (fd a_L z) ?_
   have hk:=hv.e s6;refine dR z z (l1 B_ z fid<|hk.at z)<|dR z z (mv z) ?_
   obtain ⟨_,al,a4⟩:=bdS a3;have hf:=hw.e s6;refine dRX z z (at_ (α:=Int) w_ z_3 z z z (p2_6.g hf) al) ?_;rintro _ ⟨_,_,_,rfl,am,an,_⟩;obtain ⟨rfl,ao⟩:=O_ an;refine dR z z (l1 g_3 z fid<|am.at0 z)<|dR z z (lN (vs:=[sl A0 N0 C0]) y_ t_ z z fid<|(((((hn.blk:Blk J w0.z [sl A0 N0 C0]).e h3).e s5).e s7).e s6).row 0 1 z)<|dR z z (fd K_ z)<|dR z z (l1 B_ z fid<|hk.at z) ?_
   obtain ⟨_,ap,a5⟩:=bdS a4;refine dRX z z (at_ (α:=Int) w_ z_3 z z z (p2_7.g hf) ap) ?_;rintro _ ⟨_,_,_,rfl,aq,ar,_⟩;obtain ⟨rfl,au⟩:=O_ ar;refine dR z z (l1 g_3 z fid<|aq.at0 z) ?_;have hy:=lt_ (lt_ (lt_ (lt_ h4.s h3.s) s5.s) s7.s) s6.s;obtain ⟨_,av,a6⟩:=bdS a5;refine dE z z (fc call206 z<|e_Y (B:=B) av (zt' hBw hy) (p1_0.g hf) au) (.inr fun _ _ h=>v_<|h.1) ?_;rintro _ _ ⟨s8,rfl,aw⟩;obtain ⟨ax,ay,hmz⟩:=bdS a6;refine dE z z (fc call103 z<|b_d (B:=B) ay (zt' hBw<|lt_ hy s8.s) ao (ii z) aw) (.inr fun _ _ h=>v_<|h.1) ?_;rintro _ _ ⟨sc,rfl⟩;refine dR z z (not_ z)<|dR z z (mv z) ?_
   rcases bs (!ax) with H | H
   ·iterate 3 refine dRn z z z H z ?_
    iterate 12 refine dRu z z z z ?_
    exact dRn z z z H z<|dR z z (pT z H z)<|pD (fun _ q=>⟨true,som<|ifT hmz H,q.k<|s4 z z z z,bup (bup s6 s8) sc⟩)
   have L:=ifF hmz H;refine dRg z z z H z (mv z)<|dRg z z z H z (a_9 z z)<|dRg z z z H z (mv z) ?_
   rcases bs (decide<|0<((ke:Nat):Int)) with G | G
   ·refine dRg z z z G z (fd a_L z) ?_;have O:=(hk.e s8).e sc;refine dRg z z z G z (l1 B_ z fid<|O.at z)<|dRg z z z G z (mv z)<|dRg z z z G z (sb_ z z) ?_
    obtain ⟨az,aA,a7⟩:=bdS<|ifT L G;have V:=p2_6.g<|(hf.e s8).e sc
    refine b_K z z z G z (at_ (α:=Int) w_ z_3 z z z V aA) ?_;rintro _ ⟨_,_,_,rfl,aB,aC,_⟩;obtain ⟨rfl,_⟩:=O_ aC;refine dRg z z z G z (l1 g_3 z fid<|aB.at0 z)<|dRg z z z G z (fd a_L z)<|dRg z z z G z (l1 B_ z fid<|O.at z)<|dRg z z z G z (mv z) ?_
    obtain ⟨aD,aE,a8⟩:=bdS a7;refine b_K z z z G z (at_ (α:=Int) w_ z_3 z z z V aE) ?_;rintro _ ⟨_,_,_,rfl,aF,aG,_⟩;obtain ⟨rfl,_⟩:=O_ aG;exact dRg z z z G z (l1 g_3 z fid<|aF.at0 z)<|dRg z z z G z (b_r z z)<|dRg z z z H z (pT z G z)<|dR z z (pF z H z)<|pD (fun _ q=>⟨decide<|aD≤az,som a8,q.k<|s4 z z z z,bup (bup s6 s8) sc⟩)
   iterate 12 refine dRn z z z G z ?_
   exact dRg z z z H z (pF z G z)<|dR z z (pF z H z)<|pD (fun _ q=>⟨false,som<|ifF L G,q.k<|s4 z z z z,bup (bup s6 s8) sc⟩)
  rintro aH _ ⟨xj,rfl,_,W⟩;revert aH;refine Wo<|Wc z (fun hcl=>?_) (fun hcl=>?_)
  ·exact Ws<|Ra z<|Wn<|Wr<|rtO<|qL (som<|ifT hmx hcl).symm<|h_ hr z ⟨bup (bup (bup (bup h4 h3) s5) s7) W,z⟩
  exact Wk<|Wg<|Rm z<|R z (inc_ hku (lt_ (repS.len p2_6) M_) z z)<|Ra z<|Wl (fun _ q=>⟨(),(som<|ifF hmx hcl).symm,⟨q.k<|s3 z z z,bup s7 W⟩⟩)
 ·rintro _ _ _ ⟨a9,sm⟩;refine Wu ?_ a9;refine Wq<|Ws<|Rm z<|R z (fd a_L z)<|R z (l1 B_ z fid<|((ha.e s5).e sm).at z)<|R z (lnR w_ z<|p2_6.g<|(((h4.ag B).e h3).e s5).e sm)<|R z (lss z z)<|Wn<|Wc z (fun hc=>(a_4 hc).elim) (fun _=>?_)
  exact We<|fun a' ha'=>⟨rfl,⟨Sat.weaken ha' sn,sm⟩⟩
 ·rintro _ aI _ rfl ⟨_,aJ⟩;have aa:=elL hmr;revert aI;refine Wo<|Ws<|Ra z<|Wn ?_
  obtain rfl:=som aa;exact Wr<|h_ hr z ⟨bup (bup (bup h4 h3) s5) aJ,z⟩
 rintro _ _ _ _ rfl ⟨rfl,ab⟩;have ad:=elR hmr;obtain rfl:=som ad;exact ⟨ab,z⟩
theorem W_w23 {x1:d_} {x2:g_} {res:Bool} (hm:f_u x1 x2=some res) (hBw:B≤w0.z) (p1_0:repS w0 B (sl A0 N0 C0) x1.rules) (p2_0:x2.name.b.length≤LEN) (p2_1:inI x2.kind) (p2_2:inI x2.size) (p2_4:repS w0 B (sl A2 N2 C2) x2.bytes) (p2_5:repS w0 B (sl A3 N3 C3) x2.names) (p2_6:repS w0 B (sl A1 N1 C1) x2.tags) (p2_7:repS w0 B (sl A4 N4 C4) x2.kids):o_ prog 174 [(.agg #[sl A0 N0 C0]),(.agg #[Str.v x2.name,vI x2.kind,vI x2.size,vB x2.little,sl A2 N2 C2,sl A3 N3 C3,sl A1 N1 C1,sl A4 N4 C4])] w0 (Q0 w0 B res):=by
 unfold f_u at hm
 refine goF func174 z z (lb z) fun fn hr=>Ws<|E z (fb z) ?_
 rintro _ aa ⟨rfl,aK⟩;have h1:=aK.below;have ab:Blk aa w0.z [sl A0 N0 C0]:=aK.blk;refine E z (fb z) ?_;rintro _ H ⟨rfl,aL⟩;have G:=aL.below;have h3:Blk H aa.z (vR x2 A2 N2 C2 A3 N3 C3 A1 N1 C1 A4 N4 C4):=aL.blk;refine Ra z<|Wn<|Wq<|Ws<|R z (fd a_x z)<|R z (l1 g_3 z fid<|h3.at z)<|Wn<|Wb<|Ws<|R z (eql z z)<|Ra z<|Wn<|Wc z (fun a0=>?_) (fun a0=>?_)
 ·refine Wq ?_;obtain ⟨bz,b4,b5⟩:=bdS<|ifT hm a0;refine Wt (fun a w=>∃ (ad:Bool),ad=bz∧Sat 114 [(4,vB ad)] a∧Below H.z H w) ?_ ?_
  ·refine Wg<|R z (lN (vs:=vR x2 A2 N2 C2 A3 N3 C3 A1 N1 C1 A4 N4 C4) J_ p_ z z fid<|h3.row 0 8 z) ?_
   have hw:=(h1.ag B).e G;have aM:=lt_ h1.s G.s;obtain ⟨bA,bB,ao⟩:=bdS b4;refine E z (fc call205 z<|c_I (B:=B) bB (zt' hBw aM) p2_0 p2_1 p2_2 (p2_4.g hw) (p2_5.g hw) (p2_6.g hw) (p2_7.g hw)<|ii z) ?_;rintro _ _ ⟨sg,rfl⟩;refine Rm z ?_
   rcases bs bA with hca | hca
   ·refine Rh z hca (fd a_t z) ?_;have aN:=h3.e sg;refine Rh z hca (l1 g_3 z fid<|aN.at z) ?_;obtain ⟨bC,bD,ap⟩:=bdS<|ifT ao hca;refine Eg z z hca z (fc call103 z<|b_d (B:=B) bD (zt' hBw<|lt_ aM sg.s) p2_2 (ii z)<|ii z) ?_;rintro _ _ ⟨sx,rfl⟩;refine R z (pT z hca z)<|Rm z ?_
    rcases bs bC with L | L
    ·have aq:=ifT ap L;refine Rh z L (fd c_r z) ?_;have aO:=aN.e sx;refine Rh z L (l1 g_4 z fid<|aO.at z)<|Rh z L (not_ z)<|Rh z L (mv z) ?_
     rcases bs (!x2.little) with hcb | hcb
     ·iterate 3 refine Nh z hcb ?_
      exact Rh z L (pT z hcb z)<|R z (pT z L z)<|Ra z<|Wl (fun _ q=>⟨true,som<|ifT aq hcb,q.k<|s1 z,bup sg sx⟩)
     exact Rh z hcb (fd a_t z)<|Rh z hcb (l1 g_3 z fid<|aO.at z)<|Rh z hcb (a_9 z z)<|Rh z L (pF z hcb z)<|R z (pT z L z)<|Ra z<|Wl (fun _ q=>⟨decide<|1<x2.size,som<|ifF aq hcb,q.k<|s1 z,bup sg sx⟩)
    iterate 4 refine Nh z L ?_
    exact Nv z<|Nv z<|Nv z<|Nh z L<|R z (pF z L z)<|Ra z<|Wl (fun _ q=>⟨false,som<|ifF ap L,q.k<|s1 z,bup sg sx⟩)
   iterate 3 refine Nh z hca ?_
   exact R z (pF z hca z)<|Rm z<|Nh z z<|Nh z z<|Nh z z<|Nh z z<|Nv z<|Nv z<|Nv z<|Nh z z<|R z (pF z z z)<|Ra z<|Wl (fun _ q=>⟨false,som<|ifF ao hca,q.k<|s1 z,sg⟩)
  rintro bE _ ⟨ad,rfl,_,bF⟩;revert bE;refine Wo ?_;obtain rfl:=som b5;exact Wr<|rtO<|h_ hr z ⟨bup (bup h1 G) bF,z⟩
 have ar:=ifF hm a0;refine Ws<|R z (eql z z)<|Ra z<|Wn<|Wc z (fun a1=>?_) (fun a1=>?_)
 ·refine Wq ?_;obtain ⟨bG,b6,b7⟩:=bdS<|ifT ar a1;refine Wt (fun a w=>∃ (ae:Bool),ae=bG∧Sat 114 [(4,vB ae)] a∧Below H.z H w) ?_ ?_
  ·refine Wg<|R z (lN (vs:=vR x2 A2 N2 C2 A3 N3 C3 A1 N1 C1 A4 N4 C4) J_ p_ z z fid<|h3.row 0 8 z) ?_
   have hl:=(h1.ag B).e G;have aP:=lt_ h1.s G.s;obtain ⟨bH,bI,au⟩:=bdS b6;refine E z (fc call205 z<|c_I (B:=B) bI (zt' hBw aP) p2_0 p2_1 p2_2 (p2_4.g hl) (p2_5.g hl) (p2_6.g hl) (p2_7.g hl)<|ii z) ?_;rintro _ _ ⟨sn,rfl⟩;refine Rm z ?_
   rcases bs bH with V | V
   ·refine Rh z V (fd a_K z)<|Rh z V (l1 Q_ z fid<|(h3.e sn).at z) ?_
    have aQ:=p2_4.g<|hl.e sn
    refine Rh z V (lnR n_ z aQ) ?_;obtain ⟨bJ,bK,b8⟩:=bdS<|ifT au V;refine Eg z z V z (fc call103 z<|b_d (B:=B) bK (zt' hBw<|lt_ aP sn.s) (a_M<|repS.len aQ) (ii z)<|ii z) ?_;rintro _ _ ⟨bL,rfl⟩;exact R z (pT z V z)<|Ra z<|Wl (fun _ q=>⟨bJ,som b8,q.k<|s1 z,bup sn bL⟩)
   iterate 4 refine Nh z V ?_
   exact R z (pF z V z)<|Ra z<|Wl (fun _ q=>⟨false,som<|ifF au V,q.k<|s1 z,sn⟩)
  rintro bM _ ⟨ae,rfl,_,bN⟩;revert bM;refine Wo ?_;obtain rfl:=som b7;exact Wr<|rtO<|h_ hr z ⟨bup (bup h1 G) bN,z⟩
 have av:=ifF ar a1;refine Ws<|R z (eql z z)<|Ra z<|Wn<|Wc z (fun a2=>?_) (fun a2=>?_)
 ·refine Wq ?_;obtain ⟨bO,b9,ba⟩:=bdS<|ifT av a2;refine Wt (fun a w=>∃ (af:Bool),af=bO∧Sat 114 [(4,vB af)] a∧Below H.z H w) ?_ ?_
  ·refine Wg<|R z (lN (vs:=vR x2 A2 N2 C2 A3 N3 C3 A1 N1 C1 A4 N4 C4) J_ p_ z z fid<|h3.row 0 8 z) ?_
   have hy:=(h1.ag B).e G;have aR:=lt_ h1.s G.s;obtain ⟨bP,bQ,aw⟩:=bdS b9;refine E z (fc call205 z<|c_I (B:=B) bQ (zt' hBw aR) p2_0 p2_1 p2_2 (p2_4.g hy) (p2_5.g hy) (p2_6.g hy) (p2_7.g hy)<|ii z) ?_;rintro _ _ ⟨sz,rfl⟩;refine Rm z ?_
   rcases bs bP with hcc | hcc
   ·refine Rh z hcc (fd a_t z)<|Rh z hcc (l1 g_3 z fid<|(h3.e sz).at z) ?_
    obtain ⟨bR,bS,bb⟩:=bdS<|ifT aw hcc;refine Eg z z hcc z (fc call103 z<|b_d (B:=B) bS (zt' hBw<|lt_ aR sz.s) p2_2 (ii z)<|ii z) ?_;rintro _ _ ⟨bT,rfl⟩;exact R z (pT z hcc z)<|Ra z<|Wl (fun _ q=>⟨bR,som bb,q.k<|s1 z,bup sz bT⟩)
   iterate 3 refine Nh z hcc ?_
   exact R z (pF z hcc z)<|Ra z<|Wl (fun _ q=>⟨false,som<|ifF aw hcc,q.k<|s1 z,sz⟩)
  rintro bU _ ⟨af,rfl,_,bV⟩;revert bU;refine Wo ?_;obtain rfl:=som ba;exact Wr<|rtO<|h_ hr z ⟨bup (bup h1 G) bV,z⟩
 have ax:=ifF av a2;refine Ws<|R z (eql z z)<|Ra z<|Wn<|Wc z (fun a3=>?_) (fun a3=>?_)
 ·refine Wq ?_;obtain ⟨bW,bc,be⟩:=bdS<|ifT ax a3;refine Wt (fun a w=>∃ (ah:Bool),ah=bW∧Sat 114 [(4,vB ah)] a∧Below H.z H w) ?_ ?_
  ·refine Wd (X:=noX) 0 (.rd 0<|.ef 1<|.rd 2<|.rd 3<|.rd 4<|.rd 5<|.rd 6<|.rd 7<|.ef 8<|.rd 9<|.rd 10<|.rd 11 .done) mo (by kernel_rfl) fun cO sh _=>?_
   have aS:=h3.e sh;refine dR z z (lN (vs:=vR x2 A2 N2 C2 A3 N3 C3 A1 N1 C1 A4 N4 C4) J_ p_ z z fid<|aS.row 0 8 z) ?_;have ho:=((h1.ag B).e G).e sh;have aT:=lt_ (lt_ h1.s G.s) sh.s;obtain ⟨bX,bY,ay⟩:=bdS bc;refine dE z z (fc call205 z<|c_I (B:=B) bY (zt' hBw aT) p2_0 p2_1 p2_2 (p2_4.g ho) (p2_5.g ho) (p2_6.g ho) (p2_7.g ho)<|ii z) (.inr fun _ _ h=>v_<|h.1) ?_;rintro _ _ ⟨si,rfl⟩;refine dR z z (mv z) ?_
   rcases bs bX with I | I
   ·refine dRg z z z I z (lN (vs:=[sl A0 N0 C0]) y_ t_ z z fid<|(((ab.e G).e sh).e si).row 0 1 z)<|dRg z z z I z (fd K_ z)<|dRg z z z I z (l1 B_ z fid<|(aS.e si).at z) ?_
    obtain ⟨_,bZ,bf⟩:=bdS<|ifT ay I;have aU:=ho.e si;refine b_K z z z I z (at_ (α:=Int) w_ z_3 z z z (p2_7.g aU) bZ) ?_;rintro _ ⟨_,_,_,rfl,c0,c1,_⟩;obtain ⟨rfl,c2⟩:=O_ c1;refine dRg z z z I z (l1 g_3 z fid<|c0.at0 z) ?_;obtain ⟨c3,c4,bg⟩:=bdS bf;refine dEg z z z I z (fc call206 z<|e_Y (B:=B) c4 (zt' hBw<|lt_ aT si.s) (p1_0.g aU) c2) (.inr fun _ _ h=>v_<|h.1) ?_;rintro _ _ ⟨c5,rfl,_⟩;exact dRg z z z I z (a_9 z z)<|dR z z (pT z I z)<|dR z z (asg z)<|pD (fun _ q=>⟨decide<|0<c3,som bg,q.k<|s1 z,bup (bup sh si) c5⟩)
   iterate 5 refine dRn z z z I z ?_
   exact dEn z z z I z<|dRn z z z I z<|dR z z (pF z I z)<|dR z z (asg z)<|pD (fun _ q=>⟨false,som<|ifF ay I,q.k<|s1 z,bup sh si⟩)
  rintro c6 _ ⟨ah,rfl,_,c7⟩;revert c6;refine Wo ?_;obtain rfl:=som be;exact Wr<|rtO<|h_ hr z ⟨bup (bup h1 G) c7,z⟩
 have az:=ifF ax a3;refine Ws<|R z (eql z z)<|Ra z<|Wn<|Wc z (fun a4=>?_) (fun a4=>?_)
 ·refine Wq ?_;obtain ⟨c8,bh,bi⟩:=bdS<|ifT az a4;refine Wt (fun a w=>∃ (ai:Bool),ai=c8∧Sat 114 [(4,vB ai)] a∧Below H.z H w) ?_ ?_
  ·refine Wd (X:=noX) 0 (.rd 0<|.ef 1<|.rd 2<|.rd 3<|.rd 4<|.rd 5<|.rd 6<|.rd 7<|.ef 8<|.rd 9<|.rd 10<|.rd 11 .done) mo (by kernel_rfl) fun cP sj _=>?_
   have aV:=h3.e sj;refine dR z z (lN (vs:=vR x2 A2 N2 C2 A3 N3 C3 A1 N1 C1 A4 N4 C4) J_ p_ z z fid<|aV.row 0 8 z) ?_;have hp:=((h1.ag B).e G).e sj;have aW:=lt_ (lt_ h1.s G.s) sj.s;obtain ⟨c9,ca,aA⟩:=bdS bh;refine dE z z (fc call205 z<|c_I (B:=B) ca (zt' hBw aW) p2_0 p2_1 p2_2 (p2_4.g hp) (p2_5.g hp) (p2_6.g hp) (p2_7.g hp)<|ii z) (.inr fun _ _ h=>v_<|h.1) ?_;rintro _ _ ⟨sk,rfl⟩;refine dR z z (mv z) ?_
   rcases bs c9 with J | J
   ·refine dRg z z z J z (lN (vs:=[sl A0 N0 C0]) y_ t_ z z fid<|(((ab.e G).e sj).e sk).row 0 1 z)<|dRg z z z J z (fd K_ z)<|dRg z z z J z (l1 B_ z fid<|(aV.e sk).at z) ?_
    obtain ⟨_,cb,bj⟩:=bdS<|ifT aA J;have aX:=hp.e sk;refine b_K z z z J z (at_ (α:=Int) w_ z_3 z z z (p2_7.g aX) cb) ?_;rintro _ ⟨_,_,_,rfl,cc,cd,_⟩;obtain ⟨rfl,ce⟩:=O_ cd;refine dRg z z z J z (l1 g_3 z fid<|cc.at0 z) ?_;obtain ⟨cf,cg,bk⟩:=bdS bj;refine dEg z z z J z (fc call206 z<|e_Y (B:=B) cg (zt' hBw<|lt_ aW sk.s) (p1_0.g aX) ce) (.inr fun _ _ h=>v_<|h.1) ?_;rintro _ _ ⟨ch,rfl,_⟩;exact dRg z z z J z (a_9 z z)<|dR z z (pT z J z)<|dR z z (asg z)<|pD (fun _ q=>⟨decide<|0<cf,som bk,q.k<|s1 z,bup (bup sj sk) ch⟩)
   iterate 5 refine dRn z z z J z ?_
   exact dEn z z z J z<|dRn z z z J z<|dR z z (pF z J z)<|dR z z (asg z)<|pD (fun _ q=>⟨false,som<|ifF aA J,q.k<|s1 z,bup sj sk⟩)
  rintro ci _ ⟨ai,rfl,_,cj⟩;revert ci;refine Wo ?_;obtain rfl:=som bi;exact Wr<|rtO<|h_ hr z ⟨bup (bup h1 G) cj,z⟩
 have aB:=ifF az a4;refine Ws<|R z (eql z z)<|Ra z<|Wn<|Wc z (fun a5=>?_) (fun a5=>?_)
 ·refine Wq ?_;obtain ⟨ck,bm,bn⟩:=bdS<|ifT aB a5;refine Wt (fun a w=>∃ (aj:Bool),aj=ck∧Sat 114 [(4,vB aj)] a∧Below H.z H w) ?_ ?_
  ·refine Wg<|R z (lN (vs:=vR x2 A2 N2 C2 A3 N3 C3 A1 N1 C1 A4 N4 C4) J_ p_ z z fid<|h3.row 0 8 z)<|R z (fd b_P z)<|R z (l1 b_Z z fid<|h3.at z) ?_
   have hq:=(h1.ag B).e G;have ak:=p2_5.g hq;refine R z (lnR a_N z ak) ?_;have aY:=lt_ h1.s G.s;obtain ⟨cl,cm,aC⟩:=bdS bm;refine E z (fc call205 z<|c_I (B:=B) cm (zt' hBw aY) p2_0 p2_1 p2_2 (p2_4.g hq) ak (p2_6.g hq) (p2_7.g hq)<|a_M<|repS.len ak) ?_;rintro _ _ ⟨sr,rfl⟩;refine Rm z ?_
   rcases bs cl with hcd | hcd
   ·refine Rh z hcd (fd b_P z)<|Rh z hcd (l1 b_Z z fid<|(h3.e sr).at z) ?_
    obtain ⟨cn,co,bo⟩:=bdS<|ifT aC hcd;refine Eg z z hcd z (fc call207 z<|W_w21 (B:=B) co (zt' hBw<|lt_ aY sr.s)<|p2_5.g<|hq.e sr) ?_;rintro _ _ ⟨cp,rfl⟩;exact R z (pT z hcd z)<|Ra z<|Wl (fun _ q=>⟨cn,som bo,q.k<|s1 z,bup sr cp⟩)
   iterate 3 refine Nh z hcd ?_
   exact R z (pF z hcd z)<|Ra z<|Wl (fun _ q=>⟨false,som<|ifF aC hcd,q.k<|s1 z,sr⟩)
  rintro cq _ ⟨aj,rfl,_,cr⟩;revert cq;refine Wo ?_;obtain rfl:=som bn;exact Wr<|rtO<|h_ hr z ⟨bup (bup h1 G) cr,z⟩
 have aD:=ifF aB a5;refine Ws<|R z (eql z z)<|Ra z<|Wn<|Wc z (fun a6=>?_) (fun a6=>?_)
 ·refine Wq ?_;obtain ⟨ct,bp,bq⟩:=bdS<|ifT aD a6;refine Wt (fun a w=>∃ (al:Bool),al=ct∧Sat 114 [(4,vB al)] a∧Below H.z H w) ?_ ?_
  ·refine Wg<|R z (lN (vs:=vR x2 A2 N2 C2 A3 N3 C3 A1 N1 C1 A4 N4 C4) J_ p_ z z fid<|h3.row 0 8 z) ?_
   have ht:=(h1.ag B).e G;have aZ:=lt_ h1.s G.s;obtain ⟨cu,cv,aE⟩:=bdS bp;refine E z (fc call205 z<|c_I (B:=B) cv (zt' hBw aZ) p2_0 p2_1 p2_2 (p2_4.g ht) (p2_5.g ht) (p2_6.g ht) (p2_7.g ht)<|ii z) ?_;rintro _ _ ⟨sm,rfl⟩;refine Rm z ?_
   rcases bs cu with hce | hce
   ·refine Rh z hce (lN (vs:=[sl A0 N0 C0]) y_ t_ z z fid<|((ab.e G).e sm).row 0 1 z)<|Rh z hce (lN (vs:=vR x2 A2 N2 C2 A3 N3 C3 A1 N1 C1 A4 N4 C4) J_ p_ z z fid<|(h3.e sm).row 0 8 z) ?_
    have hu:=ht.e sm;obtain ⟨cw,cx,bt⟩:=bdS<|ifT aE hce;refine Eg z z hce z (fc call208 z<|W_w22 (B:=B) cx (zt' hBw<|lt_ aZ sm.s) (p1_0.g hu) p2_0 p2_1 p2_2 (p2_4.g hu) (p2_5.g hu) (p2_6.g hu)<|p2_7.g hu) ?_;rintro _ _ ⟨cy,rfl⟩;exact R z (pT z hce z)<|Ra z<|Wl (fun _ q=>⟨cw,som bt,q.k<|s1 z,bup sm cy⟩)
   iterate 3 refine Nh z hce ?_
   exact R z (pF z hce z)<|Ra z<|Wl (fun _ q=>⟨false,som<|ifF aE hce,q.k<|s1 z,sm⟩)
  rintro cz _ ⟨al,rfl,_,cA⟩;revert cz;refine Wo ?_;obtain rfl:=som bq;exact Wr<|rtO<|h_ hr z ⟨bup (bup h1 G) cA,z⟩
 refine Wq<|Ws<|R z (eql z z)<|Ra z<|Wn ?_
 obtain ⟨cB,aF,aG⟩:=bdS<|ifF aD a6;refine Wt (fun a w=>∃ (am:Bool),am=cB∧Sat 114 [(3,pt aa.z),(6,vI x2.kind),(92,vB am)] a∧Below H.z H w) ?_ ?_
 ·refine Wc z (fun a7=>?_)<|fun a7=>?_
  ·exact a_g<|fun _ q=>⟨x2.kind==8,som<|ifT aF a7,q.k<|s3 z z z,br H⟩
  exact Wg<|R z (eql z z)<|Ra z<|Wl (fun _ q=>⟨x2.kind==9,som<|ifF aF a7,q.k<|s3 z z z,br H⟩)
 rintro cC b0 ⟨am,rfl,_,sf⟩;revert cC;refine Wo<|Wc z (fun a8=>?_) (fun a8=>?_)
 ·refine Ws<|R z (lN (vs:=vR x2 A2 N2 C2 A3 N3 C3 A1 N1 C1 A4 N4 C4) J_ p_ z z fid<|(h3.e sf).row 0 8 z) ?_
  have Y:=((h1.ag B).e G).e sf;obtain ⟨_,cD,bu⟩:=bdS<|ifT aG a8;refine E z (fc call205 z<|c_I (B:=B) cD (zt' hBw<|lt_ (lt_ h1.s G.s) sf.s) p2_0 p2_1 p2_2 (p2_4.g Y) (p2_5.g Y) (p2_6.g Y) (p2_7.g Y)<|ii z) ?_;rintro _ _ ⟨cE,rfl⟩;refine Ra z<|Wn ?_
  obtain rfl:=som bu;exact Wr<|rtO<|h_ hr z ⟨bup (bup (bup h1 G) sf) cE,z⟩
 have aH:=ifF aG a8;refine Ws<|R z (eql z z)<|Ra z<|Wn<|Wc z (fun a9=>?_) (fun a9=>?_)
 ·refine Wq ?_;obtain ⟨cF,bv,bw⟩:=bdS<|ifT aH a9;refine Wt (fun a w=>∃ (an:Bool),an=cF∧Sat 114 [(4,vB an)] a∧Below b0.z b0 w) ?_ ?_
  ·refine Wg ?_;have b1:=h3.e sf;refine R z (lN (vs:=vR x2 A2 N2 C2 A3 N3 C3 A1 N1 C1 A4 N4 C4) J_ p_ z z fid<|b1.row 0 8 z) ?_;have hv:=((h1.ag B).e G).e sf;obtain ⟨cG,cH,aI⟩:=bdS bv;refine E z (fc call205 z<|c_I (B:=B) cH (zt' hBw<|lt_ (lt_ h1.s G.s) sf.s) p2_0 p2_1 p2_2 (p2_4.g hv) (p2_5.g hv) (p2_6.g hv) (p2_7.g hv)<|ii z) ?_;rintro _ _ ⟨ss,rfl⟩;refine Rm z ?_
   rcases bs cG with W | W
   ·have aJ:=ifT aI W;refine Rh z W (fd a_K z) ?_;have b2:=b1.e ss;refine Rh z W (l1 Q_ z fid<|b2.at z) ?_;have b3:=p2_4.g<|hv.e ss
    refine Rh z W (lnR n_ z b3)<|Rh z W (eql z z)<|R z (pT z W z)<|Rm z ?_
    rcases bs ((x2.bytes.length:Int)==1) with O | O
    ·refine Rh z O (fd a_K z)<|Rh z O (l1 Q_ z fid<|b2.at z) ?_
     obtain ⟨cI,cJ,bx⟩:=bdS<|ifT aJ O;refine RXg z z O z (at_ (α:=UInt8) n_ z_5 z z z b3 cJ) ?_;rintro _ ⟨_,_,_,rfl,cK,cL,_⟩;obtain rfl:=u8 cL;exact Rh z O (l1 g_5 z fid<|cK.at0 z)<|Rh z O (nq z z)<|R z (pT z O z)<|Ra z<|Wl (fun _ q=>⟨(byteI cI) != (byteI (92:UInt8)),som bx,q.k<|s1 z,ss⟩)
    iterate 5 refine Nh z O ?_
    exact R z (pF z O z)<|Ra z<|Wl (fun _ q=>⟨false,som<|ifF aJ O,q.k<|s1 z,ss⟩)
   iterate 4 refine Nh z W ?_
   exact R z (pF z W z)<|Rm z<|Nh z z<|Nh z z<|Nh z z<|Nh z z<|Nh z z<|R z (pF z z z)<|Ra z<|Wl (fun _ q=>⟨false,som<|ifF aI W,q.k<|s1 z,ss⟩)
  rintro cM _ ⟨an,rfl,_,cN⟩;revert cM;refine Wo ?_;obtain rfl:=som bw;exact Wr<|rtO<|h_ hr z ⟨bup (bup (bup h1 G) sf) cN,z⟩
 refine Wk<|Ws<|Ra z<|Wn ?_
 obtain rfl:=som<|ifF aH a9;exact Wr<|h_ hr z ⟨bup (bup h1 G) sf,z⟩
theorem W_w24 {x1:d_} {x2:Int} {res:Bool} (hm:f_v x1 x2=some res) (hBw:B≤w0.z) (p1_0:repS w0 B (sl A0 N0 C0) x1.rules) (p2_0:inI x2):o_ prog 122 [(.agg #[sl A0 N0 C0]),vI x2] w0 (Q0 w0 B res):=by
 unfold f_v at hm
 refine goF func122 z z (lb z) fun fn hr=>Ws<|E z (fb z) ?_
 rintro _ aL ⟨rfl,a6⟩;have h1:=a6.below;have he:Blk aL w0.z [sl A0 N0 C0]:=a6.blk;refine Ra z<|Wn<|Wq<|Ws<|Rm z<|R z (fd X_ z)<|R z (l1 a_0 z fid<|he.at z)<|R z (lnR a_1 z<|p1_0.e h1)<|R z (sb_ z z) ?_
 obtain ⟨_,aM,W⟩:=bdS hm;refine E z (fc call103 z<|b_d (B:=B) aM (zt' hBw h1.s) p2_0 (ii z)<|iS _ _) ?_;rintro _ I ⟨G,rfl⟩;refine R z (not_ z)<|Wn<|Wc z (fun hci=>?_) (fun hci=>?_)
 ·refine Ws<|Ra z<|Wn ?_
  obtain rfl:=som<|ifT W hci;exact Wr<|h_ hr z ⟨bup h1 G,z⟩
 refine Wk<|Ws<|R z (fd X_ z) ?_
 have hj:=he.e G;refine R z (l1 a_0 z fid<|hj.at z)<|Rm z ?_
 obtain ⟨xk,aN,an⟩:=bdS<|ifF W hci;have hl:=(h1.ag B).e G;refine RX z (at_ (α:=g_) a_1 p_ z z z (p1_0.g hl) aN) ?_;rintro _ ⟨_,_,_,rfl,aO,aP,_⟩;obtain ⟨am,nn,co,ap,nq,cr,au,ns,ct,av,nw,cx,rfl,a7,aQ,aR,aS,aT,aU,hf⟩:=a_z aP;refine R z (lN (vs:=vR xk am nn co ap nq cr au ns ct av nw cx) J_ p_ z z fid aO)<|E z (fa b_i) ?_
 rintro _ aV ⟨rfl,a8⟩;have h2:=a8.below;refine E0 (fs (cur':=vR xk am nn co ap nq cr au ns ct av nw cx) p_ z z (a8.blk:Blk aV I.z [(Str.v (⟨[]⟩:Str)),vI 0,vI 0,vB false,sl none 0 0,sl none 0 0,sl none 0 0,sl none 0 0]) z (lb z) (oA z) z) ?_;rintro _ J ⟨hg,aW⟩;have h3:=aW.one;refine Wn<|Wq<|Ws<|Ra z<|Wn ?_
 obtain ⟨_,ao,Y⟩:=bdS an;refine Wf (σ:=Unit) (ρ:=Bool) (fun (a9:Nat) (_:Unit) a w=>Sat 58 [(1,vI x2),(2,pt w0.z),(5,pt I.z),(6,vI ((a9:Nat):Int))] a∧Below J.z J w) (fun (_:Unit) a w=>Sat 58 [(1,vI x2),(2,pt w0.z),(5,pt I.z)] a∧Below J.z J w) (fun r ex a w=>ex = .ret∧L_ prog fn (Q0 w0 B r) a w) ao ?_ ?_ ?_ ?_ ?_
 ·exact fun _ q=>⟨q.k<|s4 z z z z,br J⟩
 ·rintro a9 _ _ _ _ a0 ⟨aq,sa⟩ ar;refine Wu ?_ aq;refine Wq<|Ws<|Rm z<|Rm z<|R z (lss z z)<|Wn<|Wc z (fun _=>?_) (fun hc=>(h_X a0 hc).elim)
  refine Wk<|Wq<|Wb<|Wq (Wd (X:=noX) 0 (.rd 0<|.rd 1<|.rd 2<|.rd 3<|.rd 4<|.rd 5<|.rd 6<|.rd 7<|.rd 8 .done) mo (by kernel_rfl) fun bh sb _=>dR z z (fd X_ z)<|dR z z (l1 a_0 z fid<|((((hj.e h2).c h3<|djs<|mm1 he.lt G.s).e sa).e sb).at z)<|dR z z (mv z) ?_)
  obtain ⟨_,aX,a1⟩:=bdS ar;have aa:=lt_ h1.s G.s;refine dRX z z (at_ (α:=g_) a_1 p_ z z z (p1_0.g<|(((hl.e h2).c h3<|c_ (or0 (b_ lr)  (m_<|zt' hBw aa) : ∀ k∈[I.z],¬ B k)).e sa).e sb) aX) ?_;rintro _ ⟨_,_,_,rfl,aY,aZ,_⟩;obtain ⟨_,_,_,_,_,_,_,_,_,_,_,_,rfl,_,_,_,_,_,_,_⟩:=a_z aZ;refine dR z z (fd e_5 z)<|dR z z (l1 g_9 z fid<|aY.at (j:=0) z)<|dR z z (fd e_5 z)<|dR z z (l1 g_9 z fid<|((hg.e sa).e sb).at z)<|dR z z (f_1 z z)<|pD<|Wo<|Wc z (fun hcy=>?_) (fun hcy=>?_)
  ·exact Ws<|Ra z<|Wn<|Wr<|rtO<|qL (som<|ifT a1 hcy).symm<|h_ hr z ⟨bup (bup (bM (bup (bup h1 G) h2) h3<|m1 aa) sa) sb,z⟩
  exact Wk<|Wg<|Rm z<|R z (inc_ a0 (tl_ p2_0) z z)<|Ra z<|Wl (fun _ q=>⟨(),(som<|ifF a1 hcy).symm,⟨q.k<|s4 z z z z,bup sa sb⟩⟩)
 ·rintro _ _ _ ⟨aw,b0⟩;refine Wu ?_ aw;refine Wq<|Ws<|Rm z<|Rm z<|R z (lss z z)<|Wn<|Wc z (fun hc=>(h_Y hc).elim) (fun _=>?_)
  exact We<|fun a' ha'=>⟨rfl,⟨Sat.weaken ha'<|s3 z z z,b0⟩⟩
 ·rintro _ b1 wc rfl ⟨_,s5⟩;have ax:=elL Y;revert b1;refine Wo<|Wq<|Ws<|Ra z<|Wn ?_
  obtain ⟨_,ay,a2⟩:=bdS ax;refine Wf (σ:=Unit) (ρ:=Bool) (fun (ab:Nat) (_:Unit) a w=>Sat 58 [(1,vI x2),(2,pt w0.z),(5,pt I.z),(7,vI ((ab:Nat):Int))] a∧Below wc.z wc w) (fun (_:Unit) a w=>Sat 58 [(2,pt w0.z),(5,pt I.z)] a∧Below wc.z wc w) (fun r ex a w=>ex = .ret∧L_ prog fn (Q0 w0 B r) a w) ay ?_ ?_ ?_ ?_ ?_
  ·exact fun _ q=>⟨q.k<|s4 z z z z,br wc⟩
  ·rintro ab _ _ _ _ a3 ⟨az,sd⟩ aA;refine Wu ?_ az;refine Wq<|Ws<|Rm z<|R z (fd K_ z) ?_
   have ad:=(hg.e s5).e sd;refine R z (l1 B_ z fid<|ad.at z) ?_;have hz:=lt_ h1.s G.s;have ae:=hf.g<|(((h2.ag B).c h3<|c_ (or0 (b_ lr)  (m_<|zt' hBw hz) : ∀ k∈[I.z],¬ B k)).e s5).e sd
   refine R z (lnR w_ z ae)<|R z (lss z z)<|Wn<|Wc z (fun _=>?_) (fun hc=>(a_3 a3 hc).elim)
   refine Wk<|Wq<|Wb<|Ws<|R z (fd K_ z)<|R z (l1 B_ z fid<|ad.at z)<|Rm z ?_
   obtain ⟨_,b2,aB⟩:=bdS aA;refine RX z (at_ (α:=Int) w_ z_3 z z z ae b2) ?_;rintro _ ⟨_,_,_,rfl,b3,b4,_⟩;obtain ⟨rfl,b5⟩:=O_ b4;refine R z (l1 g_3 z fid<|b3.at0 z)<|Rm z<|R z (sb_ z z) ?_
   obtain ⟨_,b6,a4⟩:=bdS aB;refine E z (fc call103 z<|b_d (B:=B) b6 (zt' hBw<|lt_ (lt_ (lt_ (lt_ hz h2.s) h3.s) s5.s) sd.s) b5 (ii z)<|iS _ _) ?_;rintro _ _ ⟨af,rfl⟩;refine R z (not_ z)<|Wn<|Wc z (fun L=>?_) (fun L=>?_)
   ·exact Ws<|Ra z<|Wn<|Wr<|rtO<|qL (som<|ifT a4 L).symm<|h_ hr z ⟨bup (bup (bup (bM (bup (bup h1 G) h2) h3<|m1 hz) s5) sd) af,z⟩
   exact Wk<|Wg<|Rm z<|R z (inc_ a3 (lt_ (repS.len hf) M_) z z)<|Ra z<|Wl (fun _ q=>⟨(),(som<|ifF a4 L).symm,⟨q.k<|s4 z z z z,bup sd af⟩⟩)
  ·rintro _ _ _ ⟨aC,O⟩;refine Wu ?_ aC;refine Wq<|Ws<|Rm z<|R z (fd K_ z)<|R z (l1 B_ z fid<|((hg.e s5).e O).at z) ?_
   refine R z (lnR w_ z<|hf.g<|(((h2.ag B).c h3<|c_ (or0 (b_ lr)  (m_<|zt' hBw<|lt_ h1.s G.s) : ∀ k∈[I.z],¬ B k)).e s5).e O)<|R z (lss z z)<|Wn<|Wc z (fun hc=>(a_4 hc).elim) (fun _=>?_)
   exact We<|fun a' ha'=>⟨rfl,⟨Sat.weaken ha'<|s2 z z,O⟩⟩
  ·rintro _ b7 ah rfl ⟨_,s8⟩;have aD:=elL a2;revert b7;refine Wo<|Wq ?_
   obtain ⟨b8,aE,aF⟩:=bdS aD;refine Wt (fun a w=>∃ (V:Bool),V=b8∧Sat 58 [(4,vB V)] a∧Below ah.z ah w) ?_ ?_
   ·refine Wg<|R z (fd e_5 z) ?_
    have ai:=(hg.e s5).e s8;refine R z (l1 g_9 z fid<|ai.at z) ?_;have aj:=lt_ h1.s G.s;have ak:=lt_ (lt_ (lt_ (lt_ aj h2.s) h3.s) s5.s) s8.s;obtain ⟨b9,ba,a5⟩:=bdS aE;refine E z (fc call173 z<|W_w18 (B:=B) ba (zt' hBw ak) a7) ?_;rintro _ _ ⟨s7,rfl⟩;refine Rm z ?_
    rcases bs b9 with H | H
    ·refine Rh z H (lN (vs:=[sl A0 N0 C0]) y_ t_ z z fid<|(((((hj.e h2).c h3<|djs<|mm1 he.lt G.s).e s5).e s8).e s7).row 0 1 z)<|Rh z H (lN (vs:=vR xk am nn co ap nq cr au ns ct av nw cx) J_ p_ z z fid<|(ai.e s7).row 0 8 z) ?_
     have al : ∀ k∈[I.z],¬ B k:=or0 (b_ lr)  (m_<|zt' hBw aj);have hh:=((((h2.ag B).c h3<|c_ al).e s5).e s8).e s7;obtain ⟨bb,bc,aG⟩:=bdS<|ifT a5 H;refine Eg z z H z (fc call174 z<|W_w23 (B:=B) bc (zt' hBw<|lt_ ak s7.s) (p1_0.g<|((((hl.e h2).c h3<|c_ al).e s5).e s8).e s7) a7 aQ aR (aS.g hh) (aT.g hh) (aU.g hh)<|hf.g hh) ?_;rintro _ _ ⟨be,rfl⟩;exact R z (pT z H z)<|Ra z<|Wl (fun _ q=>⟨bb,som aG,q.k<|s1 z,bup s7 be⟩)
    iterate 3 refine Nh z H ?_
    exact R z (pF z H z)<|Ra z<|Wl (fun _ q=>⟨false,som<|ifF a5 H,q.k<|s1 z,s7⟩)
   rintro bf _ ⟨V,rfl,_,bg⟩;revert bf;refine Wo ?_;obtain rfl:=som aF;exact Wr<|h_ hr z ⟨bup (bup (bup (bM (bup (bup h1 G) h2) h3<|m1<|lt_ h1.s G.s) s5) s8) bg,z⟩
  rintro _ _ _ _ rfl ⟨rfl,aH⟩;have aI:=elR a2;obtain rfl:=som aI;exact ⟨aH,z⟩
 rintro _ _ _ _ rfl ⟨rfl,aJ⟩;have aK:=elR Y;obtain rfl:=som aK;exact ⟨aJ,z⟩
theorem W_w25 {x1:d_} {res:Bool} (hm:f_w x1=some res) (hBw:B≤w0.z) (p1_0:repS w0 B (sl A0 N0 C0) x1.rules):o_ prog 64 [(.agg #[sl A0 N0 C0])] w0 (Q0 w0 B res):=by
 unfold f_w at hm
 refine goF func64 z z (lb z) fun fn hr=>Ws<|E z (fb z) ?_
 rintro _ H ⟨rfl,O⟩;have G:=O.below;have h2:Blk H w0.z [sl A0 N0 C0]:=O.blk;refine Ra z<|Wn<|Wq<|Ws<|Ra z<|Wn ?_
 obtain ⟨_,hug,L⟩:=bdS hm;refine Wf (σ:=Unit) (ρ:=Bool) (fun (ka:Nat) (_:Unit) a w=>Sat 19 [(1,pt w0.z),(3,vI ((ka:Nat):Int))] a∧Below H.z H w) (fun (_:Unit) a w=>Sat 19 [(1,pt w0.z)] a∧Below H.z H w) (fun r ex a w=>ex = .ret∧L_ prog fn (Q0 w0 B r) a w) hug ?_ ?_ ?_ ?_ ?_
 ·exact fun _ q=>⟨q.k<|s2 z z,br H⟩
 ·rintro ka _ _ _ _ I ⟨hSh,s3⟩ hmi;refine Wu ?_ hSh;refine Wq<|Ws<|Rm z<|R z (fd X_ z) ?_
  have hb:=h2.e s3;refine R z (l1 a_0 z fid<|hb.at z) ?_;have hd:=p1_0.g<|(G.ag B).e s3
  refine R z (lnR a_1 z hd)<|R z (lss z z)<|Wn<|Wc z (fun _=>?_) (fun hc=>(a_3 I hc).elim)
  refine Wk<|Wq<|Wb<|Ws<|R z (lN (vs:=[sl A0 N0 C0]) y_ t_ z z fid<|hb.row 0 1 z)<|Rm z ?_
  obtain ⟨_,ej,hmc⟩:=bdS hmi;refine E z (fc call122 z<|W_w24 (B:=B) ej (zt' hBw<|lt_ G.s s3.s) hd<|ic (Nat.le_of_lt I)<|lt_ (repS.len p1_0) M_) ?_;rintro _ _ ⟨se,rfl⟩;refine R z (not_ z)<|Wn<|Wc z (fun J=>?_) (fun J=>?_)
  ·exact Ws<|Ra z<|Wn<|Wr<|rtO<|qL (som<|ifT hmc J).symm<|h_ hr z ⟨bup (bup G s3) se,z⟩
  exact Wk<|Wg<|Rm z<|R z (inc_ I (lt_ (repS.len p1_0) M_) z z)<|Ra z<|Wl (fun _ q=>⟨(),(som<|ifF hmc J).symm,⟨q.k<|s2 z z,bup s3 se⟩⟩)
 ·rintro _ _ _ ⟨hSk,s7⟩;refine Wu ?_ hSk;refine Wq<|Ws<|Rm z<|R z (fd X_ z)<|R z (l1 a_0 z fid<|(h2.e s7).at z)<|R z (lnR a_1 z<|p1_0.g<|(G.ag B).e s7)<|R z (lss z z)<|Wn<|Wc z (fun hc=>(a_4 hc).elim) (fun _=>?_)
  exact We<|fun a' ha'=>⟨rfl,⟨Sat.weaken ha'<|s1 z,s7⟩⟩
 ·rintro _ al _ rfl ⟨_,s4⟩;have hmm:=elL L;revert al;refine Wo<|Ws<|R z (fd X_ z)<|R z (l1 a_0 z fid<|(h2.e s4).at z) ?_
  have hf:=p1_0.g<|(G.ag B).e s4
  refine R z (lnR a_1 z hf) ?_;obtain ⟨_,en,hmo⟩:=bdS hmm;refine E z (fc call103 z<|b_d (B:=B) en (zt' hBw<|lt_ G.s s4.s) (a_M<|repS.len hf) (ii z)<|ii z) ?_;rintro _ _ ⟨sp,rfl⟩;refine Ra z<|Wn ?_
  obtain rfl:=som hmo;exact Wr<|h_ hr z ⟨bup (bup G s4) sp,z⟩
 rintro _ _ _ _ rfl ⟨rfl,hqq⟩;have hmr:=elR L;obtain rfl:=som hmr;exact ⟨hqq,z⟩
theorem i_f {x1:d_} {x2:Int} {res:Bool} (hm:d_O x1 x2=some res) (hBw:B≤w0.z) (p1_0:repS w0 B (sl A0 N0 C0) x1.rules) (p2_0:inI x2):o_ prog 160 [(.agg #[sl A0 N0 C0]),vI x2] w0 (Q0 w0 B res):=by
 unfold d_O at hm
 refine goF func160 z z (lb z) fun fn hr=>Ws<|E z (fb z) ?_
 rintro _ H ⟨rfl,h5⟩;have h1:=h5.below;have h6:Blk H w0.z [sl A0 N0 C0]:=h5.blk;refine Ra z<|Wn<|Wq ?_
 obtain ⟨u8,J,hma⟩:=bdS hm;refine Wt (fun a w=>∃ (x4:Bool),x4=u8∧Sat 15 [(4,vB x4)] a∧Below H.z H w) ?_ ?_
 ·refine Wg<|Rm z<|R z (fd X_ z)<|R z (l1 a_0 z fid<|h6.at z)<|R z (lnR a_1 z<|p1_0.e h1)<|R z (sb_ z z) ?_
  obtain ⟨rb,ec,I⟩:=bdS J;refine E z (fc call103 z<|b_d (B:=B) ec (zt' hBw h1.s) p2_0 (ii z)<|iS _ _) ?_;rintro _ _ ⟨s2,rfl⟩;refine Rm z ?_
  rcases bs rb with G | G
  ·refine Rh z G (lN (vs:=[sl A0 N0 C0]) y_ t_ z z fid<|(h6.e s2).row 0 1 z) ?_;obtain ⟨rd,ee,hmf⟩:=bdS<|ifT I G;refine Eg z z G z (fc call64 z<|W_w25 (B:=B) ee (zt' hBw<|lt_ h1.s s2.s)<|p1_0.g<|(h1.ag B).e s2) ?_;rintro _ _ ⟨sg,rfl⟩;exact R z (pT z G z)<|Ra z<|Wl (fun _ q=>⟨rd,som hmf,q.k<|s1 z,bup s2 sg⟩)
  exact Nh z G<|Nh z G<|R z (pF z G z)<|Ra z<|Wl (fun _ q=>⟨false,som<|ifF I G,q.k<|s1 z,s2⟩)
 rintro ah _ ⟨x4,rfl,_,si⟩;revert ah;refine Wo ?_;obtain rfl:=som hma;exact Wr<|h_ hr z ⟨bup h1 si,z⟩
def Q12 (w0:World) (B:Zone) (r:Val) (v:Value) (w':World):Prop:=Bw w0 w'∧(fun G=>∃ H I J S1 a2 L O S2,(.agg #[vI G.number,sl H I J,sl a2 L O])=v∧inI G.number∧a_ w' S1 (sl H I J) G.bytes∧a_ w' S2 (sl a2 L O) G.items∧(S1++S2).Nodup∧(∀ k∈(S1++S2),w0.z≤k)) r
structure i_g (f:d_→Int→Option Val):Prop where
  run : ∀ {A0:Option Addr} {N0 C0:Nat} {B:Zone} {x1:d_} {x2:Int} {res:Val} {w0:World} (hm:f x1 x2=some res) (hBw:B≤w0.z) (p1_0:repS w0 B (sl A0 N0 C0) x1.rules) (p2_0:inI x2),o_ prog 189 [(.agg #[sl A0 N0 C0]),vI x2] w0<|Q12 w0 B res
abbrev k_d (n:Nat):Prop:=i_g (d_M n).spec_l9Default
end Go.Vw
