
import Derived.Test.YtajhmimbhplkfaaGreatDoorVmB
import Derived.Test.YtajhmimbhplkfaaGreatDoorVwNFacts
import Derived.Test.YtajhmimbhplkfaaGreatDoorVwNExt
import Derived.ScopeJumps
import Derived.Laws.CopyRow
import Derived.Laws.IdiomStrings
import Derived.Lib.AppendStr
import Derived.Recover
import Derived.Tactics
import Derived.Tactics2
import Derived.Laws.Pointers
import Derived.Lib.Hide
set_option linter.unusedVariables false
namespace Go.Vw
open Go.RowKit Dat Go.Proofs
open Go.Proofs.Tryz
open Go.Vw renaming g_g→Wq,g_i→Wg,WC.of_KC→Wo,e_G→Wl,g_h→Wc,h_n→Wr,i_a→Wu,h_S→pT,h_T→pF,g_J→fd,g_K→l1,i_L→lN,f_0→mv,f_1→asg,h_U→lnR,g_Q→lss,g_P→eql,g_M→ext_,h_X→bP,g_N→add_,h_E→inc_,i_S→not_,h_V→at_,h_y→fc,e_O→fs,h_x→fb,h_w→fa,h_L→sr,h_Q→cr,h_R→cM,h_P→bM,h_B→iS,h_A→iA,h_D→br,h_F→oA,h_H→bs,ltge→lg,inor→io,i_R→nq,i_N→lnT,i_O→sb_,h_J→ar_,h_I→al_,h_K→ds,j_o→m1,h_N→nr_,h_M→nl_,g_o→aa_,d_v→an_,e_F→Wb,g_m→u8,h_t→pD,h_o→We,h_C→Wt,h_z→fS,e_E→or_,i_b→Wf,i_4→qL,h_s→Wd,h_Y→fN,g_p→na_,h_O→nj,h_Z→f0,h_W→rX,i_0→tl_,i_1→ic
variable {A0:Option Addr} {N0 C0:Nat} {B:Zone} {w0:World} {n:Nat} {A6:Option Addr} {N6 C6:Nat} {AB:Option Addr} {A8:Option Addr} {AC:Option Addr} {AD:Option Addr} {NB CB:Nat} {N8 C8:Nat} {NC CC:Nat} {ND CD:Nat} {A2:Option Addr} {A3:Option Addr} {A1:Option Addr} {A4:Option Addr} {N2 C2:Nat} {N3 C3:Nat} {N1 C1:Nat} {N4 C4:Nat} {A9:Option Addr} {AA:Option Addr} {N9 C9:Nat} {NA CA:Nat} {AE:Option Addr} {AF:Option Addr} {NE CE:Nat} {NF CF:Nat} {A7:Option Addr} {N7 C7:Nat} {AI:Option Addr} {NI CI:Nat} {A5:Option Addr} {N5 C5:Nat} {AL:Option Addr} {NL CL:Nat}
def Q0 (w0:World) (B:Zone) (r:Bool) (v:Value) (w':World):Prop:=Bw w0 w'∧(fun G=>(vB G)=v) r
theorem W_w1x {x1:List UInt8} {res:Bool} (hm:g_k x1=some res) (hBw:B≤w0.z) (p1_0:repS w0 B (sl A0 N0 C0) x1):o_ prog 9 [sl A0 N0 C0] w0 (Q0 w0 B res):=by
 unfold g_k at hm
 refine goF func9 z z (lb z) fun fn hr=>Ws<|Ra z<|Wn<|Ws<|Rm z<|R z (lnR n_ z p1_0)<|R z (a_9 z z)<|Ra z<|Wn ?_
 obtain rfl:=som hm;exact Wr<|h_ hr z ⟨br w0,z⟩
def Q1 (w0:World) (B:Zone) (r:D_) (v:Value) (w':World):Prop:=Bw w0 w'∧(fun G=>∃ g1 a2 H I,(pt g1)=v∧Blk w' g1 [.slice a2 H I,vI G.i,vI G.h]∧w0.z≤g1∧repS w' B (sl a2 H I) G.b∧inI G.i∧inI G.h) r
theorem W_w13 {x1:List UInt8} {res:D_} (hm:d_X n x1=some res) (hBw:B≤w0.z) (p1_0:repS w0 B (sl A0 N0 C0) x1):o_ prog 51 [sl A0 N0 C0] w0 (Q1 w0 B res):=by
 unfold d_X at hm
 refine goF func51 z z (lb z) fun fn hr=>Ws<|Ra z<|Wn<|Ws<|Rm z<|R z (lnR n_ z p1_0)<|R z (add_ z z)<|Ra z<|Wn<|Wq<|Ws<|Ra z<|Wn ?_
 obtain ⟨_,huh,hma⟩:=bdS hm;refine b_Y (σ:=Int×Int) (ρ:=D_) (fun s a w=>un2 (fun x0 x2=>Sat 32 [(0,sl A0 N0 C0),(3,vI x0),(4,vI x2)] a∧Below w0.z w0 w∧inI x0∧inI x2) s) (fun s a w=>un2 (fun x0 x2=>Sat 32 [(0,sl A0 N0 C0),(3,vI x0)] a∧Below w0.z w0 w∧inI x0∧inI x2) s) (fun r ex a w=>ex = .ret∧L_ prog fn (Q1 w0 B r) a w) huh ?_ ?_ ?_ ?_
 ·exact fun _ q=>⟨q.k<|s3 z z z,br w0,iA _ _,ii z⟩
 ·rintro ⟨x0,x2⟩ _ H _ ⟨hSi,s5,h4,hb⟩ hmj;refine Wu ?_ hSi;refine Wq<|Wq ?_
  obtain ⟨ul,huc,hmd⟩:=bdS<|b_1 hmj;refine Wt (fun a w=>∃ (x6:Bool),x6=ul∧Sat 32 [(0,sl A0 N0 C0),(3,vI x0),(4,vI x2),(15,vB x6)] a∧Below H.z H w) ?_ ?_
  ·refine Wg<|Rm z<|Rm z<|R z (lnR n_ z<|p1_0.e s5)<|R z (lss z z)<|Rm z ?_
   rcases bs (decide<|x2<(x1.length:Int)) with G | G
   ·exact Rh z G (mv z)<|Rh z G (lss z z)<|R z (pT z G z)<|Wl (fun _ q=>⟨decide<|x2<4000,som<|ifT huc G,q.k<|s4 z z z z,br H⟩)
   exact Nh z G<|Nh z G<|R z (pF z G z)<|Wl (fun _ q=>⟨false,som<|ifF huc G,q.k<|s4 z z z z,br H⟩)
  rintro am _ ⟨x6,rfl,_,s7⟩;revert am;refine Wo<|Wc z (fun I=>?_) (fun I=>?_)
  ·refine Wk<|Wq<|Wb<|Wg<|Rm z<|R z (c_K z z)<|Rm z<|Rm z ?_
   obtain ⟨xn,eo,hmp⟩:=bdS<|ifT hmd I;refine RX z (at_ (α:=UInt8) n_ z_5 z z z (p1_0.g<|(s5.ag B).e s7) eo) ?_;rintro _ ⟨_,_,_,rfl,hq,ht,_⟩;obtain rfl:=u8 ht;exact R z (l1 g_5 z fid<|hq.at0 z)<|R z (b_W d_5 d_3 z)<|R z (add_ z z)<|R z (add_ z z)<|R z (i_P z z)<|Ra z<|Wn<|Wg<|Rm z<|R z (add_ z z)<|Ra z<|Wl (fun _ q=>⟨(a_u .i64 (· &&& ·) (j_ (j_ (a_e x0 137)<|byteI xn) 11) 1073741823,j_ x2 1),(som hmp).symm,⟨q.k<|s3 z z z,bup s5 s7,e_R _ _ _,iA _ _⟩⟩)
  exact We<|fun a' ha'=>b_w (som<|ifF hmd I).symm ⟨Sat.weaken ha'<|s2 z z,bup s5 s7,h4,hb⟩
 ·rintro ⟨x0,x2⟩ ar we rfl ⟨_,s9,h4,hb⟩;have hms:=elL hma;revert ar;refine Wo<|Ws<|Rm z<|Rm z<|R z (bP (parts:=[(0,.tmp 28),(2,.tmp 29)]) (cs:=[sl A0 N0 C0,vI 0,vI x0]) n_5 z z)<|E z (fb z) ?_
  rintro _ wv ⟨rfl,hf⟩;have hg:=hf.below;refine Ra z<|Wn ?_
  obtain rfl:=som<|b_1 hms;exact Wr<|h_ hr z ⟨bup s9 hg,we.z,A0,N0,C0,z,(hf.blk:Blk wv we.z [sl A0 N0 C0,vI 0,vI x0]),atp<|m1 s9.s,p1_0.g<|(s9.ag B).e hg,ii z,h4⟩
 rintro _ _ _ _ rfl ⟨rfl,hqx⟩;have hmy:=elR hma;obtain rfl:=som hmy;exact ⟨hqx,z⟩
def Q2 (w0:World) (g1:Nat) (B:Zone) (A0:Option Addr) (N0 C0:Nat) (x1:D_) (r:Int×Int×Int) (v:Value) (w':World):Prop:=Chg (· ∈ [g1]) w0 w'∧un3 (fun G H I=>(vI G)=v∧inI G∧inI H∧inI I∧Blk w' g1 [sl A0 N0 C0,vI H,vI I]) r
theorem e_W {x1:D_} {g1:Nat} {res:Int×Int×Int} (hm:c_l x1=some res) (hB1:Blk w0 g1 [sl A0 N0 C0,vI x1.i,vI x1.h]) (hBw:B≤w0.z) (hBg : ¬ B g1) (p1_0:repS w0 B (sl A0 N0 C0) x1.b) (p1_1:inI x1.i) (p1_2:inI x1.h):o_ prog 114 [pt g1] w0 (Q2 w0 g1 B A0 N0 C0 x1 res):=by
 unfold c_l at hm
 refine goF func114 z z (lb z) fun fn hr=>Ws<|Ra z<|Wn<|Ws<|Rm z<|Rm z<|R z (V_ z)<|R z (fd g_y z)<|R z (l1 g_3 z fid<|hB1.at z)<|R z (c_K z z)<|R z (add_ z z)<|R z (V_ z)<|R z (fd g_y z)<|E0 (fs (cur':=[sl A0 N0 C0,vI x1.i,(vI<|j_ (a_e x1.h 6364136223846793005) 1442695040888963407)]) z_3 z z hB1 z (lb z) (oA z) z) ?_
 rintro _ wd ⟨he,sf⟩;have ha:=sf.one;refine Wn<|Wq (Wd (X:=noX) 0 (.rd 0<|.rd 1<|.rd 2<|.rd 3<|.rd 4<|.rd 5<|.rd 6<|.rd 7<|.rd 8<|.rd 9<|.rd 10<|.rd 11<|.rd 12 .done) mo (by kernel_rfl) fun wg s5 _=>dR z z (mv z)<|dR z z (V_ z)<|dR z z (fd g_y z) ?_)
 have h6:=he.e s5;refine dR z z (l1 g_3 z fid<|h6.at z)<|dR z z (i_Q z z (by decide))<|dR z z (mv z)<|dR z z (V_ z)<|dR z z (fd g_y z)<|dR z z (l1 g_3 z fid<|h6.at z)<|dR z z (i_Q z z (by decide))<|dR z z (rd_xor z z)<|dR z z (i_P z z)<|dR z z (asg z)<|pD<|Wo<|Wq<|Wq (Wd (X:=noX) 0 (.rd 0<|.rd 1<|.rd 2<|.rd 3<|.rd 4<|.rd 5<|.rd 6<|.rd 7<|.rd 8<|.rd 9 .done) mo (by kernel_rfl) fun G s7 _=>dR z z (mv z)<|dR z z (V_ z)<|dR z z (fd g_x z) ?_)
 have H:=h6.e s7;refine dR z z (l1 g_3 z fid<|H.at z)<|dR z z (mv z)<|dR z z (V_ z)<|dR z z (fd k_6 z)<|dR z z (l1 Q_ z fid<|H.at z) ?_
 have hb:=((ha.agc B<|c_<|b_ hBg).e s5).e s7;refine dR z z (lnR n_ z<|p1_0.g hb)<|dR z z (lss z z)<|pD<|Wo ?_
 obtain ⟨uh,huc,hmi⟩:=bdS hm;refine Wt (fun a w=>∃ (x2:Int) (x3:Int),(x2,x3)=uh∧Sat 58 [(3,vI x2)] a∧Chg (· ∈ [g1]) G w∧inI x2∧inI x3∧Blk w g1 [sl A0 N0 C0,vI x3,(vI<|j_ (a_e x1.h 6364136223846793005) 1442695040888963407)]) ?_ ?_
 ·refine Wc z (fun I=>?_)<|fun I=>?_
  ·refine Wq (Wd (X:=noX) 0 (.rd 0<|.rd 1<|.rd 2<|.rd 3<|.rd 4<|.rd 5<|.rd 6<|.rd 7<|.rd 8<|.rd 9<|.rd 10<|.rd 11<|.rd 12<|.rd 13<|.rd 14 .done) mo (by kernel_rfl) fun wj s9 _=>dR z z (mv z)<|dR z z (mv z)<|dR z z (V_ z)<|dR z z (fd k_6 z) ?_);have h4:=H.e s9;refine dR z z (l1 Q_ z fid<|h4.at z)<|dR z z (mv z)<|dR z z (V_ z)<|dR z z (fd g_x z)<|dR z z (l1 g_3 z fid<|h4.at z) ?_
   obtain ⟨xk,el,hmm⟩:=bdS<|ifT huc I;refine dRX z z (at_ (α:=UInt8) n_ z_5 z z z (p1_0.g<|hb.e s9) el) ?_;rintro _ ⟨_,_,_,rfl,hn,ho,_⟩;obtain rfl:=u8 ho;refine dR z z (l1 g_5 z fid<|hn.at0 z)<|dR z z (b_W d_5 d_3 z)<|dR z z (add_ z z)<|dR z z (i_P z z)<|dR z z (asg z)<|pD<|Wo<|Wg<|Rm z<|Rm z<|R z (V_ z)<|R z (fd g_x z)<|R z (l1 g_3 z fid<|h4.at z)<|R z (add_ z z)<|R z (V_ z)<|R z (fd g_x z)<|E0 (fs (cur':=[sl A0 N0 C0,vI<|j_ x1.i 1,(vI<|j_ (a_e x1.h 6364136223846793005) 1442695040888963407)]) z_3 z z h4 z (lb z) (oA z) z) ?_
   rintro _ wp ⟨hq,ss⟩;refine Wl ?_;exact fun _ q=>⟨a_u .i64 (· &&& ·) (j_ (a_u .i64 (· &&& ·) (a_u .i64 (· ^^^ ·) (b_Q .i64 (j_ (a_e x1.h 6364136223846793005) 1442695040888963407) 33)<|b_Q .i64 (j_ (a_e x1.h 6364136223846793005) 1442695040888963407) 47) 255)<|byteI xk) 255,j_ x1.i 1,som hmm,q.k<|s1 z,(cM (f_ (cr [g1] G) s9:Chg (· ∈ [g1]) G wj) ss.one (io sr):Chg (· ∈ [g1]) G wp),e_R _ _ _,iA _ _,hq⟩
  exact a_g<|fun _ q=>⟨a_u .i64 (· &&& ·) (a_u .i64 (· ^^^ ·) (b_Q .i64 (j_ (a_e x1.h 6364136223846793005) 1442695040888963407) 33)<|b_Q .i64 (j_ (a_e x1.h 6364136223846793005) 1442695040888963407) 47) 255,x1.i,som<|ifF huc I,q.k<|s1 z,cr [g1] G,e_R _ _ _,p1_1,H⟩
 rintro ar wv ⟨x2,x3,rfl,_,sw,hx,hy,hz⟩;revert ar;refine Wo<|Ws<|Rm z<|Ra z<|Wn ?_
 obtain rfl:=som<|b_1 hmi;exact Wr<|h_ hr z ⟨(cM (f_ (f_ (cM (cr [g1] w0) ha (io sr):Chg (· ∈ [g1]) w0 wd) s5:Chg (· ∈ [g1]) w0 wg) s7:Chg (· ∈ [g1]) w0 G) sw (io sr):Chg (· ∈ [g1]) w0 wv),z,hx,hy,iA _ _,hz⟩
theorem a_V {x1:D_} {g1:Nat} {x2:Int} {res:Int×Int×Int} (hm:a_m x1 x2=some res) (hB1:Blk w0 g1 [sl A0 N0 C0,vI x1.i,vI x1.h]) (hBw:B≤w0.z) (hBg : ¬ B g1) (p1_0:repS w0 B (sl A0 N0 C0) x1.b) (p1_1:inI x1.i) (p1_2:inI x1.h) (p2_0:inI x2):o_ prog 57 [pt g1,vI x2] w0 (Q2 w0 g1 B A0 N0 C0 x1 res):=by
 unfold a_m at hm
 refine goF func57 z z (lb z) fun fn hr=>Ws<|Ra z<|Wn<|Wq<|Ws<|Rm z<|R z (b_y z z)<|Wn<|Wc z (fun H=>?_) (fun H=>?_)
 ·refine Ws<|Ra z<|Wn ?_
  obtain rfl:=som<|ifT hm H;exact Wr<|h_ hr z ⟨cr [g1] w0,z,ii z,p1_1,p1_2,hB1⟩
 have J:=ifF hm H;refine Wk<|Wq<|Ws<|Rm z<|R z (b_y z z)<|Wn<|Wc z (fun I=>?_) (fun I=>?_)
 ·refine Ws<|Rm z ?_
  obtain ⟨_,_,_,V,O⟩:=r_<|ifT J I;refine E z (fc call114 z<|e_W (B:=B) V hB1 hBw hBg p1_0 p1_1 p1_2) ?_;rintro _ W ⟨s8,rfl,Y,ha,hb,hc⟩;refine Rm z ?_;obtain ⟨_,ed,hme⟩:=bdS O;refine R z (f_2 z z<|nzS ed)<|Ra z<|Wn ?_
  obtain rfl:=som hme;exact Wr<|h_ hr z ⟨(cM (cr [g1] w0) s8 (io sr):Chg (· ∈ [g1]) w0 W),z,e_P Y,ha,hb,hc⟩
 refine Wk<|Ws<|Rm z ?_
 obtain ⟨_,_,_,eg,hmh⟩:=r_<|ifF J I;refine E z (fc call114 z<|e_W (B:=B) eg hB1 hBw hBg p1_0 p1_1 p1_2) ?_;rintro _ wi ⟨G,rfl,_,hj,hk,hl⟩;refine Ra z<|Wn<|Ws<|Rm z ?_
 obtain ⟨_,_,_,em,hmn⟩:=r_ hmh;refine E z (fc call114 z<|e_W (B:=B) em hl (zt' hBw G.s) hBg (p1_0.c G<|c_<|b_ hBg) hj hk) ?_;rintro _ wo ⟨s3,rfl,_,hp,hq,ht⟩;refine Ra z<|Wn<|Ws<|Rm z ?_
 obtain ⟨_,_,_,er,hms⟩:=r_ hmn;refine E z (fc call114 z<|e_W (B:=B) er ht (zt' hBw<|lt_ G.s s3.s) hBg (p1_0.g<|(G.agc B<|c_<|b_ hBg).c s3<|c_<|b_ hBg) hp hq) ?_;rintro _ wu ⟨sv,rfl,_,hw,hx,hy⟩;refine Ra z<|Wn<|Ws<|Rm z<|R z (c_K z z)<|Rm z<|R z (c_K z z)<|R z (add_ z z)<|Rm z<|R z (add_ z z)<|Rm z ?_
 obtain ⟨_,ez,L⟩:=bdS hms;refine R z (f_2 z z<|nzS ez)<|Ra z<|Wn ?_
 obtain rfl:=som L;exact Wr<|h_ hr z ⟨(cM (cM (cM (cr [g1] w0) G (io sr):Chg (· ∈ [g1]) w0 wi) s3 (io sr):Chg (· ∈ [g1]) w0 wo) sv (io sr):Chg (· ∈ [g1]) w0 wu),z,e_P<|iA _ _,hw,hx,hy⟩
def Q3 (w0:World) (g1:Nat) (B:Zone) (A0:Option Addr) (N0 C0:Nat) (x1:D_) (r:Str×Int×Int) (v:Value) (w':World):Prop:=Chg (· ∈ [g1]) w0 w'∧un3 (fun G H I=>(Str.v G)=v∧G.b.length≤LEN∧inI H∧inI I∧Blk w' g1 [sl A0 N0 C0,vI H,vI I]) r
theorem W_w14 {x1:D_} {g1:Nat} {x2:List Str} {res:Str×Int×Int} (hm:c_S x1 x2=some res) (hB1:Blk w0 g1 [sl A0 N0 C0,vI x1.i,vI x1.h]) (hBw:B≤w0.z) (hBg : ¬ B g1) (p1_0:repS w0 B (sl A0 N0 C0) x1.b) (p1_1:inI x1.i) (p1_2:inI x1.h) (p2_0:repS w0 B (sl A6 N6 C6) x2):o_ prog 113 [pt g1,sl A6 N6 C6] w0 (Q3 w0 g1 B A0 N0 C0 x1 res):=by
 unfold c_S at hm
 refine goF func113 z z (lb z) fun fn hr=>Ws<|Ra z<|Wn<|Ws<|Rm z<|Rm z<|Rm z<|R z (lnR a_N z p2_0) ?_
 obtain ⟨_,_,_,J,H⟩:=r_ hm;refine E z (fc call57 z<|a_V (B:=B) J hB1 hBw hBg p1_0 p1_1 p1_2<|a_M<|repS.len p2_0) ?_;rintro _ L ⟨G,rfl,_,h4,h5,h6⟩;obtain ⟨_,O,I⟩:=bdS H;refine RX z (at_ (α:=Str) a_N z_9 z z z (p2_0.c G<|c_<|b_ hBg) O) ?_;rintro _ ⟨_,_,_,rfl,V,ha,_⟩;obtain ⟨rfl,hb⟩:=c_n ha;refine R z (l1 g_9 z fid<|V.at0 z)<|Ra z<|Wn ?_
 obtain rfl:=som I;exact Wr<|h_ hr z ⟨(cM (cr [g1] w0) G (io sr):Chg (· ∈ [g1]) w0 L),z,hb,h4,h5,h6⟩
def Q4 (w0:World) (B:Zone) (r:Str) (v:Value) (w':World):Prop:=Bw w0 w'∧(fun G=>(Str.v G)=v∧G.b.length≤LEN) r
theorem i_f {x1:Int} {res:Str} (hm:c_O n x1=some res) (hBw:B≤w0.z) (p1_0:inI x1):o_ prog 162 [vI x1] w0 (Q4 w0 B res):=by
 unfold c_O at hm
 refine goF func162 z z (lb z) fun fn hr=>Ws<|Ra z<|Wn<|Wq<|Ws<|Rm z<|R z (eql z z)<|Wn<|Wc z (fun H=>?_) (fun H=>?_)
 ·refine Ws<|Ra z<|Wn ?_
  obtain rfl:=som<|ifT hm H;exact Wr<|h_ hr z ⟨br w0,z,lb z⟩
 refine Wk<|Ws<|Ra z<|Wn<|Wq<|Ws<|Rm z<|Ra z<|Wn ?_
 obtain ⟨_,huj,hmb⟩:=bdS<|ifF hm H;refine b_Y (σ:=Str×Int) (ρ:=Str) (fun s a w=>un2 (fun x2 x0=>Sat 31 [(0,vI x1),(3,Str.v x2),(4,vI x0)] a∧Below w0.z w0 w∧x2.b.length≤LEN∧inI x0) s) (fun s a w=>un2 (fun x2 x0=>Sat 31 [(0,vI x1),(3,Str.v x2)] a∧Below w0.z w0 w∧x2.b.length≤LEN∧inI x0) s) (fun r ex a w=>ex = .ret∧L_ prog fn (Q4 w0 B r) a w) huj ?_ ?_ ?_ ?_
 ·exact fun _ q=>⟨q.k<|s3 z z z,br w0,lb z,p1_0⟩
 ·rintro ⟨x2,x0⟩ _ G _ ⟨hSk,sc,h5,h6⟩ hml;have hmd:=b_1 hml;refine Wu ?_ hSk;refine Wq<|Ws<|Rm z<|R z (nq z z)<|Wn<|Wc z (fun I=>?_) (fun I=>?_)
  ·refine Wk<|Wq<|Wb<|Ws<|Rm z<|R z (f_2 z z (by decide))<|Ra z<|Wn<|Wq<|Ws<|Rm z<|R z (lss z z)<|Wn ?_
   obtain ⟨um,hue,hmn⟩:=bdS<|ifT hmd I;refine Wt (fun a w=>∃ (x3:Int),x3=um∧Sat 31 [(0,vI x1),(3,Str.v x2),(4,vI x0),(5,vI x3)] a∧Below G.z G w∧inI x3) ?_ ?_
   ·refine Wc z (fun J=>?_)<|fun J=>?_
    ·exact Wg<|Rm z<|R z (rd_neg z)<|Ra z<|Wl (fun _ q=>⟨e_b<|a_W x0 10,som<|ifT hue J,q.k<|s4 z z z z,br G,l_U _⟩)
    exact a_g<|fun _ q=>⟨a_W x0 10,som<|ifF hue J,q.k<|s4 z z z z,br G,e_P h6⟩
   rintro ao wp ⟨x3,rfl,_,sq,_⟩;revert ao;refine Wo<|Wg<|Rm z<|R z (add_ z z)<|R z (d_t d_3 d_5 z)<|E z (fS [(.tmp 21)] R_ z z z (a_d z) (lb z)<|lb z) ?_
   rintro _ wr ⟨rfl,L⟩;have O:Blk wr wp.z [(vU<|byteI<|mkB<|j_ 48 x3)]:=L.blk;refine R z (m_d n_ d_9 d_5 z_5 z<|a_.rep<|a_E L b_0)<|Rm z ?_
   obtain ⟨xs,ef,hmt⟩:=bdS hmn;exact R z (c_X z z ef)<|Ra z<|Wn<|Wg<|Rm z<|R z (e_c z z (by decide))<|Ra z<|Wl (fun _ q=>⟨(xs,b_F x0 10),(som hmt).symm,⟨q.k<|s3 z z z,bup (bup sc sq) L.below,d_u ef,e_0 _ _⟩⟩)
  exact We<|fun a' ha'=>b_w (som<|ifF hmd I).symm ⟨Sat.weaken ha'<|s2 z z,sc,h5,h6⟩
 ·rintro ⟨x2,x0⟩ au _ rfl ⟨_,sg,h5,h6⟩;have hmv:=elL hmb;have hmh:=b_1 hmv;revert au;refine Wo<|Wq<|Ws<|Rm z<|R z (lss z z)<|Wn<|Wc z (fun hca=>?_) (fun hca=>?_)
  ·refine Ws<|Rm z ?_
   obtain ⟨_,ei,hmw⟩:=bdS<|ifT hmh hca;refine R z (c_X z z ei)<|Ra z<|Wn ?_
   obtain rfl:=som hmw;exact Wr<|h_ hr z ⟨sg,z,d_u ei⟩
  refine Wk<|Ws<|Rm z<|Ra z<|Wn ?_
  obtain rfl:=som<|ifF hmh hca;exact Wr<|h_ hr z ⟨sg,z,h5⟩
 rintro _ _ _ _ rfl ⟨rfl,hqx⟩;have hmy:=elR hmb;obtain rfl:=som hmy;exact ⟨hqx,z⟩
def Q5 (w0:World) (g1:Nat) (B:Zone) (A0:Option Addr) (N0 C0:Nat) (x1:D_) (r:Bool×Int×Int) (v:Value) (w':World):Prop:=Chg (· ∈ [g1]) w0 w'∧un3 (fun I G H=>(vB I)=v∧inI G∧inI H∧Blk w' g1 [sl A0 N0 C0,vI G,vI H]) r
theorem g_B {x1:D_} {g1:Nat} {x2:Int} {res:Bool×Int×Int} (hm:c_T x1 x2=some res) (hB1:Blk w0 g1 [sl A0 N0 C0,vI x1.i,vI x1.h]) (hBw:B≤w0.z) (hBg : ¬ B g1) (p1_0:repS w0 B (sl A0 N0 C0) x1.b) (p1_1:inI x1.i) (p1_2:inI x1.h) (p2_0:inI x2):o_ prog 58 [pt g1,vI x2] w0 (Q5 w0 g1 B A0 N0 C0 x1 res):=by
 unfold c_T at hm
 refine goF func58 z z (lb z) fun fn hr=>Ws<|Ra z<|Wn<|Ws<|Rm z<|Rm z ?_
 obtain ⟨_,_,_,H,G⟩:=r_ hm;refine E z (fc call57 z<|a_V (B:=B) H hB1 hBw hBg p1_0 p1_1 p1_2 p2_0) ?_;rintro _ I ⟨s3,rfl,_,h4,h5,h6⟩;refine R z (eql z z)<|Ra z<|Wn ?_
 obtain rfl:=som G;exact Wr<|h_ hr z ⟨(cM (cr [g1] w0) s3 (io sr):Chg (· ∈ [g1]) w0 I),z,h4,h5,h6⟩
def Q6 (w0:World) (g1:Nat) (B:Zone) (A0:Option Addr) (N0 C0:Nat) (x1:D_) (r:(List UInt8)×Int×Int) (v:Value) (w':World):Prop:=Chg (· ∈ [g1]) w0 w'∧un3 (fun O G H=>∃ I J L S1,(sl I J L)=v∧a_ w' S1 (sl I J L) O∧inI G∧inI H∧Blk w' g1 [sl A0 N0 C0,vI G,vI H]∧S1.Nodup∧(∀ k∈S1,w0.z≤k)) r
theorem g_C {x1:D_} {g1:Nat} {x2:Int} {res:(List UInt8)×Int×Int} (hm:c_U x1 x2=some res) (hB1:Blk w0 g1 [sl A0 N0 C0,vI x1.i,vI x1.h]) (hBw:B≤w0.z) (hBg : ¬ B g1) (p1_0:repS w0 B (sl A0 N0 C0) x1.b) (p1_1:inI x1.i) (p1_2:inI x1.h) (p2_0:inI x2):o_ prog 56 [pt g1,vI x2] w0 (Q6 w0 g1 B A0 N0 C0 x1 res):=by
 unfold c_U at hm
 refine goF func56 z z (lb z) fun fn hr=>Ws<|Ra z<|Wn<|Ws<|E z (f0 (α:=UInt8) R_) ?_
 rintro _ G ⟨ar,ns,ct,rfl,s8,hu⟩;refine Ra z<|Wn<|Wq<|Ws<|Ra z<|Wn ?_
 obtain ⟨_,huv,hmj⟩:=bdS hm;refine Wf (σ:=(List UInt8)×Int×Int) (ρ:=(List UInt8)×Int×Int) (fun (kk:Nat) s a w=>un3 (fun O x5 x6=>∃ a2 I J H,Sat 20 [(0,pt g1),(1,vI x2),(5,sl a2 I J),(6,vI ((kk:Nat):Int))] a∧Chg (· ∈ ([g1]++[w0.z])) G w∧a_ w H (sl a2 I J) O∧H.Nodup∧(∀ k∈H,k∈[w0.z]∨G.z≤k)∧inI x5∧inI x6∧Blk w g1 [sl A0 N0 C0,vI x5,vI x6]) s) (fun s a w=>un3 (fun O x5 x6=>∃ a2 I J H,Sat 20 [(5,sl a2 I J)] a∧Chg (· ∈ ([g1]++[w0.z])) G w∧a_ w H (sl a2 I J) O∧H.Nodup∧(∀ k∈H,k∈[w0.z]∨G.z≤k)∧inI x5∧inI x6∧Blk w g1 [sl A0 N0 C0,vI x5,vI x6]) s) (fun r ex a w=>ex = .ret∧L_ prog fn (Q6 w0 g1 B A0 N0 C0 x1 r) a w) huv ?_ ?_ ?_ ?_ ?_
 ·exact fun _ q=>⟨ar,ns,ct,[w0.z],q.k<|s4 z z z z,cr ([g1]++[w0.z]) G,hu,a_h,io sr,p1_1,p1_2,hB1.e s8⟩
 ·rintro kk ⟨O,x5,x6⟩ _ ww _ hkl ⟨a2,I,J,H,hSx,sc,ha,hb,L,hd,he,hf⟩ hmy;refine Wu ?_ hSx;refine Wq<|Ws<|Rm z<|Rm z<|R z (lss z z)<|Wn<|Wc z (fun _=>?_) (fun hc=>(i_2 hkl hc).elim)
  refine Wk<|Wq<|Wb<|Wg<|Rm z<|Rm z ?_
  obtain ⟨a4,a5,a6,a7,V⟩:=r_<|b_D hmy;refine E z (fc call114 z<|e_W (B:=B) a7 hf (zt' hBw<|lt_ s8.s sc.s) hBg (p1_0.g<|(s8.ag B).c sc<|nmA (c_<|b_ hBg)<|c_ (or0 (b_ lr)  (m_ hBw) : ∀ k∈[w0.z],¬ B k)) hd he) ?_;rintro _ wm ⟨sh,rfl,_,a8,a9,aa⟩;refine R z (d_t d_3 d_5 z)<|E z (fS [(.tmp 16)] R_ z z z (a_d z) (lb z)<|lb z) ?_
  rintro _ wn ⟨rfl,hi⟩;have hg:=hi.below;have au:=a_E hi b_0;have ho : ∀ k∈H,k∉[g1]:=or1 L (mmr<|Blk.lt hB1)<|P_ (b_<|Blk.lt hB1) s8.s;obtain ⟨ab,ad,W⟩:=bdS V;refine E z (a_Q (α:=UInt8) R_ ad z z ((ha.c sh ho).e hg) hb (hi.blk:Blk wn wm.z [(vU<|byteI<|mkB a4)]) b_0 an_ H_) ?_;rintro _ ae ⟨Sp,af,ah,ai,rfl,sq,aj,ak,al⟩;refine Ra z<|Wn<|Wg<|Rm z<|R z (inc_ hkl (tl_ p2_0) z z)<|Ra z<|Wl ?_
  exact fun _ q=>⟨(ab,a5,a6),(som W).symm,⟨af,ah,ai,Sp,q.k<|s4 z z z z,(cM (f_ (cM (cM (cr ([g1]++[w0.z]) G) sc (aa_ (io<|x_ sr)<|io<|A_ sr):Chg (· ∈ ([g1]++[w0.z])) G ww) sh (io<|x_ sr):Chg (· ∈ ([g1]++[w0.z])) G wm) hg:Chg (· ∈ ([g1]++[w0.z])) G wn) sq (or1 L (io<|A_ sr) (z_ lr) : ∀ k∈H,k∈([g1]++[w0.z])∨G.z≤k):Chg (· ∈ ([g1]++[w0.z])) G ae),aj,ak,(or2 al (or1 L (io sr) (z_ lr) : ∀ k∈H,k∈[w0.z]∨G.z≤k) an_ (z_<|lt_ (lt_ sc.s sh.s) hg.s) : ∀ k∈Sp,k∈[w0.z]∨G.z≤k),a8,a9,(aa.e hg).c sq<|djs ho⟩⟩
 ·rintro ⟨O,x5,x6⟩ _ am ⟨a2,I,J,H,Y,an,ha,hb,L,hd,he,hf⟩;refine Wu ?_ Y;refine Wq<|Ws<|Rm z<|Rm z<|R z (lss z z)<|Wn<|Wc z (fun hc=>(i_3 hc).elim) (fun _=>?_)
  exact We<|fun a' ha'=>⟨rfl,⟨a2,I,J,H,Sat.weaken ha'<|s1 z,(cM (cr ([g1]++[w0.z]) G) an (aa_ (io<|x_ sr)<|io<|A_ sr):Chg (· ∈ ([g1]++[w0.z])) G am),ha,hb,(or1 L (io sr) (z_ lr) : ∀ k∈H,k∈[w0.z]∨G.z≤k),hd,he,hf⟩⟩
 ·rintro ⟨O,x5,x6⟩ ao ap rfl ⟨a2,I,J,H,_,aq,ha,hb,L,hd,he,hf⟩;have a0:=elL hmj;revert ao;refine Wo<|Ws<|Rm z<|Ra z<|Wn ?_
  obtain rfl:=som<|b_D a0;exact Wr<|h_ hr z ⟨(cM (f_ (cr [g1] w0) s8:Chg (· ∈ [g1]) w0 G) aq (aa_ (io sr) (mor lr : ∀ k∈[w0.z],k∈[g1]∨w0.z≤k)):Chg (· ∈ [g1]) w0 ap),a2,I,J,H,z,ha,hd,he,hf,hb,(or1 L (b_ lr) (b_7 s8.s) : ∀ k∈H,w0.z≤k)⟩
 rintro _ _ _ _ rfl ⟨rfl,a1⟩;have a3:=elR hmj;obtain rfl:=som a3;exact ⟨a1,z⟩
theorem i_g {x1:D_} {g1:Nat} {x2:List Int} {res:Int×Int×Int} (hm:d_o x1 x2=some res) (hB1:Blk w0 g1 [sl A0 N0 C0,vI x1.i,vI x1.h]) (hBw:B≤w0.z) (hBg : ¬ B g1) (p1_0:repS w0 B (sl A0 N0 C0) x1.b) (p1_1:inI x1.i) (p1_2:inI x1.h) (p2_0:repS w0 B (sl A6 N6 C6) x2):o_ prog 108 [pt g1,sl A6 N6 C6] w0 (Q2 w0 g1 B A0 N0 C0 x1 res):=by
 unfold d_o at hm
 refine goF func108 z z (lb z) fun fn hr=>Ws<|Ra z<|Wn<|Ws<|Rm z<|Rm z<|Rm z<|R z (lnR w_ z p2_0) ?_
 obtain ⟨_,_,_,J,H⟩:=r_ hm;refine E z (fc call57 z<|a_V (B:=B) J hB1 hBw hBg p1_0 p1_1 p1_2<|a_M<|repS.len p2_0) ?_;rintro _ L ⟨G,rfl,_,h4,h5,h6⟩;obtain ⟨_,O,I⟩:=bdS H;refine RX z (at_ (α:=Int) w_ z_3 z z z (p2_0.c G<|c_<|b_ hBg) O) ?_;rintro _ ⟨_,_,_,rfl,V,ha,_⟩;obtain ⟨rfl,hb⟩:=O_ ha;refine R z (l1 g_3 z fid<|V.at0 z)<|Ra z<|Wn ?_
 obtain rfl:=som I;exact Wr<|h_ hr z ⟨(cM (cr [g1] w0) G (io sr):Chg (· ∈ [g1]) w0 L),z,hb,h4,h5,h6⟩
theorem i_h {x1:D_} {g1:Nat} {x2:d_} {res:Int×Int×Int} (hm:d_p x1 x2=some res) (hB1:Blk w0 g1 [sl A0 N0 C0,vI x1.i,vI x1.h]) (hBw:B≤w0.z) (hBg : ¬ B g1) (p1_0:repS w0 B (sl A0 N0 C0) x1.b) (p1_1:inI x1.i) (p1_2:inI x1.h) (p2_0:repS w0 B (sl A6 N6 C6) x2.rules):o_ prog 163 [pt g1,(.agg #[sl A6 N6 C6])] w0 (Q2 w0 g1 B A0 N0 C0 x1 res):=by
 unfold d_p at hm
 refine goF func163 z z (lb z) fun fn hr=>Ws<|E z (fb z) ?_
 rintro _ H ⟨rfl,ht⟩;have h3:=ht.below;have hf:Blk H w0.z [sl A6 N6 C6]:=ht.blk;refine Ra z<|Wn<|Ws<|E z (f0 (α:=Int) b_q) ?_
 rintro _ I ⟨ad,ae,af,rfl,s8,ah⟩;refine Ra z<|Wn<|Wq<|Ws<|Ra z<|Wn ?_
 obtain ⟨_,a0,hms⟩:=bdS hm;refine Wf (σ:=List Int) (ρ:=Int×Int×Int) (fun (kc:Nat) (W:List Int) a w=>∃ J L O G,Sat 29 [(0,pt g1),(3,pt w0.z),(5,sl J L O),(6,vI ((kc:Nat):Int))] a∧Chg (· ∈ [H.z]) I w∧a_ w G (sl J L O) W∧G.Nodup∧(∀ k∈G,k∈[H.z]∨I.z≤k)) (fun (W:List Int) a w=>∃ J L O G,Sat 29 [(0,pt g1),(5,sl J L O)] a∧Chg (· ∈ [H.z]) I w∧a_ w G (sl J L O) W∧G.Nodup∧(∀ k∈G,k∈[H.z]∨I.z≤k)) (fun r ex a w=>ex = .ret∧L_ prog fn (Q2 w0 g1 B A0 N0 C0 x1 r) a w) a0 ?_ ?_ ?_ ?_ ?_
 ·exact fun _ q=>⟨ad,ae,af,[H.z],q.k<|s4 z z z z,cr [H.z] I,ah,a_h,io sr⟩
 ·rintro kc W _ V _ hkg ⟨J,L,O,G,a1,sh,ha,hd,he⟩ a2;refine Wu ?_ a1;refine Wq<|Ws<|Rm z<|R z (fd X_ z) ?_
  have hu:=(hf.e s8).c sh<|djs<|mmr hf.lt
  refine R z (l1 a_0 z fid<|hu.at z) ?_;have hv:=p2_0.g<|((h3.ag B).e s8).c sh<|c_ (or0 (b_ lr)  (m_<|zt' hBw h3.s) : ∀ k∈[H.z],¬ B k)
  refine R z (lnR a_1 z hv)<|R z (lss z z)<|Wn<|Wc z (fun _=>?_) (fun hc=>(a_3 hkg hc).elim)
  refine Wk<|Wq<|Wb<|Ws<|R z (fd X_ z)<|R z (l1 a_0 z fid<|hu.at z)<|Rm z ?_
  obtain ⟨_,ai,a3⟩:=bdS a2;refine RX z (at_ (α:=g_) a_1 p_ z z z hv ai) ?_;rintro _ ⟨_,_,_,rfl,ak,al,_⟩;obtain ⟨_,_,_,_,_,_,_,_,_,_,_,_,rfl,_,_,_,_,_,_,_⟩:=a_z al;refine R z (fd a_x z)<|R z (l1 g_3 z fid<|ak.at (j:=1) z)<|R z (eql z z)<|Wn ?_
  obtain ⟨am,huw,a5⟩:=bdS a3;refine Wt (fun a w=>∃ (xi:List Int),xi=am ∧ ∃ aj nk cl Sb,Sat 29 [(0,pt g1),(3,pt w0.z),(5,sl aj nk cl),(6,vI ((kc:Nat):Int))] a∧Chg (· ∈ G) V w∧a_ w Sb (sl aj nk cl) xi∧Sb.Nodup∧(∀ k∈Sb,k∈G∨V.z≤k)) ?_ ?_
  ·refine Wc z (fun hcn=>?_)<|fun hcn=>?_
   ·refine Wg<|Rm z<|Rm z<|E z (fS [(.tmp 23)] b_q z z z (a_d z) (lb z)<|lb z) ?_
    rintro _ wx ⟨rfl,ho⟩;have hp:=ho.below;have aO:=a_E ho<|b_g<|ic (Nat.le_of_lt hkg)<|lt_ (repS.len p2_0) M_
    obtain ⟨an,ao,a6⟩:=bdS<|ifT huw hcn;refine E z (a_Q (α:=Int) b_q ao z z (ha.e hp) hd (ho.blk:Blk wx V.z [(vI ((kc:Nat):Int))]) (b_g<|ic (Nat.le_of_lt hkg)<|lt_ (repS.len p2_0) M_) an_ H_) ?_;rintro _ ap ⟨Sy,aq,ar,au,rfl,av,aw,ax,ay⟩;refine Ra z<|Wl ?_
    exact fun _ q=>⟨an,som a6,aq,ar,au,Sy,q.k<|s4 z z z z,(cM (f_ (cr G V) hp:Chg (· ∈ G) V wx) av (io sr):Chg (· ∈ G) V ap),aw,ax,(or2 ay (io sr) an_ (z_ hp.s) : ∀ k∈Sy,k∈G∨V.z≤k)⟩
   exact a_g<|fun _ q=>⟨W,som<|ifF huw hcn,J,L,O,G,q.k<|s4 z z z z,cr G V,ha,hd,io sr⟩
  rintro az aA ⟨xi,rfl,aj,nk,cl,Sb,_,aB,aC,aD,aE⟩;revert az;refine Wo<|Wg<|Rm z<|R z (inc_ hkg (lt_ (repS.len p2_0) M_) z z)<|Ra z<|Wl ?_
  have hz : ∀ k∈G,k∈[H.z]∨I.z≤k:=or1 he (io sr)<|z_ lr;exact fun _ q=>⟨xi,(som a5).symm,⟨aj,nk,cl,Sb,q.k<|s4 z z z z,(cM (cM (cr [H.z] I) sh (io sr):Chg (· ∈ [H.z]) I V) aB hz:Chg (· ∈ [H.z]) I aA),aC,aD,(or1 aE hz (z_ sh.s) : ∀ k∈Sb,k∈[H.z]∨I.z≤k)⟩⟩
 ·rintro W _ aF ⟨J,L,O,G,a7,sq,ha,hd,he⟩;refine Wu ?_ a7;refine Wq<|Ws<|Rm z<|R z (fd X_ z)<|R z (l1 a_0 z fid<|((hf.e s8).c sq<|djs<|mmr hf.lt).at z) ?_
  refine R z (lnR a_1 z<|p2_0.g<|((h3.ag B).e s8).c sq<|c_ (or0 (b_ lr)  (m_<|zt' hBw h3.s) : ∀ k∈[H.z],¬ B k))<|R z (lss z z)<|Wn<|Wc z (fun hc=>(a_4 hc).elim) (fun _=>?_)
  exact We<|fun a' ha'=>⟨rfl,⟨J,L,O,G,Sat.weaken ha'<|s2 z z,(cM (cr [H.z] I) sq (io sr):Chg (· ∈ [H.z]) I aF),ha,hd,(or1 he (io sr) (z_ lr) : ∀ k∈G,k∈[H.z]∨I.z≤k)⟩⟩
 ·rintro W aG wr rfl ⟨J,L,O,G,_,sm,ha,hd,he⟩;have a8:=elL hms;revert aG;refine Wo<|Ws<|Rm z<|Rm z ?_
  have Y:=lt_ h3.s s8.s;obtain ⟨_,_,_,aH,a9⟩:=r_ a8;refine E z (fc call108 z<|i_g (B:=zn B w0.z wr.z) aH (((hB1.e h3).e s8).c sm<|djs<|mm1 (Blk.lt hB1) h3.s) (c_c (zt' hBw<|lt_ Y sm.s) lr) (atp ((d_w (b_ hBg) (b_<|Blk.lt hB1) lr) : ∀ k∈[g1],¬ (zn B w0.z wr.z) k)) (repS.mono (p1_0.g<|((h3.ag B).e s8).c sm<|c_ (or0 (b_ lr)  (m_<|zt' hBw h3.s) : ∀ k∈[H.z],¬ B k)) b_M) p1_1 p1_2<|or_ ha<|zin (B:=B) (a_2 he (m1 h3.s) Y)<|a_.lt ha) ?_;rintro _ aI ⟨aJ,rfl,aK,aL,aM,aN⟩;refine Ra z<|Wn ?_
  obtain rfl:=som a9;exact Wr<|h_ hr z ⟨(cM (cM (f_ (f_ (cr [g1] w0) h3:Chg (· ∈ [g1]) w0 H) s8:Chg (· ∈ [g1]) w0 I) sm (mor h3.s : ∀ k∈[H.z],k∈[g1]∨w0.z≤k):Chg (· ∈ [g1]) w0 wr) aJ (io sr):Chg (· ∈ [g1]) w0 aI),z,aK,aL,aM,aN⟩
 rintro _ _ _ _ rfl ⟨rfl,aa⟩;have ab:=elR hms;obtain rfl:=som ab;exact ⟨aa,z⟩
def Q7 (w0:World) (g1:Nat) (B:Zone) (A0:Option Addr) (N0 C0:Nat) (x1:D_) (r:g_×Int×Int) (v:Value) (w':World):Prop:=Chg (· ∈ [g1]) w0 w'∧un3 (fun G H I=>∃ J L O S1 a2 V W S2 Y n3 c3 S3 a4 n4 c4 S4,(.agg #[Str.v G.name,vI G.kind,vI G.size,vB G.little,sl J L O,sl a2 V W,sl Y n3 c3,sl a4 n4 c4])=v∧G.name.b.length≤LEN∧inI G.kind∧inI G.size∧a_ w' S1 (sl J L O) G.bytes∧a_ w' S2 (sl a2 V W) G.names∧a_ w' S3 (sl Y n3 c3) G.tags∧a_ w' S4 (sl a4 n4 c4) G.kids∧inI H∧inI I∧Blk w' g1 [sl A0 N0 C0,vI H,vI I]∧(S1++(S2++(S3++S4))).Nodup∧(∀ k∈(S1++(S2++(S3++S4))),w0.z≤k)) r
theorem W_w15 {x1:D_} {g1:Nat} {x2:d_} {x3:Int} {res:g_×Int×Int} (hm:d_q n x1 x2 x3=some res) (hB1:Blk w0 g1 [sl A0 N0 C0,vI x1.i,vI x1.h]) (hBw:B≤w0.z) (hBg : ¬ B g1) (p1_0:repS w0 B (sl A0 N0 C0) x1.b) (p1_1:inI x1.i) (p1_2:inI x1.h) (p2_0:repS w0 B (sl A6 N6 C6) x2.rules) (p3_0:inI x3):o_ prog 106 [pt g1,.agg #[sl A6 N6 C6],vI x3] w0 (Q7 w0 g1 B A0 N0 C0 x1 res):=by
 unfold d_q at hm
 refine goF func106 z z (lb z) fun fn hr=>Ws<|E z (fb z) ?_
 rintro _ wb ⟨rfl,gF⟩;have be:=gF.below;have cl:Blk wb w0.z [sl A6 N6 C6]:=gF.blk;refine E z (fa b_i) ?_;rintro _ aU ⟨rfl,gG⟩;have ah:=gG.below;have bf:Blk aU wb.z [(Str.v (⟨[]⟩:Str)),vI 0,vI 0,vB false,sl none 0 0,sl none 0 0,sl none 0 0,sl none 0 0]:=gG.blk;refine Wn<|Ws<|R z (fd X_ z) ?_
 have cm:=cl.e ah;refine R z (l1 a_0 z fid<|cm.at z) ?_;have gH:=(be.ag B).e ah;have bg:=p2_0.g gH;refine R z (lnR a_1 z bg)<|Ra z<|Wn<|Ws<|Rm z<|E z (fS [(.const<|Str.v ⟨[97]⟩),.const<|Str.v ⟨[105,116,101,109]⟩,.const<|Str.v ⟨[98]⟩,.const<|Str.v ⟨[104,101,97,100]⟩,(.const<|Str.v ⟨[120]⟩)] g_w z z z (a_d z) (lb z)<|lb z) ?_
 rintro _ bM ⟨rfl,gI⟩;have hi:=gI.below;have gJ:a_ bM [aU.z] (sl (some ⟨aU.z,0,none⟩) 5 5) ([(⟨[97]⟩:Str),(⟨[105,116,101,109]⟩:Str),(⟨[98]⟩:Str),(⟨[104,101,97,100]⟩:Str),(⟨[120]⟩:Str)]:List Str):=j_U (l:=[(⟨[97]⟩:Str),(⟨[105,116,101,109]⟩:Str),(⟨[98]⟩:Str),(⟨[104,101,97,100]⟩:Str),(⟨[120]⟩:Str)]) (gI.blk:Blk bM aU.z [(Str.v (⟨[97]⟩:Str)),Str.v (⟨[105,116,101,109]⟩:Str),Str.v (⟨[98]⟩:Str),Str.v (⟨[104,101,97,100]⟩:Str),(Str.v (⟨[120]⟩:Str))]) (ac0 (lb z)<|ac0 (lb z)<|ac0 (lb z)<|ac0 (lb z)<|ac0 (lb z) an0) z;have hn:=gH.e hi;have gK:=lt_ be.s ah.s;have gL:=lt_ gK hi.s;obtain ⟨_,jM,jN,jO,iL⟩:=r_ hm;refine E z (fc call113 z<|W_w14 (B:=zn B aU.z bM.z) jO (((hB1.e be).e ah).e hi) (c_c (zt' hBw gL) lr) (atp ((d_w (b_ hBg) (b_<|Blk.lt hB1) gK) : ∀ k∈[g1],¬ (zn B aU.z bM.z) k)) (repS.mono (p1_0.g hn) b_M) p1_1 p1_2<|or_ gJ<|zin (B:=B) (b_ lr)<|a_.lt gJ) ?_;rintro _ jP ⟨sc,rfl,_,ho,hp,hq⟩;refine Rm z ?_;have hj:=lt_ gL sc.s;obtain ⟨_,jQ,iM⟩:=bdS iL;refine E z (fc call162 z<|i_f (B:=B) jQ (zt' hBw hj)<|a_M<|repS.len bg) ?_;rintro _ G ⟨s3,rfl,_⟩;obtain ⟨x5,gM,iN⟩:=bdS iM;refine R z (c_X z z gM)<|Rm z<|R z (bP (parts:=[(0,.tmp 19),(1,.tmp 20)]) (cs:=[Str.v x5,vI x3,vI 0,vB false,sl none 0 0,sl none 0 0,sl none 0 0,sl none 0 0]) n_a z z)<|E z (fa b_i) ?_
 rintro _ gN ⟨rfl,gO⟩;have h4:=gO.below;have ha:Blk gN G.z [(Str.v (⟨[]⟩:Str)),vI 0,vI 0,vB false,sl none 0 0,sl none 0 0,sl none 0 0,sl none 0 0]:=gO.blk;refine E0 (fs (cur':=[Str.v x5,vI x3,vI 0,vB false,sl none 0 0,sl none 0 0,sl none 0 0,sl none 0 0]) p_ z z ha z (lb z) (oA z) z) ?_;rintro _ H ⟨ht,jR⟩;have I:=jR.one;refine Wn<|Wq<|Ws<|Rm z<|Wn<|Wb<|Ws<|R z (eql z z)<|Ra z<|Wn ?_
 obtain ⟨jS,gp,f1⟩:=bdS iN;refine Wt (fun a w=>∃ (cn:Int) (co:Int) (bh:Int) (bN:Bool) (fQ:List UInt8) (fR:List Str) (fT:List Int) (fU:List Int),Sum.inl (cn,co,bh,bN,fQ,fR,fT,fU)=jS ∧ ∃ bi bj bk ai bm bn bo aj bp bq bt al bu bv bw am,Sat 147 [(6,pt wb.z),(8,pt G.z)] a∧Chg (· ∈ ([g1]++[G.z])) H w∧inI cn∧inI co∧inI bh∧a_ w ai (sl bi bj bk) fQ∧ai.Nodup∧(∀ k∈ai,H.z≤k)∧a_ w aj (sl bm bn bo) fR∧aj.Nodup∧(∀ k∈aj,H.z≤k)∧(∀ k∈aj,k∉ai)∧a_ w al (sl bp bq bt) fT∧al.Nodup∧(∀ k∈al,H.z≤k)∧(∀ k∈al,k∉ai)∧(∀ k∈al,k∉aj)∧a_ w am (sl bu bv bw) fU∧am.Nodup∧(∀ k∈am,H.z≤k)∧(∀ k∈am,k∉ai)∧(∀ k∈am,k∉aj)∧(∀ k∈am,k∉al)∧Blk w g1 [sl A0 N0 C0,vI cn,vI co]∧Blk w G.z [Str.v x5,vI x3,vI bh,vB bN,sl bi bj bk,sl bm bn bo,sl bp bq bt,sl bu bv bw]) ?_ ?_
 ·refine Wc z (fun f2=>?_)<|fun f2=>?_
  ·refine Ws<|Rm z ?_
   have fV:=lt_ hj s3.s;have gP : ∀ k∈[G.z],¬ B k:=or0 (b_ lr)  (m_<|zt' hBw fV);have gQ:=(((hn.c sc<|c_<|b_ hBg).e s3).e h4).c I<|c_ gP
   have aV:=mm1 (Blk.lt hB1) fV;have gR:=lt_ (lt_ fV h4.s) I.s;obtain ⟨bx,jT,jU,jV,iO⟩:=r_<|ifT gp f2;refine E z (fc call57 z<|a_V (B:=B) jV (((hq.e s3).e h4).c I<|djs aV) (zt' hBw gR) hBg (p1_0.g gQ) ho hp<|ii z) ?_;rintro _ jW ⟨cp,rfl,_,gS,gT,gU⟩;refine R z (add_ z z)<|R z (fd a_t z)<|E0 (fs (cur':=[Str.v x5,vI x3,vI<|j_ 1 bx,vB false,sl none 0 0,sl none 0 0,sl none 0 0,sl none 0 0]) z_3 z z (ht.c cp<|atp aV) z (lb z) (oA z) z) ?_
   rintro _ aW ⟨fW,jX⟩;have bO:=jX.one;refine Wn ?_;obtain ⟨jY,gq,iP⟩:=bdS iO;refine Wt (fun a w=>∃ (bQ:Int) (bR:Int) (cq:Bool),(bQ,bR,cq)=jY∧Sat 147 [(6,pt wb.z),(8,pt G.z)] a∧Chg (· ∈ ([g1]++[G.z])) aW w∧inI bQ∧inI bR∧Blk w g1 [sl A0 N0 C0,vI bQ,vI bR]∧Blk w G.z [Str.v x5,vI x3,vI<|j_ 1 bx,vB cq,sl none 0 0,sl none 0 0,sl none 0 0,sl none 0 0]) ?_ ?_
   ·refine Wg<|R z (fd a_t z)<|R z (l1 g_3 z fid<|fW.at z)<|R z (a_9 z z)<|Rm z ?_
    rcases bs (decide<|1<(j_ 1 bx)) with a2 | a2
    ·refine Rh z a2 (mv z) ?_;obtain ⟨gV,jZ,k0,ka,iQ⟩:=r_<|ifT gq a2;refine Eg z z a2 z (fc call58 z<|g_B (B:=B) ka (gU.c bO<|djs aV) (zt' hBw<|lt_ (lt_ gR cp.s) bO.s) hBg (p1_0.g<|(gQ.c cp<|c_<|b_ hBg).c bO<|c_ gP) gS gT<|ii z) ?_;rintro _ kb ⟨gW,rfl,kc,kd,ke⟩;refine R z (pT z a2 z)<|R z (fd c_r z)<|E0 (fs (cur':=[Str.v x5,vI x3,vI<|j_ 1 bx,vB gV,sl none 0 0,sl none 0 0,sl none 0 0,sl none 0 0]) z_4 z z (fW.c gW<|atp aV) z (lb z) (oA z) z) ?_
     rintro _ kf ⟨kg,kh⟩;have gX:=kh.one;refine Wl ?_;exact fun _ q=>⟨jZ,k0,gV,som iQ,q.k<|s2 z z,(cM (cM (cr ([g1]++[G.z]) aW) gW (io<|x_ sr):Chg (· ∈ ([g1]++[G.z])) aW kb) gX (io<|A_ sr):Chg (· ∈ ([g1]++[G.z])) aW kf),kc,kd,ke.c gX<|djs aV,kg⟩
    refine Nh z a2<|Nh z a2<|R z (pF z a2 z)<|R z (fd c_r z)<|E0 (fs (cur':=[Str.v x5,vI x3,vI<|j_ 1 bx,vB false,sl none 0 0,sl none 0 0,sl none 0 0,sl none 0 0]) z_4 z z fW z (lb z) (oA z) z) ?_
    rintro _ ki ⟨kj,kk⟩;have gY:=kk.one;refine Wl ?_;exact fun _ q=>⟨jT,jU,false,som<|ifF gq a2,q.k<|s2 z z,(cM (cr ([g1]++[G.z]) aW) gY (io<|A_ sr):Chg (· ∈ ([g1]++[G.z])) aW ki),gS,gT,(gU.c bO<|djs aV).c gY<|djs aV,kj⟩
   rintro kl km ⟨bQ,bR,cq,rfl,_,kn,ko,kp,kq,kr⟩;revert kl;exact fun _ q=>⟨bQ,bR,j_ 1 bx,cq,([]:List UInt8),([]:List Str),([]:List Int),([]:List Int),som<|b_D iP,none,0,0,[],none,0,0,[],none,0,0,[],none,0,0,[],q.k<|s2 z z,(cM (cM (cM (cr ([g1]++[G.z]) H) cp (io<|x_ sr):Chg (· ∈ ([g1]++[G.z])) H jW) bO (io<|A_ sr):Chg (· ∈ ([g1]++[G.z])) H aW) kn (aa_ (io<|x_ sr)<|io<|A_ sr):Chg (· ∈ ([g1]++[G.z])) H km),ko,kp,iA _ _,onL,H_,an_,onL,H_,an_,an_,onL,H_,an_,an_,an_,onL,H_,an_,an_,an_,an_,kq,kr⟩
  refine Ws<|R z (eql z z)<|Ra z<|Wn ?_
  obtain ⟨ks,gr,f3⟩:=bdS<|ifF gp f2;refine Wt (fun a w=>∃ (bS:Int) (bT:Int) (bU:Int) (ct:List UInt8) (cv:List Str) (cw:List Int) (cx:List Int),Sum.inl (bS,bT,bU,ct,cv,cw,cx)=ks ∧ ∃ cy cz cA an cB cC cD ao cE cF cG ap cH cI cJ aq,Sat 147 [(6,pt wb.z),(8,pt G.z)] a∧Chg (· ∈ ([g1]++[G.z])) H w∧inI bS∧inI bT∧inI bU∧a_ w an (sl cy cz cA) ct∧an.Nodup∧(∀ k∈an,H.z≤k)∧a_ w ao (sl cB cC cD) cv∧ao.Nodup∧(∀ k∈ao,H.z≤k)∧(∀ k∈ao,k∉an)∧a_ w ap (sl cE cF cG) cw∧ap.Nodup∧(∀ k∈ap,H.z≤k)∧(∀ k∈ap,k∉an)∧(∀ k∈ap,k∉ao)∧a_ w aq (sl cH cI cJ) cx∧aq.Nodup∧(∀ k∈aq,H.z≤k)∧(∀ k∈aq,k∉an)∧(∀ k∈aq,k∉ao)∧(∀ k∈aq,k∉ap)∧Blk w g1 [sl A0 N0 C0,vI bS,vI bT]∧Blk w G.z [Str.v x5,vI x3,vI bU,vB false,sl cy cz cA,sl cB cC cD,sl cE cF cG,sl cH cI cJ]) ?_ ?_
  ·refine Wc z (fun f4=>?_)<|fun f4=>?_
   ·refine Wg<|Rm z<|Rm z ?_
    have fX:=lt_ hj s3.s;have gZ:=(((hn.c sc<|c_<|b_ hBg).e s3).e h4).c I<|c_ (or0 (b_ lr)  (m_<|zt' hBw fX) : ∀ k∈[G.z],¬ B k)
    have cK:=mm1 (Blk.lt hB1) fX;have h1:=lt_ (lt_ fX h4.s) I.s;obtain ⟨_,_,_,kt,iR⟩:=r_<|ifT gr f4;refine E z (fc call57 z<|a_V (B:=B) kt (((hq.e s3).e h4).c I<|djs cK) (zt' hBw h1) hBg (p1_0.g gZ) ho hp<|ii z) ?_;rintro _ ku ⟨bz,rfl,_,kw,kx,ky⟩;refine R z (add_ z z) ?_;obtain ⟨kz,kA,kB,kC,iT⟩:=r_ iR;refine E z (fc call56 z<|g_C (B:=B) kC ky (zt' hBw<|lt_ h1 bz.s) hBg (p1_0.g<|gZ.c bz<|c_<|b_ hBg) kw kx<|iA _ _) ?_;rintro _ kD ⟨h2,h3,h5,h6,kE,rfl,kF,kG,kH,kI,kJ,h7⟩;refine R z (fd a_K z)<|E0 (fs (cur':=[Str.v x5,vI x3,vI 0,vB false,sl h3 h5 h6,sl none 0 0,sl none 0 0,sl none 0 0]) z_22 z z ((ht.c bz<|atp cK).c h2<|atp cK) z (lb z) (oA z) z) ?_
    rintro _ kK ⟨kL,kM⟩;have fY:=kM.one;refine Wl ?_;exact fun _ q=>⟨kA,kB,0,kz,([]:List Str),([]:List Int),([]:List Int),som iT,h3,h5,h6,kE,none,0,0,[],none,0,0,[],none,0,0,[],q.k<|s2 z z,(cM (cM (cM (cr ([g1]++[G.z]) H) bz (io<|x_ sr):Chg (· ∈ ([g1]++[G.z])) H ku) h2 (io<|x_ sr):Chg (· ∈ ([g1]++[G.z])) H kD) fY (io<|A_ sr):Chg (· ∈ ([g1]++[G.z])) H kK),kG,kH,ii z,kF.c fY<|k_ h7 ha.lt<|lt_ I.s bz.s,kJ,l_ h7 bz.s,onL,H_,an_,an_,onL,H_,an_,an_,an_,onL,H_,an_,an_,an_,an_,kI.c fY<|djs cK,kL⟩
   refine Ws<|R z (eql z z)<|Ra z<|Wn ?_
   obtain ⟨kN,gs,f5⟩:=bdS<|ifF gr f4;refine Wt (fun a w=>∃ (bV:Int) (bW:Int) (bX:Int) (cL:List UInt8) (cN:List Str) (cO:List Int) (cP:List Int),Sum.inl (bV,bW,bX,cL,cN,cO,cP)=kN ∧ ∃ cQ cR cS au cT cU cV av cW cX cY aw cZ d0 d1 ax,Sat 147 [(6,pt wb.z),(8,pt G.z)] a∧Chg (· ∈ ([g1]++[G.z])) H w∧inI bV∧inI bW∧inI bX∧a_ w au (sl cQ cR cS) cL∧au.Nodup∧(∀ k∈au,H.z≤k)∧a_ w av (sl cT cU cV) cN∧av.Nodup∧(∀ k∈av,H.z≤k)∧(∀ k∈av,k∉au)∧a_ w aw (sl cW cX cY) cO∧aw.Nodup∧(∀ k∈aw,H.z≤k)∧(∀ k∈aw,k∉au)∧(∀ k∈aw,k∉av)∧a_ w ax (sl cZ d0 d1) cP∧ax.Nodup∧(∀ k∈ax,H.z≤k)∧(∀ k∈ax,k∉au)∧(∀ k∈ax,k∉av)∧(∀ k∈ax,k∉aw)∧Blk w g1 [sl A0 N0 C0,vI bV,vI bW]∧Blk w G.z [Str.v x5,vI x3,vI bX,vB false,sl cQ cR cS,sl cT cU cV,sl cW cX cY,sl cZ d0 d1]) ?_ ?_
   ·refine Wc z (fun f6=>?_)<|fun f6=>?_
    ·refine Wg<|Rm z ?_
     have fZ:=lt_ hj s3.s;have g0:=mm1 (Blk.lt hB1) fZ;obtain ⟨h8,kO,kP,kQ,iU⟩:=r_<|ifT gs f6;refine E z (fc call57 z<|a_V (B:=B) kQ (((hq.e s3).e h4).c I<|djs g0) (zt' hBw<|lt_ (lt_ fZ h4.s) I.s) hBg (p1_0.g<|(((hn.c sc<|c_<|b_ hBg).e s3).e h4).c I<|c_ (or0 (b_ lr)  (m_<|zt' hBw fZ) : ∀ k∈[G.z],¬ B k)) ho hp<|ii z) ?_;rintro _ kR ⟨h9,rfl,_,kS,kT,kU⟩;refine R z (add_ z z)<|R z (fd a_t z)<|E0 (fs (cur':=[Str.v x5,vI x3,vI<|j_ 1 h8,vB false,sl none 0 0,sl none 0 0,sl none 0 0,sl none 0 0]) z_3 z z (ht.c h9<|atp g0) z (lb z) (oA z) z) ?_
     rintro _ kV ⟨kW,kX⟩;have hb:=kX.one;refine Wl ?_;exact fun _ q=>⟨kO,kP,j_ 1 h8,([]:List UInt8),([]:List Str),([]:List Int),([]:List Int),som iU,none,0,0,[],none,0,0,[],none,0,0,[],none,0,0,[],q.k<|s2 z z,(cM (cM (cr ([g1]++[G.z]) H) h9 (io<|x_ sr):Chg (· ∈ ([g1]++[G.z])) H kR) hb (io<|A_ sr):Chg (· ∈ ([g1]++[G.z])) H kV),kS,kT,iA _ _,onL,H_,an_,onL,H_,an_,an_,onL,H_,an_,an_,an_,onL,H_,an_,an_,an_,an_,kU.c hb<|djs g0,kW⟩
    refine Ws<|R z (eql z z)<|Ra z<|Wn ?_
    obtain ⟨kY,gt,f7⟩:=bdS<|ifF gs f6;refine Wt (fun a w=>∃ (bY:Int) (bZ:Int) (d2:List UInt8) (d3:List Str) (d4:List Int) (d5:List Int),Sum.inl (bY,bZ,d2,d3,d4,d5)=kY ∧ ∃ d6 d7 d8 ay d9 da db az dc dd de aA df dg dh aB,Sat 147 [(6,pt wb.z),(8,pt G.z)] a∧Chg (· ∈ ([g1]++[G.z])) H w∧inI bY∧inI bZ∧a_ w ay (sl d6 d7 d8) d2∧ay.Nodup∧(∀ k∈ay,H.z≤k)∧a_ w az (sl d9 da db) d3∧az.Nodup∧(∀ k∈az,H.z≤k)∧(∀ k∈az,k∉ay)∧a_ w aA (sl dc dd de) d4∧aA.Nodup∧(∀ k∈aA,H.z≤k)∧(∀ k∈aA,k∉ay)∧(∀ k∈aA,k∉az)∧a_ w aB (sl df dg dh) d5∧aB.Nodup∧(∀ k∈aB,H.z≤k)∧(∀ k∈aB,k∉ay)∧(∀ k∈aB,k∉az)∧(∀ k∈aB,k∉aA)∧Blk w g1 [sl A0 N0 C0,vI bY,vI bZ]∧Blk w G.z [Str.v x5,vI x3,vI 0,vB false,sl d6 d7 d8,sl d9 da db,sl dc dd de,sl df dg dh]) ?_ ?_
    ·refine Wc z (fun f8=>?_)<|fun f8=>?_
     ·refine Wg<|Rm z ?_
      refine R z (lN (vs:=[sl A6 N6 C6]) y_ t_ z z fid<|(((((cm.e hi).c sc<|atp<|mmr<|Blk.lt hB1).e s3).e h4).c I<|djs<|mm1 cl.lt<|lt_ (lt_ (lt_ ah.s hi.s) sc.s) s3.s).row 0 1 z) ?_;have g2:=lt_ hj s3.s;have hc:=(((hn.c sc<|c_<|b_ hBg).e s3).e h4).c I<|c_ (or0 (b_ lr)  (m_<|zt' hBw g2) : ∀ k∈[G.z],¬ B k)
      have g3:=mm1 (Blk.lt hB1) g2;obtain ⟨hd,kZ,l2,l3,iV⟩:=r_<|ifT gt f8;refine E z (fc call163 z<|i_h (B:=B) l3 (((hq.e s3).e h4).c I<|djs g3) (zt' hBw<|lt_ (lt_ g2 h4.s) I.s) hBg (p1_0.g hc) ho hp<|p2_0.g hc) ?_;rintro _ c0 ⟨di,rfl,l4,l5,l6,l7⟩;refine E z (fS [(.tmp 55)] b_q z z z (a_d z) (lb z)<|lb z) ?_;rintro _ he ⟨rfl,g4⟩;have g5:=g4.below;have qD:Blk he c0.z [vI hd]:=g4.blk;refine R z (fd K_ z)<|E0 (fs (cur':=[Str.v x5,vI x3,vI 0,vB false,sl none 0 0,sl none 0 0,sl none 0 0,sl (some ⟨c0.z,0,none⟩) 1 1]) d_y z z ((ht.c di<|atp g3).e g5) z (lb z) (oA z) z) ?_
      rintro _ l8 ⟨l9,la⟩;have g6:=la.one;refine Wl ?_;exact fun _ q=>⟨kZ,l2,([]:List UInt8),([]:List Str),([]:List Int),[hd],som iV,none,0,0,[],none,0,0,[],none,0,0,[],some ⟨c0.z,0,none⟩,1,1,[c0.z],q.k<|s2 z z,(cM (f_ (cM (cr ([g1]++[G.z]) H) di (io<|x_ sr):Chg (· ∈ ([g1]++[G.z])) H c0) g5:Chg (· ∈ ([g1]++[G.z])) H he) g6 (io<|A_ sr):Chg (· ∈ ([g1]++[G.z])) H l8),l5,l6,onL,H_,an_,onL,H_,an_,an_,onL,H_,an_,an_,an_,(a_E g4<|b_g l4).c g6<|mm1 ha.lt<|lt_ I.s di.s,a_h,m1 di.s,nmN _,nmN _,nmN _,(l7.e g5).c g6<|djs g3,l9⟩
     refine Ws<|R z (eql z z)<|Ra z<|Wn ?_
     obtain ⟨lc,gu,f9⟩:=bdS<|ifF gt f8;refine Wt (fun a w=>∃ (c1:Int) (c2:Int) (dj:List UInt8) (dk:List Str) (dl:List Int) (dm:List Int),Sum.inl (c1,c2,dj,dk,dl,dm)=lc ∧ ∃ dn dp dq aC dr dt du aD dv dw dx aE dy dz dA aF,Sat 147 [(6,pt wb.z),(8,pt G.z)] a∧Chg (· ∈ ([g1]++[G.z])) H w∧inI c1∧inI c2∧a_ w aC (sl dn dp dq) dj∧aC.Nodup∧(∀ k∈aC,H.z≤k)∧a_ w aD (sl dr dt du) dk∧aD.Nodup∧(∀ k∈aD,H.z≤k)∧(∀ k∈aD,k∉aC)∧a_ w aE (sl dv dw dx) dl∧aE.Nodup∧(∀ k∈aE,H.z≤k)∧(∀ k∈aE,k∉aC)∧(∀ k∈aE,k∉aD)∧a_ w aF (sl dy dz dA) dm∧aF.Nodup∧(∀ k∈aF,H.z≤k)∧(∀ k∈aF,k∉aC)∧(∀ k∈aF,k∉aD)∧(∀ k∈aF,k∉aE)∧Blk w g1 [sl A0 N0 C0,vI c1,vI c2]∧Blk w G.z [Str.v x5,vI x3,vI 0,vB false,sl dn dp dq,sl dr dt du,sl dv dw dx,sl dy dz dA]) ?_ ?_
     ·refine Wc z (fun fe=>?_)<|fun fe=>?_
      ·refine Wg<|Rm z ?_
       refine R z (lN (vs:=[sl A6 N6 C6]) y_ t_ z z fid<|(((((cm.e hi).c sc<|atp<|mmr<|Blk.lt hB1).e s3).e h4).c I<|djs<|mm1 cl.lt<|lt_ (lt_ (lt_ ah.s hi.s) sc.s) s3.s).row 0 1 z) ?_;have g7:=lt_ hj s3.s;have g8:=(((hn.c sc<|c_<|b_ hBg).e s3).e h4).c I<|c_ (or0 (b_ lr)  (m_<|zt' hBw g7) : ∀ k∈[G.z],¬ B k)
       have dB:=mm1 (Blk.lt hB1) g7;have hf:=lt_ (lt_ g7 h4.s) I.s;obtain ⟨dC,_,_,ld,iW⟩:=r_<|ifT gu fe;refine E z (fc call163 z<|i_h (B:=B) ld (((hq.e s3).e h4).c I<|djs dB) (zt' hBw hf) hBg (p1_0.g g8) ho hp<|p2_0.g g8) ?_;rintro _ le ⟨bA,rfl,lf,lg,lh,li⟩;refine Rm z<|Rm z ?_
       obtain ⟨dD,lj,lk,ll,iX⟩:=r_ iW;refine E z (fc call57 z<|a_V (B:=B) ll li (zt' hBw<|lt_ hf bA.s) hBg (p1_0.g<|g8.c bA<|c_<|b_ hBg) lg lh<|a_M<|repS.len bg) ?_;rintro _ aX ⟨dF,rfl,lm,ln,lo,lp⟩;refine E z (fS [(.tmp 62),(.tmp 65)] b_q z z z (a_d z) (lb z)<|lb z) ?_;rintro _ g9 ⟨rfl,hg⟩;have ga:=hg.below;refine R z (fd K_ z)<|E0 (fs (cur':=[Str.v x5,vI x3,vI 0,vB false,sl none 0 0,sl none 0 0,sl none 0 0,sl (some ⟨aX.z,0,none⟩) 2 2]) d_y z z (((ht.c bA<|atp dB).c dF<|atp dB).e ga) z (lb z) (oA z) z) ?_
       rintro _ lq ⟨ls,lu⟩;have gb:=lu.one;refine Wl ?_;exact fun _ q=>⟨lj,lk,([]:List UInt8),([]:List Str),([]:List Int),[dC,dD],som iX,none,0,0,[],none,0,0,[],none,0,0,[],some ⟨aX.z,0,none⟩,2,2,[aX.z],q.k<|s2 z z,(cM (f_ (cM (cM (cr ([g1]++[G.z]) H) bA (io<|x_ sr):Chg (· ∈ ([g1]++[G.z])) H le) dF (io<|x_ sr):Chg (· ∈ ([g1]++[G.z])) H aX) ga:Chg (· ∈ ([g1]++[G.z])) H g9) gb (io<|A_ sr):Chg (· ∈ ([g1]++[G.z])) H lq),ln,lo,onL,H_,an_,onL,H_,an_,an_,onL,H_,an_,an_,an_,(i_5 (l:=[dC,dD]) (hg.blk:Blk g9 aX.z [vI dC,vI dD]) (ac0 lf<|ac0 lm an0) z:a_ g9 [aX.z] (sl (some ⟨aX.z,0,none⟩) 2 2) ([dC,dD]:List Int)).c gb<|mm1 ha.lt<|lt_ (lt_ I.s bA.s) dF.s,a_h,m1<|lt_ bA.s dF.s,nmN _,nmN _,nmN _,(lp.e ga).c gb<|djs dB,ls⟩
      refine Ws<|R z (eql z z)<|Ra z<|Wn ?_
      obtain ⟨lv,gv,ff⟩:=bdS<|ifF gu fe;refine Wt (fun a w=>∃ (c3:Int) (c4:Int) (dG:List UInt8) (dH:List Str) (dI:List Int) (dJ:List Int),Sum.inl (c3,c4,dG,dH,dI,dJ)=lv ∧ ∃ dK dL dN aG dO dP dS aH dT dU dV aI dW dX dY aJ,Sat 147 [(6,pt wb.z),(8,pt G.z)] a∧Chg (· ∈ ([g1]++[G.z])) H w∧inI c3∧inI c4∧a_ w aG (sl dK dL dN) dG∧aG.Nodup∧(∀ k∈aG,H.z≤k)∧a_ w aH (sl dO dP dS) dH∧aH.Nodup∧(∀ k∈aH,H.z≤k)∧(∀ k∈aH,k∉aG)∧a_ w aI (sl dT dU dV) dI∧aI.Nodup∧(∀ k∈aI,H.z≤k)∧(∀ k∈aI,k∉aG)∧(∀ k∈aI,k∉aH)∧a_ w aJ (sl dW dX dY) dJ∧aJ.Nodup∧(∀ k∈aJ,H.z≤k)∧(∀ k∈aJ,k∉aG)∧(∀ k∈aJ,k∉aH)∧(∀ k∈aJ,k∉aI)∧Blk w g1 [sl A0 N0 C0,vI c3,vI c4]∧Blk w G.z [Str.v x5,vI x3,vI 0,vB false,sl dK dL dN,sl dO dP dS,sl dT dU dV,sl dW dX dY]) ?_ ?_
      ·refine Wc z (fun fg=>?_)<|fun fg=>?_
       ·refine Ws<|Rm z ?_
        have gc:=lt_ hj s3.s;have ge : ∀ k∈[G.z],¬ B k:=or0 (b_ lr)  (m_<|zt' hBw gc);have hh:=(((hn.c sc<|c_<|b_ hBg).e s3).e h4).c I<|c_ ge
        have aK:=mm1 (Blk.lt hB1) gc;have hu:=lt_ (lt_ gc h4.s) I.s;obtain ⟨_,_,_,lw,iY⟩:=r_<|ifT gv fg;refine E z (fc call57 z<|a_V (B:=B) lw (((hq.e s3).e h4).c I<|djs aK) (zt' hBw hu) hBg (p1_0.g hh) ho hp<|ii z) ?_;rintro _ L ⟨aY,rfl,_,lx,ly,lz⟩;refine R z (add_ z z)<|Ra z<|Wn ?_
        obtain ⟨_,iZ,gw⟩:=bdS iY;refine b_Y (σ:=Int×Int×Int×(List Str)×(List Int)) (ρ:=g_×Int×Int) (fun s a w=>un5 (fun aZ aL aM bB bC=>∃ a3 a4 a5 Se ak nm cu Sf,Sat 147 [(0,pt g1),(6,pt wb.z),(7,vI (x2.rules.length:Int)),(8,pt G.z),(9,vI aZ)] a∧Chg (· ∈ ([g1]++[G.z])) L w∧inI aZ∧inI aL∧inI aM∧a_ w Se (sl a3 a4 a5) bB∧Se.Nodup∧(∀ k∈Se,L.z≤k)∧a_ w Sf (sl ak nm cu) bC∧Sf.Nodup∧(∀ k∈Sf,L.z≤k)∧(∀ k∈Sf,k∉Se)∧Blk w g1 [sl A0 N0 C0,vI aL,vI aM]∧Blk w G.z [Str.v x5,vI x3,vI 0,vB false,sl none 0 0,sl a3 a4 a5,sl none 0 0,sl ak nm cu]) s) (fun s a w=>un5 (fun aZ aL aM bB bC=>∃ a3 a4 a5 Se ak nm cu Sf,Sat 147 [(6,pt wb.z),(8,pt G.z)] a∧Chg (· ∈ ([g1]++[G.z])) L w∧inI aZ∧inI aL∧inI aM∧a_ w Se (sl a3 a4 a5) bB∧Se.Nodup∧(∀ k∈Se,L.z≤k)∧a_ w Sf (sl ak nm cu) bC∧Sf.Nodup∧(∀ k∈Sf,L.z≤k)∧(∀ k∈Sf,k∉Se)∧Blk w g1 [sl A0 N0 C0,vI aL,vI aM]∧Blk w G.z [Str.v x5,vI x3,vI 0,vB false,sl none 0 0,sl a3 a4 a5,sl none 0 0,sl ak nm cu]) s) (fun r ex a w=>ex = .ret∧L_ prog fn (Q7 w0 g1 B A0 N0 C0 x1 r) a w) iZ ?_ ?_ ?_ ?_
        ·exact fun _ q=>⟨none,0,0,[],none,0,0,[],q.k<|s5 z z z z z,cr ([g1]++[G.z]) L,iA _ _,lx,ly,onL,H_,an_,onL,H_,an_,an_,lz,ht.c aY<|atp aK⟩
        ·rintro ⟨aZ,aL,aM,bB,bC⟩ _ gf _ ⟨a3,a4,a5,Se,ak,nm,cu,Sf,j0,bD,gg,dZ,e0,e1,e2,aN,c5,e3,b0,c6,e4,e5⟩ j1;have gx:=c_b j1;refine Wu ?_ j0;refine Wq<|Ws<|Rm z<|R z (a_9 z z)<|Wn<|Wc z (fun fh=>?_) (fun fh=>?_)
         ·refine Wk<|Wq<|Wb<|Wq (Wd (X:=fun k=>k∈[g1]∨gf.z≤k) 2560 (.rd 0<|.rd 1<|.rd 2<|.rd 5<|.ef 3<|.ef 4<|.ef 6<|.rd 7<|.ef 8<|.ef 9<|.rd 10<|.ef 11 .done) mo (by kernel_rfl) fun bE ss _=>dR z z (fd b_P z) ?_)
          have hw:=e5.e ss;have gh:=lt_ I.s aY.s;have hy:=lt_ gh bD.s;refine dR z z (l1 b_Z z (a_y (atp aK)<|Nat.lt_of_lt_of_le ha.lt hy)<|hw.at z)<|dR z z (mv z)<|dR z z (mv z)<|dE z z (fS [(.const<|Str.v ⟨[112]⟩),.const<|Str.v ⟨[113]⟩,(.const<|Str.v ⟨[114]⟩)] g_w z z z (a_d z) (lb z)<|lb z) (.inr fun _ _ h=>v_<|h.2.below) ?_
          rintro _ c7 ⟨rfl,hz⟩;have hv:=hz.below;have hA:a_ c7 [bE.z] (sl (some ⟨bE.z,0,none⟩) 3 3) ([(⟨[112]⟩:Str),(⟨[113]⟩:Str),(⟨[114]⟩:Str)]:List Str):=j_U (l:=[(⟨[112]⟩:Str),(⟨[113]⟩:Str),(⟨[114]⟩:Str)]) (hz.blk:Blk c7 bE.z [(Str.v (⟨[112]⟩:Str)),Str.v (⟨[113]⟩:Str),(Str.v (⟨[114]⟩:Str))]) (ac0 (lb z)<|ac0 (lb z)<|ac0 (lb z) an0) z;have hB:=(((hh.c aY<|c_<|b_ hBg).c bD<|nmA (c_<|b_ hBg)<|c_ ge).e ss).e hv;have e6:=lt_ hu aY.s;have hC:=lt_ (lt_ e6 bD.s) ss.s;have hD:=lt_ hC hv.s;obtain ⟨_,_,_,lA,j2⟩:=r_<|ifT gx fh;refine dE z z (fc call113 z<|W_w14 (B:=zn B bE.z c7.z) lA ((e4.e ss).e hv) (c_c (zt' hBw hD) lr) (atp ((d_w (b_ hBg) (b_<|Blk.lt hB1) hC) : ∀ k∈[g1],¬ (zn B bE.z c7.z) k)) (repS.mono (p1_0.g hB) b_M) dZ e0<|or_ hA<|zin (B:=B) (b_ lr)<|a_.lt hA) (.inr fun _ _ h=>h.1.mono fun k _ hk=>(io sr) k hk) ?_;rintro _ lB ⟨a6,rfl,_,lC,lD,lE⟩;have hE:=lt_ hD a6.s;obtain ⟨_,lF,j3⟩:=bdS j2;refine dE z z (fc call162 z<|i_f (B:=B) lF (zt' hBw hE) gg) (.inr fun _ _ h=>v_<|h.1) ?_;rintro _ hF ⟨sw,rfl,_⟩;obtain ⟨lG,gi,j4⟩:=bdS j3;refine dR z z (c_X z z gi)<|dE z z (fS [(.tmp 84)] g_w z z z (a_d z) (lb z)<|lb z) (.inr fun _ _ h=>v_<|h.2.below) ?_
          rintro _ hG ⟨rfl,gj⟩;have hx:=gj.below;have qE:=a_E gj<|g_n<|d_u gi
          have gk:=k_ aN (Blk.lt hB1) e6;obtain ⟨lH,lI,j5⟩:=bdS j4;refine dE z z (a_Q (α:=Str) g_w lI z z (((((e1.e ss).e hv).c a6 gk).e sw).e hx) e2 (gj.blk:Blk hG hF.z [Str.v lG]) (g_n<|d_u gi) an_ H_) (.inl z) ?_;rintro _ lJ ⟨bF,gl,gm,gn,rfl,aO,hH,lK,e7⟩;refine dR z z (fd b_P z) ?_;have hI:=k_ aN ha.lt gh;refine dE0 z (fs (cur':=[Str.v x5,vI x3,vI 0,vB false,sl none 0 0,sl gl gm gn,sl none 0 0,sl ak nm cu]) z_51 z z (((((hw.e hv).c a6<|atp aK).e sw).e hx).c aO<|djs hI) z (lb z) (oA z) z) (.inl z) ?_;rintro _ hJ ⟨lL,lM⟩;have a7:=lM.one;refine pD<|Wo (Wd (X:=fun k=>k∈[g1]∨hJ.z≤k) 320 (.rd 0<|.rd 1<|.rd 2<|.rd 3<|.ef 4<|.ef 5<|.ef 6<|.rd 7<|.ef 8 .done) mo (by kernel_rfl) fun lO sy _=>dR z z (fd K_ z) ?_)
          have hK:=lL.e sy;have hL:=lt_ (lt_ (lt_ (lt_ (lt_ hy ss.s) hv.s) a6.s) sw.s) hx.s;have hM:=lt_ (lt_ hL aO.s) a7.s;refine dR z z (l1 B_ z (a_y (atp aK)<|Nat.lt_of_lt_of_le ha.lt hM)<|hK.at z)<|dR z z (mv z)<|dR z z (mv z) ?_
          have hN:=lt_ (lt_ hE sw.s) hx.s;obtain ⟨lP,lQ,lR,lS,j6⟩:=r_ j5;refine dE z z (fc call57 z<|a_V (B:=B) lS (((((lE.e sw).e hx).c aO<|djs gk).c a7<|djs aK).e sy) (zt' hBw<|lt_ (lt_ (lt_ hN aO.s) a7.s) sy.s) hBg (p1_0.g<|(((((hB.c a6<|c_<|b_ hBg).e sw).e hx).c aO<|c_ (or0 aN  (m_<|zt' hBw e6) : ∀ k∈Se,¬ B k)).c a7<|c_ ge).e sy) lC lD<|a_M<|repS.len bg) (.inr fun _ _ h=>h.1.mono fun k _ hk=>(io sr) k hk) ?_;rintro _ hO ⟨b1,rfl,hP,lT,lU,lV⟩;refine dE z z (fS [(.tmp 92)] b_q z z z (a_d z) (lb z)<|lb z) (.inr fun _ _ h=>v_<|h.2.below) ?_;rintro _ hQ ⟨rfl,fi⟩;have aP:=fi.below;have qF:=a_E fi<|b_g hP
          have fj:=k_ b0 (Blk.lt hB1) e6;have fk:=k_ b0 ha.lt gh;obtain ⟨lW,lX,j7⟩:=bdS j6;refine dE z z (a_Q (α:=Int) b_q lX z z ((((((((((c5.e ss).e hv).c a6 fj).e sw).e hx).c aO c6).c a7 fk).e sy).c b1 fj).e aP) e3 (fi.blk:Blk hQ hO.z [vI lP]) (b_g hP) an_ H_) (.inl z) ?_;rintro _ lY ⟨e8,hR,hS,hT,rfl,e9,lZ,m0,fl⟩;refine dR z z (fd K_ z)<|dE0 z (fs (cur':=[Str.v x5,vI x3,vI 0,vB false,sl none 0 0,sl gl gm gn,sl none 0 0,sl hR hS hT]) d_y z z (((hK.c b1<|atp aK).e aP).c e9<|djs fk) z (lb z) (oA z) z) (.inl z) ?_
          rintro _ m2 ⟨m3,m4⟩;have ea:=m4.one;refine pD<|Wo<|Wg<|Rm z<|R z (sb_ z z)<|Ra z<|Wl ?_
          have hU : ∀ k∈bF,k∉[G.z]:=or2 e7 hI an_<|P_ (b_ ha.lt) hL;have hV : ∀ k∈bF,k∉Sf:=or2 e7 (ds c6) an_<|P_ (a_.lt c5)<|lt_ (lt_ (lt_ (lt_ ss.s hv.s) a6.s) sw.s) hx.s;have hW:=lt_ (lt_ (lt_ (lt_ (lt_ bD.s ss.s) hv.s) a6.s) sw.s) hx.s;exact fun _ q=>⟨(I_ aZ 1,lQ,lR,lH,lW),(som j7).symm,⟨gl,gm,gn,bF,hR,hS,hT,e8,q.k<|s5 z z z z z,(cM (cM (f_ (cM (f_ (cM (cM (f_ (f_ (cM (f_ (f_ (cM (cr ([g1]++[G.z]) L) bD (aa_ (io<|x_ sr)<|io<|A_ sr):Chg (· ∈ ([g1]++[G.z])) L gf) ss:Chg (· ∈ ([g1]++[G.z])) L bE) hv:Chg (· ∈ ([g1]++[G.z])) L c7) a6 (io<|x_ sr):Chg (· ∈ ([g1]++[G.z])) L lB) sw:Chg (· ∈ ([g1]++[G.z])) L hF) hx:Chg (· ∈ ([g1]++[G.z])) L hG) aO (or0 aN  (z_ lr) : ∀ k∈Se,k∈([g1]++[G.z])∨L.z≤k):Chg (· ∈ ([g1]++[G.z])) L lJ) a7 (io<|A_ sr):Chg (· ∈ ([g1]++[G.z])) L hJ) sy:Chg (· ∈ ([g1]++[G.z])) L lO) b1 (io<|x_ sr):Chg (· ∈ ([g1]++[G.z])) L hO) aP:Chg (· ∈ ([g1]++[G.z])) L hQ) e9 (or0 b0  (z_ lr) : ∀ k∈Sf,k∈([g1]++[G.z])∨L.z≤k):Chg (· ∈ ([g1]++[G.z])) L lY) ea (io<|A_ sr):Chg (· ∈ ([g1]++[G.z])) L m2),iS _ _,lT,lU,(((((hH.c a7 hU).e sy).c b1 (or2 e7 gk an_ (P_ (b_<|Blk.lt hB1) hN) : ∀ k∈bF,k∉[g1])).e aP).c e9 hV).c ea hU,lK,(or2 e7 aN an_ (b_7 hW) : ∀ k∈bF,L.z≤k),lZ.c ea (or2 fl fk an_ (P_ (b_ ha.lt)<|lt_ (lt_ (lt_ hM sy.s) b1.s) aP.s) : ∀ k∈e8,k∉[G.z]),m0,(or2 fl b0 an_ (b_7<|lt_ (lt_ (lt_ (lt_ (lt_ hW aO.s) a7.s) sy.s) b1.s) aP.s) : ∀ k∈e8,L.z≤k),(or2 fl (ds hV) an_ (P_ (a_.lt hH)<|lt_ (lt_ (lt_ a7.s sy.s) b1.s) aP.s) : ∀ k∈e8,k∉bF),((lV.e aP).c e9<|djs fj).c ea<|djs aK,m3⟩⟩
         exact We<|fun a' ha'=>b_w (som<|ifF gx fh).symm ⟨a3,a4,a5,Se,ak,nm,cu,Sf,Sat.weaken ha'<|s2 z z,(cM (cr ([g1]++[G.z]) L) bD (aa_ (io<|x_ sr)<|io<|A_ sr):Chg (· ∈ ([g1]++[G.z])) L gf),gg,dZ,e0,e1,e2,aN,c5,e3,b0,c6,e4,e5⟩
        ·rintro ⟨aZ,aL,aM,bB,bC⟩ m5 m6 rfl ⟨a3,a4,a5,Se,ak,nm,cu,Sf,_,m7,gg,dZ,e0,e1,e2,aN,c5,e3,b0,c6,e4,e5⟩;have j8:=elL gw;revert m5;exact fun _ q=>⟨aL,aM,([]:List UInt8),bB,([]:List Int),bC,som<|c_b j8,none,0,0,[],a3,a4,a5,Se,none,0,0,[],ak,nm,cu,Sf,q.k<|s2 z z,(cM (cM (cr ([g1]++[G.z]) H) aY (io<|x_ sr):Chg (· ∈ ([g1]++[G.z])) H L) m7 (aa_ (io<|x_ sr)<|io<|A_ sr):Chg (· ∈ ([g1]++[G.z])) H m6),dZ,e0,onL,H_,an_,e1,e2,l_ aN aY.s,nmN _,onL,H_,an_,an_,an_,c5,e3,l_ b0 aY.s,nmN _,c6,nmN _,e4,e5⟩
        rintro _ _ _ _ rfl ⟨rfl,j9⟩;have ja:=elR gw;obtain rfl:=som ja;have jb:=elR ff;obtain rfl:=som jb;have jc:=elR f9;obtain rfl:=som jc;have jd:=elR f7;obtain rfl:=som jd;have je:=elR f5;obtain rfl:=som je;have jf:=elR f3;obtain rfl:=som jf;have jg:=elR f1;obtain rfl:=som jg;exact ⟨j9,z⟩
       refine Ws<|R z (eql z z)<|Ra z<|Wn ?_
       obtain ⟨m8,gy,gz⟩:=bdS<|ifF gv fg;refine Wt (fun a w=>∃ (c8:Int) (c9:Int) (eb:List UInt8) (ec:List Int) (ed:List Int),Sum.inl (c8,c9,eb,ec,ed)=m8 ∧ ∃ ee eg eh b2 ei ej ek b3 em en eo b4,Sat 147 [(6,pt wb.z),(8,pt G.z)] a∧Chg (· ∈ ([g1]++[G.z])) H w∧inI c8∧inI c9∧a_ w b2 (sl ee eg eh) eb∧b2.Nodup∧(∀ k∈b2,H.z≤k)∧a_ w b3 (sl ei ej ek) ec∧b3.Nodup∧(∀ k∈b3,H.z≤k)∧(∀ k∈b3,k∉b2)∧a_ w b4 (sl em en eo) ed∧b4.Nodup∧(∀ k∈b4,H.z≤k)∧(∀ k∈b4,k∉b2)∧(∀ k∈b4,k∉b3)∧Blk w g1 [sl A0 N0 C0,vI c8,vI c9]∧Blk w G.z [Str.v x5,vI x3,vI 0,vB false,sl ee eg eh,sl none 0 0,sl ei ej ek,sl em en eo]) ?_ ?_
       ·refine Wc z (fun eW=>?_)<|fun eW=>?_
        ·refine Ws<|Rm z ?_
         refine R z (lN (vs:=[sl A6 N6 C6]) y_ t_ z z fid<|(((((cm.e hi).c sc<|atp<|mmr<|Blk.lt hB1).e s3).e h4).c I<|djs<|mm1 cl.lt<|lt_ (lt_ (lt_ ah.s hi.s) sc.s) s3.s).row 0 1 z) ?_;have fm:=lt_ hj s3.s;have ep : ∀ k∈[G.z],¬ B k:=or0 (b_ lr)  (m_<|zt' hBw fm);have fo:=(((hn.c sc<|c_<|b_ hBg).e s3).e h4).c I<|c_ ep
         have hl:=mm1 (Blk.lt hB1) fm;have hX:=lt_ (lt_ fm h4.s) I.s;obtain ⟨m9,_,_,ma,jh⟩:=r_<|ifT gy eW;refine E z (fc call163 z<|i_h (B:=B) ma (((hq.e s3).e h4).c I<|djs hl) (zt' hBw hX) hBg (p1_0.g fo) ho hp<|p2_0.g fo) ?_;rintro _ J ⟨a8,rfl,mb,mc,md,me⟩;refine E z (fS [(.tmp 100)] b_q z z z (a_d z) (lb z)<|lb z) ?_;rintro _ hY ⟨rfl,fp⟩;have b5:=fp.below;have qG:Blk hY J.z [vI m9]:=fp.blk;refine R z (fd K_ z)<|E0 (fs (cur':=[Str.v x5,vI x3,vI 0,vB false,sl none 0 0,sl none 0 0,sl none 0 0,sl (some ⟨J.z,0,none⟩) 1 1]) d_y z z ((ht.c a8<|atp hl).e b5) z (lb z) (oA z) z) ?_
         rintro _ mf ⟨mg,mh⟩;have b6:=mh.one;refine Wn<|Ws<|Rm z ?_
         have hZ:=((fo.c a8<|c_<|b_ hBg).e b5).c b6<|c_ ep
         have er:=lt_ hX a8.s;have i0:=lt_ (lt_ er b5.s) b6.s;obtain ⟨_,_,_,mi,ji⟩:=r_ jh;refine E z (fc call57 z<|a_V (B:=B) mi ((me.e b5).c b6<|djs hl) (zt' hBw i0) hBg (p1_0.g hZ) mc md<|ii z) ?_;rintro _ O ⟨b7,rfl,_,mj,mk,ml⟩;refine R z (add_ z z)<|Ra z<|Wn ?_
         obtain ⟨_,jj,gA⟩:=bdS ji;refine b_Y (σ:=Int×Int×Int×(List Int)×(List Int)) (ρ:=g_×Int×Int) (fun s a w=>un5 (fun b8 aQ aR b9 bG=>∃ a9 aa ab Sg ar nz W Sd,Sat 147 [(0,pt g1),(6,pt wb.z),(7,vI (x2.rules.length:Int)),(8,pt G.z),(10,vI b8)] a∧Chg (· ∈ ([g1]++([G.z]++[J.z]))) O w∧inI b8∧inI aQ∧inI aR∧a_ w Sg (sl a9 aa ab) b9∧Sg.Nodup∧(∀ k∈Sg,O.z≤k)∧a_ w Sd (sl ar nz W) bG∧Sd.Nodup∧(∀ k∈Sd,k∈[J.z]∨O.z≤k)∧(∀ k∈Sd,k∉Sg)∧Blk w g1 [sl A0 N0 C0,vI aQ,vI aR]∧Blk w G.z [Str.v x5,vI x3,vI 0,vB false,sl none 0 0,sl none 0 0,sl a9 aa ab,sl ar nz W]) s) (fun s a w=>un5 (fun b8 aQ aR b9 bG=>∃ a9 aa ab Sg ar nz W Sd,Sat 147 [(6,pt wb.z),(8,pt G.z)] a∧Chg (· ∈ ([g1]++([G.z]++[J.z]))) O w∧inI b8∧inI aQ∧inI aR∧a_ w Sg (sl a9 aa ab) b9∧Sg.Nodup∧(∀ k∈Sg,O.z≤k)∧a_ w Sd (sl ar nz W) bG∧Sd.Nodup∧(∀ k∈Sd,k∈[J.z]∨O.z≤k)∧(∀ k∈Sd,k∉Sg)∧Blk w g1 [sl A0 N0 C0,vI aQ,vI aR]∧Blk w G.z [Str.v x5,vI x3,vI 0,vB false,sl none 0 0,sl none 0 0,sl a9 aa ab,sl ar nz W]) s) (fun r ex a w=>ex = .ret∧L_ prog fn (Q7 w0 g1 B A0 N0 C0 x1 r) a w) jj ?_ ?_ ?_ ?_
         ·exact fun _ q=>⟨none,0,0,[],some ⟨J.z,0,none⟩,1,1,[J.z],q.k<|s5 z z z z z,cr ([g1]++([G.z]++[J.z])) O,iA _ _,mj,mk,onL,H_,an_,((a_E fp<|b_g mb).c b6<|mm1 ha.lt<|lt_ I.s a8.s).c b7<|mm1 (Blk.lt hB1) er,a_h,io sr,nmN _,ml,mg.c b7<|atp hl⟩
         ·rintro ⟨b8,aQ,aR,b9,bG⟩ _ fq _ ⟨a9,aa,ab,Sg,ar,nz,W,Sd,jk,bH,i1,es,eu,ca,ew,ad,cb,ey,ba,cc,ez,eA⟩ jl;have gB:=c_b jl;refine Wu ?_ jk;refine Wq<|Ws<|Rm z<|R z (a_9 z z)<|Wn<|Wc z (fun eX=>?_) (fun eX=>?_)
          ·refine Wk<|Wq<|Wb<|Wq (Wd (X:=fun k=>k∈[g1]∨fq.z≤k) 5120 (.rd 0<|.rd 1<|.rd 2<|.rd 3<|.rd 4<|.rd 5<|.rd 6<|.ef 7<|.rd 8<|.ef 9<|.ef 10<|.rd 11<|.ef 12 .done) mo (by kernel_rfl) fun mm Y _=>dR z z (fd a_L z) ?_)
           have fr:=eA.e Y;have i2:=lt_ I.s a8.s;have ft:=lt_ (lt_ (lt_ i2 b5.s) b6.s) b7.s;have fu:=lt_ ft bH.s;refine dR z z (l1 B_ z (a_y (atp hl)<|Nat.lt_of_lt_of_le ha.lt fu)<|fr.at z)<|dR z z (fd a_L z)<|dR z z (l1 B_ z (a_y (atp hl)<|Nat.lt_of_lt_of_le ha.lt fu)<|fr.at z) ?_
           have i3:=ca.e Y;refine dR z z (lnR w_ z<|or_ i3<|zin (B:=B) ad<|a_.lt ca)<|dR z z (c_K z z)<|dR z z (mv z) ?_
           have i4:=((hZ.c b7<|c_<|b_ hBg).c bH<|nmA (c_<|b_ hBg)<|nmA (c_ ep)<|c_ (or0 (b_ lr)  (m_<|zt' hBw er) : ∀ k∈[J.z],¬ B k)).e Y;have eB:=lt_ i0 b7.s;have i5:=lt_ (lt_ eB bH.s) Y.s;obtain ⟨mn,_,_,mp,jm⟩:=r_<|ifT gB eX;refine dE z z (fc call57 z<|a_V (B:=B) mp (ez.e Y) (zt' hBw i5) hBg (p1_0.g i4) es eu<|ii z) (.inr fun _ _ h=>h.1.mono fun k _ hk=>(io sr) k hk) ?_;rintro _ i6 ⟨ae,rfl,_,mq,mr,ms⟩;refine dR z z (add_ z z)<|dE z z (fS [(.tmp 118)] b_q z z z (a_d z) (lb z)<|lb z) (.inr fun _ _ h=>v_<|h.2.below) ?_
           rintro _ i7 ⟨rfl,fv⟩;have a0:=fv.below;have qH:=a_E fv<|b_g<|iA _ _
           have fw:=k_ ad (Blk.lt hB1) eB;obtain ⟨mt,mu,jn⟩:=bdS jm;refine dE z z (a_Q (α:=Int) b_q mu z z ((i3.c ae fw).e a0) ew (fv.blk:Blk i7 i6.z [(vI<|j_ (a_e 4 (b9.length:Int)) mn)]) (b_g<|iA _ _) an_ H_) (.inl z) ?_;rintro _ mw ⟨bI,fx,fy,fz,rfl,aS,i8,mx,eC⟩;refine dR z z (fd a_L z) ?_;have i9:=k_ ad ha.lt ft;refine dE0 z (fs (cur':=[Str.v x5,vI x3,vI 0,vB false,sl none 0 0,sl none 0 0,sl fx fy fz,sl ar nz W]) d_y z z (((fr.c ae<|atp hl).e a0).c aS<|djs i9) z (lb z) (oA z) z) (.inl z) ?_;rintro _ ia ⟨my,mz⟩;have af:=mz.one;refine pD<|Wo (Wd (X:=fun k=>k∈[g1]∨ia.z≤k) 320 (.rd 0<|.rd 1<|.rd 2<|.rd 3<|.ef 4<|.ef 5<|.ef 6<|.rd 7<|.ef 8 .done) mo (by kernel_rfl) fun mA a1 _=>dR z z (fd K_ z) ?_)
           have ib:=my.e a1;have ic:=lt_ (lt_ (lt_ fu Y.s) ae.s) a0.s;have id:=lt_ (lt_ ic aS.s) af.s;refine dR z z (l1 B_ z (a_y (atp hl)<|Nat.lt_of_lt_of_le ha.lt id)<|ib.at z)<|dR z z (mv z)<|dR z z (mv z) ?_
           have ie:=lt_ (lt_ i5 ae.s) a0.s;obtain ⟨mB,mC,mD,mE,jo⟩:=r_ jn;refine dE z z (fc call57 z<|a_V (B:=B) mE ((((ms.e a0).c aS<|djs fw).c af<|djs hl).e a1) (zt' hBw<|lt_ (lt_ (lt_ ie aS.s) af.s) a1.s) hBg (p1_0.g<|((((i4.c ae<|c_<|b_ hBg).e a0).c aS<|c_ (or0 ad  (m_<|zt' hBw eB) : ∀ k∈Sg,¬ B k)).c af<|c_ ep).e a1) mq mr<|a_M<|repS.len bg) (.inr fun _ _ h=>h.1.mono fun k _ hk=>(io sr) k hk) ?_;rintro _ ig ⟨bb,rfl,ih,mF,mG,mH⟩;refine dE z z (fS [(.tmp 126)] b_q z z z (a_d z) (lb z)<|lb z) (.inr fun _ _ h=>v_<|h.2.below) ?_;rintro _ ij ⟨rfl,fA⟩;have aT:=fA.below;have qI:=a_E fA<|b_g ih
           have fB : ∀ k∈Sd,k∉[g1]:=or1 ba (mm1 (Blk.lt hB1) er)<|P_ (b_<|Blk.lt hB1) eB;have fC : ∀ k∈Sd,k∉[G.z]:=or1 ba (mm1 ha.lt i2)<|P_ (b_ ha.lt) ft;obtain ⟨mI,mJ,jp⟩:=bdS jo;refine dE z z (a_Q (α:=Int) b_q mJ z z ((((((((cb.e Y).c ae fB).e a0).c aS cc).c af fC).e a1).c bb fB).e aT) ey (fA.blk:Blk ij ig.z [vI mB]) (b_g ih) an_ H_) (.inl z) ?_;rintro _ mK ⟨eD,ik,il,im,rfl,eE,mL,mM,fD⟩;refine dR z z (fd K_ z)<|dE0 z (fs (cur':=[Str.v x5,vI x3,vI 0,vB false,sl none 0 0,sl none 0 0,sl fx fy fz,sl ik il im]) d_y z z (((ib.c bb<|atp hl).e aT).c eE<|djs fC) z (lb z) (oA z) z) (.inl z) ?_
           rintro _ mN ⟨mO,mP⟩;have eF:=mP.one;refine pD<|Wo<|Wg<|Rm z<|R z (sb_ z z)<|Ra z<|Wl ?_
           have ip : ∀ k∈bI,k∉[G.z]:=or2 eC i9 an_<|P_ (b_ ha.lt) ic;have iq : ∀ k∈bI,k∉Sd:=or2 eC (ds cc) an_<|P_ (a_.lt cb)<|lt_ (lt_ Y.s ae.s) a0.s;have ir:=lt_ (lt_ (lt_ bH.s Y.s) ae.s) a0.s;exact fun _ q=>⟨(I_ b8 1,mC,mD,mt,mI),(som jp).symm,⟨fx,fy,fz,bI,ik,il,im,eD,q.k<|s5 z z z z z,(cM (cM (f_ (cM (f_ (cM (cM (f_ (cM (f_ (cM (cr ([g1]++([G.z]++[J.z])) O) bH (aa_ (io<|x_ sr)<|aa_ (io<|A_<|x_ sr)<|io<|A_<|A_ sr):Chg (· ∈ ([g1]++([G.z]++[J.z]))) O fq) Y:Chg (· ∈ ([g1]++([G.z]++[J.z]))) O mm) ae (io<|x_ sr):Chg (· ∈ ([g1]++([G.z]++[J.z]))) O i6) a0:Chg (· ∈ ([g1]++([G.z]++[J.z]))) O i7) aS (or0 ad  (z_ lr) : ∀ k∈Sg,k∈([g1]++([G.z]++[J.z]))∨O.z≤k):Chg (· ∈ ([g1]++([G.z]++[J.z]))) O mw) af (io<|A_<|x_ sr):Chg (· ∈ ([g1]++([G.z]++[J.z]))) O ia) a1:Chg (· ∈ ([g1]++([G.z]++[J.z]))) O mA) bb (io<|x_ sr):Chg (· ∈ ([g1]++([G.z]++[J.z]))) O ig) aT:Chg (· ∈ ([g1]++([G.z]++[J.z]))) O ij) eE (or1 ba (io<|A_<|A_ sr) (z_ lr) : ∀ k∈Sd,k∈([g1]++([G.z]++[J.z]))∨O.z≤k):Chg (· ∈ ([g1]++([G.z]++[J.z]))) O mK) eF (io<|A_<|x_ sr):Chg (· ∈ ([g1]++([G.z]++[J.z]))) O mN),iS _ _,mF,mG,(((((i8.c af ip).e a1).c bb (or2 eC fw an_ (P_ (b_<|Blk.lt hB1) ie) : ∀ k∈bI,k∉[g1])).e aT).c eE iq).c eF ip,mx,(or2 eC ad an_ (b_7 ir) : ∀ k∈bI,O.z≤k),mL.c eF (or2 fD fC an_ (P_ (b_ ha.lt)<|lt_ (lt_ (lt_ id a1.s) bb.s) aT.s) : ∀ k∈eD,k∉[G.z]),mM,(or2 fD (or1 ba (io sr) (z_ lr) : ∀ k∈Sd,k∈[J.z]∨O.z≤k) an_ (z_<|lt_ (lt_ (lt_ (lt_ (lt_ ir aS.s) af.s) a1.s) bb.s) aT.s) : ∀ k∈eD,k∈[J.z]∨O.z≤k),(or2 fD (ds iq) an_ (P_ (a_.lt i8)<|lt_ (lt_ (lt_ af.s a1.s) bb.s) aT.s) : ∀ k∈eD,k∉bI),((mH.e aT).c eE<|djs fB).c eF<|djs hl,mO⟩⟩
          exact We<|fun a' ha'=>b_w (som<|ifF gB eX).symm ⟨a9,aa,ab,Sg,ar,nz,W,Sd,Sat.weaken ha'<|s2 z z,(cM (cr ([g1]++([G.z]++[J.z])) O) bH (aa_ (io<|x_ sr)<|aa_ (io<|A_<|x_ sr)<|io<|A_<|A_ sr):Chg (· ∈ ([g1]++([G.z]++[J.z]))) O fq),i1,es,eu,ca,ew,ad,cb,ey,(or1 ba (io sr) (z_ lr) : ∀ k∈Sd,k∈[J.z]∨O.z≤k),cc,ez,eA⟩
         ·rintro ⟨b8,aQ,aR,b9,bG⟩ mQ mR rfl ⟨a9,aa,ab,Sg,ar,nz,W,Sd,_,mS,i1,es,eu,ca,ew,ad,cb,ey,ba,cc,ez,eA⟩;have jq:=elL gA;revert mQ;have it:=lt_ (lt_ (lt_ a8.s b5.s) b6.s) b7.s;exact fun _ q=>⟨aQ,aR,([]:List UInt8),b9,bG,som<|c_b jq,none,0,0,[],a9,aa,ab,Sg,ar,nz,W,Sd,q.k<|s2 z z,(cM (cM (cM (f_ (cM (cr ([g1]++[G.z]) H) a8 (io<|x_ sr):Chg (· ∈ ([g1]++[G.z])) H J) b5:Chg (· ∈ ([g1]++[G.z])) H hY) b6 (io<|A_ sr):Chg (· ∈ ([g1]++[G.z])) H mf) b7 (io<|x_ sr):Chg (· ∈ ([g1]++[G.z])) H O) mS (aa_ (io<|x_ sr)<|aa_ (io<|A_ sr) (mor a8.s : ∀ k∈[J.z],k∈([g1]++[G.z])∨H.z≤k)):Chg (· ∈ ([g1]++[G.z])) H mR),es,eu,onL,H_,an_,ca,ew,l_ ad it,nmN _,cb,ey,a_2 ba (m1 a8.s) it,nmN _,cc,ez,eA⟩
         rintro _ _ _ _ rfl ⟨rfl,jr⟩;have js:=elR gA;obtain rfl:=som js;have jt:=elR gz;obtain rfl:=som jt;have ju:=elR ff;obtain rfl:=som ju;have jv:=elR f9;obtain rfl:=som jv;have jw:=elR f7;obtain rfl:=som jw;have jx:=elR f5;obtain rfl:=som jx;have jy:=elR f3;obtain rfl:=som jy;have jz:=elR f1;obtain rfl:=som jz;exact ⟨jr,z⟩
        refine Wq<|Ws<|R z (eql z z)<|Ra z<|Wn ?_
        obtain ⟨mT,gC,jA⟩:=bdS<|ifF gy eW;refine Wt (fun a w=>∃ (fE:Bool),fE=mT∧Sat 147 [(0,pt g1),(6,pt wb.z),(7,vI (x2.rules.length:Int)),(8,pt G.z),(22,vI x3),(130,vB fE)] a∧Below H.z H w) ?_ ?_
        ·refine Wc z (fun eY=>?_)<|fun eY=>?_
         ·exact a_g<|fun _ q=>⟨x3==8,som<|ifT gC eY,q.k<|s6 z z z z z z,br H⟩
         exact Wg<|R z (eql z z)<|Ra z<|Wl (fun _ q=>⟨x3==9,som<|ifF gC eY,q.k<|s6 z z z z z z,br H⟩)
        rintro mU V ⟨fE,rfl,_,sh⟩;revert mU;refine Wo ?_;obtain ⟨mV,gD,jB⟩:=bdS jA;refine Wt (fun a w=>∃ (cd:Int) (ce:Int) (eG:List UInt8) (eH:List Int),(cd,ce,eG,eH)=mV ∧ ∃ eI eJ eK bJ eL eM eN bK,Sat 147 [(6,pt wb.z),(8,pt G.z)] a∧Chg (· ∈ ([g1]++[G.z])) V w∧inI cd∧inI ce∧a_ w bJ (sl eI eJ eK) eG∧bJ.Nodup∧(∀ k∈bJ,V.z≤k)∧a_ w bK (sl eL eM eN) eH∧bK.Nodup∧(∀ k∈bK,V.z≤k)∧(∀ k∈bK,k∉bJ)∧Blk w g1 [sl A0 N0 C0,vI cd,vI ce]∧Blk w G.z [Str.v x5,vI x3,vI 0,vB false,sl eI eJ eK,sl none 0 0,sl none 0 0,sl eL eM eN]) ?_ ?_
        ·refine Wc z (fun eZ=>?_)<|fun eZ=>?_
         ·refine Wg<|Rm z<|Rm z ?_
          have fF:=lt_ hj s3.s;have fG:=mm1 (Blk.lt hB1) fF;obtain ⟨iu,mW,mX,mY,jC⟩:=r_<|ifT gD eZ;refine E z (fc call57 z<|a_V (B:=B) mY ((((hq.e s3).e h4).c I<|djs fG).e sh) (zt' hBw<|lt_ (lt_ (lt_ fF h4.s) I.s) sh.s) hBg (p1_0.g<|((((hn.c sc<|c_<|b_ hBg).e s3).e h4).c I<|c_ (or0 (b_ lr)  (m_<|zt' hBw fF) : ∀ k∈[G.z],¬ B k)).e sh) ho hp<|a_M<|repS.len bg) ?_;rintro _ cf ⟨eO,rfl,mZ,n0,n1,n2⟩;refine E z (fS [(.tmp 135)] b_q z z z (a_d z) (lb z)<|lb z) ?_;rintro _ iv ⟨rfl,fH⟩;have fI:=fH.below;have qJ:Blk iv cf.z [vI iu]:=fH.blk;refine R z (fd K_ z)<|E0 (fs (cur':=[Str.v x5,vI x3,vI 0,vB false,sl none 0 0,sl none 0 0,sl none 0 0,sl (some ⟨cf.z,0,none⟩) 1 1]) d_y z z (((ht.e sh).c eO<|atp fG).e fI) z (lb z) (oA z) z) ?_
          rintro _ n3 ⟨n4,n5⟩;have fJ:=n5.one;refine Wl ?_;exact fun _ q=>⟨mW,mX,([]:List UInt8),[iu],som jC,none,0,0,[],some ⟨cf.z,0,none⟩,1,1,[cf.z],q.k<|s2 z z,(cM (f_ (cM (cr ([g1]++[G.z]) V) eO (io<|x_ sr):Chg (· ∈ ([g1]++[G.z])) V cf) fI:Chg (· ∈ ([g1]++[G.z])) V iv) fJ (io<|A_ sr):Chg (· ∈ ([g1]++[G.z])) V n3),n0,n1,onL,H_,an_,(a_E fH<|b_g mZ).c fJ<|mm1 ha.lt<|lt_ (lt_ I.s sh.s) eO.s,a_h,m1 eO.s,nmN _,(n2.e fI).c fJ<|djs fG,n4⟩
         refine Ws<|R z (eql z z)<|Ra z<|Wn ?_
         obtain ⟨n6,gE,jD⟩:=bdS<|ifF gD eZ;refine Wt (fun a w=>∃ (cg:Int) (ch:Int) (eP:List UInt8),(cg,ch,eP)=n6 ∧ ∃ eQ eR eS ci,Sat 147 [(6,pt wb.z),(8,pt G.z)] a∧Chg (· ∈ ([g1]++[G.z])) V w∧inI cg∧inI ch∧a_ w ci (sl eQ eR eS) eP∧ci.Nodup∧(∀ k∈ci,V.z≤k)∧Blk w g1 [sl A0 N0 C0,vI cg,vI ch]∧Blk w G.z [Str.v x5,vI x3,vI 0,vB false,sl eQ eR eS,sl none 0 0,sl none 0 0,sl none 0 0]) ?_ ?_
         ·refine Wc z (fun f0=>?_)<|fun f0=>?_
          ·refine Wg<|Rm z<|E z (fS [(.const<|.int .i64 0),.const<|.int .i64 10,.const<|.int .i64 59,(.const<|.int .i64 255)] b_q z z z (a_d z) (lb z)<|lb z) ?_
           rintro _ cj ⟨rfl,iw⟩;have bc:=iw.below;have ix:a_ cj [V.z] (sl (some ⟨V.z,0,none⟩) 4 4) ([0,10,59,255]:List Int):=i_5 (l:=[0,10,59,255]) (iw.blk:Blk cj V.z [vI 0,vI 10,vI 59,vI 255]) (ac0 (ii z)<|ac0 (ii z)<|ac0 (ii z)<|ac0 (ii z) an0) z;have fK:=lt_ hj s3.s;have fL:=mm1 (Blk.lt hB1) fK;have iy:=lt_ (lt_ (lt_ fK h4.s) I.s) sh.s;obtain ⟨iz,n7,n8,n9,jE⟩:=r_<|ifT gE f0;refine E z (fc call108 z<|i_g (B:=zn B V.z cj.z) n9 (((((hq.e s3).e h4).c I<|djs fL).e sh).e bc) (c_c (zt' hBw<|lt_ iy bc.s) lr) (atp ((d_w (b_ hBg) (b_<|Blk.lt hB1) iy) : ∀ k∈[g1],¬ (zn B V.z cj.z) k)) (repS.mono (p1_0.g<|(((((hn.c sc<|c_<|b_ hBg).e s3).e h4).c I<|c_ (or0 (b_ lr)  (m_<|zt' hBw fK) : ∀ k∈[G.z],¬ B k)).e sh).e bc) b_M) ho hp<|or_ ix<|zin (B:=B) (b_ lr)<|a_.lt ix) ?_;rintro _ ck ⟨eT,rfl,_,na,nb,nc⟩;refine R z (d_t d_3 d_5 z)<|E z (fS [(.tmp 143)] R_ z z z (a_d z) (lb z)<|lb z) ?_
           rintro _ iB ⟨rfl,fM⟩;have fN:=fM.below;have qK:Blk iB ck.z [(vU<|byteI<|mkB iz)]:=fM.blk;refine R z (fd a_K z)<|E0 (fs (cur':=[Str.v x5,vI x3,vI 0,vB false,sl (some ⟨ck.z,0,none⟩) 1 1,sl none 0 0,sl none 0 0,sl none 0 0]) z_22 z z ((((ht.e sh).e bc).c eT<|atp fL).e fN) z (lb z) (oA z) z) ?_
           rintro _ nd ⟨ne,nf⟩;have fO:=nf.one;refine Wl ?_;exact fun _ q=>⟨n7,n8,[mkB iz],som jE,some ⟨ck.z,0,none⟩,1,1,[ck.z],q.k<|s2 z z,(cM (f_ (cM (f_ (cr ([g1]++[G.z]) V) bc:Chg (· ∈ ([g1]++[G.z])) V cj) eT (io<|x_ sr):Chg (· ∈ ([g1]++[G.z])) V ck) fN:Chg (· ∈ ([g1]++[G.z])) V iB) fO (io<|A_ sr):Chg (· ∈ ([g1]++[G.z])) V nd),na,nb,(a_E fM b_0).c fO<|mm1 ha.lt<|lt_ (lt_ (lt_ I.s sh.s) bc.s) eT.s,a_h,m1<|lt_ bc.s eT.s,(nc.e fN).c fO<|djs fL,ne⟩
          exact a_g<|fun _ q=>⟨jM,jN,([]:List UInt8),som<|ifF gE f0,none,0,0,[],q.k<|s2 z z,cr ([g1]++[G.z]) V,ho,hp,onL,H_,an_,(((hq.e s3).e h4).c I<|djs<|mm1 (Blk.lt hB1)<|lt_ hj s3.s).e sh,ht.e sh⟩
         rintro ng nh ⟨cg,ch,eP,rfl,eQ,eR,eS,ci,_,ni,nj,nk,nl,np,nq,nr,ns⟩;revert ng;exact fun _ q=>⟨cg,ch,eP,([]:List Int),som<|b_D jD,eQ,eR,eS,ci,none,0,0,[],q.k<|s2 z z,(cM (cr ([g1]++[G.z]) V) ni (aa_ (io<|x_ sr)<|io<|A_ sr):Chg (· ∈ ([g1]++[G.z])) V nh),nj,nk,nl,np,nq,onL,H_,an_,an_,nr,ns⟩
        rintro nt nu ⟨cd,ce,eG,eH,rfl,eI,eJ,eK,bJ,eL,eM,eN,bK,_,nv,nw,nx,ny,nA,nB,nC,nD,nE,nF,nG,nH⟩;revert nt;exact fun _ q=>⟨cd,ce,eG,([]:List Int),eH,som<|c_p jB,eI,eJ,eK,bJ,none,0,0,[],eL,eM,eN,bK,q.k<|s2 z z,(cM (f_ (cr ([g1]++[G.z]) H) sh:Chg (· ∈ ([g1]++[G.z])) H V) nv (aa_ (io<|x_ sr)<|io<|A_ sr):Chg (· ∈ ([g1]++[G.z])) H nu),nw,nx,ny,nA,l_ nB sh.s,onL,H_,an_,an_,nC,nD,l_ nE sh.s,nF,nmN _,nG,nH⟩
       rintro nI nJ ⟨c8,c9,eb,ec,ed,rfl,ee,eg,eh,b2,ei,ej,ek,b3,em,en,eo,b4,_,nK,nL,nM,nN,nO,nP,nQ,nR,nS,nT,nU,nV,nW,nX,nY,nZ,o0⟩;have jF:=elL gz;revert nI;exact fun _ q=>⟨c8,c9,eb,([]:List Str),ec,ed,som<|c_b jF,ee,eg,eh,b2,none,0,0,[],ei,ej,ek,b3,em,en,eo,b4,q.k<|s2 z z,(cM (cr ([g1]++[G.z]) H) nK (aa_ (io<|x_ sr)<|io<|A_ sr):Chg (· ∈ ([g1]++[G.z])) H nJ),nL,nM,nN,nO,nP,onL,H_,an_,an_,nQ,nR,nS,nT,nmN _,nU,nV,nW,nX,nmN _,nY,nZ,o0⟩
      rintro o1 o2 ⟨c3,c4,dG,dH,dI,dJ,rfl,dK,dL,dN,aG,dO,dP,dS,aH,dT,dU,dV,aI,dW,dX,dY,aJ,_,o3,o4,o5,o6,o7,o8,o9,oa,ob,oc,od,oe,og,oh,oi,oj,ol,om,oo,oq,os,ot,ou⟩;have jG:=elL ff;revert o1;exact fun _ q=>⟨c3,c4,dG,dH,dI,dJ,som<|un6S jG,dK,dL,dN,aG,dO,dP,dS,aH,dT,dU,dV,aI,dW,dX,dY,aJ,q.k<|s2 z z,(cM (cr ([g1]++[G.z]) H) o3 (aa_ (io<|x_ sr)<|io<|A_ sr):Chg (· ∈ ([g1]++[G.z])) H o2),o4,o5,o6,o7,o8,o9,oa,ob,oc,od,oe,og,oh,oi,oj,ol,om,oo,oq,os,ot,ou⟩
     rintro ov ow ⟨c1,c2,dj,dk,dl,dm,rfl,dn,dp,dq,aC,dr,dt,du,aD,dv,dw,dx,aE,dy,dz,dA,aF,_,ox,oy,oz,oB,oC,oD,oE,oF,oG,oH,oI,oJ,oK,oL,oM,oN,oO,oP,oQ,oR,oS,oT,oU⟩;have jH:=elL f9;revert ov;exact fun _ q=>⟨c1,c2,dj,dk,dl,dm,som<|un6S jH,dn,dp,dq,aC,dr,dt,du,aD,dv,dw,dx,aE,dy,dz,dA,aF,q.k<|s2 z z,(cM (cr ([g1]++[G.z]) H) ox (aa_ (io<|x_ sr)<|io<|A_ sr):Chg (· ∈ ([g1]++[G.z])) H ow),oy,oz,oB,oC,oD,oE,oF,oG,oH,oI,oJ,oK,oL,oM,oN,oO,oP,oQ,oR,oS,oT,oU⟩
    rintro oV oW ⟨bY,bZ,d2,d3,d4,d5,rfl,d6,d7,d8,ay,d9,da,db,az,dc,dd,de,aA,df,dg,dh,aB,_,oX,oY,oZ,p0,p1,p2,p3,p4,p5,p6,p7,p8,p9,pa,pb,pc,pd,pe,pf,pg,ph,pi,pj⟩;have jI:=elL f7;revert oV;exact fun _ q=>⟨bY,bZ,0,d2,d3,d4,d5,som<|un6S jI,d6,d7,d8,ay,d9,da,db,az,dc,dd,de,aA,df,dg,dh,aB,q.k<|s2 z z,(cM (cr ([g1]++[G.z]) H) oX (aa_ (io<|x_ sr)<|io<|A_ sr):Chg (· ∈ ([g1]++[G.z])) H oW),oY,oZ,ii z,p0,p1,p2,p3,p4,p5,p6,p7,p8,p9,pa,pb,pc,pd,pe,pf,pg,ph,pi,pj⟩
   rintro pk pl ⟨bV,bW,bX,cL,cN,cO,cP,rfl,cQ,cR,cS,au,cT,cU,cV,av,cW,cX,cY,aw,cZ,d0,d1,ax,_,pm,pn,po,pp,pq,pr,ps,pu,pw,px,py,pz,pA,pB,pC,pE,pG,pH,pI,pJ,pK,pL,pM,pN⟩;have jJ:=elL f5;revert pk;exact fun _ q=>⟨bV,bW,bX,cL,cN,cO,cP,som<|un7S jJ,cQ,cR,cS,au,cT,cU,cV,av,cW,cX,cY,aw,cZ,d0,d1,ax,q.k<|s2 z z,(cM (cr ([g1]++[G.z]) H) pm (aa_ (io<|x_ sr)<|io<|A_ sr):Chg (· ∈ ([g1]++[G.z])) H pl),pn,po,pp,pq,pr,ps,pu,pw,px,py,pz,pA,pB,pC,pE,pG,pH,pI,pJ,pK,pL,pM,pN⟩
  rintro pO pP ⟨bS,bT,bU,ct,cv,cw,cx,rfl,cy,cz,cA,an,cB,cC,cD,ao,cE,cF,cG,ap,cH,cI,cJ,aq,_,pQ,pR,pS,pU,pV,pW,pX,pY,pZ,q0,q1,q2,q3,q4,q5,q6,q7,q8,q9,qa,qb,qc,qd,qe⟩;have jK:=elL f3;revert pO;exact fun _ q=>⟨bS,bT,bU,false,ct,cv,cw,cx,som<|un7S jK,cy,cz,cA,an,cB,cC,cD,ao,cE,cF,cG,ap,cH,cI,cJ,aq,q.k<|s2 z z,(cM (cr ([g1]++[G.z]) H) pQ (aa_ (io<|x_ sr)<|io<|A_ sr):Chg (· ∈ ([g1]++[G.z])) H pP),pR,pS,pU,pV,pW,pX,pY,pZ,q0,q1,q2,q3,q4,q5,q6,q7,q8,q9,qa,qb,qc,qd,qe⟩
 rintro qf qg ⟨cn,co,bh,bN,fQ,fR,fT,fU,rfl,bi,bj,bk,ai,bm,bn,bo,aj,bp,bq,bt,al,bu,bv,bw,am,_,iC,qh,qi,qj,qk,ql,iD,qm,qn,iE,qo,qp,qq,iF,qr,qs,qt,qu,iG,qv,qw,qx,qy,qz⟩;have jL:=elL f1;revert qf;refine Wo<|Ws<|R z (lN (vs:=[Str.v x5,vI x3,vI bh,vB bN,sl bi bj bk,sl bm bn bo,sl bp bq bt,sl bu bv bw]) J_ p_ z z fid<|qz.row 0 8 z) ?_
 have fP:=mm1 (Blk.lt hB1) be.s;have iH:=lt_ (lt_ hi.s sc.s) s3.s;have iI:=mm1 bf.lt iH;refine E0 (fs (cur':=[Str.v x5,vI x3,vI bh,vB bN,sl bi bj bk,sl bm bn bo,sl bp bq bt,sl bu bv bw]) p_ z z ((((((bf.e hi).c sc<|atp fP).e s3).e h4).c I<|djs iI).c iC<|atp<|nmA fP<|ds iI) z (lb z) (oA z) z) ?_;rintro _ qA ⟨qB,qC⟩;have bL:=qC.one;refine Wn ?_;obtain rfl:=som<|un8S jL;have eU:=lt_ (lt_ iH h4.s) I.s;have iJ:=lt_ hj s3.s;have iK : ∀ k∈[G.z],k∈[g1]∨w0.z≤k:=mor iJ;have eV:=lt_ (lt_ iJ h4.s) I.s;exact Wr<|h_ hr (q_ J_ p_ z qB z) ⟨(cM (cM (cM (f_ (f_ (cM (f_ (f_ (f_ (cr [g1] w0) be:Chg (· ∈ [g1]) w0 wb) ah:Chg (· ∈ [g1]) w0 aU) hi:Chg (· ∈ [g1]) w0 bM) sc (io sr):Chg (· ∈ [g1]) w0 jP) s3:Chg (· ∈ [g1]) w0 G) h4:Chg (· ∈ [g1]) w0 gN) I iK:Chg (· ∈ [g1]) w0 H) iC (aa_ (io sr) iK):Chg (· ∈ [g1]) w0 qg) bL (mor be.s : ∀ k∈[wb.z],k∈[g1]∨w0.z≤k):Chg (· ∈ [g1]) w0 qA),bi,bj,bk,ai,bm,bn,bo,aj,bp,bq,bt,al,bu,bv,bw,am,z,d_u gM,p3_0,qj,qk.c bL<|k_ iD bf.lt eU,qm.c bL<|k_ iE bf.lt eU,qp.c bL<|k_ iF bf.lt eU,qt.c bL<|k_ iG bf.lt eU,qh,qi,qy.c bL<|djs fP,na_ ql (na_ qn (na_ qq qu<|ds qx)<|nmA (ds qs)<|ds qw)<|nmA (ds qo)<|nmA (ds qr)<|ds qv,aa_ (l_ iD eV)<|aa_ (l_ iE eV)<|aa_ (l_ iF eV)<|l_ iG eV⟩
def Q8 (w0:World) (g1:Nat) (B:Zone) (A0:Option Addr) (N0 C0:Nat) (x1:D_) (r:d_×Int×Int) (v:Value) (w':World):Prop:=Chg (· ∈ [g1]) w0 w'∧un3 (fun O G H=>∃ I J L S1,(.agg #[.slice I J L])=v∧a_ w' S1 (sl I J L) O.rules∧inI G∧inI H∧Blk w' g1 [sl A0 N0 C0,vI G,vI H]∧S1.Nodup∧(∀ k∈S1,w0.z≤k)) r
theorem W_w1y {x1:D_} {g1:Nat} {res:d_×Int×Int} (hm:e_J n x1=some res) (hB1:Blk w0 g1 [sl A0 N0 C0,vI x1.i,vI x1.h]) (hBw:B≤w0.z) (hBg : ¬ B g1) (p1_0:repS w0 B (sl A0 N0 C0) x1.b) (p1_1:inI x1.i) (p1_2:inI x1.h):o_ prog 52 [pt g1] w0 (Q8 w0 g1 B A0 N0 C0 x1 res):=by
 unfold e_J at hm
 refine goF func52 z z (lb z) fun fn hr=>Ws<|E z (fa d_z) ?_
 rintro _ I ⟨rfl,aD⟩;have ht:=aD.below;have ho:Blk I w0.z [sl none 0 0]:=aD.blk;refine Wn<|Ws<|R z (bP (parts:=[]) (cs:=[sl none 0 0]) n_9 z z)<|E z (fa d_z) ?_
 rintro _ aE ⟨rfl,aF⟩;have hx:=aF.below;have h4:Blk aE I.z [sl none 0 0]:=aF.blk;refine E0 (fs (cur':=[sl none 0 0]) t_ z z h4 z (lb z) (oA z) z) ?_;rintro _ aG ⟨bq,br⟩;have hd:=br.one;refine Wn<|Wq (Wd (X:=fun k=>k∈[g1]∨aG.z≤k) 320 (.rd 0<|.rd 1<|.rd 2<|.rd 3<|.ef 4<|.ef 5<|.ef 6<|.rd 7<|.ef 8 .done) mo (by kernel_rfl) fun bs sh _=>dR z z (fd X_ z) ?_)
 have ai:=bq.e sh;have hc:=mm1 (Blk.lt hB1) ht.s;refine dR z z (l1 a_0 z (a_y (atp hc)<|Nat.lt_of_lt_of_le h4.lt hd.s)<|ai.at z)<|dR z z (mv z)<|dR z z (lN (vs:=[sl none 0 0]) y_ t_ z z (a_y (atp hc)<|Nat.lt_of_lt_of_le h4.lt hd.s)<|ai.row 0 1 z) ?_
 have aj : ∀ k∈[I.z],¬ B k:=or0 (b_ lr)  (m_<|zt' hBw ht.s);have aH:=(((ht.ag B).e hx).c hd<|c_ aj).e sh;have h3:=lt_ (lt_ (lt_ ht.s hx.s) hd.s) sh.s;have Y:=zt' hBw h3;obtain ⟨aI,_,_,bt,bc⟩:=r_ hm;refine dE z z (fc call106 z<|W_w15 (B:=B) (x2:=(⟨([]:List g_)⟩:d_)) bt ((((hB1.e ht).e hx).c hd<|djs hc).e sh) Y hBg (p1_0.g aH) p1_1 p1_2 (or_ (B:=B) onL an_)<|ii z) (.inr fun _ _ h=>h.1.mono fun k _ hk=>(io sr) k hk) ?_;rintro _ aJ ⟨sm,bu,bv,bw,ak,bx,bz,bA,al,bB,bC,bD,am,bE,bF,bG,an,rfl,bH,bI,bJ,bK,bL,bM,bN,bO,bQ,bR,he,G⟩;refine dE z z (fS [(.tmp 10)] g_v z z z (a_d z) (lb z)<|lb z) (.inr fun _ _ h=>v_<|h.2.below) ?_;rintro _ aK ⟨rfl,aL⟩;have O:=aL.below;obtain ⟨_,bS,be⟩:=bdS bc;refine dE z z (a_Q (α:=g_) g_v bS z z onL H_ (aL.blk:Blk aK aJ.z (vR aI bu bv bw bx bz bA bB bC bD bE bF bG)) (j_A (x:=aI) (S1:=ak) (S2:=al) (S3:=am) (S4:=an) bH bI bJ (bK.e O) (bL.e O) (bM.e O)<|bN.e O) (nmN _)<|na_ (nl_ he) (na_ (nl_<|nr_ he) (na_ (nl_<|nr_<|nr_ he) (nr_<|nr_<|nr_ he)<|nj<|nr_<|nr_ he)<|nmA (nmL<|nj<|nr_ he)<|nmR<|nj<|nr_ he)<|nmA (nmL<|nj he)<|nmA (nmL<|nmR<|nj he)<|nmR<|nmR<|nj he) (.inl z) ?_;rintro _ bT ⟨H,aM,aN,aO,rfl,sp,bU,bV,hi⟩;refine dR z z (fd X_ z)<|dE0 z (fs (cur':=[sl aM aN aO]) z_24 z z (((ai.c sm<|atp hc).e O).c sp<|atp<|nmN _) z (lb z) (oA z) z) (.inl z) ?_
 rintro _ bW ⟨bX,bY⟩;have hq:=bY.one;refine pD<|Wo<|Wq<|Ws<|Rm z ?_
 have aP:=(((aH.c sm<|c_<|b_ hBg).e O).c sp<|c_ an_).c hq<|c_ aj
 have hu:=lt_ (lt_ h3 sm.s) O.s;have ao:=lt_ (lt_ hu sp.s) hq.s;obtain ⟨_,_,_,bZ,bf⟩:=r_ be;refine E z (fc call57 z<|a_V (B:=B) bZ (((bR.e O).c sp<|atp<|nmN _).c hq<|djs hc) (zt' hBw ao) hBg (p1_0.g aP) bO bQ<|ii z) ?_;rintro _ J ⟨sj,rfl,c0,c1,c2,c3⟩;refine Ra z<|Wn ?_
 obtain ⟨_,bg,aB⟩:=bdS bf;refine b_Y (σ:=Int×Int×Int×(List g_)) (ρ:=d_×Int×Int) (fun s a w=>un4 (fun xr xv xw xy=>∃ V W ca L,Sat 32 [(0,pt g1),(2,pt w0.z),(3,pt I.z),(4,vI xr)] a∧Chg (· ∈ ([g1]++(H++[I.z]))) J w∧inI xr∧inI xv∧inI xw∧a_ w L (sl V W ca) xy∧L.Nodup∧(∀ k∈L,k∈H∨J.z≤k)∧Blk w g1 [sl A0 N0 C0,vI xv,vI xw]∧Blk w I.z [sl V W ca]) s) (fun s a w=>un4 (fun xr xv xw xy=>∃ V W ca L,Sat 32 [(2,pt w0.z),(3,pt I.z)] a∧Chg (· ∈ ([g1]++(H++[I.z]))) J w∧inI xr∧inI xv∧inI xw∧a_ w L (sl V W ca) xy∧L.Nodup∧(∀ k∈L,k∈H∨J.z≤k)∧Blk w g1 [sl A0 N0 C0,vI xv,vI xw]∧Blk w I.z [sl V W ca]) s) (fun r ex a w=>ex = .ret∧L_ prog fn (Q8 w0 g1 B A0 N0 C0 x1 r) a w) bg ?_ ?_ ?_ ?_
 ·have a0:=lt_ hd.s sh.s;exact fun _ q=>⟨aM,aN,aO,H,q.k<|s4 z z z z,cr ([g1]++(H++[I.z])) J,c0,c1,c2,(bU.c hq (or2 hi an_ (aa_ (k_ (al_ G) h4.lt a0)<|aa_ (k_ (al_<|ar_ G) h4.lt a0)<|aa_ (k_ (al_<|ar_<|ar_ G) h4.lt a0)<|k_ (ar_<|ar_<|ar_ G) h4.lt a0) (P_ (b_ h4.lt)<|lt_ (lt_ a0 sm.s) O.s) : ∀ k∈H,k∉[I.z])).c sj (or2 hi an_ (aa_ (k_ (al_ G) (Blk.lt hB1) h3)<|aa_ (k_ (al_<|ar_ G) (Blk.lt hB1) h3)<|aa_ (k_ (al_<|ar_<|ar_ G) (Blk.lt hB1) h3)<|k_ (ar_<|ar_<|ar_ G) (Blk.lt hB1) h3) (P_ (b_<|Blk.lt hB1) hu) : ∀ k∈H,k∉[g1]),bV,io sr,c3,bX.c sj<|atp hc⟩
 ·rintro ⟨xr,xv,xw,xy⟩ _ a1 _ ⟨V,W,ca,L,bh,sz,aQ,a9,aa,hl,ab,hn,ad,ae⟩ bi;have aC:=c_p bi;refine Wu ?_ bh;refine Wq<|Ws<|Rm z<|R z (a_9 z z)<|Wn<|Wc z (fun ah=>?_) (fun ah=>?_)
  ·refine Wk<|Wq<|Wb (Wd (X:=fun k=>k∈[g1]∨a1.z≤k) 2560 (.rd 0<|.rd 1<|.rd 2<|.rd 3<|.rd 4<|.ef 5<|.rd 6<|.ef 7<|.ef 8<|.ef 9<|.rd 10<|.ef 11 .done) mo (by kernel_rfl) fun c4 sk _=>dR z z (fd X_ z) ?_)
   have ap:=ae.e sk;have a2:=lt_ hd.s sh.s;have aR:=lt_ (lt_ a2 sm.s) O.s;have aS:=lt_ (lt_ (lt_ aR sp.s) hq.s) sj.s;have aq:=lt_ aS sz.s;refine dR z z (l1 a_0 z (a_y (atp hc)<|Nat.lt_of_lt_of_le h4.lt aq)<|ap.at z)<|dR z z (mv z)<|dR z z (lN (vs:=[sl V W ca]) y_ t_ z z (a_y (atp hc)<|Nat.lt_of_lt_of_le h4.lt aq)<|ap.row 0 1 z)<|dR z z (mv z) ?_
   have aT:=((aP.c sj<|c_<|b_ hBg).c sz<|nmA (c_<|b_ hBg)<|nmA (c_ (or2 hi an_ (aa_ (or0 (al_ G)  (m_ Y) : ∀ k∈ak,¬ B k)<|aa_ (or0 (al_<|ar_ G)  (m_ Y) : ∀ k∈al,¬ B k)<|aa_ (or0 (al_<|ar_<|ar_ G)  (m_ Y) : ∀ k∈am,¬ B k) (or0 (ar_<|ar_<|ar_ G)  (m_ Y) : ∀ k∈an,¬ B k)) (m_<|zt' hBw hu) : ∀ k∈H,¬ B k))<|c_ aj).e sk;have ar:=lt_ ao sj.s;have aU:=lt_ (lt_ ar sz.s) sk.s;obtain ⟨_,_,_,c5,bj⟩:=r_<|ifT aC ah;refine dE z z (fc call57 z<|a_V (B:=B) c5 (ad.e sk) (zt' hBw aU) hBg (p1_0.g aT) a9 aa<|ii z) (.inr fun _ _ h=>h.1.mono fun k _ hk=>(io sr) k hk) ?_;rintro _ c6 ⟨ss,rfl,_,c7,c8,c9⟩;refine dR z z (add_ z z) ?_;have au : ∀ k∈L,k∉[g1]:=or1 hn (or2 hi an_ (aa_ (k_ (al_ G) (Blk.lt hB1) h3)<|aa_ (k_ (al_<|ar_ G) (Blk.lt hB1) h3)<|aa_ (k_ (al_<|ar_<|ar_ G) (Blk.lt hB1) h3)<|k_ (ar_<|ar_<|ar_ G) (Blk.lt hB1) h3) (P_ (b_<|Blk.lt hB1) hu) : ∀ k∈H,k∉[g1])<|P_ (b_<|Blk.lt hB1) ar;have aV:=(hl.e sk).c ss au;have a3:=lt_ sk.s ss.s;obtain ⟨aW,cb,cc,cd,bk⟩:=r_ bj;refine dE z z (fc call106 z<|W_w15 (B:=zn B w0.z a1.z) (x2:=(⟨xy⟩:d_)) cd c9 (c_c (zt' hBw<|lt_ aU ss.s) a3) (atp ((d_w (b_ hBg) (b_<|Blk.lt hB1) lr) : ∀ k∈[g1],¬ (zn B w0.z a1.z) k)) (repS.mono (p1_0.g<|aT.c ss<|c_<|b_ hBg) b_M) c7 c8 (or_ aV<|zin (B:=B) (a_2 hn (or2 hi an_ (aa_ (l_ (al_ G) h3)<|aa_ (l_ (al_<|ar_ G) h3)<|aa_ (l_ (al_<|ar_<|ar_ G) h3)<|l_ (ar_<|ar_<|ar_ G) h3) (b_7 hu) : ∀ k∈H,w0.z≤k) ar)<|a_.lt hl)<|iA _ _) (.inr fun _ _ h=>h.1.mono fun k _ hk=>(io sr) k hk) ?_;rintro _ aX ⟨a4,ce,cf,cg,aY,ch,ci,cj,aZ,ck,cl,cm,b0,cn,co,cp,b1,rfl,cq,ct,cu,cv,cw,cx,cy,cz,cA,cB,hf,hb⟩;refine dE z z (fS [(.tmp 27)] g_v z z z (a_d z) (lb z)<|lb z) (.inr fun _ _ h=>v_<|h.2.below) ?_;rintro _ b2 ⟨rfl,b3⟩;have hg:=b3.below;obtain ⟨cC,cD,bm⟩:=bdS bk;refine dE z z (a_Q (α:=g_) g_v cD z z ((aV.c a4 au).e hg) ab (b3.blk:Blk b2 aX.z (vR aW ce cf cg ch ci cj ck cl cm cn co cp)) (j_A (x:=aW) (S1:=aY) (S2:=aZ) (S3:=b0) (S4:=b1) cq ct cu (cv.e hg) (cw.e hg) (cx.e hg)<|cy.e hg) (aa_ (a_H (al_ hb) (a_.lt hl) a3)<|aa_ (a_H (al_<|ar_ hb) (a_.lt hl) a3)<|aa_ (a_H (al_<|ar_<|ar_ hb) (a_.lt hl) a3)<|a_H (ar_<|ar_<|ar_ hb) (a_.lt hl) a3)<|na_ (nl_ hf) (na_ (nl_<|nr_ hf) (na_ (nl_<|nr_<|nr_ hf) (nr_<|nr_<|nr_ hf)<|nj<|nr_<|nr_ hf)<|nmA (nmL<|nj<|nr_ hf)<|nmR<|nj<|nr_ hf)<|nmA (nmL<|nj hf)<|nmA (nmL<|nmR<|nj hf)<|nmR<|nmR<|nj hf) (.inl z) ?_;rintro _ cE ⟨av,b4,b5,b6,rfl,aw,cF,cG,b7⟩;refine dR z z (fd X_ z) ?_;have b8 : ∀ k∈L,k∉[I.z]:=or1 hn (or2 hi an_ (aa_ (k_ (al_ G) h4.lt a2)<|aa_ (k_ (al_<|ar_ G) h4.lt a2)<|aa_ (k_ (al_<|ar_<|ar_ G) h4.lt a2)<|k_ (ar_<|ar_<|ar_ G) h4.lt a2) (P_ (b_ h4.lt) aR) : ∀ k∈H,k∉[I.z])<|P_ (b_ h4.lt) aS;refine dE0 z (fs (cur':=[sl b4 b5 b6]) z_24 z z ((((ap.c ss<|atp hc).c a4<|atp hc).e hg).c aw<|djs b8) z (lb z) (oA z) z) (.inl z) ?_;rintro _ cH ⟨cI,cJ⟩;have ax:=cJ.one;refine pD<|Wo<|Wg<|Rm z<|R z (sb_ z z)<|Ra z<|Wl ?_
   have a5:=lt_ (lt_ aq sk.s) ss.s;have a6:=lt_ (lt_ sz.s sk.s) ss.s;exact fun _ q=>⟨(I_ xr 1,cb,cc,cC),(som bm).symm,⟨b4,b5,b6,av,q.k<|s4 z z z z,(cM (cM (f_ (cM (cM (f_ (cM (cr ([g1]++(H++[I.z])) J) sz (aa_ (io<|x_ sr)<|aa_ (io<|A_<|x_ sr)<|io<|A_<|A_ sr):Chg (· ∈ ([g1]++(H++[I.z]))) J a1) sk:Chg (· ∈ ([g1]++(H++[I.z]))) J c4) ss (io<|x_ sr):Chg (· ∈ ([g1]++(H++[I.z]))) J c6) a4 (io<|x_ sr):Chg (· ∈ ([g1]++(H++[I.z]))) J aX) hg:Chg (· ∈ ([g1]++(H++[I.z]))) J b2) aw (or1 hn (io<|A_<|x_ sr) (z_ lr) : ∀ k∈L,k∈([g1]++(H++[I.z]))∨J.z≤k):Chg (· ∈ ([g1]++(H++[I.z]))) J cE) ax (io<|A_<|A_ sr):Chg (· ∈ ([g1]++(H++[I.z]))) J cH),iS _ _,cz,cA,cF.c ax (or2 b7 b8 (aa_ (k_ (al_ hb) h4.lt a5)<|aa_ (k_ (al_<|ar_ hb) h4.lt a5)<|aa_ (k_ (al_<|ar_<|ar_ hb) h4.lt a5)<|k_ (ar_<|ar_<|ar_ hb) h4.lt a5) (P_ (b_ h4.lt)<|lt_ (lt_ a5 a4.s) hg.s) : ∀ k∈av,k∉[I.z]),cG,(or2 b7 (or1 hn (io sr) (z_ lr) : ∀ k∈L,k∈H∨J.z≤k) (aa_ (or0 (al_ hb)  (z_ a6) : ∀ k∈aY,k∈H∨J.z≤k)<|aa_ (or0 (al_<|ar_ hb)  (z_ a6) : ∀ k∈aZ,k∈H∨J.z≤k)<|aa_ (or0 (al_<|ar_<|ar_ hb)  (z_ a6) : ∀ k∈b0,k∈H∨J.z≤k) (or0 (ar_<|ar_<|ar_ hb)  (z_ a6) : ∀ k∈b1,k∈H∨J.z≤k)) (z_<|lt_ (lt_ a6 a4.s) hg.s) : ∀ k∈av,k∈H∨J.z≤k),((cB.e hg).c aw<|djs au).c ax<|djs hc,cI⟩⟩
  exact We<|fun a' ha'=>b_w (som<|ifF aC ah).symm ⟨V,W,ca,L,Sat.weaken ha'<|s2 z z,(cM (cr ([g1]++(H++[I.z])) J) sz (aa_ (io<|x_ sr)<|aa_ (io<|A_<|x_ sr)<|io<|A_<|A_ sr):Chg (· ∈ ([g1]++(H++[I.z]))) J a1),aQ,a9,aa,hl,ab,(or1 hn (io sr) (z_ lr) : ∀ k∈L,k∈H∨J.z≤k),ad,ae⟩
 ·rintro ⟨xr,xv,xw,xy⟩ cK cL rfl ⟨V,W,ca,L,_,b9,aQ,a9,aa,hl,ab,hn,ad,ae⟩;have bn:=elL aB;revert cK;refine Wo<|Ws<|R z (lN (vs:=[sl V W ca]) y_ t_ z z fid<|ae.row 0 1 z) ?_
  have ay:=mmr ho.lt;have af:=mmr<|Blk.lt hB1
  have a7:=lt_ (lt_ hx.s hd.s) sh.s;have ba:=lt_ (lt_ a7 sm.s) O.s;have bb : ∀ k∈H,k∉[w0.z]:=or2 hi an_ (aa_ (k_ (al_ G) ho.lt a7)<|aa_ (k_ (al_<|ar_ G) ho.lt a7)<|aa_ (k_ (al_<|ar_<|ar_ G) ho.lt a7)<|k_ (ar_<|ar_<|ar_ G) ho.lt a7)<|P_ (b_ ho.lt) ba;refine E0 (fs (cur':=[sl V W ca]) t_ z z (((((((((ho.e hx).c hd<|djs ay).e sh).c sm<|atp af).e O).c sp<|atp<|nmN _).c hq<|djs ay).c sj<|atp af).c b9<|atp<|nmA af<|nmA (ds bb)<|ds ay) z (lb z) (oA z) z) ?_;rintro _ cN ⟨cO,cP⟩;have az:=cP.one;refine Wn ?_;obtain rfl:=som<|c_p bn;have aA : ∀ k∈[I.z],k∈[g1]∨w0.z≤k:=mor ht.s;exact Wr<|h_ hr (q_ y_ t_ z cO z) ⟨(cM (cM (cM (cM (cM (f_ (cM (f_ (cM (f_ (f_ (cr [g1] w0) ht:Chg (· ∈ [g1]) w0 I) hx:Chg (· ∈ [g1]) w0 aE) hd aA:Chg (· ∈ [g1]) w0 aG) sh:Chg (· ∈ [g1]) w0 bs) sm (io sr):Chg (· ∈ [g1]) w0 aJ) O:Chg (· ∈ [g1]) w0 aK) sp an_:Chg (· ∈ [g1]) w0 bT) hq aA:Chg (· ∈ [g1]) w0 bW) sj (io sr):Chg (· ∈ [g1]) w0 J) b9 (aa_ (io sr)<|aa_ (or2 hi an_ (aa_ (or0 (al_ G)  (z_ h3) : ∀ k∈ak,k∈[g1]∨w0.z≤k)<|aa_ (or0 (al_<|ar_ G)  (z_ h3) : ∀ k∈al,k∈[g1]∨w0.z≤k)<|aa_ (or0 (al_<|ar_<|ar_ G)  (z_ h3) : ∀ k∈am,k∈[g1]∨w0.z≤k) (or0 (ar_<|ar_<|ar_ G)  (z_ h3) : ∀ k∈an,k∈[g1]∨w0.z≤k)) (z_ hu) : ∀ k∈H,k∈[g1]∨w0.z≤k) aA):Chg (· ∈ [g1]) w0 cL) az (mor lr : ∀ k∈[w0.z],k∈[g1]∨w0.z≤k):Chg (· ∈ [g1]) w0 cN),V,W,ca,L,z,hl.c az (or1 hn bb (P_ (b_ ho.lt)<|lt_ (lt_ (lt_ ba sp.s) hq.s) sj.s) : ∀ k∈L,k∉[w0.z]),a9,aa,ad.c az<|djs af,ab,a_2 hn (or2 hi an_ (aa_ (l_ (al_ G) h3)<|aa_ (l_ (al_<|ar_ G) h3)<|aa_ (l_ (al_<|ar_<|ar_ G) h3)<|l_ (ar_<|ar_<|ar_ G) h3) (b_7 hu) : ∀ k∈H,w0.z≤k)<|lt_ ao sj.s⟩
 rintro _ _ _ _ rfl ⟨rfl,bo⟩;have bp:=elR aB;obtain rfl:=som bp;exact ⟨bo,z⟩
def Q9 (w0:World) (B:Zone) (r:Int) (v:Value) (w':World):Prop:=Bw w0 w'∧(fun G=>(vI G)=v∧inI G) r
theorem g_D {x1:Int} {res:Int} (hm:c_B x1=some res) (hBw:B≤w0.z) (p1_0:inI x1):o_ prog 107 [vI x1] w0 (Q9 w0 B res):=by
 unfold c_B at hm
 refine goF func107 z z (lb z) fun fn hr=>Ws<|Ra z<|Wn<|Ws<|Rm z<|R z (c_K z z) ?_
 obtain ⟨_,H,G⟩:=bdS hm;refine R z (g_O z z<|nnS H)<|Ra z<|Wn ?_
 obtain rfl:=som G;exact Wr<|h_ hr z ⟨br w0,z,m_b<|ii z⟩
theorem e_8 {x1:Int} {x2:Int} {res:Int} (hm:c_j x1 x2=some res) (hBw:B≤w0.z) (p1_0:inI x1) (p2_0:inI x2):o_ prog 104 [vI x1,vI x2] w0 (Q9 w0 B res):=by
 unfold c_j at hm
 refine goF func104 z z (lb z) fun fn hr=>Ws<|Ra z<|Wn<|Wq<|Ws<|Rm z<|Rm z<|R z (lss z z)<|Wn<|Wc z (fun G=>?_) (fun G=>?_)
 ·refine Ws<|Rm z<|Ra z<|Wn ?_
  obtain rfl:=som<|ifT hm G;exact Wr<|h_ hr z ⟨br w0,z,p2_0⟩
 refine Wk<|Ws<|Rm z<|Ra z<|Wn ?_
 obtain rfl:=som<|ifF hm G;exact Wr<|h_ hr z ⟨br w0,z,p1_0⟩
def Q10 (w0:World) (g1:Nat) (B:Zone) (A0:Option Addr) (N0 C0:Nat) (x1:D_) (r:Val×Int×Int) (v:Value) (w':World):Prop:=Chg (· ∈ [g1]) w0 w'∧un3 (fun G H I=>∃ J L O S1 a2 V W S2,(.agg #[vI G.number,sl J L O,sl a2 V W])=v∧inI G.number∧a_ w' S1 (sl J L O) G.bytes∧a_ w' S2 (sl a2 V W) G.items∧inI H∧inI I∧Blk w' g1 [sl A0 N0 C0,vI H,vI I]∧(S1++S2).Nodup∧(∀ k∈(S1++S2),w0.z≤k)) r
structure i_i (f:D_→d_→Int→Int→Option (Val×Int×Int)):Prop where
  run : ∀ {A0 A6:Option Addr} {N0 C0 g1 N6 C6:Nat} {B:Zone} {x1:D_} {x2:d_} {x3:Int} {x4:Int} {res:Val×Int×Int} {w0:World} (hm:f x1 x2 x3 x4=some res) (hB1:Blk w0 g1 [sl A0 N0 C0,vI x1.i,vI x1.h]) (hBw:B≤w0.z) (hBg : ¬ B g1) (p1_0:repS w0 B (sl A0 N0 C0) x1.b) (p1_1:inI x1.i) (p1_2:inI x1.h) (p2_0:repS w0 B (sl A6 N6 C6) x2.rules) (p3_0:inI x3) (p4_0:inI x4),o_ prog 53 [pt g1,.agg #[sl A6 N6 C6],vI x3,vI x4] w0<|Q10 w0 g1 B A0 N0 C0 x1 res
abbrev k_b (n:Nat):Prop:=i_i (d_r n).spec_l9Make
theorem T_w0c (aU:k_b n):i_i (e_K n<|d_r n):=by
 constructor
 intro A0 A6 N0 C0 g1 N6 C6 B x1 x2 x3 x4 res w0 hm hB1 hBw hBg p1_0 p1_1 p1_2 p2_0 p3_0 p4_0;unfold e_K at hm
 refine goF func53 z z (lb z) fun fn hr=>Ws<|E z (fb z) ?_
 rintro _ wb ⟨rfl,gv⟩;have L:=gv.below;have hf:Blk wb w0.z [sl A6 N6 C6]:=gv.blk;refine E z (fa a_b) ?_;rintro _ wc ⟨rfl,gw⟩;have J:=gw.below;have aV:Blk wc wb.z [vI 0,sl none 0 0,sl none 0 0]:=gw.blk;refine Wn<|Ws<|R z (fd X_ z) ?_
 have av:=hf.e J;refine R z (l1 a_0 z fid<|av.at z)<|Rm z ?_
 obtain ⟨aw,iN,hG⟩:=bdS hm;have a3:=(L.ag B).e J;refine RX z (at_ (α:=g_) a_1 p_ z z z (p2_0.g a3) iN) ?_;rintro _ ⟨_,_,_,rfl,iO,iP,_⟩;obtain ⟨gx,gy,gz,gA,gB,gC,gD,gE,gF,gG,gH,gI,rfl,_,_,gJ,iQ,_,gK,ae⟩:=a_z iP;refine R z (lN (vs:=vR aw gx gy gz gA gB gC gD gE gF gG gH gI) J_ p_ z z fid iO)<|E z (fa b_i) ?_
 rintro _ gL ⟨rfl,gM⟩;have h5:=gM.below;have aW:Blk gL wc.z [(Str.v (⟨[]⟩:Str)),vI 0,vI 0,vB false,sl none 0 0,sl none 0 0,sl none 0 0,sl none 0 0]:=gM.blk;refine E0 (fs (cur':=vR aw gx gy gz gA gB gC gD gE gF gG gH gI) p_ z z aW z (lb z) (oA z) z) ?_;rintro _ G ⟨iR,iT⟩;have h4:=iT.one;refine Wn<|Ws<|R z (bP (parts:=[]) (cs:=[vI 0,sl none 0 0,sl none 0 0]) W_ z z)<|E z (fa a_b) ?_
 rintro _ gN ⟨rfl,gO⟩;have h6:=gO.below;have O:Blk gN G.z [vI 0,sl none 0 0,sl none 0 0]:=gO.blk;refine E0 (fs (cur':=[vI 0,sl none 0 0,sl none 0 0]) i_ z z O z (lb z) (oA z) z) ?_;rintro _ wa ⟨hw,iU⟩;have h3:=iU.one;refine Wn<|Wq<|Ws<|R z (fd a_x z) ?_
 have am:=mm1 aW.lt h4.s;have ht:=(iR.e h6).c h3<|djs am
 refine R z (l1 g_3 z fid<|ht.at z)<|Wn<|Wb<|Ws<|R z (eql z z)<|Ra z<|Wn ?_
 obtain ⟨iV,eI,cT⟩:=bdS hG;refine Wt (fun a w=>∃ (bN:Int) (bO:Int) (ax:Int) (d9:List UInt8) (da:List Val),Sum.inl (bN,bO,ax,d9,da)=iV ∧ ∃ ay aA aB aC aD aE aF aG,Sat 178 [(8,pt wb.z),(10,pt G.z)] a∧Chg (· ∈ ([g1]++[G.z])) wa w∧inI bN∧inI bO∧inI ax∧a_ w aC (sl ay aA aB) d9∧aC.Nodup∧(∀ k∈aC,wa.z≤k)∧a_ w aG (sl aD aE aF) da∧aG.Nodup∧(∀ k∈aG,wa.z≤k)∧(∀ k∈aG,k∉aC)∧Blk w g1 [sl A0 N0 C0,vI bN,vI bO]∧Blk w G.z [vI ax,sl ay aA aB,sl aD aE aF]) ?_ ?_
 ·refine Wc z (fun cU=>?_)<|fun cU=>?_
  ·refine Wg<|Rm z<|R z (fd a_t z)<|R z (l1 g_3 z fid<|ht.at z) ?_
   have db:=lt_ L.s J.s;have dc:=lt_ (lt_ db h5.s) h4.s;have gP:=lt_ (lt_ dc h6.s) h3.s;obtain ⟨_,iW,hH⟩:=bdS<|ifT eI cU;refine E z (fc call107 z<|g_D (B:=B) iW (zt' hBw gP) gJ) ?_;rintro _ iX ⟨aX,rfl,iY⟩;have gQ:=lt_ gP aX.s;obtain ⟨_,iZ,hI⟩:=bdS hH;refine E z (fc call104 z<|e_8 (B:=B) iZ (zt' hBw gQ) iY<|ii z) ?_;rintro _ j0 ⟨aY,rfl,j1⟩;have dd:=mm1 (Blk.lt hB1) dc;obtain ⟨gR,j2,j3,j4,hJ⟩:=r_ hI;refine E z (fc call57 z<|a_V (B:=B) j4 ((((((((hB1.e L).e J).e h5).c h4<|djs<|mm1 (Blk.lt hB1) db).e h6).c h3<|djs dd).e aX).e aY) (zt' hBw<|lt_ gQ aY.s) hBg (p1_0.g<|(((((a3.e h5).c h4<|c_ (or0 (b_ lr)  (m_<|zt' hBw db) : ∀ k∈[wc.z],¬ B k)).e h6).c h3<|c_ (or0 (b_ lr)  (m_<|zt' hBw dc) : ∀ k∈[G.z],¬ B k)).e aX).e aY) p1_1 p1_2 j1) ?_;rintro _ j5 ⟨gS,rfl,j6,j7,j8,j9⟩;refine R z (fd b_c z)<|E0 (fs (cur':=[vI gR,sl none 0 0,sl none 0 0]) z_3 z z (((hw.e aX).e aY).c gS<|atp dd) z (lb z) (oA z) z) ?_
   rintro _ ja ⟨jb,jc⟩;have gT:=jc.one;refine Wl ?_;exact fun _ q=>⟨j2,j3,gR,([]:List UInt8),([]:List Val),som hJ,none,0,0,[],none,0,0,[],q.k<|s2 z z,(cM (cM (f_ (f_ (cr ([g1]++[G.z]) wa) aX:Chg (· ∈ ([g1]++[G.z])) wa iX) aY:Chg (· ∈ ([g1]++[G.z])) wa j0) gS (io<|x_ sr):Chg (· ∈ ([g1]++[G.z])) wa j5) gT (io<|A_ sr):Chg (· ∈ ([g1]++[G.z])) wa ja),j7,j8,j6,onL,H_,an_,onL,H_,an_,an_,j9.c gT<|djs dd,jb⟩
  refine Ws<|R z (eql z z)<|Ra z<|Wn ?_
  obtain ⟨jd,eJ,cV⟩:=bdS<|ifF eI cU;refine Wt (fun a w=>∃ (aZ:Int) (b0:Int) (b1:Int) (bQ:List UInt8) (bR:List Val),Sum.inl (aZ,b0,b1,bQ,bR)=jd ∧ ∃ bS bT bU aH bV bW bX aI,Sat 178 [(8,pt wb.z),(10,pt G.z)] a∧Chg (· ∈ ([g1]++[G.z])) wa w∧inI aZ∧inI b0∧inI b1∧a_ w aH (sl bS bT bU) bQ∧aH.Nodup∧(∀ k∈aH,wa.z≤k)∧a_ w aI (sl bV bW bX) bR∧aI.Nodup∧(∀ k∈aI,wa.z≤k)∧(∀ k∈aI,k∉aH)∧Blk w g1 [sl A0 N0 C0,vI aZ,vI b0]∧Blk w G.z [vI b1,sl bS bT bU,sl bV bW bX]) ?_ ?_
  ·refine Wc z (fun cW=>?_)<|fun cW=>?_
   ·refine Wg<|Rm z<|R z (fd a_t z)<|R z (l1 g_3 z fid<|ht.at z) ?_
    have de:=lt_ L.s J.s;have df:=lt_ (lt_ de h5.s) h4.s;have dg:=mm1 (Blk.lt hB1) df;obtain ⟨je,jf,jg,jh,hK⟩:=r_<|ifT eJ cW;refine E z (fc call56 z<|g_C (B:=B) jh ((((((hB1.e L).e J).e h5).c h4<|djs<|mm1 (Blk.lt hB1) de).e h6).c h3<|djs dg) (zt' hBw<|lt_ (lt_ df h6.s) h3.s) hBg (p1_0.g<|(((a3.e h5).c h4<|c_ (or0 (b_ lr)  (m_<|zt' hBw de) : ∀ k∈[wc.z],¬ B k)).e h6).c h3<|c_ (or0 (b_ lr)  (m_<|zt' hBw df) : ∀ k∈[G.z],¬ B k)) p1_1 p1_2 gJ) ?_;rintro _ ji ⟨gU,gV,gW,gX,jj,rfl,jk,jl,jm,jn,jo,gY⟩;refine R z (fd a_T z)<|E0 (fs (cur':=[vI 0,sl gV gW gX,sl none 0 0]) z_22 z z (hw.c gU<|atp dg) z (lb z) (oA z) z) ?_
    rintro _ jp ⟨jq,jr⟩;have dh:=jr.one;refine Wl ?_;exact fun _ q=>⟨jf,jg,0,je,([]:List Val),som hK,gV,gW,gX,jj,none,0,0,[],q.k<|s2 z z,(cM (cM (cr ([g1]++[G.z]) wa) gU (io<|x_ sr):Chg (· ∈ ([g1]++[G.z])) wa ji) dh (io<|A_ sr):Chg (· ∈ ([g1]++[G.z])) wa jp),jl,jm,ii z,jk.c dh<|k_ gY O.lt h3.s,jo,gY,onL,H_,an_,an_,jn.c dh<|djs dg,jq⟩
   refine Wq<|Ws<|R z (eql z z)<|Ra z<|Wn ?_
   obtain ⟨js,eK,hL⟩:=bdS<|ifF eJ cW;refine Wt (fun a w=>∃ (di:Bool),di=js∧Sat 178 [(0,pt g1),(3,vI x4),(5,pt w0.z),(8,pt wb.z),(9,pt wc.z),(10,pt G.z),(21,vI aw.kind),(38,vB di)] a∧Below wa.z wa w) ?_ ?_
   ·refine Wc z (fun cX=>?_)<|fun cX=>?_
    ·exact a_g<|fun _ q=>⟨aw.kind==4,som<|ifT eK cX,q.k<|s8 z z z z z z z z,br wa⟩
    exact Wg<|R z (eql z z)<|Ra z<|Wl (fun _ q=>⟨aw.kind==10,som<|ifF eK cX,q.k<|s8 z z z z z z z z,br wa⟩)
   rintro jt H ⟨di,rfl,_,I⟩;revert jt;refine Wo ?_;obtain ⟨ju,eL,cY⟩:=bdS hL;refine Wt (fun a w=>∃ (b2:Int) (b3:Int) (b4:Int) (bY:List UInt8) (bZ:List Val),Sum.inl (b2,b3,b4,bY,bZ)=ju ∧ ∃ c0 c1 c2 aJ c3 c4 c5 aK,Sat 178 [(8,pt wb.z),(10,pt G.z)] a∧Chg (· ∈ ([g1]++[G.z])) H w∧inI b2∧inI b3∧inI b4∧a_ w aJ (sl c0 c1 c2) bY∧aJ.Nodup∧(∀ k∈aJ,H.z≤k)∧a_ w aK (sl c3 c4 c5) bZ∧aK.Nodup∧(∀ k∈aK,H.z≤k)∧(∀ k∈aK,k∉aJ)∧Blk w g1 [sl A0 N0 C0,vI b2,vI b3]∧Blk w G.z [vI b4,sl c0 c1 c2,sl c3 c4 c5]) ?_ ?_
   ·refine Wc z (fun cZ=>?_)<|fun cZ=>?_
    ·refine Ws<|Rm z<|Rm z<|Rm z ?_
     have dj:=lt_ L.s J.s;have dk:=lt_ (lt_ dj h5.s) h4.s;have gZ:=lt_ (lt_ (lt_ dk h6.s) h3.s) I.s;obtain ⟨_,jv,hM⟩:=bdS<|ifT eL cZ;refine E z (fc call104 z<|e_8 (B:=B) jv (zt' hBw gZ) p4_0<|ii z) ?_;rintro _ jw ⟨sg,rfl,_⟩;refine R z (add_ z z) ?_;have h0 : ∀ k∈[wc.z],¬ B k:=or0 (b_ lr)  (m_<|zt' hBw dj);have b5 : ∀ k∈[G.z],¬ B k:=or0 (b_ lr)  (m_<|zt' hBw dk);have h1:=(((((a3.e h5).c h4<|c_ h0).e h6).c h3<|c_ b5).e I).e sg;have an:=mm1 (Blk.lt hB1) dj;have hx:=mm1 (Blk.lt hB1) dk;have h2:=lt_ gZ sg.s;obtain ⟨_,_,_,jx,hN⟩:=r_ hM;refine E z (fc call57 z<|a_V (B:=B) jx ((((((((hB1.e L).e J).e h5).c h4<|djs an).e h6).c h3<|djs hx).e I).e sg) (zt' hBw h2) hBg (p1_0.g h1) p1_1 p1_2<|iA _ _) ?_;rintro _ jy ⟨sk,rfl,jz,jA,jB,jC⟩;have dl:=h1.c sk<|c_<|b_ hBg
     have b6:=lt_ h2 sk.s;obtain ⟨ha,hb,he,jD,hO⟩:=r_ hN;refine E z (fc call56 z<|g_C (B:=B) jD jC (zt' hBw b6) hBg (p1_0.g dl) jA jB jz) ?_;rintro _ jE ⟨sm,c6,c7,c8,Sr,rfl,c9,dm,dn,dp,hg,af⟩;refine R z (fd a_T z)<|E0 (fs (cur':=[vI 0,sl c6 c7 c8,sl none 0 0]) z_22 z z ((((hw.e I).e sg).c sk<|atp hx).c sm<|atp hx) z (lb z) (oA z) z) ?_
     rintro _ aL ⟨dq,jF⟩;have hd:=jF.one;refine Wn<|Wq ?_
     obtain ⟨jG,eM,hP⟩:=bdS hO;refine Wt (fun a w=>∃ (dr:Bool) (b7:Int) (b8:Int),(dr,b7,b8)=jG∧Sat 178 [(0,pt g1),(8,pt wb.z),(9,pt wc.z),(10,pt G.z),(61,vB dr)] a∧Chg (· ∈ [g1]) aL w∧inI b7∧inI b8∧Blk w g1 [sl A0 N0 C0,vI b7,vI b8]) ?_ ?_
     ·refine Wg<|R z (fd a_x z)<|R z (l1 g_3 z fid<|(((((ht.e I).e sg).c sk<|atp an).c sm<|atp an).c hd<|djs am).at z)<|R z (eql z z)<|Rm z ?_
      rcases bs (aw.kind==10) with hcy | hcy
      ·have eN:=ifT eM hcy;refine Rh z hcy (fd a_T z)<|Rh z hcy (l1 Q_ z fid<|dq.at z)<|Rh z hcy (lnR n_ z<|or_ (c9.c hd<|k_ af O.lt<|lt_ (lt_ (lt_ h3.s I.s) sg.s) sk.s)<|zin (B:=B) af<|a_.lt c9)<|Rh z hcy (a_9 z z)<|R z (pT z hcy z)<|Rm z ?_
       rcases bs (decide<|0<(ha.length:Int)) with a2 | a2
       ·refine Rh z a2 (mv z) ?_;obtain ⟨jH,jI,jJ,jK,hQ⟩:=r_<|ifT eN a2;refine Eg z z a2 z (fc call58 z<|g_B (B:=B) jK (dp.c hd<|djs hx) (zt' hBw<|lt_ (lt_ b6 sm.s) hd.s) hBg (p1_0.g<|(dl.c sm<|c_<|b_ hBg).c hd<|c_ b5) dm dn<|ii z) ?_;rintro _ jL ⟨jM,rfl,jN,jO,jP⟩;refine R z (pT z a2 z)<|Wl ?_
        exact fun _ q=>⟨jH,jI,jJ,som hQ,q.k<|s5 z z z z z,(cM (cr [g1] aL) jM (io sr):Chg (· ∈ [g1]) aL jL),jN,jO,jP⟩
       exact Nh z a2<|Nh z a2<|R z (pF z a2 z)<|Wl (fun _ q=>⟨false,hb,he,som<|ifF eN a2,q.k<|s5 z z z z z,cr [g1] aL,dm,dn,dp.c hd<|djs hx⟩)
      iterate 4 refine Nh z hcy ?_
      exact R z (pF z hcy z)<|Rm z<|Nh z z<|Nh z z<|R z (pF z z z)<|Wl (fun _ q=>⟨false,hb,he,som<|ifF eM hcy,q.k<|s5 z z z z z,cr [g1] aL,dm,dn,dp.c hd<|djs hx⟩)
     rintro jQ ws ⟨dr,b7,b8,rfl,_,sn,hh,hi,hj⟩;revert jQ;refine Wo ?_;obtain ⟨jR,eO,hR⟩:=bdS<|b_D hP;refine Wt (fun a w=>∃ (b9:Int) (ba:Int) (ca:List UInt8),(b9,ba,ca)=jR ∧ ∃  (bb:List Nat),Sat 178 [(8,pt wb.z),(10,pt G.z)] a∧Chg (· ∈ ([g1]++Sr)) ws w∧inI b9∧inI ba∧a_ w bb (sl c6 c7 c8) ca∧bb.Nodup∧(∀ k∈bb,k∈Sr∨ws.z≤k)∧Blk w g1 [sl A0 N0 C0,vI b9,vI ba]∧Blk w G.z [vI 0,sl c6 c7 c8,sl none 0 0]) ?_ ?_
     ·refine Wc z (fun d0=>?_)<|fun d0=>?_
      ·refine Wd (X:=fun k=>k∈[g1]∨ws.z≤k) 4096 (.rd 0<|.rd 1<|.rd 2<|.rd 3<|.rd 4<|.rd 5<|.rd 6<|.rd 7<|.ef 8<|.ef 9<|.rd 10<|.rd 11<|.ef 12 .done) mo (by kernel_rfl) fun aM a4 _=>dR z z (fd a_T z) ?_
       have hl:=(dq.c sn<|atp hx).e a4;have hn:=lt_ (lt_ (lt_ h3.s I.s) sg.s) sk.s;refine dR z z (l1 Q_ z (a_y (atp hx)<|Nat.lt_of_lt_of_le O.lt<|lt_ (lt_ (lt_ hn sm.s) hd.s) sn.s)<|hl.at z)<|dR z z (mv z)<|dR z z (fd a_K z) ?_
       refine dR z z (l1 Q_ z (a_y (atp an)<|Nat.lt_of_lt_of_le aW.lt<|lt_ (lt_ (lt_ (lt_ (lt_ (lt_ (lt_ (lt_ h4.s h6.s) h3.s) I.s) sg.s) sk.s) sm.s) hd.s) sn.s)<|(((((((ht.e I).e sg).c sk<|atp an).c sm<|atp an).c hd<|djs am).c sn<|atp an).e a4).at z) ?_;obtain ⟨dt,jS,hS⟩:=bdS<|ifT eO d0;refine dRX z z (at_ (α:=UInt8) n_ z_5 z z z (iQ.g<|((((((((((h5.ag B).c h4<|c_ h0).e h6).c h3<|c_ b5).e I).e sg).c sk<|c_<|b_ hBg).c sm<|c_<|b_ hBg).c hd<|c_ b5).c sn<|c_<|b_ hBg).e a4) jS) ?_;rintro _ ⟨_,_,_,rfl,jT,jU,ho⟩;obtain rfl:=u8 jU;have hp:=lt_ (lt_ (lt_ b6 sm.s) hd.s) sn.s;refine dR z z (l1 g_5 z (a_y ((c_<|b_ hBg) _ ho)<|zap (zt' hBw hp) ho)<|jT.at0 z)<|dR z z (b_W d_5 d_3 z)<|dE z z (fS [(.tmp 69),(.const<|.int .i64 92)] b_q z z z (a_d z) (lb z)<|lb z) (.inr fun _ _ h=>v_<|h.2.below) ?_
       rintro _ bc ⟨rfl,hq⟩;have ao:=hq.below;have hu:a_ bc [aM.z] (sl (some ⟨aM.z,0,none⟩) 2 2) ([byteI dt,92]:List Int):=i_5 (l:=[byteI dt,92]) (hq.blk:Blk bc aM.z [vI (byteI dt),vI 92]) (ac0 (j_M _)<|ac0 (ii z) an0) z;have hv:=lt_ hp a4.s;obtain ⟨_,jV,jW,jX,hT⟩:=r_ hS;refine dE z z (fc call108 z<|i_g (B:=zn B aM.z bc.z) jX ((hj.e a4).e ao) (c_c (zt' hBw<|lt_ hv ao.s) lr) (atp ((d_w (b_ hBg) (b_<|Blk.lt hB1) hv) : ∀ k∈[g1],¬ (zn B aM.z bc.z) k)) (repS.mono (p1_0.g<|((((dl.c sm<|c_<|b_ hBg).c hd<|c_ b5).c sn<|c_<|b_ hBg).e a4).e ao) b_M) hh hi<|or_ hu<|zin (B:=B) (b_ lr)<|a_.lt hu) (.inr fun _ _ h=>h.1.mono fun k _ hk=>(io sr) k hk) ?_;rintro _ jY ⟨cb,rfl,_,jZ,k0,ka⟩;refine dR z z (d_t d_3 d_5 z) ?_;obtain ⟨kb,hy,hU⟩:=bdS hT;have hz:=k_ af O.lt hn;have du:=k_ af (Blk.lt hB1) b6;have hA:=((((c9.c hd hz).c sn du).e a4).e ao).c cb du;refine dRX z z (j_P (α:=UInt8) n_ z_5 z z hA hy) ?_;rintro _ ⟨_,kc,rfl⟩;refine dE0 z (j_Q (α:=UInt8) z_5 z kc z z z hy hA hg b_0 an_ H_) (.inl z) ?_;rintro _ kd ⟨hB,dv,ke,kf,kg⟩;refine pD ?_;exact fun _ q=>⟨jV,jW,kb,som hU,hB,q.k<|s2 z z,(cM (cM (f_ (f_ (cr ([g1]++Sr) ws) a4:Chg (· ∈ ([g1]++Sr)) ws aM) ao:Chg (· ∈ ([g1]++Sr)) ws bc) cb (io<|x_ sr):Chg (· ∈ ([g1]++Sr)) ws jY) dv (io<|A_ sr):Chg (· ∈ ([g1]++Sr)) ws kd),jZ,k0,ke,kf,(or2 kg (io sr) an_ (z_<|lt_ (lt_ a4.s ao.s) cb.s) : ∀ k∈hB,k∈Sr∨ws.z≤k),ka.c dv<|djs du,((hl.e ao).c cb<|atp hx).c dv<|djs hz⟩
      exact a_g<|fun _ q=>⟨b7,b8,ha,som<|ifF eO d0,Sr,q.k<|s2 z z,cr ([g1]++Sr) ws,hh,hi,(c9.c hd<|k_ af O.lt<|lt_ (lt_ (lt_ h3.s I.s) sg.s) sk.s).c sn<|k_ af (Blk.lt hB1) b6,hg,io sr,hj,dq.c sn<|atp hx⟩
     rintro kh ki ⟨b9,ba,ca,rfl,bb,_,kj,kk,kl,km,kn,ko,kp,kq⟩;revert kh;have dw:=lt_ sg.s sk.s;exact fun _ q=>⟨b9,ba,0,ca,([]:List Val),som<|b_D hR,c6,c7,c8,bb,none,0,0,[],q.k<|s2 z z,(cM (cM (cM (cM (cM (f_ (cr ([g1]++[G.z]) H) sg:Chg (· ∈ ([g1]++[G.z])) H jw) sk (io<|x_ sr):Chg (· ∈ ([g1]++[G.z])) H jy) sm (io<|x_ sr):Chg (· ∈ ([g1]++[G.z])) H jE) hd (io<|A_ sr):Chg (· ∈ ([g1]++[G.z])) H aL) sn (io<|x_ sr):Chg (· ∈ ([g1]++[G.z])) H ws) kj (aa_ (io<|x_ sr) (or0 af  (z_ dw) : ∀ k∈Sr,k∈([g1]++[G.z])∨H.z≤k)):Chg (· ∈ ([g1]++[G.z])) H ki),kk,kl,ii z,km,kn,a_2 ko (l_ af dw)<|lt_ (lt_ (lt_ dw sm.s) hd.s) sn.s,onL,H_,an_,an_,kp,kq⟩
    refine Ws<|R z (eql z z)<|Ra z<|Wn ?_
    obtain ⟨kr,eP,d1⟩:=bdS<|ifF eL cZ;refine Wt (fun a w=>∃ (be:Int) (bf:Int) (bg:Int) (cc:List Val),Sum.inl (be,bf,bg,cc)=kr ∧ ∃ cd ce cf bh,Sat 178 [(8,pt wb.z),(10,pt G.z)] a∧Chg (· ∈ ([g1]++[G.z])) H w∧inI be∧inI bf∧inI bg∧a_ w bh (sl cd ce cf) cc∧bh.Nodup∧(∀ k∈bh,H.z≤k)∧Blk w g1 [sl A0 N0 C0,vI be,vI bf]∧Blk w G.z [vI bg,sl none 0 0,sl cd ce cf]) ?_ ?_
    ·refine Wc z (fun d2=>?_)<|fun d2=>?_
     ·refine Ws<|Rm z<|Rm z ?_
      have dx:=lt_ L.s J.s;have dy:=lt_ (lt_ dx h5.s) h4.s;have hC:=lt_ (lt_ (lt_ dy h6.s) h3.s) I.s;obtain ⟨_,ks,hV⟩:=bdS<|ifT eP d2;refine E z (fc call104 z<|e_8 (B:=B) ks (zt' hBw hC) p4_0<|ii z) ?_;rintro _ kt ⟨so,rfl,_⟩;refine R z (add_ z z) ?_;have hD : ∀ k∈[wc.z],¬ B k:=or0 (b_ lr)  (m_<|zt' hBw dx);have cg : ∀ k∈[G.z],¬ B k:=or0 (b_ lr)  (m_<|zt' hBw dy);have hE:=(((((a3.e h5).c h4<|c_ hD).e h6).c h3<|c_ cg).e I).e so;have ch:=mm1 (Blk.lt hB1) dx;have bi:=mm1 (Blk.lt hB1) dy;have hF:=lt_ hC so.s;obtain ⟨_,_,_,ku,hW⟩:=r_ hV;refine E z (fc call57 z<|a_V (B:=B) ku ((((((((hB1.e L).e J).e h5).c h4<|djs ch).e h6).c h3<|djs bi).e I).e so) (zt' hBw hF) hBg (p1_0.g hE) p1_1 p1_2<|iA _ _) ?_;rintro _ we ⟨su,rfl,kw,kx,ky,kz⟩;refine Ra z<|Wn ?_
      obtain ⟨_,hX,eQ⟩:=bdS hW;refine b_Y (σ:=Int×Int×Int×(List Val)) (ρ:=Val×Int×Int) (fun s a w=>un4 (fun ap ah ai aN=>∃ a5 a6 a7 Sl,Sat 178 [(0,pt g1),(3,vI x4),(5,pt w0.z),(8,pt wb.z),(9,pt wc.z),(10,pt G.z),(11,vI ap)] a∧Chg (· ∈ ([g1]++[G.z])) we w∧inI ap∧inI ah∧inI ai∧a_ w Sl (sl a5 a6 a7) aN∧Sl.Nodup∧(∀ k∈Sl,we.z≤k)∧Blk w g1 [sl A0 N0 C0,vI ah,vI ai]∧Blk w G.z [vI 0,sl none 0 0,sl a5 a6 a7]) s) (fun s a w=>un4 (fun ap ah ai aN=>∃ a5 a6 a7 Sl,Sat 178 [(8,pt wb.z),(10,pt G.z)] a∧Chg (· ∈ ([g1]++[G.z])) we w∧inI ap∧inI ah∧inI ai∧a_ w Sl (sl a5 a6 a7) aN∧Sl.Nodup∧(∀ k∈Sl,we.z≤k)∧Blk w g1 [sl A0 N0 C0,vI ah,vI ai]∧Blk w G.z [vI 0,sl none 0 0,sl a5 a6 a7]) s) (fun r ex a w=>ex = .ret∧L_ prog fn (Q10 w0 g1 B A0 N0 C0 x1 r) a w) hX ?_ ?_ ?_ ?_
      ·exact fun _ q=>⟨none,0,0,[],q.k<|s7 z z z z z z z,cr ([g1]++[G.z]) we,kw,kx,ky,onL,H_,an_,kz,((hw.e I).e so).c su<|atp bi⟩
      ·rintro ⟨ap,ah,ai,aN⟩ _ dz _ ⟨a5,a6,a7,Sl,hY,sv,eR,ci,cj,aO,ck,aq,cl,cm⟩ hZ;have ez:=c_p hZ;refine Wu ?_ hY;refine Wq<|Ws<|Rm z<|R z (a_9 z z)<|Wn<|Wc z (fun d3=>?_) (fun d3=>?_)
       ·refine Wk<|Wq<|Wb (Wd (X:=fun k=>k∈[g1]∨dz.z≤k) 20480 (.rd 0<|.rd 1<|.rd 2<|.rd 3<|.rd 4<|.rd 5<|.rd 6<|.rd 7<|.rd 8<|.rd 9<|.ef 10<|.ef 11<|.ef 12<|.rd 13<|.ef 14 .done) mo (by kernel_rfl) fun kA sh _=>dR z z (fd a_j z) ?_)
        have eS:=cm.e sh;have eT:=lt_ (lt_ (lt_ h3.s I.s) so.s) su.s;have eU:=lt_ eT sv.s;refine dR z z (l1 a_F z (a_y (atp bi)<|Nat.lt_of_lt_of_le O.lt eU)<|eS.at z)<|dR z z (mv z) ?_
        have eV:=lt_ (lt_ J.s h5.s) h4.s;have eW:=mm1 hf.lt eV;have dA:=mmr<|Blk.lt hB1
        refine dR z z (lN (vs:=[sl A6 N6 C6]) y_ t_ z z (a_y (atp dA)<|Nat.lt_of_lt_of_le hf.lt<|lt_ (lt_ (lt_ (lt_ (lt_ (lt_ eV h6.s) h3.s) I.s) so.s) su.s) sv.s)<|(((((((((av.e h5).c h4<|djs<|mm1 hf.lt J.s).e h6).c h3<|djs eW).e I).e so).c su<|atp dA).c sv<|atp<|nmA dA<|ds eW).e sh).row 0 1 z)<|dR z z (fd K_ z)<|dR z z (l1 B_ z (a_y (atp ch)<|Nat.lt_of_lt_of_le aW.lt<|lt_ (lt_ (lt_ (lt_ (lt_ (lt_ h4.s h6.s) h3.s) I.s) so.s) su.s) sv.s)<|(((((ht.e I).e so).c su<|atp ch).c sv<|atp<|nmA ch<|ds am).e sh).at z) ?_
        obtain ⟨_,kB,i0⟩:=bdS<|ifT ez d3;refine dRX z z (at_ (α:=Int) w_ z_3 z z z (ae.g<|((((((((h5.ag B).c h4<|c_ hD).e h6).c h3<|c_ cg).e I).e so).c su<|c_<|b_ hBg).c sv<|nmA (c_<|b_ hBg)<|c_ cg).e sh) kB) ?_;rintro _ ⟨_,_,_,rfl,kC,kD,eX⟩;obtain ⟨rfl,kE⟩:=O_ kD;have eY:=lt_ hF su.s;have eZ:=lt_ eY sv.s;refine dR z z (l1 g_3 z (a_y ((c_<|b_ hBg) _ eX)<|zap (zt' hBw eZ) eX)<|kC.at0 z)<|dR z z (mv z)<|dR z z (e_c z z (by decide)) ?_
        have f0:=((hE.c su<|c_<|b_ hBg).c sv<|nmA (c_<|b_ hBg)<|c_ cg).e sh;obtain ⟨f1,kF,kG,kH,i1⟩:=r_ i0;refine dE z z (fc call53 z<|aU.run (B:=B) kH (cl.e sh) (zt' hBw<|lt_ eZ sh.s) hBg (p1_0.g f0) ci cj (p2_0.g f0) kE<|e_0 _ _) (.inr fun _ _ h=>h.1.mono fun k _ hk=>(io sr) k hk) ?_;rintro _ f2 ⟨bj,kI,kJ,kK,kL,kM,kN,kO,kP,rfl,kQ,kR,kS,kT,kU,kV,dB,aP⟩;refine dE z z (fS [(.tmp 95)] b_E z z z (a_d z) (lb z)<|lb z) (.inr fun _ _ h=>v_<|h.2.below) ?_;rintro _ f3 ⟨rfl,f4⟩;have aj:=f4.below;have f5:=k_ aq (Blk.lt hB1) eY;obtain ⟨kW,kX,i2⟩:=bdS i1;refine dE z z (a_Q (α:=Val) b_E kX z z (((aO.e sh).c bj f5).e aj) ck (f4.blk:Blk f3 f2.z [vI f1.number,sl kI kJ kK,sl kM kN kO]) (c_R (x:=f1) (S1:=kL) (S2:=kP) kQ (kR.e aj)<|kS.e aj) (aa_ (a_H (al_ aP) (a_.lt aO) sh.s)<|a_H (ar_ aP) (a_.lt aO) sh.s)<|na_ (nl_ dB) (nr_ dB)<|nj dB) (.inl z) ?_;rintro _ kY ⟨dC,f6,f7,f8,rfl,dD,kZ,l2,f9⟩;refine dR z z (fd a_j z) ?_;have fe:=k_ aq O.lt eT;refine dE0 z (fs (cur':=[vI 0,sl none 0 0,sl f6 f7 f8]) d_0 z z (((eS.c bj<|atp bi).e aj).c dD<|djs fe) z (lb z) (oA z) z) (.inl z) ?_;rintro _ l3 ⟨l4,l5⟩;have dF:=l5.one;refine pD<|Wo<|Wg<|Rm z<|R z (sb_ z z)<|Ra z<|Wl ?_
        have dG:=lt_ eU sh.s;have dH:=lt_ sv.s sh.s;exact fun _ q=>⟨(I_ ap 1,kF,kG,kW),(som i2).symm,⟨f6,f7,f8,dC,q.k<|s7 z z z z z z z,(cM (cM (f_ (cM (f_ (cM (cr ([g1]++[G.z]) we) sv (aa_ (io<|x_ sr)<|io<|A_ sr):Chg (· ∈ ([g1]++[G.z])) we dz) sh:Chg (· ∈ ([g1]++[G.z])) we kA) bj (io<|x_ sr):Chg (· ∈ ([g1]++[G.z])) we f2) aj:Chg (· ∈ ([g1]++[G.z])) we f3) dD (or0 aq  (z_ lr) : ∀ k∈Sl,k∈([g1]++[G.z])∨we.z≤k):Chg (· ∈ ([g1]++[G.z])) we kY) dF (io<|A_ sr):Chg (· ∈ ([g1]++[G.z])) we l3),iS _ _,kT,kU,kZ.c dF (or2 f9 fe (aa_ (k_ (al_ aP) O.lt dG)<|k_ (ar_ aP) O.lt dG) (P_ (b_ O.lt)<|lt_ (lt_ dG bj.s) aj.s) : ∀ k∈dC,k∉[G.z]),l2,(or2 f9 aq (aa_ (l_ (al_ aP) dH)<|l_ (ar_ aP) dH) (b_7<|lt_ (lt_ dH bj.s) aj.s) : ∀ k∈dC,we.z≤k),((kV.e aj).c dD<|djs f5).c dF<|djs bi,l4⟩⟩
       exact We<|fun a' ha'=>b_w (som<|ifF ez d3).symm ⟨a5,a6,a7,Sl,Sat.weaken ha'<|s2 z z,(cM (cr ([g1]++[G.z]) we) sv (aa_ (io<|x_ sr)<|io<|A_ sr):Chg (· ∈ ([g1]++[G.z])) we dz),eR,ci,cj,aO,ck,aq,cl,cm⟩
      ·rintro ⟨ap,ah,ai,aN⟩ l6 l7 rfl ⟨a5,a6,a7,Sl,_,l8,eR,ci,cj,aO,ck,aq,cl,cm⟩;have i3:=elL eQ;revert l6;exact fun _ q=>⟨ah,ai,0,aN,som<|c_p i3,a5,a6,a7,Sl,q.k<|s2 z z,(cM (cM (f_ (cr ([g1]++[G.z]) H) so:Chg (· ∈ ([g1]++[G.z])) H kt) su (io<|x_ sr):Chg (· ∈ ([g1]++[G.z])) H we) l8 (aa_ (io<|x_ sr)<|io<|A_ sr):Chg (· ∈ ([g1]++[G.z])) H l7),ci,cj,ii z,aO,ck,l_ aq<|lt_ so.s su.s,cl,cm⟩
      rintro _ _ _ _ rfl ⟨rfl,i4⟩;have i5:=elR eQ;obtain rfl:=som i5;have i6:=elR d1;obtain rfl:=som i6;have i7:=elR cY;obtain rfl:=som i7;have i8:=elR cV;obtain rfl:=som i8;have i9:=elR cT;obtain rfl:=som i9;exact ⟨i4,z⟩
     refine Ws<|R z (eql z z)<|Ra z<|Wn ?_
     obtain ⟨l9,eA,eB⟩:=bdS<|ifF eP d2;refine Wt (fun a w=>∃ (bk:Int) (bm:Int) (bn:Int) (cn:List Val),Sum.inl (bk,bm,bn,cn)=l9 ∧ ∃ co cp cq bo,Sat 178 [(8,pt wb.z),(10,pt G.z)] a∧Chg (· ∈ ([g1]++[G.z])) H w∧inI bk∧inI bm∧inI bn∧a_ w bo (sl co cp cq) cn∧bo.Nodup∧(∀ k∈bo,H.z≤k)∧Blk w g1 [sl A0 N0 C0,vI bk,vI bm]∧Blk w G.z [vI bn,sl none 0 0,sl co cp cq]) ?_ ?_
     ·refine Wc z (fun d4=>?_)<|fun d4=>?_
      ·refine Ws<|Ra z<|Wn ?_
       obtain ⟨_,ia,eC⟩:=bdS<|ifT eA d4;refine Wf (σ:=Int×Int×(List Val)) (ρ:=Val×Int×Int) (fun (ff:Nat) s a w=>un3 (fun a8 a9 ar=>∃ az V W Si,Sat 178 [(0,pt g1),(3,vI x4),(5,pt w0.z),(8,pt wb.z),(9,pt wc.z),(10,pt G.z),(12,vI ((ff:Nat):Int))] a∧Chg (· ∈ ([g1]++[G.z])) H w∧inI a8∧inI a9∧a_ w Si (sl az V W) ar∧Si.Nodup∧(∀ k∈Si,H.z≤k)∧Blk w g1 [sl A0 N0 C0,vI a8,vI a9]∧Blk w G.z [vI 0,sl none 0 0,sl az V W]) s) (fun s a w=>un3 (fun a8 a9 ar=>∃ az V W Si,Sat 178 [(8,pt wb.z),(10,pt G.z)] a∧Chg (· ∈ ([g1]++[G.z])) H w∧inI a8∧inI a9∧a_ w Si (sl az V W) ar∧Si.Nodup∧(∀ k∈Si,H.z≤k)∧Blk w g1 [sl A0 N0 C0,vI a8,vI a9]∧Blk w G.z [vI 0,sl none 0 0,sl az V W]) s) (fun r ex a w=>ex = .ret∧L_ prog fn (Q10 w0 g1 B A0 N0 C0 x1 r) a w) ia ?_ ?_ ?_ ?_ ?_
       ·have fg:=lt_ L.s J.s;exact fun _ q=>⟨none,0,0,[],q.k<|s7 z z z z z z z,cr ([g1]++[G.z]) H,p1_1,p1_2,onL,H_,an_,((((((hB1.e L).e J).e h5).c h4<|djs<|mm1 (Blk.lt hB1) fg).e h6).c h3<|djs<|mm1 (Blk.lt hB1)<|lt_ (lt_ fg h5.s) h4.s).e I,hw.e I⟩
       ·rintro ff ⟨a8,a9,ar⟩ _ fh _ eD ⟨az,V,W,Si,ib,Y,bp,bq,au,bt,ak,bu,bv⟩ ic;refine Wu ?_ ib;refine Wq<|Ws<|Rm z<|R z (fd K_ z) ?_
        have dI:=lt_ L.s J.s;have fi:=mm1 (Blk.lt hB1) dI;have fj:=(ht.e I).c Y<|atp<|nmA fi<|ds am
        refine R z (l1 B_ z fid<|fj.at z) ?_;have fk : ∀ k∈[wc.z],¬ B k:=or0 (b_ lr)  (m_<|zt' hBw dI);have dJ:=lt_ (lt_ dI h5.s) h4.s;have ct : ∀ k∈[G.z],¬ B k:=or0 (b_ lr)  (m_<|zt' hBw dJ);have fl:=(((((h5.ag B).c h4<|c_ fk).e h6).c h3<|c_ ct).e I).c Y<|nmA (c_<|b_ hBg)<|c_ ct
        refine R z (lnR w_ z<|ae.g fl)<|R z (lss z z)<|Wn<|Wc z (fun _=>?_) (fun hc=>(a_3 eD hc).elim)
        refine Wk<|Wq<|Wb (Wd (X:=fun k=>k∈[g1]∨fh.z≤k) 40960 (.rd 0<|.rd 1<|.rd 2<|.rd 3<|.rd 4<|.rd 5<|.rd 6<|.rd 7<|.rd 8<|.rd 9<|.rd 10<|.ef 11<|.ef 12<|.ef 13<|.rd 14<|.ef 15 .done) mo (by kernel_rfl) fun la sj _=>dR z z (fd a_j z) ?_)
        have fm:=bv.e sj;have dK:=mm1 (Blk.lt hB1) dJ;have fo:=lt_ h3.s I.s;have fp:=lt_ fo Y.s;refine dR z z (l1 a_F z (a_y (atp dK)<|Nat.lt_of_lt_of_le O.lt fp)<|fm.at z)<|dR z z (mv z) ?_
        have fq:=lt_ (lt_ J.s h5.s) h4.s;have fr:=mm1 hf.lt fq;have ft:=mmr<|Blk.lt hB1
        refine dR z z (lN (vs:=[sl A6 N6 C6]) y_ t_ z z (a_y (atp ft)<|Nat.lt_of_lt_of_le hf.lt<|lt_ (lt_ (lt_ (lt_ fq h6.s) h3.s) I.s) Y.s)<|(((((((av.e h5).c h4<|djs<|mm1 hf.lt J.s).e h6).c h3<|djs fr).e I).c Y<|atp<|nmA ft<|ds fr).e sj).row 0 1 z)<|dR z z (fd K_ z)<|dR z z (l1 B_ z (a_y (atp fi)<|Nat.lt_of_lt_of_le aW.lt<|lt_ (lt_ (lt_ (lt_ h4.s h6.s) h3.s) I.s) Y.s)<|(fj.e sj).at z)<|dR z z (mv z) ?_
        obtain ⟨_,lc,id⟩:=bdS<|b_D ic;refine dRX z z (at_ (α:=Int) w_ z_3 z z z (ae.g<|fl.e sj) lc) ?_;rintro _ ⟨_,_,_,rfl,ld,le,fu⟩;obtain ⟨rfl,lf⟩:=O_ le;have fv:=lt_ (lt_ (lt_ dJ h6.s) h3.s) I.s;have fw:=lt_ fv Y.s;refine dR z z (l1 g_3 z (a_y ((c_<|b_ hBg) _ fu)<|zap (zt' hBw fw) fu)<|ld.at0 z)<|dR z z (mv z)<|dR z z (e_c z z (by decide)) ?_
        have fx:=((((((a3.e h5).c h4<|c_ fk).e h6).c h3<|c_ ct).e I).c Y<|nmA (c_<|b_ hBg)<|c_ ct).e sj;obtain ⟨fy,lg,lh,li,ie⟩:=r_ id;refine dE z z (fc call53 z<|aU.run (B:=B) li (bu.e sj) (zt' hBw<|lt_ fw sj.s) hBg (p1_0.g fx) bp bq (p2_0.g fx) lf<|e_0 _ _) (.inr fun _ _ h=>h.1.mono fun k _ hk=>(io sr) k hk) ?_;rintro _ fz ⟨bw,lj,lk,ll,lm,ln,lo,lp,lq,rfl,ls,lu,lv,lw,lx,ly,dL,aQ⟩;refine dE z z (fS [(.tmp 119)] b_E z z z (a_d z) (lb z)<|lb z) (.inr fun _ _ h=>v_<|h.2.below) ?_;rintro _ fA ⟨rfl,fB⟩;have al:=fB.below;have fC:=k_ ak (Blk.lt hB1) fv;obtain ⟨lz,lA,ig⟩:=bdS ie;refine dE z z (a_Q (α:=Val) b_E lA z z (((au.e sj).c bw fC).e al) bt (fB.blk:Blk fA fz.z [vI fy.number,sl lj lk ll,sl ln lo lp]) (c_R (x:=fy) (S1:=lm) (S2:=lq) ls (lu.e al)<|lv.e al) (aa_ (a_H (al_ aQ) (a_.lt au) sj.s)<|a_H (ar_ aQ) (a_.lt au) sj.s)<|na_ (nl_ dL) (nr_ dL)<|nj dL) (.inl z) ?_;rintro _ lB ⟨dN,fD,fE,fF,rfl,dO,lC,lD,fG⟩;refine dR z z (fd a_j z) ?_;have fH:=k_ ak O.lt fo;refine dE0 z (fs (cur':=[vI 0,sl none 0 0,sl fD fE fF]) d_0 z z (((fm.c bw<|atp dK).e al).c dO<|djs fH) z (lb z) (oA z) z) (.inl z) ?_;rintro _ lE ⟨lF,lG⟩;have dP:=lG.one;refine pD<|Wo<|Wg<|Rm z<|R z (inc_ eD (lt_ (repS.len ae) M_) z z)<|Ra z<|Wl ?_
        have dS:=lt_ fp sj.s;have dT:=lt_ Y.s sj.s;exact fun _ q=>⟨(lg,lh,lz),(som ig).symm,⟨fD,fE,fF,dN,q.k<|s7 z z z z z z z,(cM (cM (f_ (cM (f_ (cM (cr ([g1]++[G.z]) H) Y (aa_ (io<|x_ sr)<|io<|A_ sr):Chg (· ∈ ([g1]++[G.z])) H fh) sj:Chg (· ∈ ([g1]++[G.z])) H la) bw (io<|x_ sr):Chg (· ∈ ([g1]++[G.z])) H fz) al:Chg (· ∈ ([g1]++[G.z])) H fA) dO (or0 ak  (z_ lr) : ∀ k∈Si,k∈([g1]++[G.z])∨H.z≤k):Chg (· ∈ ([g1]++[G.z])) H lB) dP (io<|A_ sr):Chg (· ∈ ([g1]++[G.z])) H lE),lw,lx,lC.c dP (or2 fG fH (aa_ (k_ (al_ aQ) O.lt dS)<|k_ (ar_ aQ) O.lt dS) (P_ (b_ O.lt)<|lt_ (lt_ dS bw.s) al.s) : ∀ k∈dN,k∉[G.z]),lD,(or2 fG ak (aa_ (l_ (al_ aQ) dT)<|l_ (ar_ aQ) dT) (b_7<|lt_ (lt_ dT bw.s) al.s) : ∀ k∈dN,H.z≤k),((ly.e al).c dO<|djs fC).c dP<|djs dK,lF⟩⟩
       ·rintro ⟨a8,a9,ar⟩ _ lH ⟨az,V,W,Si,ih,dU,bp,bq,au,bt,ak,bu,bv⟩;refine Wu ?_ ih;refine Wq<|Ws<|Rm z<|R z (fd K_ z) ?_
        have dV:=lt_ L.s J.s;refine R z (l1 B_ z fid<|((ht.e I).c dU<|atp<|nmA (mm1 (Blk.lt hB1) dV)<|ds am).at z) ?_;have fI : ∀ k∈[G.z],¬ B k:=or0 (b_ lr)  (m_<|zt' hBw<|lt_ (lt_ dV h5.s) h4.s);refine R z (lnR w_ z<|ae.g<|(((((h5.ag B).c h4<|c_ (or0 (b_ lr)  (m_<|zt' hBw dV) : ∀ k∈[wc.z],¬ B k)).e h6).c h3<|c_ fI).e I).c dU<|nmA (c_<|b_ hBg)<|c_ fI)<|R z (lss z z)<|Wn<|Wc z (fun hc=>(a_4 hc).elim) (fun _=>?_)
        exact We<|fun a' ha'=>⟨rfl,⟨az,V,W,Si,Sat.weaken ha'<|s2 z z,(cM (cr ([g1]++[G.z]) H) dU (aa_ (io<|x_ sr)<|io<|A_ sr):Chg (· ∈ ([g1]++[G.z])) H lH),bp,bq,au,bt,ak,bu,bv⟩⟩
       ·rintro ⟨a8,a9,ar⟩ lI lJ rfl ⟨az,V,W,Si,_,lK,bp,bq,au,bt,ak,bu,bv⟩;have ij:=elL eC;revert lI;exact fun _ q=>⟨a8,a9,0,ar,som<|b_D ij,az,V,W,Si,q.k<|s2 z z,(cM (cr ([g1]++[G.z]) H) lK (aa_ (io<|x_ sr)<|io<|A_ sr):Chg (· ∈ ([g1]++[G.z])) H lJ),bp,bq,ii z,au,bt,ak,bu,bv⟩
       rintro _ _ _ _ rfl ⟨rfl,ik⟩;have il:=elR eC;obtain rfl:=som il;have im:=elR eB;obtain rfl:=som im;have ip:=elR d1;obtain rfl:=som ip;have iq:=elR cY;obtain rfl:=som iq;have ir:=elR cV;obtain rfl:=som ir;have it:=elR cT;obtain rfl:=som it;exact ⟨ik,z⟩
      refine Ws<|R z (eql z z)<|Ra z<|Wn ?_
      obtain ⟨lL,eE,iu⟩:=bdS<|ifF eA d4;refine Wt (fun a w=>∃ (bx:Int) (bz:Int) (bA:Int) (cu:List Val),(bx,bz,bA,cu)=lL ∧ ∃ cv cw cx bB,Sat 178 [(8,pt wb.z),(10,pt G.z)] a∧Chg (· ∈ ([g1]++[G.z])) H w∧inI bx∧inI bz∧inI bA∧a_ w bB (sl cv cw cx) cu∧bB.Nodup∧(∀ k∈bB,H.z≤k)∧Blk w g1 [sl A0 N0 C0,vI bx,vI bz]∧Blk w G.z [vI bA,sl none 0 0,sl cv cw cx]) ?_ ?_
      ·refine Wc z (fun d5=>?_)<|fun d5=>?_
       ·refine Ws<|Rm z<|R z (fd a_L z) ?_
        have fJ:=ht.e I;refine R z (l1 B_ z fid<|fJ.at z) ?_;have dW:=lt_ L.s J.s;have fK : ∀ k∈[wc.z],¬ B k:=or0 (b_ lr)  (m_<|zt' hBw dW);have dX:=lt_ (lt_ dW h5.s) h4.s;have cy : ∀ k∈[G.z],¬ B k:=or0 (b_ lr)  (m_<|zt' hBw dX);have fL:=((((h5.ag B).c h4<|c_ fK).e h6).c h3<|c_ cy).e I;have fM:=gK.g fL;refine R z (lnR w_ z fM) ?_;have fN:=((((a3.e h5).c h4<|c_ fK).e h6).c h3<|c_ cy).e I;have fO:=mm1 (Blk.lt hB1) dW;have bC:=mm1 (Blk.lt hB1) dX;have fP:=lt_ (lt_ (lt_ dX h6.s) h3.s) I.s;obtain ⟨_,_,_,lM,iv⟩:=r_<|ifT eE d5;refine E z (fc call57 z<|a_V (B:=B) lM (((((((hB1.e L).e J).e h5).c h4<|djs fO).e h6).c h3<|djs bC).e I) (zt' hBw fP) hBg (p1_0.g fN) p1_1 p1_2<|a_M<|repS.len fM) ?_;rintro _ lO ⟨aa,rfl,_,lP,lQ,lR⟩;refine Ra z<|Wn<|Ws<|R z (fd a_L z) ?_
        have fQ:=fJ.c aa<|atp fO
        refine R z (l1 B_ z fid<|fQ.at z)<|Rm z ?_
        obtain ⟨dY,lS,iw⟩:=bdS iv;have fR:=fL.c aa<|c_<|b_ hBg
        refine RX z (at_ (α:=Int) w_ z_3 z z z (gK.g fR) lS) ?_;rintro _ ⟨_,_,_,rfl,lT,lU,_⟩;obtain ⟨rfl,lV⟩:=O_ lU;refine R z (l1 g_3 z fid<|lT.at0 z)<|R z (fd b_c z)<|E0 (fs (cur':=[vI dY,sl none 0 0,sl none 0 0]) z_3 z z ((hw.e I).c aa<|atp bC) z (lb z) (oA z) z) ?_
        rintro _ lW ⟨lX,lY⟩;have ab:=lY.one;refine Wn<|Wd (X:=noX) 9216 (.rd 0<|.rd 1<|.rd 2<|.rd 3<|.rd 4<|.rd 5<|.rd 6<|.rd 7<|.rd 8<|.rd 9<|.ef 10<|.ef 11<|.rd 12<|.ef 13 .done) mo (by kernel_rfl) fun lZ a0 _=>dR z z (mv z) ?_;have fT:=mm1 hf.lt<|lt_ (lt_ J.s h5.s) h4.s
        refine dR z z (lN (vs:=[sl A6 N6 C6]) y_ t_ z z fid<|((((((((av.e h5).c h4<|djs<|mm1 hf.lt J.s).e h6).c h3<|djs fT).e I).c aa<|atp<|mmr<|Blk.lt hB1).c ab<|djs fT).e a0).row 0 1 z)<|dR z z (fd K_ z)<|dR z z (l1 B_ z fid<|((fQ.c ab<|djs am).e a0).at z)<|dR z z (mv z)<|dR z z (add_ z z) ?_
        obtain ⟨_,m0,ix⟩:=bdS iw;refine dRX z z (at_ (α:=Int) w_ z_3 z z z (ae.g<|(fR.c ab<|c_ cy).e a0) m0) ?_;rintro _ ⟨_,_,_,rfl,m1,m2,_⟩;obtain ⟨rfl,m3⟩:=O_ m2;refine dR z z (l1 g_3 z fid<|m1.at0 z)<|dR z z (mv z)<|dR z z (e_c z z (by decide)) ?_
        have fU:=((fN.c aa<|c_<|b_ hBg).c ab<|c_ cy).e a0;obtain ⟨dZ,m4,m5,m6,iy⟩:=r_ ix;refine dE z z (fc call53 z<|aU.run (B:=B) m6 ((lR.c ab<|djs bC).e a0) (zt' hBw<|lt_ (lt_ (lt_ fP aa.s) ab.s) a0.s) hBg (p1_0.g fU) lP lQ (p2_0.g fU) m3<|e_0 _ _) (.inl z) ?_;rintro _ aR ⟨cz,m7,m8,m9,e0,ma,mb,mc,e1,rfl,md,fV,fW,me,mf,mg,e2,cA⟩;refine dE z z (fS [(.tmp 146)] b_E z z z (a_d z) (lb z)<|lb z) (.inr fun _ _ h=>v_<|h.2.below) ?_;rintro _ fX ⟨rfl,e3⟩;have e4:=e3.below;have p2:Blk fX aR.z [vI dZ.number,sl m7 m8 m9,sl ma mb mc]:=e3.blk;refine dR z z (fd a_j z)<|dE0 z (fs (cur':=[vI dY,sl none 0 0,sl (some ⟨aR.z,0,none⟩) 1 1]) d_0 z z (((lX.e a0).c cz<|atp bC).e e4) z (lb z) (oA z) z) (.inl z) ?_
        rintro _ mh ⟨mi,mj⟩;have e5:=mj.one;refine pD ?_;have e6:=lt_ (lt_ (lt_ (lt_ h3.s I.s) aa.s) ab.s) a0.s;have e7:=lt_ (lt_ aa.s ab.s) a0.s;exact fun _ q=>⟨m4,m5,dY,[dZ],som iy,some ⟨aR.z,0,none⟩,1,1,(aR.z::(e0++e1)),q.k<|s2 z z,(cM (f_ (cM (f_ (cM (cM (cr ([g1]++[G.z]) H) aa (io<|x_ sr):Chg (· ∈ ([g1]++[G.z])) H lO) ab (io<|A_ sr):Chg (· ∈ ([g1]++[G.z])) H lW) a0:Chg (· ∈ ([g1]++[G.z])) H lZ) cz (io<|x_ sr):Chg (· ∈ ([g1]++[G.z])) H aR) e4:Chg (· ∈ ([g1]++[G.z])) H fX) e5 (io<|A_ sr):Chg (· ∈ ([g1]++[G.z])) H mh),me,mf,lV,(a_E e3<|c_R (x:=dZ) (S1:=e0) (S2:=e1) md fV fW).c e5 (or1 c_Z (aa_ (k_ (al_ cA) O.lt e6)<|k_ (ar_ cA) O.lt e6) (P_ (b_ O.lt)<|lt_ e6 cz.s) : ∀ k∈(aR.z::(e0++e1)),k∉[G.z]),g_r (na_ (nl_ e2) (nr_ e2)<|nj e2)<|aa_ (a_.lt fV)<|a_.lt fW,a_2 c_Z (aa_ (l_ (al_ cA) e7)<|l_ (ar_ cA) e7)<|lt_ e7 cz.s,(mg.e e4).c e5<|djs bC,mi⟩
       refine Ws<|R z (eql z z)<|Ra z<|Wn ?_
       obtain ⟨mk,eF,iz⟩:=bdS<|ifF eE d5;refine Wt (fun a w=>∃ (bD:Int) (bE:Int) (cB:List Val),(bD,bE,cB)=mk ∧ ∃ cC cD cE bF,Sat 178 [(8,pt wb.z),(10,pt G.z)] a∧Chg (· ∈ ([g1]++[G.z])) H w∧inI bD∧inI bE∧a_ w bF (sl cC cD cE) cB∧bF.Nodup∧(∀ k∈bF,H.z≤k)∧Blk w g1 [sl A0 N0 C0,vI bD,vI bE]∧Blk w G.z [vI 0,sl none 0 0,sl cC cD cE]) ?_ ?_
       ·refine Wc z (fun d6=>?_)<|fun d6=>?_
        ·refine Ws<|Rm z ?_
         have e8:=lt_ L.s J.s;have fY : ∀ k∈[wc.z],¬ B k:=or0 (b_ lr)  (m_<|zt' hBw e8);have e9:=lt_ (lt_ e8 h5.s) h4.s;have fZ : ∀ k∈[G.z],¬ B k:=or0 (b_ lr)  (m_<|zt' hBw e9);have g0:=((((a3.e h5).c h4<|c_ fY).e h6).c h3<|c_ fZ).e I;have g2:=mm1 (Blk.lt hB1) e8;have bG:=mm1 (Blk.lt hB1) e9;have g3:=lt_ (lt_ (lt_ e9 h6.s) h3.s) I.s;obtain ⟨_,ml,mm,mn,iB⟩:=r_<|ifT eF d6;refine E z (fc call58 z<|g_B (B:=B) mn (((((((hB1.e L).e J).e h5).c h4<|djs g2).e h6).c h3<|djs bG).e I) (zt' hBw g3) hBg (p1_0.g g0) p1_1 p1_2<|ii z) ?_;rintro _ ad ⟨a1,rfl,g4,g5,g6⟩;refine Wn ?_;obtain ⟨mp,eG,iC⟩:=bdS iB;refine Wt (fun a w=>∃ (bH:Int) (bI:Int) (cF:List Val),(bH,bI,cF)=mp ∧ ∃ cG cH cI bJ,Sat 178 [(8,pt wb.z),(10,pt G.z)] a∧Chg (· ∈ ([g1]++[G.z])) ad w∧inI bH∧inI bI∧a_ w bJ (sl cG cH cI) cF∧bJ.Nodup∧(∀ k∈bJ,ad.z≤k)∧Blk w g1 [sl A0 N0 C0,vI bH,vI bI]∧Blk w G.z [vI 0,sl none 0 0,sl cG cH cI]) ?_ ?_
         ·refine Wc z (fun d7=>?_)<|fun d7=>?_
          ·refine Wd (X:=noX) 2304 (.rd 0<|.rd 1<|.rd 2<|.rd 3<|.rd 4<|.rd 5<|.rd 6<|.rd 7<|.ef 8<|.ef 9<|.rd 10<|.ef 11 .done) mo (by kernel_rfl) fun mq sp _=>dR z z (mv z) ?_
           refine dR z z (lN (vs:=[sl A6 N6 C6]) y_ t_ z z fid<|(((((((av.e h5).c h4<|djs<|mm1 hf.lt J.s).e h6).c h3<|djs<|mm1 hf.lt<|lt_ (lt_ J.s h5.s) h4.s).e I).c a1<|atp<|mmr<|Blk.lt hB1).e sp).row 0 1 z)<|dR z z (fd K_ z)<|dR z z (l1 B_ z fid<|(((ht.e I).c a1<|atp g2).e sp).at z) ?_
           obtain ⟨_,mr,iD⟩:=bdS<|ifT eG d7;refine dRX z z (at_ (α:=Int) w_ z_3 z z z (ae.g<|((((((h5.ag B).c h4<|c_ fY).e h6).c h3<|c_ fZ).e I).c a1<|c_<|b_ hBg).e sp) mr) ?_;rintro _ ⟨_,_,_,rfl,ms,mt,_⟩;obtain ⟨rfl,mu⟩:=O_ mt;refine dR z z (l1 g_3 z fid<|ms.at0 z)<|dR z z (mv z)<|dR z z (e_c z z (by decide)) ?_
           have g7:=(g0.c a1<|c_<|b_ hBg).e sp;obtain ⟨ea,mw,mx,my,iE⟩:=r_ iD;refine dE z z (fc call53 z<|aU.run (B:=B) my (g6.e sp) (zt' hBw<|lt_ (lt_ g3 a1.s) sp.s) hBg (p1_0.g g7) g4 g5 (p2_0.g g7) mu<|e_0 _ _) (.inl z) ?_;rintro _ aS ⟨cJ,mz,mA,mB,eb,mC,mD,mE,ec,rfl,mF,g8,g9,mG,mH,mI,ed,cK⟩;refine dE z z (fS [(.tmp 161)] b_E z z z (a_d z) (lb z)<|lb z) (.inr fun _ _ h=>v_<|h.2.below) ?_;rintro _ ga ⟨rfl,ee⟩;have eg:=ee.below;have p3:Blk ga aS.z [vI ea.number,sl mz mA mB,sl mC mD mE]:=ee.blk;refine dR z z (fd a_j z)<|dE0 z (fs (cur':=[vI 0,sl none 0 0,sl (some ⟨aS.z,0,none⟩) 1 1]) d_0 z z (((((hw.e I).c a1<|atp bG).e sp).c cJ<|atp bG).e eg) z (lb z) (oA z) z) (.inl z) ?_
           rintro _ mJ ⟨mK,mL⟩;have eh:=mL.one;refine pD ?_;have ei:=lt_ (lt_ (lt_ h3.s I.s) a1.s) sp.s;exact fun _ q=>⟨mw,mx,[ea],som iE,some ⟨aS.z,0,none⟩,1,1,(aS.z::(eb++ec)),q.k<|s2 z z,(cM (f_ (cM (f_ (cr ([g1]++[G.z]) ad) sp:Chg (· ∈ ([g1]++[G.z])) ad mq) cJ (io<|x_ sr):Chg (· ∈ ([g1]++[G.z])) ad aS) eg:Chg (· ∈ ([g1]++[G.z])) ad ga) eh (io<|A_ sr):Chg (· ∈ ([g1]++[G.z])) ad mJ),mG,mH,(a_E ee<|c_R (x:=ea) (S1:=eb) (S2:=ec) mF g8 g9).c eh (or1 c_Z (aa_ (k_ (al_ cK) O.lt ei)<|k_ (ar_ cK) O.lt ei) (P_ (b_ O.lt)<|lt_ ei cJ.s) : ∀ k∈(aS.z::(eb++ec)),k∉[G.z]),g_r (na_ (nl_ ed) (nr_ ed)<|nj ed)<|aa_ (a_.lt g8)<|a_.lt g9,a_2 c_Z (aa_ (l_ (al_ cK) sp.s)<|l_ (ar_ cK) sp.s)<|lt_ sp.s cJ.s,(mI.e eg).c eh<|djs bG,mK⟩
          exact a_g<|fun _ q=>⟨ml,mm,([]:List Val),som<|ifF eG d7,none,0,0,[],q.k<|s2 z z,cr ([g1]++[G.z]) ad,g4,g5,onL,H_,an_,g6,(hw.e I).c a1<|atp bG⟩
         rintro mM mN ⟨bH,bI,cF,rfl,cG,cH,cI,bJ,_,mO,mP,mQ,mR,mS,mT,mU,mV⟩;revert mM;exact fun _ q=>⟨bH,bI,cF,som<|b_D iC,cG,cH,cI,bJ,q.k<|s2 z z,(cM (cM (cr ([g1]++[G.z]) H) a1 (io<|x_ sr):Chg (· ∈ ([g1]++[G.z])) H ad) mO (aa_ (io<|x_ sr)<|io<|A_ sr):Chg (· ∈ ([g1]++[G.z])) H mN),mP,mQ,mR,mS,l_ mT a1.s,mU,mV⟩
        refine Ws<|R z (eql z z)<|Ra z<|Wn ?_
        obtain ⟨mW,eH,iF⟩:=bdS<|ifF eF d6;refine Wt (fun a w=>∃ (bK:Int) (bL:Int) (cL:List Val),(bK,bL,cL)=mW ∧ ∃ cN cO cP bM,Sat 178 [(8,pt wb.z),(10,pt G.z)] a∧Chg (· ∈ ([g1]++[G.z])) H w∧inI bK∧inI bL∧a_ w bM (sl cN cO cP) cL∧bM.Nodup∧(∀ k∈bM,H.z≤k)∧Blk w g1 [sl A0 N0 C0,vI bK,vI bL]∧Blk w G.z [vI 0,sl none 0 0,sl cN cO cP]) ?_ ?_
        ·refine Wc z (fun d8=>?_)<|fun d8=>?_
         ·refine Wd (X:=noX) 2304 (.rd 0<|.rd 1<|.rd 2<|.rd 3<|.rd 4<|.rd 5<|.rd 6<|.rd 7<|.ef 8<|.ef 9<|.rd 10<|.ef 11 .done) mo (by kernel_rfl) fun mX sq _=>dR z z (mv z) ?_
          refine dR z z (lN (vs:=[sl A6 N6 C6]) y_ t_ z z fid<|((((((av.e h5).c h4<|djs<|mm1 hf.lt J.s).e h6).c h3<|djs<|mm1 hf.lt<|lt_ (lt_ J.s h5.s) h4.s).e I).e sq).row 0 1 z)<|dR z z (fd K_ z)<|dR z z (l1 B_ z fid<|((ht.e I).e sq).at z) ?_
          obtain ⟨_,mY,iG⟩:=bdS<|ifT eH d8;have ej:=lt_ L.s J.s;have gb : ∀ k∈[wc.z],¬ B k:=or0 (b_ lr)  (m_<|zt' hBw ej);have ek:=lt_ (lt_ ej h5.s) h4.s;have gc : ∀ k∈[G.z],¬ B k:=or0 (b_ lr)  (m_<|zt' hBw ek);refine dRX z z (at_ (α:=Int) w_ z_3 z z z (ae.g<|(((((h5.ag B).c h4<|c_ gb).e h6).c h3<|c_ gc).e I).e sq) mY) ?_;rintro _ ⟨_,_,_,rfl,mZ,n0,_⟩;obtain ⟨rfl,n1⟩:=O_ n0;refine dR z z (l1 g_3 z fid<|mZ.at0 z)<|dR z z (mv z)<|dR z z (e_c z z (by decide)) ?_
          have ge:=(((((a3.e h5).c h4<|c_ gb).e h6).c h3<|c_ gc).e I).e sq;have em:=mm1 (Blk.lt hB1) ek;obtain ⟨en,n2,n3,n4,iH⟩:=r_ iG;refine dE z z (fc call53 z<|aU.run (B:=B) n4 ((((((((hB1.e L).e J).e h5).c h4<|djs<|mm1 (Blk.lt hB1) ej).e h6).c h3<|djs em).e I).e sq) (zt' hBw<|lt_ (lt_ (lt_ (lt_ ek h6.s) h3.s) I.s) sq.s) hBg (p1_0.g ge) p1_1 p1_2 (p2_0.g ge) n1<|e_0 _ _) (.inl z) ?_;rintro _ aT ⟨cQ,n5,n6,n7,eo,n8,n9,na,ep,rfl,nb,gf,gg,nc,nd,ne,er,cR⟩;refine dE z z (fS [(.tmp 174)] b_E z z z (a_d z) (lb z)<|lb z) (.inr fun _ _ h=>v_<|h.2.below) ?_;rintro _ gh ⟨rfl,es⟩;have eu:=es.below;have p4:Blk gh aT.z [vI en.number,sl n5 n6 n7,sl n8 n9 na]:=es.blk;refine dR z z (fd a_j z)<|dE0 z (fs (cur':=[vI 0,sl none 0 0,sl (some ⟨aT.z,0,none⟩) 1 1]) d_0 z z ((((hw.e I).e sq).c cQ<|atp em).e eu) z (lb z) (oA z) z) (.inl z) ?_
          rintro _ nf ⟨ng,nh⟩;have ew:=nh.one;refine pD ?_;have ey:=lt_ (lt_ h3.s I.s) sq.s;exact fun _ q=>⟨n2,n3,[en],som iH,some ⟨aT.z,0,none⟩,1,1,(aT.z::(eo++ep)),q.k<|s2 z z,(cM (f_ (cM (f_ (cr ([g1]++[G.z]) H) sq:Chg (· ∈ ([g1]++[G.z])) H mX) cQ (io<|x_ sr):Chg (· ∈ ([g1]++[G.z])) H aT) eu:Chg (· ∈ ([g1]++[G.z])) H gh) ew (io<|A_ sr):Chg (· ∈ ([g1]++[G.z])) H nf),nc,nd,(a_E es<|c_R (x:=en) (S1:=eo) (S2:=ep) nb gf gg).c ew (or1 c_Z (aa_ (k_ (al_ cR) O.lt ey)<|k_ (ar_ cR) O.lt ey) (P_ (b_ O.lt)<|lt_ ey cQ.s) : ∀ k∈(aT.z::(eo++ep)),k∉[G.z]),g_r (na_ (nl_ er) (nr_ er)<|nj er)<|aa_ (a_.lt gf)<|a_.lt gg,a_2 c_Z (aa_ (l_ (al_ cR) sq.s)<|l_ (ar_ cR) sq.s)<|lt_ sq.s cQ.s,(ne.e eu).c ew<|djs em,ng⟩
         refine a_g ?_;have gi:=lt_ L.s J.s;exact fun _ q=>⟨x1.i,x1.h,([]:List Val),som<|ifF eH d8,none,0,0,[],q.k<|s2 z z,cr ([g1]++[G.z]) H,p1_1,p1_2,onL,H_,an_,((((((hB1.e L).e J).e h5).c h4<|djs<|mm1 (Blk.lt hB1) gi).e h6).c h3<|djs<|mm1 (Blk.lt hB1)<|lt_ (lt_ gi h5.s) h4.s).e I,hw.e I⟩
        rintro ni nk ⟨bK,bL,cL,rfl,cN,cO,cP,bM,_,nl,nm,np,nq,nr,ns,nt,nu⟩;revert ni;exact fun _ q=>⟨bK,bL,cL,som<|b_D iF,cN,cO,cP,bM,q.k<|s2 z z,(cM (cr ([g1]++[G.z]) H) nl (aa_ (io<|x_ sr)<|io<|A_ sr):Chg (· ∈ ([g1]++[G.z])) H nk),nm,np,nq,nr,ns,nt,nu⟩
       rintro nv nw ⟨bD,bE,cB,rfl,cC,cD,cE,bF,_,nx,ny,nA,nB,nC,nD,nE,nF⟩;revert nv;exact fun _ q=>⟨bD,bE,0,cB,som<|b_D iz,cC,cD,cE,bF,q.k<|s2 z z,(cM (cr ([g1]++[G.z]) H) nx (aa_ (io<|x_ sr)<|io<|A_ sr):Chg (· ∈ ([g1]++[G.z])) H nw),ny,nA,ii z,nB,nC,nD,nE,nF⟩
      rintro nG nH ⟨bx,bz,bA,cu,rfl,cv,cw,cx,bB,_,nI,nJ,nK,nL,nM,nN,nO,nP,nQ⟩;revert nG;exact fun _ q=>⟨bx,bz,bA,cu,som<|c_p iu,cv,cw,cx,bB,q.k<|s2 z z,(cM (cr ([g1]++[G.z]) H) nI (aa_ (io<|x_ sr)<|io<|A_ sr):Chg (· ∈ ([g1]++[G.z])) H nH),nJ,nK,nL,nM,nN,nO,nP,nQ⟩
     rintro nR nS ⟨bk,bm,bn,cn,rfl,co,cp,cq,bo,_,nT,nU,nV,nW,nX,nY,nZ,o0,o1⟩;have iI:=elL eB;revert nR;exact fun _ q=>⟨bk,bm,bn,cn,som<|c_p iI,co,cp,cq,bo,q.k<|s2 z z,(cM (cr ([g1]++[G.z]) H) nT (aa_ (io<|x_ sr)<|io<|A_ sr):Chg (· ∈ ([g1]++[G.z])) H nS),nU,nV,nW,nX,nY,nZ,o0,o1⟩
    rintro o2 o3 ⟨be,bf,bg,cc,rfl,cd,ce,cf,bh,_,o4,o5,o6,o7,o8,o9,oa,ob,oc⟩;have iJ:=elL d1;revert o2;exact fun _ q=>⟨be,bf,bg,([]:List UInt8),cc,som<|c_p iJ,none,0,0,[],cd,ce,cf,bh,q.k<|s2 z z,(cM (cr ([g1]++[G.z]) H) o4 (aa_ (io<|x_ sr)<|io<|A_ sr):Chg (· ∈ ([g1]++[G.z])) H o3),o5,o6,o7,onL,H_,an_,o8,o9,oa,nmN _,ob,oc⟩
   rintro od oe ⟨b2,b3,b4,bY,bZ,rfl,c0,c1,c2,aJ,c3,c4,c5,aK,_,og,oh,oi,oj,ol,om,oo,oq,os,ot,ou,ov,ow⟩;have iK:=elL cY;revert od;exact fun _ q=>⟨b2,b3,b4,bY,bZ,som<|c_b iK,c0,c1,c2,aJ,c3,c4,c5,aK,q.k<|s2 z z,(cM (f_ (cr ([g1]++[G.z]) wa) I:Chg (· ∈ ([g1]++[G.z])) wa H) og (aa_ (io<|x_ sr)<|io<|A_ sr):Chg (· ∈ ([g1]++[G.z])) wa oe),oh,oi,oj,ol,om,l_ oo I.s,oq,os,l_ ot I.s,ou,ov,ow⟩
  rintro ox oy ⟨aZ,b0,b1,bQ,bR,rfl,bS,bT,bU,aH,bV,bW,bX,aI,_,oz,oB,oC,oD,oE,oF,oG,oH,oI,oJ,oK,oL,oM⟩;have iL:=elL cV;revert ox;exact fun _ q=>⟨aZ,b0,b1,bQ,bR,som<|c_b iL,bS,bT,bU,aH,bV,bW,bX,aI,q.k<|s2 z z,(cM (cr ([g1]++[G.z]) wa) oz (aa_ (io<|x_ sr)<|io<|A_ sr):Chg (· ∈ ([g1]++[G.z])) wa oy),oB,oC,oD,oE,oF,oG,oH,oI,oJ,oK,oL,oM⟩
 rintro oN oO ⟨bN,bO,ax,d9,da,rfl,ay,aA,aB,aC,aD,aE,aF,aG,_,gj,oP,oQ,oR,oS,oT,gk,oU,oV,gl,oW,oX,oY⟩;have iM:=elL cT;revert oN;refine Wo<|Ws<|R z (lN (vs:=[vI ax,sl ay aA aB,sl aD aE aF]) u_ i_ z z fid<|oY.row 0 3 z) ?_
 have gm:=lt_ h5.s h4.s;have gn:=mm1 aV.lt gm;have gp:=mm1 (Blk.lt hB1) L.s;refine E0 (fs (cur':=[vI ax,sl ay aA aB,sl aD aE aF]) i_ z z (((((aV.e h5).c h4<|djs<|mmr aV.lt).e h6).c h3<|djs gn).c gj<|atp<|nmA gp<|ds gn) z (lb z) (oA z) z) ?_;rintro _ oZ ⟨p0,p1⟩;have cS:=p1.one;refine Wn ?_;obtain rfl:=som<|c_b iM;have gq:=lt_ (lt_ gm h6.s) h3.s;have gr:=lt_ L.s J.s;have gs:=lt_ (lt_ gr h5.s) h4.s;have gt : ∀ k∈[G.z],k∈[g1]∨w0.z≤k:=mor gs;have gu:=lt_ (lt_ gs h6.s) h3.s;exact Wr<|h_ hr (q_ u_ i_ z p0 z) ⟨(cM (cM (cM (f_ (cM (f_ (f_ (f_ (cr [g1] w0) L:Chg (· ∈ [g1]) w0 wb) J:Chg (· ∈ [g1]) w0 wc) h5:Chg (· ∈ [g1]) w0 gL) h4 (mor gr : ∀ k∈[wc.z],k∈[g1]∨w0.z≤k):Chg (· ∈ [g1]) w0 G) h6:Chg (· ∈ [g1]) w0 gN) h3 gt:Chg (· ∈ [g1]) w0 wa) gj (aa_ (io sr) gt):Chg (· ∈ [g1]) w0 oO) cS (mor L.s : ∀ k∈[wb.z],k∈[g1]∨w0.z≤k):Chg (· ∈ [g1]) w0 oZ),ay,aA,aB,aC,aD,aE,aF,aG,z,oR,oS.c cS<|k_ gk aV.lt gq,oU.c cS<|k_ gl aV.lt gq,oP,oQ,oX.c cS<|djs gp,na_ oT oV<|ds oW,aa_ (l_ gk gu)<|l_ gl gu⟩
theorem A_w0c : ∀ n,k_b n
  | 0=>⟨fun hm=>by intros;exact nomatch (show none=some _ from hm)⟩
  | n+1=>T_w0c<|A_w0c n
theorem W_w0c:i_i (d_r n).spec_l9Make:=A_w0c n

theorem d_A {x1:g_} {x2:Int} {x3:Int} {res:Int} (hm:b_u x1 x2 x3=some res) (hBw:B≤w0.z) (p1_0:x1.name.b.length≤LEN) (p1_1:inI x1.kind) (p1_2:inI x1.size) (aJ:repS w0 B (sl AB NB CB) x1.bytes) (aK:repS w0 B (sl A8 N8 C8) x1.names) (I:repS w0 B (sl AC NC CC) x1.tags) (J:repS w0 B (sl AD ND CD) x1.kids) (p2_0:inI x2) (p3_0:inI x3):o_ prog 109 [(.agg #[Str.v x1.name,vI x1.kind,vI x1.size,vB x1.little,sl AB NB CB,sl A8 N8 C8,sl AC NC CC,sl AD ND CD]),vI x2,vI x3] w0 (Q9 w0 B res):=by
 unfold b_u at hm
 refine goF func109 z z (lb z) fun fn hr=>Ws<|E z (fb z) ?_
 rintro _ G ⟨rfl,hi⟩;have H:=hi.below;have h2:Blk G w0.z (vR x1 AB NB CB A8 N8 C8 AC NC CC AD ND CD):=hi.blk;refine Ra z<|Wn<|Wq<|Ws<|R z (fd a_x z)<|R z (l1 g_3 z fid<|h2.at z)<|Wn<|Wb<|Ws<|R z (eql z z)<|Ra z<|Wn<|Wc z (fun O=>?_) (fun O=>?_)
 ·refine Ws<|R z (fd K_ z)<|R z (l1 B_ z fid<|h2.at z) ?_
  obtain ⟨_,eu,hmv⟩:=bdS<|ifT hm O;refine RX z (at_ (α:=Int) w_ z_3 z z z (J.e H) eu) ?_;rintro _ ⟨_,_,_,rfl,hw,hx,_⟩;obtain ⟨rfl,hy⟩:=O_ hx;refine R z (l1 g_3 z fid<|hw.at0 z)<|Ra z<|Wn ?_
  obtain rfl:=som hmv;exact Wr<|rtO<|h_ hr z ⟨H,z,hy⟩
 refine Ws<|R z (eql z z)<|Ra z<|Wn ?_
 obtain ⟨uz,huj,L⟩:=bdS<|ifF hm O;refine Wt (fun a w=>Sum.inl ()=uz∧Sat 57 [] a∧Below G.z G w) ?_ ?_
 ·refine Wc z (fun V=>?_)<|fun V=>?_
  ·have hmk:=ifT huj V;refine Ws<|Rm z<|R z (fd K_ z)<|R z (l1 B_ z fid<|h2.at z) ?_
   have hl:=J.e H;refine R z (lnR w_ z hl)<|R z (lss z z)<|Wn<|Wc z (fun W=>?_) (fun W=>?_)
   ·refine Ws<|R z (fd K_ z)<|R z (l1 B_ z fid<|h2.at z)<|Rm z ?_
    obtain ⟨_,aj,a0⟩:=bdS<|ifT hmk W;refine RX z (at_ (α:=Int) w_ z_3 z z z hl aj) ?_;rintro _ ⟨_,_,_,rfl,ak,al,_⟩;obtain ⟨rfl,am⟩:=O_ al;refine R z (l1 g_3 z fid<|ak.at0 z)<|Ra z<|Wn ?_
    obtain rfl:=som a0;have a1:=elR L;obtain rfl:=som a1;exact Wr<|rtO<|h_ hr z ⟨H,z,am⟩
   exact a_g<|fun _ q=>⟨som<|ifF hmk W,q.k sn,br G⟩
  refine Ws<|R z (eql z z)<|Ra z<|Wn ?_
  obtain ⟨an,hum,Y⟩:=bdS<|ifF huj V;refine Wt (fun a w=>Sum.inl ()=an∧Sat 57 [] a∧Below G.z G w) ?_ ?_
  ·refine Wc z (fun hca=>?_)<|fun hca=>?_
   ·refine Ws<|Ra z<|Wn ?_
    obtain ⟨_,a2,hmn⟩:=bdS<|ifT hum hca;refine Wf (σ:=Unit) (ρ:=Int) (fun (ko:Nat) (_:Unit) a w=>Sat 57 [(1,vI x2),(3,pt w0.z),(7,vI ((ko:Nat):Int))] a∧Below G.z G w) (fun (_:Unit) a w=>Sat 57 [] a∧Below G.z G w) (fun r ex a w=>ex = .ret∧L_ prog fn (Q9 w0 B r) a w) a2 ?_ ?_ ?_ ?_ ?_
    ·exact fun _ q=>⟨q.k<|s3 z z z,br G⟩
    ·rintro ko _ _ _ _ hkb ⟨a3,s4⟩ a4;refine Wu ?_ a3;refine Wq<|Ws<|Rm z<|R z (fd a_L z) ?_
     have hd:=h2.e s4;refine R z (l1 B_ z fid<|hd.at z) ?_;have hp:=(H.ag B).e s4;have hq:=I.g hp;refine R z (lnR w_ z hq)<|R z (lss z z)<|Wn<|Wc z (fun _=>?_) (fun hc=>(a_3 hkb hc).elim)
     refine Wk<|Wq<|Wb<|Ws<|R z (fd a_L z)<|R z (l1 B_ z fid<|hd.at z)<|Rm z ?_
     obtain ⟨_,ao,hmr⟩:=bdS a4;refine RX z (at_ (α:=Int) w_ z_3 z z z hq ao) ?_;rintro _ ⟨_,_,_,rfl,ap,aq,_⟩;obtain ⟨rfl,_⟩:=O_ aq;refine R z (l1 g_3 z fid<|ap.at0 z)<|Rm z<|R z (eql z z)<|Wn<|Wc z (fun hcc=>?_) (fun hcc=>?_)
     ·refine Ws<|R z (fd K_ z)<|R z (l1 B_ z fid<|hd.at z)<|Rm z<|R z (inc_ hkb (lt_ (repS.len I) M_) z z) ?_
      obtain ⟨_,ar,a5⟩:=bdS<|ifT hmr hcc;refine RX z (at_ (α:=Int) w_ z_3 z z z (J.g hp) ar) ?_;rintro _ ⟨_,_,_,rfl,au,av,_⟩;obtain ⟨rfl,aw⟩:=O_ av;exact R z (l1 g_3 z fid<|au.at0 z)<|Ra z<|Wn<|Wr<|rtO<|qL (som a5).symm<|h_ hr z ⟨bup H s4,z,aw⟩
     exact Wk<|Wg<|Rm z<|R z (inc_ hkb (lt_ (repS.len I) M_) z z)<|Ra z<|Wl (fun _ q=>⟨(),(som<|ifF hmr hcc).symm,⟨q.k<|s3 z z z,s4⟩⟩)
    ·rintro _ _ _ ⟨a6,se⟩;refine Wu ?_ a6;refine Wq<|Ws<|Rm z<|R z (fd a_L z)<|R z (l1 B_ z fid<|(h2.e se).at z)<|R z (lnR w_ z<|I.g<|(H.ag B).e se)<|R z (lss z z)<|Wn<|Wc z (fun hc=>(a_4 hc).elim) (fun _=>?_)
     exact We<|fun a' ha'=>⟨rfl,⟨Sat.weaken ha' sn,se⟩⟩
    ·rintro _ ax _ rfl ⟨_,ay⟩;have a7:=elL hmn;revert ax;exact fun _ q=>⟨som a7,q.k sn,ay⟩
    rintro _ _ _ _ rfl ⟨rfl,a8⟩;have a9:=elR hmn;obtain rfl:=som a9;have aa:=elR Y;obtain rfl:=som aa;have ab:=elR L;obtain rfl:=som ab;exact ⟨a8,z⟩
   refine Wq<|Ws<|R z (eql z z)<|Ra z<|Wn ?_
   obtain ⟨az,hus,hmt⟩:=bdS<|ifF hum hca;refine Wt (fun a w=>∃ (xf:Bool),xf=az∧Sat 57 [(3,pt w0.z),(50,vB xf)] a∧Below G.z G w) ?_ ?_
   ·refine Wc z (fun hcg=>?_)<|fun hcg=>?_
    ·exact a_g<|fun _ q=>⟨x1.kind==8,som<|ifT hus hcg,q.k<|s2 z z,br G⟩
    exact Wg<|R z (eql z z)<|Ra z<|Wl (fun _ q=>⟨x1.kind==9,som<|ifF hus hcg,q.k<|s2 z z,br G⟩)
   rintro aA _ ⟨xf,rfl,_,s5⟩;revert aA;refine Wo<|Wc z (fun hch=>?_) (fun hch=>?_)
   ·refine Ws<|R z (fd K_ z)<|R z (l1 B_ z fid<|(h2.e s5).at z) ?_
    obtain ⟨_,aB,ad⟩:=bdS<|ifT hmt hch;refine RX z (at_ (α:=Int) w_ z_3 z z z (J.g<|(H.ag B).e s5) aB) ?_;rintro _ ⟨_,_,_,rfl,aC,aD,_⟩;obtain ⟨rfl,aE⟩:=O_ aD;refine R z (l1 g_3 z fid<|aC.at0 z)<|Ra z<|Wn ?_
    obtain rfl:=som ad;have ae:=elR Y;obtain rfl:=som ae;have af:=elR L;obtain rfl:=som af;exact Wr<|rtO<|h_ hr z ⟨bup H s5,z,aE⟩
   exact a_g<|fun _ q=>⟨som<|ifF hmt hch,q.k sn,s5⟩
  rintro aF _ ⟨rfl,_,aG⟩;have ah:=elL Y;revert aF;exact fun _ q=>⟨som ah,q.k sn,aG⟩
 rintro aH _ ⟨rfl,_,aI⟩;have ai:=elL L;revert aH;refine Wo<|Ws<|Ra z<|Wn ?_
 obtain rfl:=som ai;exact Wr<|h_ hr z ⟨bup H aI,z,ii z⟩
theorem b_d {x1:Int} {x2:Int} {x3:Int} {res:Bool} (hm:a_I x1 x2 x3=some res) (hBw:B≤w0.z) (p1_0:inI x1) (p2_0:inI x2) (p3_0:inI x3):o_ prog 103 [vI x1,vI x2,vI x3] w0 (Q0 w0 B res):=by
 unfold a_I at hm
 refine goF func103 z z (lb z) fun fn hr=>Ws<|Ra z<|Wn<|Wq ?_
 obtain ⟨J,H,I⟩:=bdS hm;refine Wt (fun a w=>∃ (x4:Bool),x4=J∧Sat 15 [(6,vB x4)] a∧Below w0.z w0 w) ?_ ?_
 ·refine Wg<|Rm z<|Rm z<|R z (b_r z z)<|Rm z ?_
  rcases bs (decide<|x2≤x1) with G | G
  ·exact Rh z G (mv z)<|Rh z G (mv z)<|Rh z G (b_y z z)<|R z (pT z G z)<|Ra z<|Wl (fun _ q=>⟨decide<|x1≤x3,som<|ifT H G,q.k<|s1 z,br w0⟩)
  iterate 3 refine Nh z G ?_
  exact R z (pF z G z)<|Ra z<|Wl (fun _ q=>⟨false,som<|ifF H G,q.k<|s1 z,br w0⟩)
 rintro L _ ⟨x4,rfl,_,s6⟩;revert L;refine Wo ?_;obtain rfl:=som I;exact Wr<|h_ hr z ⟨s6,z⟩
def Q11 (w0:World) (B:Zone) (r:(List UInt8)) (v:Value) (w':World):Prop:=Bw w0 w'∧(fun J=>∃ G H I S1,(sl G H I)=v∧a_ w' S1 (sl G H I) J∧S1.Nodup∧(∀ k∈S1,w0.z≤k)) r
theorem W_w16 {x1:Int} {x2:Int} {res:(List UInt8)} (hm:e_C n x1 x2=some res) (hBw:B≤w0.z) (p1_0:inI x1) (p2_0:inI x2):o_ prog 165 [vI x1,vI x2] w0 (Q11 w0 B res):=by
 unfold e_C at hm
 refine goF func165 z z (lb z) fun fn hr=>Ws<|Ra z<|Wn<|Ws<|E z (f0 (α:=UInt8) R_) ?_
 rintro _ wm ⟨ad,ne,cf,rfl,s7,hp⟩;refine Ra z<|Wn<|Wq<|Wq ?_
 obtain ⟨aa,W,hmq⟩:=bdS hm;refine Wt (fun a w=>∃ (xg:Bool),xg=aa∧Sat 35 [(0,vI x1),(1,vI x2),(5,sl ad ne cf),(18,vB xg)] a∧Below wm.z wm w) ?_ ?_
 ·refine Wg<|Rm z ?_
  obtain ⟨ab,ae,hmr⟩:=bdS W;refine E z (fc call103 z<|b_d (B:=B) ae (zt' hBw s7.s) p2_0 (ii z)<|ii z) ?_;rintro _ _ ⟨sh,rfl⟩;refine R z (not_ z)<|Rm z ?_
  rcases bs (!ab) with I | I
  ·iterate 6 refine Nh z I ?_
   exact R z (pT z I z)<|Wl (fun _ q=>⟨true,som<|ifT hmr I,q.k<|s4 z z z z,sh⟩)
  refine Rh z I (mv z)<|Rh z I (mv z) ?_
  have ht:=lt_ s7.s sh.s;obtain ⟨_,af,Y⟩:=bdS<|ifF hmr I;refine Eg z z I z (fc call107 z<|g_D (B:=B) af (zt' hBw ht) p2_0) ?_;rintro _ _ ⟨ss,rfl,_⟩;refine Rh z I (sb_ z z) ?_;obtain ⟨ah,ai,a0⟩:=bdS Y;refine Eg z z I z (fc call103 z<|b_d (B:=B) ai (zt' hBw<|lt_ ht ss.s) p1_0 (ii z)<|iS _ _) ?_;rintro _ _ ⟨aj,rfl⟩;exact Rh z I (not_ z)<|R z (pF z I z)<|Wl (fun _ q=>⟨!ah,som a0,q.k<|s4 z z z z,bup (bup sh ss) aj⟩)
 rintro ak G ⟨xg,rfl,_,s8⟩;revert ak;refine Wo<|Wc z (fun hci=>?_) (fun hci=>?_)
 ·refine Ws<|Rm z<|Ra z<|Wn ?_
  obtain rfl:=som<|ifT hmq hci;exact Wr<|h_ hr z ⟨bup s7 s8,ad,ne,cf,[w0.z],z,hp.e s8,a_h,b_ lr⟩
 refine Wk<|Wq<|Ws<|Rm z<|R z (sb_ z z)<|Ra z<|Wn ?_
 obtain ⟨_,a1,hmu⟩:=bdS<|ifF hmq hci;refine b_Y (σ:=(List UInt8)×Int) (ρ:=List UInt8) (fun s a w=>un2 (fun V x6=>∃ J L O H,Sat 35 [(0,vI x1),(5,sl J L O),(6,vI x6)] a∧Chg (· ∈ [w0.z]) G w∧a_ w H (sl J L O) V∧H.Nodup∧(∀ k∈H,k∈[w0.z]∨G.z≤k)∧inI x6) s) (fun s a w=>un2 (fun V x6=>∃ J L O H,Sat 35 [(5,sl J L O)] a∧Chg (· ∈ [w0.z]) G w∧a_ w H (sl J L O) V∧H.Nodup∧(∀ k∈H,k∈[w0.z]∨G.z≤k)∧inI x6) s) (fun r ex a w=>ex = .ret∧L_ prog fn (Q11 w0 B r) a w) a1 ?_ ?_ ?_ ?_
 ·exact fun _ q=>⟨ad,ne,cf,[w0.z],q.k<|s3 z z z,cr [w0.z] G,hp.e s8,a_h,io sr,iS _ _⟩
 ·rintro ⟨V,x6⟩ _ wj _ ⟨J,L,O,H,a2,sk,ha,hb,hc,hv⟩ a4;have hmw:=b_1 a4;refine Wu ?_ a2;refine Wq<|Ws<|Rm z<|R z (b_r z z)<|Wn<|Wc z (fun hcl=>?_) (fun hcl=>?_)
  ·refine Wk<|Wq<|Wb<|Wg<|Rm z<|Rm z<|Rm z<|R z (c_K z z) ?_
   obtain ⟨_,al,a5⟩:=bdS<|ifT hmw hcl;refine R z (i_Q z z<|nnS al)<|R z (d_t d_3 d_5 z)<|E z (fS [(.tmp 31)] R_ z z z (a_d z) (lb z)<|lb z) ?_
   rintro _ wx ⟨rfl,hn⟩;have ho:=hn.below;have aA:=a_E hn b_0;obtain ⟨am,an,a6⟩:=bdS a5;refine E z (a_Q (α:=UInt8) R_ an z z (ha.e ho) hb (hn.blk:Blk wx wj.z [(vU<|byteI<|mkB<|b_Q .i64 x1<|a_e 8 x6)]) b_0 an_ H_) ?_;rintro _ ao ⟨Sy,ap,aq,ar,rfl,au,av,aw,ax⟩;refine Ra z<|Wn<|Wg<|Rm z<|R z (sb_ z z)<|Ra z<|Wl ?_
   have hz : ∀ k∈H,k∈[w0.z]∨G.z≤k:=or1 hc (io sr)<|z_ lr;exact fun _ q=>⟨(am,I_ x6 1),(som a6).symm,⟨ap,aq,ar,Sy,q.k<|s3 z z z,(cM (f_ (cM (cr [w0.z] G) sk (io sr):Chg (· ∈ [w0.z]) G wj) ho:Chg (· ∈ [w0.z]) G wx) au hz:Chg (· ∈ [w0.z]) G ao),av,aw,(or2 ax hz an_ (z_<|lt_ sk.s ho.s) : ∀ k∈Sy,k∈[w0.z]∨G.z≤k),iS _ _⟩⟩
  exact We<|fun a' ha'=>b_w (som<|ifF hmw hcl).symm ⟨J,L,O,H,Sat.weaken ha'<|s1 z,(cM (cr [w0.z] G) sk (io sr):Chg (· ∈ [w0.z]) G wj),ha,hb,(or1 hc (io sr) (z_ lr) : ∀ k∈H,k∈[w0.z]∨G.z≤k),hv⟩
 ·rintro ⟨V,x6⟩ ay _ rfl ⟨J,L,O,H,_,az,ha,hb,hc,hv⟩;have a7:=elL hmu;revert ay;refine Wo<|Ws<|Rm z<|Ra z<|Wn ?_
  obtain rfl:=som<|b_1 a7;exact Wr<|h_ hr z ⟨bM (bup s7 s8) az<|b_ lr,J,L,O,H,z,ha,hb,(or1 hc (b_ lr) (b_7<|lt_ s7.s s8.s) : ∀ k∈H,w0.z≤k)⟩
 rintro _ _ _ _ rfl ⟨rfl,a8⟩;have a9:=elR hmu;obtain rfl:=som a9;exact ⟨a8,z⟩
theorem W_w1z {x1:Int} {x2:Int} {res:(List UInt8)} (hm:e_L n x1 x2=some res) (hBw:B≤w0.z) (p1_0:inI x1) (p2_0:inI x2):o_ prog 164 [vI x1,vI x2] w0 (Q11 w0 B res):=by
 unfold e_L at hm
 refine goF func164 z z (lb z) fun fn hr=>Ws<|Ra z<|Wn<|Ws<|Rm z<|Rm z ?_
 obtain ⟨_,er,hms⟩:=bdS hm;refine E z (fc call165 z<|W_w16 (B:=B) er hBw p1_0 p2_0) ?_;rintro _ G ⟨sd,au,nt,cv,_,rfl,W,_,_⟩;refine Ra z<|Wn<|Ws<|E z (f0 (α:=UInt8) R_) ?_
 rintro _ H ⟨aw,nx,cy,rfl,se,hz⟩;refine Ra z<|Wn<|Wq<|Ws<|Rm z ?_
 have hj:=W.e se;refine R z (lnR n_ z<|or_ hj<|a_.lt W)<|R z (sb_ z z)<|Ra z<|Wn ?_
 obtain ⟨_,Y,hmk⟩:=bdS hms;refine b_Y (σ:=(List UInt8)×Int) (ρ:=List UInt8) (fun s a w=>un2 (fun V x6=>∃ J L O I,Sat 27 [(5,sl au nt cv),(6,sl J L O),(7,vI x6)] a∧Chg (· ∈ [G.z]) H w∧a_ w I (sl J L O) V∧I.Nodup∧(∀ k∈I,k∈[G.z]∨H.z≤k)∧inI x6) s) (fun s a w=>un2 (fun V x6=>∃ J L O I,Sat 27 [(6,sl J L O)] a∧Chg (· ∈ [G.z]) H w∧a_ w I (sl J L O) V∧I.Nodup∧(∀ k∈I,k∈[G.z]∨H.z≤k)∧inI x6) s) (fun r ex a w=>ex = .ret∧L_ prog fn (Q11 w0 B r) a w) Y ?_ ?_ ?_ ?_
 ·exact fun _ q=>⟨aw,nx,cy,[G.z],q.k<|s3 z z z,cr [G.z] H,hz,a_h,io sr,iS _ _⟩
 ·rintro ⟨V,x6⟩ _ wf _ ⟨J,L,O,I,a0,s9,ha,hb,hc,hl⟩ a1;have hmm:=b_1 a1;refine Wu ?_ a0;refine Wq<|Ws<|Rm z<|R z (b_r z z)<|Wn<|Wc z (fun hcg=>?_) (fun hcg=>?_)
  ·refine Wk<|Wq<|Wb<|Wg<|Rm z<|Rm z<|Rm z ?_
   obtain ⟨a8,a9,a2⟩:=bdS<|ifT hmm hcg;refine RX z (at_ (α:=UInt8) n_ z_5 z z z (or_ (hj.c s9<|ds<|mnr<|a_.lt W)<|a_.lt W) a9) ?_;rintro _ ⟨_,_,_,rfl,aa,ab,_⟩;obtain rfl:=u8 ab;refine R z (l1 g_5 z fid<|aa.at0 z)<|E z (fS [(.tmp 23)] R_ z z z (a_d z) (lb z)<|lb z) ?_
   rintro _ wn ⟨rfl,hh⟩;have hi:=hh.below;have aq:=a_E hh b_0;obtain ⟨ad,ae,a4⟩:=bdS a2;refine E z (a_Q (α:=UInt8) R_ ae z z (ha.e hi) hb (hh.blk:Blk wn wf.z [vU (byteI a8)]) b_0 an_ H_) ?_;rintro _ af ⟨So,ah,ai,aj,rfl,ak,al,am,an⟩;refine Ra z<|Wn<|Wg<|Rm z<|R z (sb_ z z)<|Ra z<|Wl ?_
   have hp : ∀ k∈I,k∈[G.z]∨H.z≤k:=or1 hc (io sr)<|z_ lr;exact fun _ q=>⟨(ad,I_ x6 1),(som a4).symm,⟨ah,ai,aj,So,q.k<|s3 z z z,(cM (f_ (cM (cr [G.z] H) s9 (io sr):Chg (· ∈ [G.z]) H wf) hi:Chg (· ∈ [G.z]) H wn) ak hp:Chg (· ∈ [G.z]) H af),al,am,(or2 an hp an_ (z_<|lt_ s9.s hi.s) : ∀ k∈So,k∈[G.z]∨H.z≤k),iS _ _⟩⟩
  exact We<|fun a' ha'=>b_w (som<|ifF hmm hcg).symm ⟨J,L,O,I,Sat.weaken ha'<|s1 z,(cM (cr [G.z] H) s9 (io sr):Chg (· ∈ [G.z]) H wf),ha,hb,(or1 hc (io sr) (z_ lr) : ∀ k∈I,k∈[G.z]∨H.z≤k),hl⟩
 ·rintro ⟨V,x6⟩ ao _ rfl ⟨J,L,O,I,_,ap,ha,hb,hc,hl⟩;have a5:=elL hmk;revert ao;refine Wo<|Ws<|Rm z<|Ra z<|Wn ?_
  obtain rfl:=som<|b_1 a5;have hq:=m1 sd.s;exact Wr<|h_ hr z ⟨bM (bup sd se) ap hq,J,L,O,I,z,ha,hb,a_2 hc hq<|lt_ sd.s se.s⟩
 rintro _ _ _ _ rfl ⟨rfl,a6⟩;have a7:=elR hmk;obtain rfl:=som a7;exact ⟨a6,z⟩
theorem g_E {x1:g_} {x2:Int} {res:(List UInt8)} (hm:c_V n x1 x2=some res) (hBw:B≤w0.z) (p1_0:x1.name.b.length≤LEN) (p1_1:inI x1.kind) (p1_2:inI x1.size) (W:repS w0 B (sl AB NB CB) x1.bytes) (Y:repS w0 B (sl A8 N8 C8) x1.names) (a0:repS w0 B (sl AC NC CC) x1.tags) (a1:repS w0 B (sl AD ND CD) x1.kids) (p2_0:inI x2):o_ prog 110 [(.agg #[Str.v x1.name,vI x1.kind,vI x1.size,vB x1.little,sl AB NB CB,sl A8 N8 C8,sl AC NC CC,sl AD ND CD]),vI x2] w0 (Q11 w0 B res):=by
 unfold c_V at hm
 refine goF func110 z z (lb z) fun fn hr=>Ws<|E z (fb z) ?_
 rintro _ J ⟨rfl,h3⟩;have G:=h3.below;have h1:Blk J w0.z (vR x1 AB NB CB A8 N8 C8 AC NC CC AD ND CD):=h3.blk;refine Ra z<|Wn<|Wq<|Ws<|R z (fd c_r z)<|R z (l1 g_4 z fid<|h1.at z)<|Wn<|Wc z (fun H=>?_) (fun H=>?_)
 ·refine Ws<|Rm z<|R z (fd a_t z)<|R z (l1 g_3 z fid<|h1.at z) ?_
  obtain ⟨_,L,I⟩:=bdS<|ifT hm H;refine E z (fc call164 z<|W_w1z (B:=B) L (zt' hBw G.s) p2_0 p1_2) ?_;rintro _ _ ⟨s7,O,V,ca,Sb,rfl,hc,hd,he⟩;refine Ra z<|Wn ?_
  obtain rfl:=som I;exact Wr<|h_ hr z ⟨bup G s7,O,V,ca,Sb,z,hc,hd,l_ he G.s⟩
 refine Wk<|Ws<|Rm z<|R z (fd a_t z)<|R z (l1 g_3 z fid<|h1.at z) ?_
 obtain ⟨_,ef,hmg⟩:=bdS<|ifF hm H;refine E z (fc call165 z<|W_w16 (B:=B) ef (zt' hBw G.s) p2_0 p1_2) ?_;rintro _ _ ⟨sh,ai,nj,ck,Sl,rfl,hn,ho,hp⟩;refine Ra z<|Wn ?_
 obtain rfl:=som hmg;exact Wr<|h_ hr z ⟨bup G sh,ai,nj,ck,Sl,z,hn,ho,l_ hp G.s⟩
theorem W_w17 {x1:List UInt8} {res:Int} (hm:e_s x1=some res) (hBw:B≤w0.z) (p1_0:repS w0 B (sl A0 N0 C0) x1):o_ prog 111 [sl A0 N0 C0] w0 (Q9 w0 B res):=by
 unfold e_s at hm
 refine goF func111 z z (lb z) fun fn hr=>Ws<|Ra z<|Wn<|Ws<|Ra z<|Wn<|Wq<|Ws<|Ra z<|Wn ?_
 obtain ⟨_,I,G⟩:=bdS hm;refine Wf (σ:=Int) (ρ:=Int) (fun (k3:Nat) (x0:Int) a w=>Sat 20 [(0,sl A0 N0 C0),(3,vI x0),(4,vI ((k3:Nat):Int))] a∧Below w0.z w0 w∧inI x0) (fun (x0:Int) a w=>Sat 20 [(3,vI x0)] a∧Below w0.z w0 w∧inI x0) (fun r ex a w=>ex = .ret∧L_ prog fn (Q9 w0 B r) a w) I ?_ ?_ ?_ ?_ ?_
 ·exact fun _ q=>⟨q.k<|s3 z z z,br w0,ii z⟩
 ·rintro k3 x0 _ _ _ H ⟨J,s5,h1⟩ hma;refine Wu ?_ J;refine Wq<|Ws<|Rm z<|Rm z ?_
  have h6:=p1_0.e s5;refine R z (lnR n_ z h6)<|R z (lss z z)<|Wn<|Wc z (fun _=>?_) (fun hc=>(a_3 H hc).elim)
  refine Wk<|Wq<|Wb<|Wg<|Rm z<|Rm z<|Rm z ?_
  obtain ⟨xb,ec,hmd⟩:=bdS hma;refine RX z (at_ (α:=UInt8) n_ z_5 z z z h6 ec) ?_;rintro _ ⟨_,_,_,rfl,he,hf,_⟩;obtain rfl:=u8 hf;exact R z (l1 g_5 z fid<|he.at0 z)<|R z (b_W d_5 d_3 z)<|R z (add_ z z)<|R z (f_2 z z (by decide))<|Ra z<|Wn<|Wg<|Rm z<|R z (inc_ H (lt_ (repS.len p1_0) M_) z z)<|Ra z<|Wl (fun _ q=>⟨a_W (j_ x0<|byteI xb) 256,(som hmd).symm,⟨q.k<|s3 z z z,s5,e_P<|iA _ _⟩⟩)
 ·rintro x0 _ _ ⟨hSg,s7,h1⟩;refine Wu ?_ hSg;refine Wq<|Ws<|Rm z<|Rm z<|R z (lnR n_ z<|p1_0.e s7)<|R z (lss z z)<|Wn<|Wc z (fun hc=>(a_4 hc).elim) (fun _=>?_)
  exact We<|fun a' ha'=>⟨rfl,⟨Sat.weaken ha'<|s1 z,s7,h1⟩⟩
 ·rintro x0 ah _ rfl ⟨_,si,h1⟩;have hmj:=elL G;revert ah;refine Wo<|Ws<|Rm z<|Ra z<|Wn ?_
  obtain rfl:=som hmj;exact Wr<|h_ hr z ⟨si,z,h1⟩
 rintro _ _ _ _ rfl ⟨rfl,hqk⟩;have hml:=elR G;obtain rfl:=som hml;exact ⟨hqk,z⟩
structure i_j (f:d_→Int→Val→Option (List UInt8)):Prop where
  run : ∀ {A0 A9 AA:Option Addr} {N0 C0 N9 C9 NA CA:Nat} {B:Zone} {x1:d_} {x2:Int} {x3:Val} {res:(List UInt8)} {w0:World} (hm:f x1 x2 x3=some res) (hBw:B≤w0.z) (p1_0:repS w0 B (sl A0 N0 C0) x1.rules) (p2_0:inI x2) (p3_0:inI x3.number) (p3_1:repS w0 B (sl A9 N9 C9) x3.bytes) (p3_2:repS w0 B (sl AA NA CA) x3.items),o_ prog 54 [(.agg #[sl A0 N0 C0]),vI x2,(.agg #[vI x3.number,sl A9 N9 C9,sl AA NA CA])] w0<|Q11 w0 B res
abbrev k_c (n:Nat):Prop:=i_j (c_W n).spec_l11Print
theorem T_w0a (gU:k_c n):i_j (e_M n<|c_W n):=by
 constructor
 intro A0 A9 AA N0 C0 N9 C9 NA CA B x1 x2 x3 res w0 hm hBw p1_0 p2_0 p3_0 p3_1 p3_2;unfold e_M at hm
 refine goF func54 z z (lb z) fun fn hr=>Ws<|E z (fb z) ?_
 rintro _ wm ⟨rfl,bN⟩;have I:=bN.below;have ho:Blk wm w0.z [sl A0 N0 C0]:=bN.blk;refine E z (fb z) ?_;rintro _ wa ⟨rfl,bO⟩;have h4:=bO.below;have h5:Blk wa wm.z [vI x3.number,sl A9 N9 C9,sl AA NA CA]:=bO.blk;refine Ra z<|Wn<|Ws<|R z (fd X_ z) ?_
 have a1:=ho.e h4;refine R z (l1 a_0 z fid<|a1.at z)<|Rm z ?_
 obtain ⟨a6,gV,dF⟩:=bdS hm;have hn:=(I.ag B).e h4;refine RX z (at_ (α:=g_) a_1 p_ z z z (p1_0.g hn) gV) ?_;rintro _ ⟨_,_,_,rfl,gW,gX,_⟩;obtain ⟨a7,a8,a9,aa,ab,ad,ae,af,ai,ak,al,am,rfl,bP,bQ,bR,a2,bS,bT,a3⟩:=a_z gX;refine R z (lN (vs:=vR a6 a7 a8 a9 aa ab ad ae af ai ak al am) J_ p_ z z fid gW)<|E z (fa b_i) ?_
 rintro _ gY ⟨rfl,bU⟩;have h1:=bU.below;have a4:Blk gY wa.z [(Str.v (⟨[]⟩:Str)),vI 0,vI 0,vB false,sl none 0 0,sl none 0 0,sl none 0 0,sl none 0 0]:=bU.blk;refine E0 (fs (cur':=vR a6 a7 a8 a9 aa ab ad ae af ai ak al am) p_ z z a4 z (lb z) (oA z) z) ?_;rintro _ H ⟨bV,gZ⟩;have G:=gZ.one;refine Wn<|Ws<|E z (f0 (α:=UInt8) R_) ?_
 rintro _ wc ⟨h2,h3,h6,rfl,s3,h7⟩;refine Ra z<|Wn<|Wq<|Ws<|Ra z<|Wn ?_
 obtain ⟨_,dG,bx⟩:=bdS dF;refine Wf (σ:=List UInt8) (ρ:=List UInt8) (fun (bW:Nat) (L:List UInt8) a w=>∃ ah ng ci S2,Sat 169 [(3,pt w0.z),(5,pt wm.z),(7,pt wa.z),(8,sl ah ng ci),(9,vI ((bW:Nat):Int))] a∧Chg (· ∈ [H.z]) wc w∧a_ w S2 (sl ah ng ci) L∧S2.Nodup∧(∀ k∈S2,k∈[H.z]∨wc.z≤k)) (fun (L:List UInt8) a w=>∃ ah ng ci S2,Sat 169 [(3,pt w0.z),(5,pt wm.z),(7,pt wa.z),(8,sl ah ng ci)] a∧Chg (· ∈ [H.z]) wc w∧a_ w S2 (sl ah ng ci) L∧S2.Nodup∧(∀ k∈S2,k∈[H.z]∨wc.z≤k)) (fun r ex a w=>ex = .ret∧L_ prog fn (Q11 w0 B r) a w) dG ?_ ?_ ?_ ?_ ?_
 ·exact fun _ q=>⟨h2,h3,h6,[H.z],q.k<|s5 z z z z z,cr [H.z] wc,h7,a_h,io sr⟩
 ·rintro bW L _ h9 _ aw ⟨ah,ng,ci,S2,dH,ss,hd,hw,he⟩ dI;refine Wu ?_ dH;refine Wq<|Ws<|Rm z<|R z (fd a_j z) ?_
  have bX:=(((h5.e h1).c G<|djs<|mmr h5.lt).e s3).c ss<|djs<|mm1 h5.lt<|lt_ h1.s G.s
  refine R z (l1 a_F z fid<|bX.at z) ?_;have bY:=lt_ I.s h4.s;have bZ : ∀ k∈[wa.z],¬ B k:=or0 (b_ lr)  (m_<|zt' hBw bY);have c0:=lt_ (lt_ bY h1.s) G.s;have c1 : ∀ k∈[H.z],¬ B k:=or0 (b_ lr)  (m_<|zt' hBw c0);have c2:=(((hn.e h1).c G<|c_ bZ).e s3).c ss<|c_ c1
  refine R z (lnR a_U z<|p3_2.g c2)<|R z (lss z z)<|Wn<|Wc z (fun _=>?_) (fun hc=>(a_3 aw hc).elim)
  refine Wk<|Wq<|Wb (Wd (X:=noX) 8192 (.rd 0<|.rd 1<|.rd 2<|.rd 3<|.rd 4<|.rd 5<|.rd 7<|.rd 8<|.rd 9<|.rd 10<|.rd 11<|.ef 6<|.ef 12<|.ef 13<|.rd 14 .done) mo (by kernel_rfl) fun ha sp _=>dR z z (mv z) ?_)
  refine dR z z (lN (vs:=[sl A0 N0 C0]) y_ t_ z z fid<|(((((a1.e h1).c G<|djs<|mm1 ho.lt h4.s).e s3).c ss<|djs<|mm1 ho.lt<|lt_ (lt_ h4.s h1.s) G.s).e sp).row 0 1 z)<|dR z z (lN (vs:=vR a6 a7 a8 a9 aa ab ad ae af ai ak al am) J_ p_ z z fid<|(((bV.e s3).c ss<|djs<|mm1 a4.lt G.s).e sp).row 0 8 z)<|dR z z (fd b_c z) ?_
  have c3:=bX.e sp;refine dR z z (l1 g_3 z fid<|c3.at z)<|dR z z (mv z)<|dR z z (fd a_j z)<|dR z z (l1 a_F z fid<|c3.at z)<|dR z z (mv z) ?_
  obtain ⟨hb,hf,dJ⟩:=bdS dI;have c4:=c2.e sp;refine dRX z z (at_ (α:=Val) a_U i_ z z z (p3_2.g c4) hf) ?_;rintro _ ⟨_,_,_,rfl,hg,hh,_⟩;obtain ⟨hi,hj,hk,hl,hp,hq,rfl,hu,hv,hx⟩:=j_p hh;refine dR z z (lN (vs:=[vI hb.number,sl hi hj hk,sl hl hp hq]) u_ i_ z z fid hg) ?_;have an:=((((h1.ag B).c G<|c_ bZ).e s3).c ss<|c_ c1).e sp;have c5:=lt_ (lt_ (lt_ c0 s3.s) ss.s) sp.s;obtain ⟨_,hy,dK⟩:=bdS dJ;refine dE z z (fc call109 z<|d_A (B:=B) hy (zt' hBw c5) bP bQ bR (a2.g an) (bS.g an) (bT.g an) (a3.g an) p3_0<|ic (Nat.le_of_lt aw)<|lt_ (repS.len p3_2) M_) (.inr fun _ _ h=>v_<|h.1) ?_;rintro _ hA ⟨sx,rfl,hB⟩;obtain ⟨_,hC,dL⟩:=bdS dK;refine dE z z (fc call54 z<|gU.run (B:=B) hC (zt' hBw<|lt_ c5 sx.s) (p1_0.g<|c4.e sx) hB hu (hv.e sx)<|hx.e sx) (.inr fun _ _ h=>v_<|h.1) ?_;rintro _ hD ⟨aH,_,_,_,_,rfl,hE,_,_⟩;obtain ⟨hF,hG,dN⟩:=bdS dL;refine dE z z (fN (α:=UInt8) R_ hG z z (((hd.e sp).e sx).e aH) hw<|a_.rep hE) (.inl z) ?_;rintro _ hH ⟨c6,hI,hJ,hK,rfl,hL,hM,hN,hO⟩;refine dR z z (asg z)<|pD<|Wo<|Wg<|Rm z<|R z (inc_ aw (lt_ (repS.len p3_2) M_) z z)<|Ra z<|Wl ?_
  have c7 : ∀ k∈S2,k∈[H.z]∨wc.z≤k:=or1 he (io sr)<|z_ lr;exact fun _ q=>⟨hF,(som dN).symm,⟨hI,hJ,hK,c6,q.k<|s5 z z z z z,(cM (f_ (f_ (f_ (cM (cr [H.z] wc) ss (io sr):Chg (· ∈ [H.z]) wc h9) sp:Chg (· ∈ [H.z]) wc ha) sx:Chg (· ∈ [H.z]) wc hA) aH:Chg (· ∈ [H.z]) wc hD) hL c7:Chg (· ∈ [H.z]) wc hH),hM,hN,(or1 hO c7 (z_<|lt_ (lt_ (lt_ ss.s sp.s) sx.s) aH.s) : ∀ k∈c6,k∈[H.z]∨wc.z≤k)⟩⟩
 ·rintro L _ hP ⟨ah,ng,ci,S2,dO,aI,hd,hw,he⟩;refine Wu ?_ dO;refine Wq<|Ws<|Rm z<|R z (fd a_j z)<|R z (l1 a_F z fid<|((((h5.e h1).c G<|djs<|mmr h5.lt).e s3).c aI<|djs<|mm1 h5.lt<|lt_ h1.s G.s).at z) ?_
  have c8:=lt_ I.s h4.s;refine R z (lnR a_U z<|p3_2.g<|(((hn.e h1).c G<|c_ (or0 (b_ lr)  (m_<|zt' hBw c8) : ∀ k∈[wa.z],¬ B k)).e s3).c aI<|c_ (or0 (b_ lr)  (m_<|zt' hBw<|lt_ (lt_ c8 h1.s) G.s) : ∀ k∈[H.z],¬ B k))<|R z (lss z z)<|Wn<|Wc z (fun hc=>(a_4 hc).elim) (fun _=>?_)
  exact We<|fun a' ha'=>⟨rfl,⟨ah,ng,ci,S2,Sat.weaken ha'<|s4 z z z z,(cM (cr [H.z] wc) aI (io sr):Chg (· ∈ [H.z]) wc hP),hd,hw,(or1 he (io sr) (z_ lr) : ∀ k∈S2,k∈[H.z]∨wc.z≤k)⟩⟩
 ·rintro L hQ wb rfl ⟨ah,ng,ci,S2,_,s6,hd,hw,he⟩;have bz:=elL bx;revert hQ;refine Wo<|Wq<|Ws<|R z (fd a_x z) ?_
  have aJ:=mm1 a4.lt G.s;have ht:=(bV.e s3).c s6<|djs aJ
  refine R z (l1 g_3 z fid<|ht.at z)<|Wn<|Wb<|Ws<|R z (eql z z)<|Ra z<|Wn<|Wc z (fun ax=>?_) (fun ax=>?_)
  ·refine Ws<|R z (lN (vs:=vR a6 a7 a8 a9 aa ab ad ae af ai ak al am) J_ p_ z z fid<|ht.row 0 8 z)<|R z (fd b_c z)<|R z (l1 g_3 z fid<|((((h5.e h1).c G<|djs<|mmr h5.lt).e s3).c s6<|djs<|mm1 h5.lt<|lt_ h1.s G.s).at z) ?_
   have aK:=lt_ I.s h4.s;have aL:=lt_ (lt_ aK h1.s) G.s;have ao:=(((h1.ag B).c G<|c_ (or0 (b_ lr)  (m_<|zt' hBw aK) : ∀ k∈[wa.z],¬ B k)).e s3).c s6<|c_ (or0 (b_ lr)  (m_<|zt' hBw aL) : ∀ k∈[H.z],¬ B k)
   have c9:=lt_ (lt_ aL s3.s) s6.s;obtain ⟨_,hR,dP⟩:=bdS<|ifT bz ax;refine E z (fc call110 z<|g_E (B:=B) hR (zt' hBw c9) bP bQ bR (a2.g ao) (bS.g ao) (bT.g ao) (a3.g ao) p3_0) ?_;rintro _ _ ⟨hS,hT,hU,hV,hW,rfl,hX,hY,hZ⟩;refine Ra z<|Wn ?_
   obtain rfl:=som dP;exact Wr<|rtO<|h_ hr z ⟨bup (bM (bup (bM (bup (bup I h4) h1) G<|m1 aK) s3) s6<|m1 aL) hS,hT,hU,hV,hW,z,hX,hY,l_ hZ c9⟩
  have bA:=ifF bz ax;refine Ws<|R z (eql z z)<|Ra z<|Wn<|Wc z (fun ay=>?_) (fun ay=>?_)
  ·refine Ws<|E z (f0 (α:=UInt8) R_) ?_
   rintro _ _ ⟨_,_,_,rfl,ap,i0⟩;refine R z (fd a_K z)<|R z (l1 Q_ z fid<|(ht.e ap).at z) ?_
   obtain ⟨_,i1,dS⟩:=bdS<|ifT bA ay;have aM:=lt_ I.s h4.s;have aN:=lt_ (lt_ aM h1.s) G.s;refine E z (fN (α:=UInt8) R_ i1 z z i0 a_h<|a2.g<|((((h1.ag B).c G<|c_ (or0 (b_ lr)  (m_<|zt' hBw aM) : ∀ k∈[wa.z],¬ B k)).e s3).c s6<|c_ (or0 (b_ lr)  (m_<|zt' hBw aN) : ∀ k∈[H.z],¬ B k)).e ap) ?_;rintro _ _ ⟨i2,i3,i4,i5,rfl,i6,i7,i8,i9⟩;refine Ra z<|Wn ?_
   obtain rfl:=som dS;have ca:=lt_ (lt_ aN s3.s) s6.s;have cb:=m1 ca;exact Wr<|rtO<|h_ hr z ⟨bM (bup (bM (bup (bM (bup (bup I h4) h1) G<|m1 aM) s3) s6<|m1 aN) ap) i6 cb,i3,i4,i5,i2,z,i7,i8,a_2 i9 cb<|lt_ ca ap.s⟩
  have bB:=ifF bA ay;refine Ws<|R z (eql z z)<|Ra z<|Wn<|Wc z (fun az=>?_) (fun az=>?_)
  ·refine Wq<|Wd (X:=noX) 16384 (.rd 0<|.rd 1<|.rd 2<|.rd 3<|.rd 4<|.rd 5<|.rd 6<|.rd 7<|.rd 8<|.rd 9<|.rd 10<|.rd 12<|.rd 13<|.ef 11<|.ef 14<|.rd 15 .done) mo (by kernel_rfl) fun iY sy _=>dR z z (fd X_ z) ?_;refine dR z z (l1 a_0 z fid<|(((((a1.e h1).c G<|djs<|mm1 ho.lt h4.s).e s3).c s6<|djs<|mm1 ho.lt<|lt_ (lt_ h4.s h1.s) G.s).e sy).at z)<|dR z z (fd K_ z)<|dR z z (l1 B_ z fid<|(ht.e sy).at z) ?_
   obtain ⟨_,ia,dT⟩:=bdS<|ifT bB az;have aO:=lt_ I.s h4.s;have cc : ∀ k∈[wa.z],¬ B k:=or0 (b_ lr)  (m_<|zt' hBw aO);have aP:=lt_ (lt_ aO h1.s) G.s;have cd : ∀ k∈[H.z],¬ B k:=or0 (b_ lr)  (m_<|zt' hBw aP);refine dRX z z (at_ (α:=Int) w_ z_3 z z z (a3.g<|((((h1.ag B).c G<|c_ cc).e s3).c s6<|c_ cd).e sy) ia) ?_;rintro _ ⟨_,_,_,rfl,ib,id,_⟩;obtain ⟨rfl,_⟩:=O_ id;refine dR z z (l1 g_3 z fid<|ib.at0 z) ?_;obtain ⟨ie,ig,dU⟩:=bdS dT;have aQ:=((((hn.e h1).c G<|c_ cc).e s3).c s6<|c_ cd).e sy;refine dRX z z (at_ (α:=g_) a_1 p_ z z z (p1_0.g aQ) ig) ?_;rintro _ ⟨_,_,_,rfl,ih,ij,_⟩;obtain ⟨ik,il,im,ip,iq,ir,it,iu,iv,iw,ix,iy,rfl,iz,iA,iB,iC,iD,iE,iF⟩:=a_z ij;refine dR z z (lN (vs:=vR ie ik il im ip iq ir it iu iv iw ix iy) J_ p_ z z fid ih)<|dR z z (fd a_T z) ?_
   have ce:=((((h5.e h1).c G<|djs<|mmr h5.lt).e s3).c s6<|djs<|mm1 h5.lt<|lt_ h1.s G.s).e sy;refine dR z z (l1 Q_ z fid<|ce.at z) ?_;have cf:=p3_1.g aQ;refine dR z z (lnR n_ z cf)<|dR z z (fd a_T z)<|dR z z (l1 Q_ z fid<|ce.at z) ?_
   have aR:=lt_ (lt_ (lt_ aP s3.s) s6.s) sy.s;obtain ⟨_,iG,dV⟩:=bdS dU;refine dE z z (fc call110 z<|g_E (B:=B) iG (zt' hBw aR) iz iA iB iC iD iE iF<|a_M<|repS.len cf) (.inr fun _ _ h=>v_<|h.1) ?_;rintro _ _ ⟨aS,_,_,_,_,rfl,iH,iI,iJ⟩;obtain ⟨_,iK,dW⟩:=bdS dV;refine dE z z (fN (α:=UInt8) R_ iK z z iH iI<|p3_1.g<|aQ.e aS) (.inl z) ?_;rintro _ _ ⟨iL,iM,iN,iO,rfl,iP,iQ,iR,iS⟩;refine dR z z (asg z)<|pD<|Wo ?_
   obtain rfl:=som dW;have cg:=l_ iJ aR;exact Wr<|rtO<|h_ hr z ⟨bM (bup (bup (bM (bup (bM (bup (bup I h4) h1) G<|m1 aO) s3) s6<|m1 aP) sy) aS) iP cg,iM,iN,iO,iL,z,iQ,iR,a_2 iS cg<|lt_ aR aS.s⟩
  have bC:=ifF bB az;refine Ws<|R z (eql z z)<|Ra z<|Wn<|Wc z (fun aA=>?_) (fun aA=>?_)
  ·refine Wq<|Wd (X:=noX) 8192 (.rd 0<|.rd 1<|.rd 2<|.rd 3<|.rd 4<|.rd 5<|.rd 6<|.rd 7<|.rd 8<|.rd 9<|.rd 10<|.rd 12<|.ef 11<|.ef 13<|.rd 14 .done) mo (by kernel_rfl) fun iZ su _=>dR z z (fd X_ z) ?_;refine dR z z (l1 a_0 z fid<|(((((a1.e h1).c G<|djs<|mm1 ho.lt h4.s).e s3).c s6<|djs<|mm1 ho.lt<|lt_ (lt_ h4.s h1.s) G.s).e su).at z)<|dR z z (fd K_ z)<|dR z z (l1 B_ z fid<|(ht.e su).at z) ?_
   obtain ⟨_,iT,dX⟩:=bdS<|ifT bC aA;have aT:=lt_ I.s h4.s;have ch : ∀ k∈[wa.z],¬ B k:=or0 (b_ lr)  (m_<|zt' hBw aT);have aU:=lt_ (lt_ aT h1.s) G.s;have cj : ∀ k∈[H.z],¬ B k:=or0 (b_ lr)  (m_<|zt' hBw aU);refine dRX z z (at_ (α:=Int) w_ z_3 z z z (a3.g<|((((h1.ag B).c G<|c_ ch).e s3).c s6<|c_ cj).e su) iT) ?_;rintro _ ⟨_,_,_,rfl,iU,iV,_⟩;obtain ⟨rfl,_⟩:=O_ iV;refine dR z z (l1 g_3 z fid<|iU.at0 z) ?_;obtain ⟨iW,iX,dY⟩:=bdS dX;have ck:=((((hn.e h1).c G<|c_ ch).e s3).c s6<|c_ cj).e su;refine dRX z z (at_ (α:=g_) a_1 p_ z z z (p1_0.g ck) iX) ?_;rintro _ ⟨_,_,_,rfl,dZ,e0,_⟩;obtain ⟨e1,e2,e3,e4,e5,e6,e7,e8,e9,ea,eb,ec,rfl,ed,ee,eg,eh,ei,ej,ek⟩:=a_z e0;refine dR z z (lN (vs:=vR iW e1 e2 e3 e4 e5 e6 e7 e8 e9 ea eb ec) J_ p_ z z fid dZ)<|dR z z (fd a_j z)<|dR z z (l1 a_F z fid<|(((((h5.e h1).c G<|djs<|mmr h5.lt).e s3).c s6<|djs<|mm1 h5.lt<|lt_ h1.s G.s).e su).at z) ?_
   have cm:=p3_2.g ck;refine dR z z (lnR a_U z cm)<|dR z z (mv z) ?_
   have aV:=lt_ (lt_ (lt_ aU s3.s) s6.s) su.s;obtain ⟨_,em,da⟩:=bdS dY;refine dE z z (fc call110 z<|g_E (B:=B) em (zt' hBw aV) ed ee eg eh ei ej ek<|a_M<|repS.len cm) (.inr fun _ _ h=>v_<|h.1) ?_;rintro _ _ ⟨aW,_,_,_,_,rfl,en,eo,ep⟩;obtain ⟨_,er,db⟩:=bdS da;refine dE z z (fN (α:=UInt8) R_ er z z en eo<|or_ ((hd.e su).e aW)<|a_.lt hd) (.inl z) ?_;rintro _ _ ⟨es,eu,ew,ey,rfl,ez,eA,eB,eC⟩;refine dR z z (asg z)<|pD<|Wo ?_
   obtain rfl:=som db;have cn:=l_ ep aV;exact Wr<|rtO<|h_ hr z ⟨bM (bup (bup (bM (bup (bM (bup (bup I h4) h1) G<|m1 aT) s3) s6<|m1 aU) su) aW) ez cn,eu,ew,ey,es,z,eA,eB,a_2 eC cn<|lt_ aV aW.s⟩
  have bD:=ifF bC aA;refine Ws<|R z (eql z z)<|Ra z<|Wn<|Wc z (fun aB=>?_) (fun aB=>?_)
  ·refine Wq<|Wd (X:=noX) 4096 (.rd 0<|.rd 1<|.rd 2<|.rd 3<|.rd 4<|.rd 5<|.rd 6<|.rd 7<|.rd 8<|.rd 9<|.rd 11<|.ef 10<|.ef 12<|.rd 13 .done) mo (by kernel_rfl) fun j0 sv _=>dR z z (fd X_ z) ?_;refine dR z z (l1 a_0 z fid<|(((((a1.e h1).c G<|djs<|mm1 ho.lt h4.s).e s3).c s6<|djs<|mm1 ho.lt<|lt_ (lt_ h4.s h1.s) G.s).e sv).at z)<|dR z z (fd K_ z)<|dR z z (l1 B_ z fid<|(ht.e sv).at z) ?_
   obtain ⟨_,eD,dc⟩:=bdS<|ifT bD aB;have aX:=lt_ I.s h4.s;have co : ∀ k∈[wa.z],¬ B k:=or0 (b_ lr)  (m_<|zt' hBw aX);have aY:=lt_ (lt_ aX h1.s) G.s;have cp : ∀ k∈[H.z],¬ B k:=or0 (b_ lr)  (m_<|zt' hBw aY);refine dRX z z (at_ (α:=Int) w_ z_3 z z z (a3.g<|((((h1.ag B).c G<|c_ co).e s3).c s6<|c_ cp).e sv) eD) ?_;rintro _ ⟨_,_,_,rfl,eE,eF,_⟩;obtain ⟨rfl,_⟩:=O_ eF;refine dR z z (l1 g_3 z fid<|eE.at0 z) ?_;obtain ⟨eG,eH,dd⟩:=bdS dc;refine dRX z z (at_ (α:=g_) a_1 p_ z z z (p1_0.g<|((((hn.e h1).c G<|c_ co).e s3).c s6<|c_ cp).e sv) eH) ?_;rintro _ ⟨_,_,_,rfl,eI,eJ,_⟩;obtain ⟨eK,eL,eM,eN,eO,eP,eQ,eR,eS,eT,eU,eV,rfl,eW,eX,eY,eZ,f1,f2,f3⟩:=a_z eJ;refine dR z z (lN (vs:=vR eG eK eL eM eN eO eP eQ eR eS eT eU eV) J_ p_ z z fid eI)<|dR z z (fd b_c z)<|dR z z (l1 g_3 z fid<|(((((h5.e h1).c G<|djs<|mmr h5.lt).e s3).c s6<|djs<|mm1 h5.lt<|lt_ h1.s G.s).e sv).at z)<|dR z z (mv z) ?_
   have aZ:=lt_ (lt_ (lt_ aY s3.s) s6.s) sv.s;obtain ⟨_,f4,de⟩:=bdS dd;refine dE z z (fc call110 z<|g_E (B:=B) f4 (zt' hBw aZ) eW eX eY eZ f1 f2 f3 p3_0) (.inr fun _ _ h=>v_<|h.1) ?_;rintro _ _ ⟨b0,_,_,_,_,rfl,f5,f6,f7⟩;obtain ⟨_,f8,df⟩:=bdS de;refine dE z z (fN (α:=UInt8) R_ f8 z z f5 f6<|or_ ((hd.e sv).e b0)<|a_.lt hd) (.inl z) ?_;rintro _ _ ⟨f9,fe,ff,fg,rfl,fh,fi,fj,fk⟩;refine dR z z (asg z)<|pD<|Wo ?_
   obtain rfl:=som df;have cq:=l_ f7 aZ;exact Wr<|rtO<|h_ hr z ⟨bM (bup (bup (bM (bup (bM (bup (bup I h4) h1) G<|m1 aX) s3) s6<|m1 aY) sv) b0) fh cq,fe,ff,fg,f9,z,fi,fj,a_2 fk cq<|lt_ aZ b0.s⟩
  have bE:=ifF bD aB;refine Ws<|R z (eql z z)<|Ra z<|Wn<|Wc z (fun aC=>?_) (fun aC=>?_)
  ·refine Ws<|R z (fd a_j z)<|R z (l1 a_F z fid<|((((h5.e h1).c G<|djs<|mmr h5.lt).e s3).c s6<|djs<|mm1 h5.lt<|lt_ h1.s G.s).at z) ?_
   have b1:=lt_ I.s h4.s;have b2:=lt_ (lt_ b1 h1.s) G.s;refine R z (lnR a_U z<|p3_2.g<|(((hn.e h1).c G<|c_ (or0 (b_ lr)  (m_<|zt' hBw b1) : ∀ k∈[wa.z],¬ B k)).e s3).c s6<|c_ (or0 (b_ lr)  (m_<|zt' hBw b2) : ∀ k∈[H.z],¬ B k))<|R z (d_t d_3 d_5 z)<|E z (fS [(.tmp 105)] R_ z z z (a_d z) (lb z)<|lb z) ?_
   rintro _ fl ⟨rfl,b3⟩;have b4:=b3.below;have j1:Blk fl wb.z [(vU<|byteI<|mkB (x3.items.length:Int))]:=b3.blk;refine Rm z ?_;obtain ⟨_,fm,dg⟩:=bdS<|ifT bE aC;refine E z (fN (α:=UInt8) R_ fm z z (a_E b3 b_0) a_h<|or_ (hd.e b4)<|a_.lt hd) ?_;rintro _ _ ⟨fo,fp,fq,fr,rfl,ft,fu,fv,fw⟩;refine Ra z<|Wn ?_
   obtain rfl:=som dg;have ct:=lt_ (lt_ b2 s3.s) s6.s;have cu:=m1 ct;exact Wr<|rtO<|h_ hr z ⟨bM (bup (bM (bup (bM (bup (bup I h4) h1) G<|m1 b1) s3) s6<|m1 b2) b4) ft cu,fp,fq,fr,fo,z,fu,fv,a_2 fw cu<|lt_ ct b4.s⟩
  have bF:=ifF bE aC;refine Ws<|R z (eql z z)<|Ra z<|Wn<|Wc z (fun aD=>?_) (fun aD=>?_)
  ·refine Ws<|Rm z<|Rm z ?_
   obtain ⟨fx,fy,dh⟩:=bdS<|ifT bF aD;refine E z (fc call111 z<|W_w17 (B:=wb.z) fy zr<|a_.rep hd) ?_;rintro _ fz ⟨b5,rfl,_⟩;refine R z (d_t d_3 d_5 z)<|E z (fS [(.tmp 114)] R_ z z z (a_d z) (lb z)<|lb z) ?_
   rintro _ fA ⟨rfl,b6⟩;have b7:=b6.below;have j2:=a_E b6 b_0;obtain ⟨_,fB,di⟩:=bdS dh;refine E z (a_Q (α:=UInt8) R_ fB z z ((hd.e b5).e b7) hw (b6.blk:Blk fA fz.z [(vU<|byteI<|mkB fx)]) b_0 an_ H_) ?_;rintro _ _ ⟨cv,fC,fD,fE,rfl,fF,fG,fH,fI⟩;refine Ra z<|Wn ?_
   obtain rfl:=som di;have cw:=lt_ I.s h4.s;have cx:=lt_ (lt_ cw h1.s) G.s;have cy:=m1 cx;have cz:=lt_ cx s3.s;have cA:=a_2 he cy cz;exact Wr<|rtO<|h_ hr z ⟨bM (bup (bup (bM (bup (bM (bup (bup I h4) h1) G<|m1 cw) s3) s6 cy) b5) b7) fF cA,fC,fD,fE,cv,z,fG,fH,(or2 fI cA an_ (b_7<|lt_ (lt_ (lt_ cz s6.s) b5.s) b7.s) : ∀ k∈cv,w0.z≤k)⟩
  have bG:=ifF bF aD;refine Ws<|R z (eql z z)<|Ra z<|Wn<|Wc z (fun aE=>?_) (fun aE=>?_)
  ·refine Wq<|Ws<|Ra z<|Wn ?_
   obtain ⟨_,dj,bH⟩:=bdS<|ifT bG aE;refine Wf (σ:=List UInt8) (ρ:=List UInt8) (fun (aq:Nat) (xr:List UInt8) a w=>∃ aj nk cl J,Sat 169 [(5,pt wm.z),(7,pt wa.z),(8,sl aj nk cl),(10,vI ((aq:Nat):Int))] a∧Chg (· ∈ S2) wb w∧a_ w J (sl aj nk cl) xr∧J.Nodup∧(∀ k∈J,k∈S2∨wb.z≤k)) (fun (xr:List UInt8) a w=>∃ aj nk cl J,Sat 169 [(7,pt wa.z),(8,sl aj nk cl)] a∧Chg (· ∈ S2) wb w∧a_ w J (sl aj nk cl) xr∧J.Nodup∧(∀ k∈J,k∈S2∨wb.z≤k)) (fun r ex a w=>ex = .ret∧L_ prog fn (Q11 w0 B r) a w) dj ?_ ?_ ?_ ?_ ?_
   ·exact fun _ q=>⟨ah,ng,ci,S2,q.k<|s4 z z z z,cr S2 wb,hd,hw,io sr⟩
   ·rintro aq xr _ b8 _ bI ⟨aj,nk,cl,J,dk,O,V,W,hz⟩ dl;refine Wu ?_ dk;refine Wq<|Ws<|Rm z<|R z (fd a_T z) ?_
    have cB:=lt_ h1.s G.s;have cC:=mm1 h5.lt cB;have cD:=lt_ cB s3.s;have cE : ∀ k∈S2,k∉[wm.z]:=or1 he cC<|P_ (b_ h5.lt) cD;have b9:=((((h5.e h1).c G<|djs<|mmr h5.lt).e s3).c s6<|djs cC).c O<|djs cE
    refine R z (l1 Q_ z fid<|b9.at z) ?_;have cF:=lt_ I.s h4.s;have cG : ∀ k∈[wa.z],¬ B k:=or0 (b_ lr)  (m_<|zt' hBw cF);have cH:=lt_ (lt_ cF h1.s) G.s;have ba : ∀ k∈[H.z],¬ B k:=or0 (b_ lr)  (m_<|zt' hBw cH);have cI:=lt_ cH s3.s;have bb : ∀ k∈S2,¬ B k:=or1 he ba<|m_<|zt' hBw cI;have bc:=((((hn.e h1).c G<|c_ cG).e s3).c s6<|c_ ba).c O<|c_ bb
    refine R z (lnR n_ z<|p3_1.g bc)<|R z (lss z z)<|Wn<|Wc z (fun _=>?_) (fun hc=>(a_3 bI hc).elim)
    refine Wk<|Wq<|Wb<|Wq<|Wq ?_
    obtain ⟨fJ,dm,dn⟩:=bdS dl;refine Wt (fun a w=>∃ (be:Bool),be=fJ∧Sat 169 [(5,pt wm.z),(7,pt wa.z),(8,sl aj nk cl),(10,vI ((aq:Nat):Int)),(143,vB be)] a∧Below b8.z b8 w) ?_ ?_
    ·refine Wd (X:=noX) 0 (.rd 0<|.rd 1<|.rd 2<|.rd 3<|.rd 4<|.rd 5<|.rd 6<|.rd 7<|.rd 8<|.rd 9<|.rd 10<|.rd 11<|.rd 12<|.rd 13<|.rd 14<|.rd 15<|.rd 16<|.rd 17 .done) mo (by kernel_rfl) fun j3 Y _=>dR z z (fd a_T z) ?_
     have cJ:=b9.e Y;refine dR z z (l1 Q_ z fid<|cJ.at z)<|dR z z (mv z) ?_
     obtain ⟨fK,fL,dp⟩:=bdS dm;have cK:=p3_1.g<|bc.e Y
     refine dRX z z (at_ (α:=UInt8) n_ z_5 z z z cK fL) ?_;rintro _ ⟨_,_,_,rfl,fM,fO,_⟩;obtain rfl:=u8 fO;refine dR z z (l1 g_5 z fid<|fM.at0 z)<|dR z z (fd a_K z) ?_
     refine dR z z (l1 Q_ z fid<|((ht.c O<|djs (or1 he aJ (P_ (b_ a4.lt)<|lt_ G.s s3.s) : ∀ k∈S2,k∉[wa.z])).e Y).at z) ?_;obtain ⟨fP,fQ,bJ⟩:=bdS dp;refine dRX z z (at_ (α:=UInt8) n_ z_5 z z z (a2.g<|(((((h1.ag B).c G<|c_ cG).e s3).c s6<|c_ ba).c O<|c_ bb).e Y) fQ) ?_;rintro _ ⟨_,_,_,rfl,fR,fT,_⟩;obtain rfl:=u8 fT;refine dR z z (l1 g_5 z fid<|fR.at0 z)<|dR z z (eql z z)<|dR z z (mv z) ?_
     rcases bs ((byteI fK)==(byteI fP)) with hcf | hcf
     ·iterate 6 refine dRn z z z hcf z ?_
      exact dR z z (pT z hcf z)<|pD (fun _ q=>⟨true,som<|ifT bJ hcf,q.k<|s5 z z z z z,Y⟩)
     refine dRg z z z hcf z (fd a_T z)<|dRg z z z hcf z (l1 Q_ z fid<|cJ.at z)<|dRg z z z hcf z (mv z) ?_
     obtain ⟨fU,fV,dq⟩:=bdS<|ifF bJ hcf;refine b_K z z z hcf z (at_ (α:=UInt8) n_ z_5 z z z cK fV) ?_;rintro _ ⟨_,_,_,rfl,fW,fX,_⟩;obtain rfl:=u8 fX;exact dRg z z z hcf z (l1 g_5 z fid<|fW.at0 z)<|dRg z z z hcf z (eql z z)<|dR z z (pF z hcf z)<|pD (fun _ q=>⟨(byteI fU)==(byteI (92:UInt8)),som dq,q.k<|s5 z z z z z,Y⟩)
    rintro fY wq ⟨be,rfl,_,a0⟩;revert fY;refine Wo ?_;obtain ⟨fZ,bK,dr⟩:=bdS dn;refine Wt (fun a w=>∃ (bf:List UInt8),bf=fZ ∧ ∃ bg bh bi a5,Sat 169 [(5,pt wm.z),(7,pt wa.z),(8,sl bg bh bi),(10,vI ((aq:Nat):Int))] a∧Chg (· ∈ J) wq w∧a_ w a5 (sl bg bh bi) bf∧a5.Nodup∧(∀ k∈a5,k∈J∨wq.z≤k)) ?_ ?_
    ·refine Wc z (fun aF=>?_)<|fun aF=>?_
     ·refine Wg<|Rm z<|E z (fS [(.const<|.int .u8 92)] R_ z z z (a_d z) (lb z)<|lb z) ?_
      rintro _ cL ⟨rfl,bj⟩;have bk:=bj.below;have j4:=a_E bj<|j_L (x:=(92:UInt8)) z
      obtain ⟨g0,g1,ds⟩:=bdS<|ifT bK aF;refine E z (a_Q (α:=UInt8) R_ g1 z z ((V.e a0).e bk) W (bj.blk:Blk cL wq.z [(vU<|byteI (92:UInt8))]) (j_L (x:=(92:UInt8)) z) an_ H_) ?_;rintro _ g2 ⟨cN,g3,g4,g5,rfl,g6,g7,g8,g9⟩;refine Ra z<|Wl ?_
      exact fun _ q=>⟨g0,som ds,g3,g4,g5,cN,q.k<|s4 z z z z,(cM (f_ (cr J wq) bk:Chg (· ∈ J) wq cL) g6 (io sr):Chg (· ∈ J) wq g2),g7,g8,(or2 g9 (io sr) an_ (z_ bk.s) : ∀ k∈cN,k∈J∨wq.z≤k)⟩
     exact a_g<|fun _ q=>⟨xr,som<|ifF bK aF,aj,nk,cl,J,q.k<|s4 z z z z,cr J wq,V.e a0,W,io sr⟩
    rintro ga cO ⟨bf,rfl,bg,bh,bi,a5,_,ar,gb,gc,ge⟩;revert ga;refine Wo<|Wg<|Rm z<|R z (fd a_T z) ?_
    refine R z (l1 Q_ z fid<|((b9.e a0).c ar<|djs (or1 hz cE (P_ (b_ h5.lt)<|lt_ cD s6.s) : ∀ k∈J,k∉[wm.z])).at z)<|Rm z ?_
    obtain ⟨gf,gg,dt⟩:=bdS dr;refine RX z (at_ (α:=UInt8) n_ z_5 z z z (p3_1.g<|(bc.e a0).c ar<|c_ (or1 hz bb (m_<|zt' hBw<|lt_ cI s6.s) : ∀ k∈J,¬ B k)) gg) ?_;rintro _ ⟨_,_,_,rfl,gh,gi,_⟩;obtain rfl:=u8 gi;refine R z (l1 g_5 z fid<|gh.at0 z)<|E z (fS [(.tmp 152)] R_ z z z (a_d z) (lb z)<|lb z) ?_
    rintro _ cP ⟨rfl,bm⟩;have bn:=bm.below;have j5:=a_E bm b_0;obtain ⟨gj,gk,du⟩:=bdS dt;refine E z (a_Q (α:=UInt8) R_ gk z z (gb.e bn) gc (bm.blk:Blk cP cO.z [vU (byteI gf)]) b_0 an_ H_) ?_;rintro _ gl ⟨cQ,gm,gn,gp,rfl,gq,gr,gs,gt⟩;refine Ra z<|Wn<|Wg<|Rm z<|R z (inc_ bI (lt_ (repS.len p3_1) M_) z z)<|Ra z<|Wl ?_
    have cR:=lt_ O.s a0.s;have cS : ∀ k∈J,k∈S2∨wb.z≤k:=or1 hz (io sr)<|z_ lr;have cT : ∀ k∈a5,k∈S2∨wb.z≤k:=or1 ge cS<|z_ cR;exact fun _ q=>⟨gj,(som du).symm,⟨gm,gn,gp,cQ,q.k<|s4 z z z z,(cM (f_ (cM (f_ (cM (cr S2 wb) O (io sr):Chg (· ∈ S2) wb b8) a0:Chg (· ∈ S2) wb wq) ar cS:Chg (· ∈ S2) wb cO) bn:Chg (· ∈ S2) wb cP) gq cT:Chg (· ∈ S2) wb gl),gr,gs,(or2 gt cT an_ (z_<|lt_ (lt_ cR ar.s) bn.s) : ∀ k∈cQ,k∈S2∨wb.z≤k)⟩⟩
   ·rintro xr _ gu ⟨aj,nk,cl,J,dv,bo,V,W,hz⟩;refine Wu ?_ dv;refine Wq<|Ws<|Rm z<|R z (fd a_T z) ?_
    have cU:=lt_ h1.s G.s;have cV:=mm1 h5.lt cU;refine R z (l1 Q_ z fid<|(((((h5.e h1).c G<|djs<|mmr h5.lt).e s3).c s6<|djs cV).c bo<|djs (or1 he cV (P_ (b_ h5.lt)<|lt_ cU s3.s) : ∀ k∈S2,k∉[wm.z])).at z) ?_;have cW:=lt_ I.s h4.s;have cX:=lt_ (lt_ cW h1.s) G.s;have cY : ∀ k∈[H.z],¬ B k:=or0 (b_ lr)  (m_<|zt' hBw cX);refine R z (lnR n_ z<|p3_1.g<|((((hn.e h1).c G<|c_ (or0 (b_ lr)  (m_<|zt' hBw cW) : ∀ k∈[wa.z],¬ B k)).e s3).c s6<|c_ cY).c bo<|c_ (or1 he cY (m_<|zt' hBw<|lt_ cX s3.s) : ∀ k∈S2,¬ B k))<|R z (lss z z)<|Wn<|Wc z (fun hc=>(a_4 hc).elim) (fun _=>?_)
    exact We<|fun a' ha'=>⟨rfl,⟨aj,nk,cl,J,Sat.weaken ha'<|s2 z z,(cM (cr S2 wb) bo (io sr):Chg (· ∈ S2) wb gu),V,W,(or1 hz (io sr) (z_ lr) : ∀ k∈J,k∈S2∨wb.z≤k)⟩⟩
   ·rintro xr gv gw rfl ⟨aj,nk,cl,J,_,au,V,W,hz⟩;have dw:=elL bH;revert gv;refine Wo<|Ws<|Rm z<|R z (fd a_K z) ?_
    refine R z (l1 Q_ z fid<|(ht.c au<|djs (or1 he aJ (P_ (b_ a4.lt)<|lt_ G.s s3.s) : ∀ k∈S2,k∉[wa.z])).at z) ?_;obtain ⟨gx,gy,dx⟩:=bdS dw;have bp:=lt_ I.s h4.s;have bq:=lt_ (lt_ bp h1.s) G.s;have cZ : ∀ k∈[H.z],¬ B k:=or0 (b_ lr)  (m_<|zt' hBw bq);have br:=lt_ bq s3.s;refine RX z (at_ (α:=UInt8) n_ z_5 z z z (a2.g<|((((h1.ag B).c G<|c_ (or0 (b_ lr)  (m_<|zt' hBw bp) : ∀ k∈[wa.z],¬ B k)).e s3).c s6<|c_ cZ).c au<|c_ (or1 he cZ (m_<|zt' hBw br) : ∀ k∈S2,¬ B k)) gy) ?_;rintro _ ⟨_,_,_,rfl,gz,gA,_⟩;obtain rfl:=u8 gA;refine R z (l1 g_5 z fid<|gz.at0 z)<|E z (fS [(.tmp 159)] R_ z z z (a_d z) (lb z)<|lb z) ?_
    rintro _ gB ⟨rfl,bt⟩;have bu:=bt.below;have j6:=a_E bt b_0;obtain ⟨_,gC,dy⟩:=bdS dx;refine E z (a_Q (α:=UInt8) R_ gC z z (V.e bu) W (bt.blk:Blk gB gw.z [vU (byteI gx)]) b_0 an_ H_) ?_;rintro _ _ ⟨d0,gD,gE,gF,rfl,gG,gH,gI,gJ⟩;refine Ra z<|Wn ?_
    obtain rfl:=som dy;have d1:=m1 bq;have d2:=a_2 he d1 br;have d3:=lt_ br s6.s;have d4:=a_2 hz d2 d3;exact Wr<|rtO<|h_ hr z ⟨bM (bup (bM (bM (bup (bM (bup (bup I h4) h1) G<|m1 bp) s3) s6 d1) au d2) bu) gG d4,gD,gE,gF,d0,z,gH,gI,(or2 gJ d4 an_ (b_7<|lt_ (lt_ d3 au.s) bu.s) : ∀ k∈d0,w0.z≤k)⟩
   rintro _ _ _ _ rfl ⟨rfl,dz⟩;have dA:=elR bH;obtain rfl:=som dA;exact ⟨dz,z⟩
  have bL:=ifF bG aE;refine Ws<|R z (eql z z)<|Ra z<|Wn<|Wc z (fun aG=>?_) (fun aG=>?_)
  ·refine Ws<|E z (f0 (α:=UInt8) R_) ?_
   rintro _ _ ⟨_,_,_,rfl,av,gK⟩;refine R z (fd a_T z)<|R z (l1 Q_ z fid<|(((((h5.e h1).c G<|djs<|mmr h5.lt).e s3).c s6<|djs<|mm1 h5.lt<|lt_ h1.s G.s).e av).at z) ?_
   obtain ⟨_,gL,dB⟩:=bdS<|ifT bL aG;have bv:=lt_ I.s h4.s;have bw:=lt_ (lt_ bv h1.s) G.s;refine E z (fN (α:=UInt8) R_ gL z z gK a_h<|p3_1.g<|((((hn.e h1).c G<|c_ (or0 (b_ lr)  (m_<|zt' hBw bv) : ∀ k∈[wa.z],¬ B k)).e s3).c s6<|c_ (or0 (b_ lr)  (m_<|zt' hBw bw) : ∀ k∈[H.z],¬ B k)).e av) ?_;rintro _ _ ⟨gM,gN,gO,gP,rfl,gQ,gR,gS,gT⟩;refine Ra z<|Wn ?_
   obtain rfl:=som dB;have d5:=lt_ (lt_ bw s3.s) s6.s;have d6:=m1 d5;exact Wr<|rtO<|h_ hr z ⟨bM (bup (bM (bup (bM (bup (bup I h4) h1) G<|m1 bv) s3) s6<|m1 bw) av) gQ d6,gN,gO,gP,gM,z,gR,gS,a_2 gT d6<|lt_ d5 av.s⟩
  refine Wk<|Ws<|Rm z<|Ra z<|Wn ?_
  obtain rfl:=som<|ifF bL aG;have d7:=lt_ I.s h4.s;have d8:=lt_ (lt_ d7 h1.s) G.s;have d9:=m1 d8;exact Wr<|h_ hr z ⟨bM (bup (bM (bup (bup I h4) h1) G<|m1 d7) s3) s6 d9,ah,ng,ci,S2,z,hd,hw,a_2 he d9<|lt_ d8 s3.s⟩
 rintro _ _ _ _ rfl ⟨rfl,dC⟩;have dD:=elR bx;obtain rfl:=som dD;exact ⟨dC,z⟩
theorem A_w0a : ∀ n,k_c n
  | 0=>⟨fun hm=>by intros;exact nomatch (show none=some _ from hm)⟩
  | n+1=>T_w0a<|A_w0a n
theorem W_w0a:i_j (c_W n).spec_l11Print:=A_w0a n

theorem e_X {x1:d_} {res:Int} (hm:d_h x1=some res) (hBw:B≤w0.z) (p1_0:repS w0 B (sl A0 N0 C0) x1.rules):o_ prog 65 [(.agg #[sl A0 N0 C0])] w0 (Q9 w0 B res):=by
 unfold d_h at hm
 refine goF func65 z z (lb z) fun fn hr=>Ws<|E z (fb z) ?_
 rintro _ H ⟨rfl,G⟩;have h1:=G.below;refine Ra z<|Wn<|Ws<|R z (fd X_ z)<|R z (l1 a_0 z fid<|(G.blk:Blk H w0.z [sl A0 N0 C0]).at z)<|R z (lnR a_1 z<|p1_0.e h1)<|R z (sb_ z z)<|Ra z<|Wn ?_
 obtain rfl:=som hm;exact Wr<|h_ hr z ⟨h1,z,iS _ _⟩
theorem W_w18 {x1:Str} {res:Bool} (hm:e_p x1=some res) (hBw:B≤w0.z) (p1_0:x1.b.length≤LEN):o_ prog 173 [Str.v x1] w0 (Q0 w0 B res):=by
 unfold e_p at hm
 refine goF func173 z z (lb z) fun fn hr=>Ws<|Ra z<|Wn<|Wq<|Ws<|Ra z<|Wn ?_
 obtain ⟨_,hus,hmc⟩:=bdS hm;refine Wf (σ:=Unit) (ρ:=Bool) (fun (k4:Nat) (_:Unit) a w=>Sat 45 [(0,Str.v x1),(3,vI ((k4:Nat):Int))] a∧Below w0.z w0 w) (fun (_:Unit) a w=>Sat 45 [(0,Str.v x1)] a∧Below w0.z w0 w) (fun r ex a w=>ex = .ret∧L_ prog fn (Q0 w0 B r) a w) hus ?_ ?_ ?_ ?_ ?_
 ·exact fun _ q=>⟨q.k<|s2 z z,br w0⟩
 ·rintro k4 _ _ O _ hkd ⟨hSt,se⟩ hmu;refine Wu ?_ hSt;refine Wq<|Ws<|Rm z<|Rm z<|R z (lnT d_9 z)<|R z (lss z z)<|Wn<|Wc z (fun _=>?_) (fun hc=>(a_3 hkd hc).elim)
  refine Wk<|Wq<|Wb<|Wq ?_
  obtain ⟨uv,huw,hmx⟩:=bdS hmu;refine Wt (fun a w=>∃ (x5:Bool),x5=uv∧Sat 45 [(0,Str.v x1),(3,vI ((k4:Nat):Int)),(4,vB x5)] a∧Below O.z O w) ?_ ?_
  ·refine Wg<|Rm z<|Rm z ?_
   obtain ⟨xy,ef,hmg⟩:=bdS huw;refine R z (g_L d_9 z z (b_J ef).1 (b_J ef).2.1)<|R z (b_r z z)<|Rm z ?_
   rcases bs (decide<|(byteI (97:UInt8))≤(byteI xy)) with H | H
   ·refine Rh z H (mv z)<|Rh z H (mv z) ?_
    obtain ⟨xz,eh,Y⟩:=bdS<|ifT hmg H;exact Rh z H (g_L d_9 z z (b_J eh).1 (b_J eh).2.1)<|Rh z H (b_y z z)<|R z (pT z H z)<|Ra z<|Wl (fun _ q=>⟨decide<|(byteI xz)≤(byteI (122:UInt8)),som Y,q.k<|s3 z z z,br O⟩)
   iterate 4 refine Nh z H ?_
   exact R z (pF z H z)<|Ra z<|Wl (fun _ q=>⟨false,som<|ifF hmg H,q.k<|s3 z z z,br O⟩)
  rintro a8 V ⟨x5,rfl,_,si⟩;revert a8;refine Wo<|Wq ?_
  obtain ⟨a9,a0,a1⟩:=bdS hmx;refine Wt (fun a w=>∃ (W:Bool),W=a9∧Sat 45 [(0,Str.v x1),(3,vI ((k4:Nat):Int)),(4,vB x5),(5,vB W)] a∧Below V.z V w) ?_ ?_
  ·refine Wg<|Rm z<|Rm z ?_
   obtain ⟨aa,ej,hmk⟩:=bdS a0;refine R z (g_L d_9 z z (b_J ej).1 (b_J ej).2.1)<|R z (b_r z z)<|Rm z ?_
   rcases bs (decide<|(byteI (48:UInt8))≤(byteI aa)) with I | I
   ·refine Rh z I (mv z)<|Rh z I (mv z) ?_
    obtain ⟨ab,el,a2⟩:=bdS<|ifT hmk I;exact Rh z I (g_L d_9 z z (b_J el).1 (b_J el).2.1)<|Rh z I (b_y z z)<|R z (pT z I z)<|Ra z<|Wl (fun _ q=>⟨decide<|(byteI ab)≤(byteI (57:UInt8)),som a2,q.k<|s4 z z z z,br V⟩)
   iterate 4 refine Nh z I ?_
   exact R z (pF z I z)<|Ra z<|Wl (fun _ q=>⟨false,som<|ifF hmk I,q.k<|s4 z z z z,br V⟩)
  rintro ad L ⟨W,rfl,_,sm⟩;revert ad;refine Wo<|Wq ?_
  obtain ⟨ae,hun,hmo⟩:=bdS a1;refine Wt (fun a w=>∃ (xa:Bool),xa=ae∧Sat 45 [(0,Str.v x1),(3,vI ((k4:Nat):Int)),(41,vB xa)] a∧Below L.z L w) ?_ ?_
  ·refine Wg<|Rm z<|R z (not_ z)<|Rm z ?_
   rcases bs (!x5) with G | G
   ·have hmp:=ifT hun G;refine Rh z G (mv z)<|Rh z G (not_ z)<|Rh z G (mv z) ?_
    rcases bs (!W) with J | J
    ·exact Nh z J<|Nh z J<|Rh z G (pT z J z)<|R z (pT z G z)<|Wl (fun _ q=>⟨true,som<|ifT hmp J,q.k<|s3 z z z,br L⟩)
    exact Rh z J (mv z)<|Rh z J (eql z z)<|Rh z G (pF z J z)<|R z (pT z G z)<|Wl (fun _ q=>⟨((k4:Nat):Int)==0,som<|ifF hmp J,q.k<|s3 z z z,br L⟩)
   iterate 3 refine Nh z G ?_
   exact Nv z<|Nv z<|Nh z G<|R z (pF z G z)<|Wl (fun _ q=>⟨false,som<|ifF hun G,q.k<|s3 z z z,br L⟩)
  rintro af _ ⟨xa,rfl,_,sq⟩;revert af;refine Wo<|Wc z (fun hcb=>?_) (fun hcb=>?_)
  ·exact Ws<|Ra z<|Wn<|Wr<|rtO<|qL (som<|ifT hmo hcb).symm<|h_ hr z ⟨bup (bup (bup se si) sm) sq,z⟩
  exact Wk<|Wg<|Rm z<|R z (inc_ hkd (lt_ p1_0 M_) z z)<|Ra z<|Wl (fun _ q=>⟨(),(som<|ifF hmo hcb).symm,⟨q.k<|s2 z z,bup (bup (bup se si) sm) sq⟩⟩)
 ·rintro _ _ _ ⟨a3,ah⟩;refine Wu ?_ a3;refine Wq<|Ws<|Rm z<|Rm z<|R z (lnT d_9 z)<|R z (lss z z)<|Wn<|Wc z (fun hc=>(a_4 hc).elim) (fun _=>?_)
  exact We<|fun a' ha'=>⟨rfl,⟨Sat.weaken ha'<|s1 z,ah⟩⟩
 ·rintro _ ai _ rfl ⟨_,sr⟩;have a4:=elL hmc;revert ai;refine Wo<|Ws<|Rm z<|R z (lnT d_9 z) ?_
  obtain ⟨_,aj,a5⟩:=bdS a4;refine E z (fc call103 z<|b_d (B:=B) aj (zt' hBw sr.s) (a_M p1_0) (ii z)<|ii z) ?_;rintro _ _ ⟨ak,rfl⟩;refine Ra z<|Wn ?_
  obtain rfl:=som a5;exact Wr<|h_ hr z ⟨bup sr ak,z⟩
 rintro _ _ _ _ rfl ⟨rfl,a6⟩;have a7:=elR hmc;obtain rfl:=som a7;exact ⟨a6,z⟩
theorem c_I {x1:g_} {x2:Bool} {x3:Bool} {x4:Bool} {x5:Bool} {x6:Int} {res:Bool} (hm:b_T x1 x2 x3 x4 x5 x6=some res) (hBw:B≤w0.z) (p1_0:x1.name.b.length≤LEN) (p1_1:inI x1.kind) (p1_2:inI x1.size) (a1:repS w0 B (sl AB NB CB) x1.bytes) (a2:repS w0 B (sl A8 N8 C8) x1.names) (a3:repS w0 B (sl AC NC CC) x1.tags) (a4:repS w0 B (sl AD ND CD) x1.kids) (p6_0:inI x6):o_ prog 205 [(.agg #[Str.v x1.name,vI x1.kind,vI x1.size,vB x1.little,sl AB NB CB,sl A8 N8 C8,sl AC NC CC,sl AD ND CD]),vB x2,vB x3,vB x4,vB x5,vI x6] w0 (Q0 w0 B res):=by
 unfold b_T at hm
 refine goF func205 z z (lb z) fun fn hr=>Ws<|E z (fb z) ?_
 rintro _ wc ⟨rfl,hf⟩;have hd:=hf.below;have hb:Blk wc w0.z (vR x1 AB NB CB A8 N8 C8 AC NC CC AD ND CD):=hf.blk;refine Ra z<|Wn<|Wq ?_
 obtain ⟨uw,hux,hmy⟩:=bdS hm;refine Wt (fun a w=>∃ (xe:Bool),xe=uw∧Sat 67 [(12,vB xe)] a∧Below wc.z wc w) ?_ ?_
 ·refine Wg<|Rm z<|Rm z ?_
  obtain ⟨ug,huh,hmz⟩:=bdS hux;refine c_C 18 ug 4 ?_ ?_
  ·rcases bs x2 with a0 | a0
   ·iterate 3 refine Nh z a0 ?_
    exact R z (pT z a0 z)<|WLq 4 (ifT huh a0) z z z
   exact Rh z a0 (fd a_t z)<|Rh z a0 (l1 g_3 z fid<|hb.at z)<|Rh z a0 (eql z z)<|R z (pF z a0 z)<|WLq 4 (ifF huh a0) z z z
  refine Rm z ?_;obtain ⟨ui,huj,a5⟩:=bdS hmz;refine c_C 27 ui 8 ?_ ?_
  ·rcases bs ug with H | H
   ·have hmk:=ifT huj H;refine Rh z H (mv z)<|Rh z H (mv z) ?_
    rcases bs x3 with V | V
    ·iterate 4 refine Nh z V ?_
     exact Rh z H (pT z V z)<|R z (pT z H z)<|WLq 8 (ifT hmk V) z z z
    exact Rh z V (fd a_K z)<|Rh z V (l1 Q_ z fid<|hb.at z)<|Rh z V (lnR n_ z<|a1.e hd)<|Rh z V (eql z z)<|Rh z H (pF z V z)<|R z (pT z H z)<|WLq 8 (ifF hmk V) z z z
   exact Nh z H<|Nh z H<|Nv z<|Nv z<|Nv z<|Nv z<|Nh z H<|R z (pF z H z)<|WLq 8 (ifF huj H) z z z
  refine Rm z ?_;obtain ⟨ul,hum,a6⟩:=bdS a5;refine c_C 36 ul 8 ?_ ?_
  ·rcases bs ui with I | I
   ·have hmn:=ifT hum I;refine Rh z I (mv z)<|Rh z I (mv z) ?_
    rcases bs x4 with W | W
    ·iterate 4 refine Nh z W ?_
     exact Rh z I (pT z W z)<|R z (pT z I z)<|WLq 8 (ifT hmn W) z z z
    exact Rh z W (fd b_P z)<|Rh z W (l1 b_Z z fid<|hb.at z)<|Rh z W (lnR a_N z<|a2.e hd)<|Rh z W (eql z z)<|Rh z I (pF z W z)<|R z (pT z I z)<|WLq 8 (ifF hmn W) z z z
   exact Nh z I<|Nh z I<|Nv z<|Nv z<|Nv z<|Nv z<|Nh z I<|R z (pF z I z)<|WLq 8 (ifF hum I) z z z
  refine Rm z ?_;obtain ⟨uo,hup,a7⟩:=bdS a6;refine c_C 45 uo 8 ?_ ?_
  ·rcases bs ul with J | J
   ·have hmq:=ifT hup J;refine Rh z J (mv z)<|Rh z J (mv z) ?_
    rcases bs x5 with Y | Y
    ·iterate 4 refine Nh z Y ?_
     exact Rh z J (pT z Y z)<|R z (pT z J z)<|WLq 8 (ifT hmq Y) z z z
    exact Rh z Y (fd a_L z)<|Rh z Y (l1 B_ z fid<|hb.at z)<|Rh z Y (lnR w_ z<|a3.e hd)<|Rh z Y (eql z z)<|Rh z J (pF z Y z)<|R z (pT z J z)<|WLq 8 (ifF hmq Y) z z z
   exact Nh z J<|Nh z J<|Nv z<|Nv z<|Nv z<|Nv z<|Nh z J<|R z (pF z J z)<|WLq 8 (ifF hup J) z z z
  refine Rm z ?_;obtain ⟨ur,hus,hmt⟩:=bdS a7;refine c_C 56 ur 10 ?_ ?_
  ·rcases bs uo with L | L
   ·have hmu:=ifT hus L;refine Rh z L (mv z)<|Rh z L (lss z z)<|Rh z L (mv z) ?_
    rcases bs (decide<|x6<0) with O | O
    ·iterate 5 refine Nh z O ?_
     exact Rh z L (pT z O z)<|R z (pT z L z)<|WLq 10 (ifT hmu O) z z z
    exact Rh z O (fd K_ z)<|Rh z O (l1 B_ z fid<|hb.at z)<|Rh z O (lnR w_ z<|a4.e hd)<|Rh z O (mv z)<|Rh z O (eql z z)<|Rh z L (pF z O z)<|R z (pT z L z)<|WLq 10 (ifF hmu O) z z z
   iterate 3 refine Nh z L ?_
   exact Nv z<|Nv z<|Nv z<|Nv z<|Nv z<|Nh z L<|R z (pF z L z)<|WLq 10 (ifF hus L) z z z
  refine Rm z ?_
  rcases bs ur with G | G
  ·have hmv:=ifT hmt G;refine Rh z G (fd c_r z)<|Rh z G (l1 g_4 z fid<|hb.at z)<|Rh z G (not_ z)<|Rh z G (mv z) ?_
   rcases bs (!x1.little) with hca | hca
   ·iterate 3 refine Nh z hca ?_
    exact Rh z G (pT z hca z)<|R z (pT z G z)<|Ra z<|Wl (fun _ q=>⟨true,som<|ifT hmv hca,q.k<|s1 z,br wc⟩)
   exact Rh z hca (fd a_x z)<|Rh z hca (l1 g_3 z fid<|hb.at z)<|Rh z hca (eql z z)<|Rh z G (pF z hca z)<|R z (pT z G z)<|Ra z<|Wl (fun _ q=>⟨x1.kind==1,som<|ifF hmv hca,q.k<|s1 z,br wc⟩)
  iterate 4 refine Nh z G ?_
  exact Nv z<|Nv z<|Nv z<|Nh z G<|R z (pF z G z)<|Ra z<|Wl (fun _ q=>⟨false,som<|ifF hmt G,q.k<|s1 z,br wc⟩)
 rintro a8 _ ⟨xe,rfl,_,a9⟩;revert a8;refine Wo ?_;obtain rfl:=som hmy;exact Wr<|h_ hr z ⟨bup hd a9,z⟩
theorem e_Y {x1:d_} {x2:Int} {res:Int} (hm:c_P x1 x2=some res) (hBw:B≤w0.z) (p1_0:repS w0 B (sl A0 N0 C0) x1.rules) (p2_0:inI x2):o_ prog 206 [(.agg #[sl A0 N0 C0]),vI x2] w0 (Q9 w0 B res):=by
 unfold c_P at hm
 refine goF func206 z z (lb z) fun fn hr=>Ws<|E z (fb z) ?_
 rintro _ J ⟨rfl,O⟩;have h2:=O.below;have h6:Blk J w0.z [sl A0 N0 C0]:=O.blk;refine Ra z<|Wn<|Wq<|Wq ?_
 obtain ⟨uf,hug,hma⟩:=bdS hm;refine Wt (fun a w=>∃ (L:Bool),L=uf∧Sat 39 [(1,vI x2),(2,pt w0.z),(30,vB L)] a∧Below J.z J w) ?_ ?_
 ·refine Wg<|Rm z<|R z (fd X_ z)<|R z (l1 a_0 z fid<|h6.at z)<|R z (lnR a_1 z<|p1_0.e h2)<|R z (sb_ z z) ?_
  obtain ⟨rh,ei,hmb⟩:=bdS hug;refine E z (fc call103 z<|b_d (B:=B) ei (zt' hBw h2.s) p2_0 (ii z)<|iS _ _) ?_;rintro _ _ ⟨s4,rfl⟩;refine R z (not_ z)<|Rm z ?_
  rcases bs (!rh) with H | H
  ·iterate 7 refine Nh z H ?_
   exact R z (pT z H z)<|Rm z<|Nh z z<|Nh z z<|Nh z z<|Nh z z<|Nh z z<|Nh z z<|Nh z z<|Nh z z<|R z (pT z z z)<|Wl (fun _ q=>⟨true,som<|ifT hmb H,q.k<|s3 z z z,s4⟩)
  refine Rh z H (fd X_ z) ?_;have hc:=h6.e s4;refine Rh z H (l1 a_0 z fid<|hc.at z)<|Rh z H (mv z) ?_
  obtain ⟨xj,ek,hmd⟩:=bdS<|ifF hmb H;have he:=p1_0.g<|(h2.ag B).e s4
  refine RXg z z H z (at_ (α:=g_) a_1 p_ z z z he ek) ?_;rintro _ ⟨_,_,_,rfl,hl,hn,_⟩;obtain ⟨_,_,_,_,_,_,_,_,_,_,_,_,rfl,_,_,_,_,_,_,_⟩:=a_z hn;refine Rh z H (fd a_x z)<|Rh z H (l1 g_3 z fid<|hl.at (j:=1) z)<|Rh z H (nq z z)<|R z (pF z H z)<|Rm z ?_
  rcases bs (xj.kind != 1) with G | G
  ·iterate 8 refine Nh z G ?_
   exact R z (pT z G z)<|Wl (fun _ q=>⟨true,som<|ifT hmd G,q.k<|s3 z z z,s4⟩)
  refine Rh z G (fd X_ z)<|Rh z G (l1 a_0 z fid<|hc.at z)<|Rh z G (mv z) ?_
  obtain ⟨_,em,hmo⟩:=bdS<|ifF hmd G;refine RXg z z G z (at_ (α:=g_) a_1 p_ z z z he em) ?_;rintro _ ⟨_,_,_,rfl,hp,hq,_⟩;obtain ⟨_,_,_,_,_,_,_,_,_,_,_,_,rfl,_,_,ht,_,_,_,_⟩:=a_z hq;refine Rh z G (fd a_t z)<|Rh z G (l1 g_3 z fid<|hp.at (j:=2) z) ?_
  obtain ⟨rr,es,hmu⟩:=bdS hmo;refine Eg z z G z (fc call103 z<|b_d (B:=B) es (zt' hBw<|lt_ h2.s s4.s) ht (ii z)<|ii z) ?_;rintro _ _ ⟨sv,rfl⟩;exact Rh z G (not_ z)<|R z (pF z G z)<|Wl (fun _ q=>⟨!rr,som hmu,q.k<|s3 z z z,bup s4 sv⟩)
 rintro aw _ ⟨L,rfl,_,s5⟩;revert aw;refine Wo<|Wc z (fun I=>?_) (fun I=>?_)
 ·refine Ws<|Ra z<|Wn ?_
  obtain rfl:=som<|ifT hma I;exact Wr<|h_ hr z ⟨bup h2 s5,z,ii z⟩
 refine Wk<|Ws<|R z (fd X_ z)<|R z (l1 a_0 z fid<|(h6.e s5).at z)<|Rm z ?_
 obtain ⟨_,ex,hmy⟩:=bdS<|ifF hma I;refine RX z (at_ (α:=g_) a_1 p_ z z z (p1_0.g<|(h2.ag B).e s5) ex) ?_;rintro _ ⟨_,_,_,rfl,hz,W,_⟩;obtain ⟨_,_,_,_,_,_,_,_,_,_,_,_,rfl,_,_,Y,_,_,_,_⟩:=a_z W;refine R z (fd a_t z)<|R z (l1 g_3 z fid<|hz.at (j:=2) z) ?_
 obtain ⟨_,a0,V⟩:=bdS hmy;refine E z (fc call107 z<|g_D (B:=B) a0 (zt' hBw<|lt_ h2.s s5.s) Y) ?_;rintro _ _ ⟨a1,rfl,_⟩;refine R z (sb_ z z)<|Ra z<|Wn ?_
 obtain rfl:=som V;exact Wr<|h_ hr z ⟨bup (bup h2 s5) a1,z,iS _ _⟩
theorem W_w20 {x1:List Str} {x2:Str} {res:Bool} (hm:f_t x1 x2=some res) (hBw:B≤w0.z) (p1_0:repS w0 B (sl A0 N0 C0) x1) (p2_0:x2.b.length≤LEN):o_ prog 252 [sl A0 N0 C0,Str.v x2] w0 (Q0 w0 B res):=by
 unfold f_t at hm
 refine goF func252 z z (lb z) fun fn hr=>Ws<|Ra z<|Wn<|Wq<|Ws<|Ra z<|Wn ?_
 obtain ⟨_,O,I⟩:=bdS hm;refine Wf (σ:=Unit) (ρ:=Bool) (fun (k3:Nat) (_:Unit) a w=>Sat 18 [(0,sl A0 N0 C0),(1,Str.v x2),(5,vI ((k3:Nat):Int))] a∧Below w0.z w0 w) (fun (_:Unit) a w=>Sat 18 [] a∧Below w0.z w0 w) (fun r ex a w=>ex = .ret∧L_ prog fn (Q0 w0 B r) a w) O ?_ ?_ ?_ ?_ ?_
 ·exact fun _ q=>⟨q.k<|s3 z z z,br w0⟩
 ·rintro k3 _ _ _ _ J ⟨V,H⟩ hma;refine Wu ?_ V;refine Wq<|Ws<|Rm z<|Rm z ?_
  have h5:=p1_0.e H;refine R z (lnR a_N z h5)<|R z (lss z z)<|Wn<|Wc z (fun _=>?_) (fun hc=>(a_3 J hc).elim)
  refine Wk<|Wq<|Wb<|Ws<|Rm z<|Rm z ?_
  obtain ⟨_,eb,L⟩:=bdS hma;refine RX z (at_ (α:=Str) a_N z_9 z z z h5 eb) ?_;rintro _ ⟨_,_,_,rfl,hd,he,_⟩;obtain ⟨rfl,_⟩:=c_n he;refine R z (l1 g_9 z fid<|hd.at0 z)<|Rm z<|R z (f_3 z z)<|Wn<|Wc z (fun G=>?_) (fun G=>?_)
  ·exact Ws<|Ra z<|Wn<|Wr<|rtO<|qL (som<|ifT L G).symm<|h_ hr z ⟨H,z⟩
  exact Wk<|Wg<|Rm z<|R z (inc_ J (lt_ (repS.len p1_0) M_) z z)<|Ra z<|Wl (fun _ q=>⟨(),(som<|ifF L G).symm,⟨q.k<|s3 z z z,H⟩⟩)
 ·rintro _ _ _ ⟨hSc,s7⟩;refine Wu ?_ hSc;refine Wq<|Ws<|Rm z<|Rm z<|R z (lnR a_N z<|p1_0.e s7)<|R z (lss z z)<|Wn<|Wc z (fun hc=>(a_4 hc).elim) (fun _=>?_)
  exact We<|fun a' ha'=>⟨rfl,⟨Sat.weaken ha' sn,s7⟩⟩
 ·rintro _ af _ rfl ⟨_,sg⟩;have hmh:=elL I;revert af;refine Wo<|Ws<|Ra z<|Wn ?_
  obtain rfl:=som hmh;exact Wr<|h_ hr z ⟨sg,z⟩
 rintro _ _ _ _ rfl ⟨rfl,hqi⟩;have hmj:=elR I;obtain rfl:=som hmj;exact ⟨hqi,z⟩
theorem W_w21 {x1:List Str} {res:Bool} (hm:f_u x1=some res) (hBw:B≤w0.z) (p1_0:repS w0 B (sl A0 N0 C0) x1):o_ prog 207 [sl A0 N0 C0] w0 (Q0 w0 B res):=by
 unfold f_u at hm
 refine goF func207 z z (lb z) fun fn hr=>Ws<|Ra z<|Wn<|Wq<|Ws<|Ra z<|Wn ?_
 obtain ⟨_,huj,I⟩:=bdS hm;refine Wf (σ:=Unit) (ρ:=Bool) (fun (k1:Nat) (_:Unit) a w=>Sat 29 [(0,sl A0 N0 C0),(3,vI ((k1:Nat):Int))] a∧Below w0.z w0 w) (fun (_:Unit) a w=>Sat 29 [(0,sl A0 N0 C0)] a∧Below w0.z w0 w) (fun r ex a w=>ex = .ret∧L_ prog fn (Q0 w0 B r) a w) huj ?_ ?_ ?_ ?_ ?_
 ·exact fun _ q=>⟨q.k<|s2 z z,br w0⟩
 ·rintro k1 _ _ J _ hka ⟨hSk,s4⟩ hml;refine Wu ?_ hSk;refine Wq<|Ws<|Rm z<|Rm z<|R z (lnR a_N z<|p1_0.e s4)<|R z (lss z z)<|Wn<|Wc z (fun _=>?_) (fun hc=>(a_3 hka hc).elim)
  refine Wk<|Wq<|Wb<|Wq ?_
  obtain ⟨um,hun,hmb⟩:=bdS hml;refine Wt (fun a w=>∃ (x2:Bool),x2=um∧Sat 29 [(0,sl A0 N0 C0),(3,vI ((k1:Nat):Int)),(25,vB x2)] a∧Below J.z J w) ?_ ?_
  ·refine Wd (X:=noX) 0 (.rd 0<|.rd 1<|.rd 2<|.rd 3<|.ef 4<|.rd 5<|.rd 6<|.rd 7<|.rd 8<|.rd 9<|.rd 10<|.rd 11<|.rd 12<|.rd 13<|.ef 14<|.rd 15 .done) mo (by kernel_rfl) fun ab s5 _=>dR z z (mv z)<|dR z z (mv z) ?_
   obtain ⟨_,eo,hmp⟩:=bdS hun;have hd:=(s4.ag B).e s5;refine dRX z z (at_ (α:=Str) a_N z_9 z z z (p1_0.g hd) eo) ?_;rintro _ ⟨_,_,_,rfl,hq,ht,_⟩;obtain ⟨rfl,hu⟩:=c_n ht;refine dR z z (l1 g_9 z fid<|hq.at0 z) ?_;have he:=lt_ s4.s s5.s;obtain ⟨rr,es,hmc⟩:=bdS hmp;refine dE z z (fc call173 z<|W_w18 (B:=B) es (zt' hBw he) hu) (.inr fun _ _ h=>v_<|h.1) ?_;rintro _ _ ⟨s6,rfl⟩;refine dR z z (not_ z)<|dR z z (mv z) ?_
   rcases bs (!rr) with G | G
   ·iterate 7 refine dRn z z z G z ?_
    exact dEn z z z G z<|dR z z (pT z G z)<|pD (fun _ q=>⟨true,som<|ifT hmc G,q.k<|s3 z z z,bup s5 s6⟩)
   refine dRg z z z G z (mv z)<|dRg z z z G z (mv z) ?_
   obtain ⟨_,ev,hmw⟩:=bdS<|ifF hmc G;have hf:=p1_0.g<|hd.e s6
   refine b_K z z z G z (rX a_N z_9 z z hf z z ev) ?_;rintro _ ⟨_,_,_,rfl,hx⟩;refine dRg z z z G z (mv z)<|dRg z z z G z (mv z) ?_
   obtain ⟨_,ey,hmz⟩:=bdS hmw;refine b_K z z z G z (at_ (α:=Str) a_N z_9 z z z hf ey) ?_;rintro _ ⟨_,_,_,rfl,a1,a2,_⟩;obtain ⟨rfl,a3⟩:=c_n a2;refine dRg z z z G z (l1 g_9 z fid<|a1.at0 z) ?_;obtain ⟨a4,a5,L⟩:=bdS hmz;refine dEg z z z G z (fc call252 z<|W_w20 (B:=B) a5 (zt' hBw<|lt_ he s6.s) hx a3) (.inr fun _ _ h=>v_<|h.1) ?_;rintro _ _ ⟨a6,rfl⟩;exact dR z z (pF z G z)<|pD (fun _ q=>⟨a4,som L,q.k<|s3 z z z,bup (bup s5 s6) a6⟩)
  rintro a7 _ ⟨x2,rfl,_,sg⟩;revert a7;refine Wo<|Wc z (fun H=>?_) (fun H=>?_)
  ·exact Ws<|Ra z<|Wn<|Wr<|rtO<|qL (som<|ifT hmb H).symm<|h_ hr z ⟨bup s4 sg,z⟩
  exact Wk<|Wg<|Rm z<|R z (inc_ hka (lt_ (repS.len p1_0) M_) z z)<|Ra z<|Wl (fun _ q=>⟨(),(som<|ifF hmb H).symm,⟨q.k<|s2 z z,bup s4 sg⟩⟩)
 ·rintro _ _ _ ⟨O,sh⟩;refine Wu ?_ O;refine Wq<|Ws<|Rm z<|Rm z<|R z (lnR a_N z<|p1_0.e sh)<|R z (lss z z)<|Wn<|Wc z (fun hc=>(a_4 hc).elim) (fun _=>?_)
  exact We<|fun a' ha'=>⟨rfl,⟨Sat.weaken ha'<|s1 z,sh⟩⟩
 ·rintro _ a8 _ rfl ⟨_,s7⟩;have V:=elL I;revert a8;refine Wo<|Ws<|Rm z ?_
  have hi:=p1_0.e s7;refine R z (lnR a_N z hi) ?_;obtain ⟨_,a9,W⟩:=bdS V;refine E z (fc call103 z<|b_d (B:=B) a9 (zt' hBw s7.s) (a_M<|repS.len hi) (ii z)<|ii z) ?_;rintro _ _ ⟨aa,rfl⟩;refine Ra z<|Wn ?_
  obtain rfl:=som W;exact Wr<|h_ hr z ⟨bup s7 aa,z⟩
 rintro _ _ _ _ rfl ⟨rfl,Y⟩;have a0:=elR I;obtain rfl:=som a0;exact ⟨Y,z⟩
theorem W_w22 {x1:d_} {x2:g_} {res:Bool} (hm:f_v x1 x2=some res) (hBw:B≤w0.z) (p1_0:repS w0 B (sl A0 N0 C0) x1.rules) (p2_0:x2.name.b.length≤LEN) (p2_1:inI x2.kind) (p2_2:inI x2.size) (p2_4:repS w0 B (sl A2 N2 C2) x2.bytes) (p2_5:repS w0 B (sl A3 N3 C3) x2.names) (p2_6:repS w0 B (sl A1 N1 C1) x2.tags) (p2_7:repS w0 B (sl A4 N4 C4) x2.kids):o_ prog 208 [(.agg #[sl A0 N0 C0]),(.agg #[Str.v x2.name,vI x2.kind,vI x2.size,vB x2.little,sl A2 N2 C2,sl A3 N3 C3,sl A1 N1 C1,sl A4 N4 C4])] w0 (Q0 w0 B res):=by
 unfold f_v at hm
 refine goF func208 z z (lb z) fun fn hr=>Ws<|E z (fb z) ?_
 rintro _ J ⟨rfl,hn⟩;have h4:=hn.below;refine E z (fb z) ?_;rintro _ wd ⟨rfl,ho⟩;have h3:=ho.below;have ha:Blk wd J.z (vR x2 A2 N2 C2 A3 N3 C3 A1 N1 C1 A4 N4 C4):=ho.blk;refine Ra z<|Wn<|Wq<|Wq ?_
 obtain ⟨ae,hup,hmq⟩:=bdS hm;refine Wt (fun a w=>∃ (xg:Bool),xg=ae∧Sat 59 [(2,pt w0.z),(3,pt J.z),(20,vB xg)] a∧Below wd.z wd w) ?_ ?_
 ·refine Wg<|R z (fd K_ z)<|R z (l1 B_ z fid<|ha.at z) ?_
  have ht:=(h4.ag B).e h3;refine R z (lnR w_ z<|p2_7.g ht)<|R z (fd a_L z)<|R z (l1 B_ z fid<|ha.at z) ?_
  have hh:=p2_6.g ht;refine R z (lnR w_ z hh)<|R z (add_ z z)<|R z (nq z z)<|Rm z ?_
  rcases bs ((x2.kids.length:Int) != (j_ (x2.tags.length:Int) 1)) with I | I
  ·iterate 5 refine Nh z I ?_
   exact R z (pT z I z)<|Wl (fun _ q=>⟨true,som<|ifT hup I,q.k<|s3 z z z,br wd⟩)
  refine Rh z I (fd a_L z)<|Rh z I (l1 B_ z fid<|ha.at z)<|Rh z I (lnR w_ z hh) ?_
  obtain ⟨af,ah,Y⟩:=bdS<|ifF hup I;refine Eg z z I z (fc call103 z<|b_d (B:=B) ah (zt' hBw<|lt_ h4.s h3.s) (a_M<|repS.len hh) (ii z)<|ii z) ?_;rintro _ _ ⟨ai,rfl⟩;exact Rh z I (not_ z)<|R z (pF z I z)<|Wl (fun _ q=>⟨!af,som Y,q.k<|s3 z z z,ai⟩)
 rintro aj wb ⟨xg,rfl,_,s5⟩;revert aj;refine Wo<|Wc z (fun hci=>?_) (fun hci=>?_)
 ·refine Ws<|Ra z<|Wn ?_
  obtain rfl:=som<|ifT hmq hci;exact Wr<|h_ hr z ⟨bup (bup h4 h3) s5,z⟩
 refine Wk<|Wq<|Ws<|Ra z<|Wn ?_
 obtain ⟨_,a0,hmr⟩:=bdS<|ifF hmq hci;refine Wf (σ:=Unit) (ρ:=Bool) (fun (ke:Nat) (_:Unit) a w=>Sat 59 [(2,pt w0.z),(3,pt J.z),(5,vI ((ke:Nat):Int))] a∧Below wb.z wb w) (fun (_:Unit) a w=>Sat 59 [] a∧Below wb.z wb w) (fun r ex a w=>ex = .ret∧L_ prog fn (Q0 w0 B r) a w) a0 ?_ ?_ ?_ ?_ ?_
 ·exact fun _ q=>⟨q.k<|s3 z z z,br wb⟩
 ·rintro ke _ _ ws _ hku ⟨a1,s7⟩ a2;refine Wu ?_ a1;refine Wq<|Ws<|Rm z<|R z (fd a_L z) ?_
  have hv:=(ha.e s5).e s7;refine R z (l1 B_ z fid<|hv.at z) ?_;have hw:=(((h4.ag B).e h3).e s5).e s7;refine R z (lnR w_ z<|p2_6.g hw)<|R z (lss z z)<|Wn<|Wc z (fun _=>?_) (fun hc=>(a_3 hku hc).elim)
  refine Wk<|Wq<|Wb<|Wq ?_
  obtain ⟨ak,a3,hmx⟩:=bdS a2;refine Wt (fun a w=>∃ (xj:Bool),xj=ak∧Sat 59 [(2,pt w0.z),(3,pt J.z),(5,vI ((ke:Nat):Int)),(58,vB xj)] a∧Below ws.z ws w) ?_ ?_
  ·refine Wd (X:=noX) 0 (.rd 0<|.rd 1<|.rd 2<|.rd 3<|.rd 4<|.rd 5<|.rd 6<|.rd 7<|.rd 8<|.rd 9<|.ef 10<|.ef 11<|.rd 12<|.rd 13<|.rd 14<|.rd 15<|.rd 16<|.rd 17<|.rd 18<|.rd 19<|.rd 20<|.rd 21<|.rd 22<|.rd 23<|.rd 24<|.rd 25<|.rd 26<|.rd 27<|.rd 28<|.rd 29<|.rd 30 .done) mo (by kernel_rfl) fun aK s6 _=>dR z z (fd a_L z) ?_
   have hk:=hv.e s6;refine dR z z (l1 B_ z fid<|hk.at z)<|dR z z (mv z) ?_
   obtain ⟨_,al,a4⟩:=bdS a3;have hf:=hw.e s6;refine dRX z z (at_ (α:=Int) w_ z_3 z z z (p2_6.g hf) al) ?_;rintro _ ⟨_,_,_,rfl,am,an,_⟩;obtain ⟨rfl,ao⟩:=O_ an;refine dR z z (l1 g_3 z fid<|am.at0 z)<|dR z z (lN (vs:=[sl A0 N0 C0]) y_ t_ z z fid<|(((((hn.blk:Blk J w0.z [sl A0 N0 C0]).e h3).e s5).e s7).e s6).row 0 1 z)<|dR z z (fd K_ z)<|dR z z (l1 B_ z fid<|hk.at z) ?_
   obtain ⟨_,ap,a5⟩:=bdS a4;refine dRX z z (at_ (α:=Int) w_ z_3 z z z (p2_7.g hf) ap) ?_;rintro _ ⟨_,_,_,rfl,aq,ar,_⟩;obtain ⟨rfl,au⟩:=O_ ar;refine dR z z (l1 g_3 z fid<|aq.at0 z) ?_;have hy:=lt_ (lt_ (lt_ (lt_ h4.s h3.s) s5.s) s7.s) s6.s;obtain ⟨_,av,a6⟩:=bdS a5;refine dE z z (fc call206 z<|e_Y (B:=B) av (zt' hBw hy) (p1_0.g hf) au) (.inr fun _ _ h=>v_<|h.1) ?_;rintro _ _ ⟨s8,rfl,aw⟩;obtain ⟨ax,ay,hmz⟩:=bdS a6;refine dE z z (fc call103 z<|b_d (B:=B) ay (zt' hBw<|lt_ hy s8.s) ao (ii z) aw) (.inr fun _ _ h=>v_<|h.1) ?_;rintro _ _ ⟨sc,rfl⟩;refine dR z z (not_ z)<|dR z z (mv z) ?_
   rcases bs (!ax) with H | H
   ·iterate 3 refine dRn z z z H z ?_
    iterate 12 refine dRu z z z z ?_
    exact dRn z z z H z<|dR z z (pT z H z)<|pD (fun _ q=>⟨true,som<|ifT hmz H,q.k<|s4 z z z z,bup (bup s6 s8) sc⟩)
   have L:=ifF hmz H;refine dRg z z z H z (mv z)<|dRg z z z H z (a_9 z z)<|dRg z z z H z (mv z) ?_
   rcases bs (decide<|0<((ke:Nat):Int)) with G | G
   ·refine dRg z z z G z (fd a_L z) ?_;have O:=(hk.e s8).e sc;refine dRg z z z G z (l1 B_ z fid<|O.at z)<|dRg z z z G z (mv z)<|dRg z z z G z (sb_ z z) ?_
    obtain ⟨az,aA,a7⟩:=bdS<|ifT L G;have V:=p2_6.g<|(hf.e s8).e sc
    refine b_K z z z G z (at_ (α:=Int) w_ z_3 z z z V aA) ?_;rintro _ ⟨_,_,_,rfl,aB,aC,_⟩;obtain ⟨rfl,_⟩:=O_ aC;refine dRg z z z G z (l1 g_3 z fid<|aB.at0 z)<|dRg z z z G z (fd a_L z)<|dRg z z z G z (l1 B_ z fid<|O.at z)<|dRg z z z G z (mv z) ?_
    obtain ⟨aD,aE,a8⟩:=bdS a7;refine b_K z z z G z (at_ (α:=Int) w_ z_3 z z z V aE) ?_;rintro _ ⟨_,_,_,rfl,aF,aG,_⟩;obtain ⟨rfl,_⟩:=O_ aG;exact dRg z z z G z (l1 g_3 z fid<|aF.at0 z)<|dRg z z z G z (b_r z z)<|dRg z z z H z (pT z G z)<|dR z z (pF z H z)<|pD (fun _ q=>⟨decide<|aD≤az,som a8,q.k<|s4 z z z z,bup (bup s6 s8) sc⟩)
   iterate 12 refine dRn z z z G z ?_
   exact dRg z z z H z (pF z G z)<|dR z z (pF z H z)<|pD (fun _ q=>⟨false,som<|ifF L G,q.k<|s4 z z z z,bup (bup s6 s8) sc⟩)
  rintro aH _ ⟨xj,rfl,_,W⟩;revert aH;refine Wo<|Wc z (fun hcl=>?_) (fun hcl=>?_)
  ·exact Ws<|Ra z<|Wn<|Wr<|rtO<|qL (som<|ifT hmx hcl).symm<|h_ hr z ⟨bup (bup (bup (bup h4 h3) s5) s7) W,z⟩
  exact Wk<|Wg<|Rm z<|R z (inc_ hku (lt_ (repS.len p2_6) M_) z z)<|Ra z<|Wl (fun _ q=>⟨(),(som<|ifF hmx hcl).symm,⟨q.k<|s3 z z z,bup s7 W⟩⟩)
 ·rintro _ _ _ ⟨a9,sm⟩;refine Wu ?_ a9;refine Wq<|Ws<|Rm z<|R z (fd a_L z)<|R z (l1 B_ z fid<|((ha.e s5).e sm).at z)<|R z (lnR w_ z<|p2_6.g<|(((h4.ag B).e h3).e s5).e sm)<|R z (lss z z)<|Wn<|Wc z (fun hc=>(a_4 hc).elim) (fun _=>?_)
  exact We<|fun a' ha'=>⟨rfl,⟨Sat.weaken ha' sn,sm⟩⟩
 ·rintro _ aI _ rfl ⟨_,aJ⟩;have aa:=elL hmr;revert aI;refine Wo<|Ws<|Ra z<|Wn ?_
  obtain rfl:=som aa;exact Wr<|h_ hr z ⟨bup (bup (bup h4 h3) s5) aJ,z⟩
 rintro _ _ _ _ rfl ⟨rfl,ab⟩;have ad:=elR hmr;obtain rfl:=som ad;exact ⟨ab,z⟩
theorem W_w23 {x1:d_} {x2:g_} {res:Bool} (hm:f_w x1 x2=some res) (hBw:B≤w0.z) (p1_0:repS w0 B (sl A0 N0 C0) x1.rules) (p2_0:x2.name.b.length≤LEN) (p2_1:inI x2.kind) (p2_2:inI x2.size) (p2_4:repS w0 B (sl A2 N2 C2) x2.bytes) (p2_5:repS w0 B (sl A3 N3 C3) x2.names) (p2_6:repS w0 B (sl A1 N1 C1) x2.tags) (p2_7:repS w0 B (sl A4 N4 C4) x2.kids):o_ prog 174 [(.agg #[sl A0 N0 C0]),(.agg #[Str.v x2.name,vI x2.kind,vI x2.size,vB x2.little,sl A2 N2 C2,sl A3 N3 C3,sl A1 N1 C1,sl A4 N4 C4])] w0 (Q0 w0 B res):=by
 unfold f_w at hm
 refine goF func174 z z (lb z) fun fn hr=>Ws<|E z (fb z) ?_
 rintro _ aa ⟨rfl,aK⟩;have h1:=aK.below;have ab:Blk aa w0.z [sl A0 N0 C0]:=aK.blk;refine E z (fb z) ?_;rintro _ H ⟨rfl,aL⟩;have G:=aL.below;have h3:Blk H aa.z (vR x2 A2 N2 C2 A3 N3 C3 A1 N1 C1 A4 N4 C4):=aL.blk;refine Ra z<|Wn<|Wq<|Ws<|R z (fd a_x z)<|R z (l1 g_3 z fid<|h3.at z)<|Wn<|Wb<|Ws<|R z (eql z z)<|Ra z<|Wn<|Wc z (fun a0=>?_) (fun a0=>?_)
 ·refine Wq ?_;obtain ⟨bz,b4,b5⟩:=bdS<|ifT hm a0;refine Wt (fun a w=>∃ (ad:Bool),ad=bz∧Sat 114 [(4,vB ad)] a∧Below H.z H w) ?_ ?_
  ·refine Wg<|R z (lN (vs:=vR x2 A2 N2 C2 A3 N3 C3 A1 N1 C1 A4 N4 C4) J_ p_ z z fid<|h3.row 0 8 z) ?_
   have hw:=(h1.ag B).e G;have aM:=lt_ h1.s G.s;obtain ⟨bA,bB,ao⟩:=bdS b4;refine E z (fc call205 z<|c_I (B:=B) bB (zt' hBw aM) p2_0 p2_1 p2_2 (p2_4.g hw) (p2_5.g hw) (p2_6.g hw) (p2_7.g hw)<|ii z) ?_;rintro _ _ ⟨sg,rfl⟩;refine Rm z ?_
   rcases bs bA with hca | hca
   ·refine Rh z hca (fd a_t z) ?_;have aN:=h3.e sg;refine Rh z hca (l1 g_3 z fid<|aN.at z) ?_;obtain ⟨bC,bD,ap⟩:=bdS<|ifT ao hca;refine Eg z z hca z (fc call103 z<|b_d (B:=B) bD (zt' hBw<|lt_ aM sg.s) p2_2 (ii z)<|ii z) ?_;rintro _ _ ⟨sx,rfl⟩;refine R z (pT z hca z)<|Rm z ?_
    rcases bs bC with L | L
    ·have aq:=ifT ap L;refine Rh z L (fd c_r z) ?_;have aO:=aN.e sx;refine Rh z L (l1 g_4 z fid<|aO.at z)<|Rh z L (not_ z)<|Rh z L (mv z) ?_
     rcases bs (!x2.little) with hcb | hcb
     ·iterate 3 refine Nh z hcb ?_
      exact Rh z L (pT z hcb z)<|R z (pT z L z)<|Ra z<|Wl (fun _ q=>⟨true,som<|ifT aq hcb,q.k<|s1 z,bup sg sx⟩)
     exact Rh z hcb (fd a_t z)<|Rh z hcb (l1 g_3 z fid<|aO.at z)<|Rh z hcb (a_9 z z)<|Rh z L (pF z hcb z)<|R z (pT z L z)<|Ra z<|Wl (fun _ q=>⟨decide<|1<x2.size,som<|ifF aq hcb,q.k<|s1 z,bup sg sx⟩)
    iterate 4 refine Nh z L ?_
    exact Nv z<|Nv z<|Nv z<|Nh z L<|R z (pF z L z)<|Ra z<|Wl (fun _ q=>⟨false,som<|ifF ap L,q.k<|s1 z,bup sg sx⟩)
   iterate 3 refine Nh z hca ?_
   exact R z (pF z hca z)<|Rm z<|Nh z z<|Nh z z<|Nh z z<|Nh z z<|Nv z<|Nv z<|Nv z<|Nh z z<|R z (pF z z z)<|Ra z<|Wl (fun _ q=>⟨false,som<|ifF ao hca,q.k<|s1 z,sg⟩)
  rintro bE _ ⟨ad,rfl,_,bF⟩;revert bE;refine Wo ?_;obtain rfl:=som b5;exact Wr<|rtO<|h_ hr z ⟨bup (bup h1 G) bF,z⟩
 have ar:=ifF hm a0;refine Ws<|R z (eql z z)<|Ra z<|Wn<|Wc z (fun a1=>?_) (fun a1=>?_)
 ·refine Wq ?_;obtain ⟨bG,b6,b7⟩:=bdS<|ifT ar a1;refine Wt (fun a w=>∃ (ae:Bool),ae=bG∧Sat 114 [(4,vB ae)] a∧Below H.z H w) ?_ ?_
  ·refine Wg<|R z (lN (vs:=vR x2 A2 N2 C2 A3 N3 C3 A1 N1 C1 A4 N4 C4) J_ p_ z z fid<|h3.row 0 8 z) ?_
   have hl:=(h1.ag B).e G;have aP:=lt_ h1.s G.s;obtain ⟨bH,bI,au⟩:=bdS b6;refine E z (fc call205 z<|c_I (B:=B) bI (zt' hBw aP) p2_0 p2_1 p2_2 (p2_4.g hl) (p2_5.g hl) (p2_6.g hl) (p2_7.g hl)<|ii z) ?_;rintro _ _ ⟨sn,rfl⟩;refine Rm z ?_
   rcases bs bH with V | V
   ·refine Rh z V (fd a_K z)<|Rh z V (l1 Q_ z fid<|(h3.e sn).at z) ?_
    have aQ:=p2_4.g<|hl.e sn
    refine Rh z V (lnR n_ z aQ) ?_;obtain ⟨bJ,bK,b8⟩:=bdS<|ifT au V;refine Eg z z V z (fc call103 z<|b_d (B:=B) bK (zt' hBw<|lt_ aP sn.s) (a_M<|repS.len aQ) (ii z)<|ii z) ?_;rintro _ _ ⟨bL,rfl⟩;exact R z (pT z V z)<|Ra z<|Wl (fun _ q=>⟨bJ,som b8,q.k<|s1 z,bup sn bL⟩)
   iterate 4 refine Nh z V ?_
   exact R z (pF z V z)<|Ra z<|Wl (fun _ q=>⟨false,som<|ifF au V,q.k<|s1 z,sn⟩)
  rintro bM _ ⟨ae,rfl,_,bN⟩;revert bM;refine Wo ?_;obtain rfl:=som b7;exact Wr<|rtO<|h_ hr z ⟨bup (bup h1 G) bN,z⟩
 have av:=ifF ar a1;refine Ws<|R z (eql z z)<|Ra z<|Wn<|Wc z (fun a2=>?_) (fun a2=>?_)
 ·refine Wq ?_;obtain ⟨bO,b9,ba⟩:=bdS<|ifT av a2;refine Wt (fun a w=>∃ (af:Bool),af=bO∧Sat 114 [(4,vB af)] a∧Below H.z H w) ?_ ?_
  ·refine Wg<|R z (lN (vs:=vR x2 A2 N2 C2 A3 N3 C3 A1 N1 C1 A4 N4 C4) J_ p_ z z fid<|h3.row 0 8 z) ?_
   have hy:=(h1.ag B).e G;have aR:=lt_ h1.s G.s;obtain ⟨bP,bQ,aw⟩:=bdS b9;refine E z (fc call205 z<|c_I (B:=B) bQ (zt' hBw aR) p2_0 p2_1 p2_2 (p2_4.g hy) (p2_5.g hy) (p2_6.g hy) (p2_7.g hy)<|ii z) ?_;rintro _ _ ⟨sz,rfl⟩;refine Rm z ?_
   rcases bs bP with hcc | hcc
   ·refine Rh z hcc (fd a_t z)<|Rh z hcc (l1 g_3 z fid<|(h3.e sz).at z) ?_
    obtain ⟨bR,bS,bb⟩:=bdS<|ifT aw hcc;refine Eg z z hcc z (fc call103 z<|b_d (B:=B) bS (zt' hBw<|lt_ aR sz.s) p2_2 (ii z)<|ii z) ?_;rintro _ _ ⟨bT,rfl⟩;exact R z (pT z hcc z)<|Ra z<|Wl (fun _ q=>⟨bR,som bb,q.k<|s1 z,bup sz bT⟩)
   iterate 3 refine Nh z hcc ?_
   exact R z (pF z hcc z)<|Ra z<|Wl (fun _ q=>⟨false,som<|ifF aw hcc,q.k<|s1 z,sz⟩)
  rintro bU _ ⟨af,rfl,_,bV⟩;revert bU;refine Wo ?_;obtain rfl:=som ba;exact Wr<|rtO<|h_ hr z ⟨bup (bup h1 G) bV,z⟩
 have ax:=ifF av a2;refine Ws<|R z (eql z z)<|Ra z<|Wn<|Wc z (fun a3=>?_) (fun a3=>?_)
 ·refine Wq ?_;obtain ⟨bW,bc,be⟩:=bdS<|ifT ax a3;refine Wt (fun a w=>∃ (ah:Bool),ah=bW∧Sat 114 [(4,vB ah)] a∧Below H.z H w) ?_ ?_
  ·refine Wd (X:=noX) 0 (.rd 0<|.ef 1<|.rd 2<|.rd 3<|.rd 4<|.rd 5<|.rd 6<|.rd 7<|.ef 8<|.rd 9<|.rd 10<|.rd 11 .done) mo (by kernel_rfl) fun cO sh _=>?_
   have aS:=h3.e sh;refine dR z z (lN (vs:=vR x2 A2 N2 C2 A3 N3 C3 A1 N1 C1 A4 N4 C4) J_ p_ z z fid<|aS.row 0 8 z) ?_;have ho:=((h1.ag B).e G).e sh;have aT:=lt_ (lt_ h1.s G.s) sh.s;obtain ⟨bX,bY,ay⟩:=bdS bc;refine dE z z (fc call205 z<|c_I (B:=B) bY (zt' hBw aT) p2_0 p2_1 p2_2 (p2_4.g ho) (p2_5.g ho) (p2_6.g ho) (p2_7.g ho)<|ii z) (.inr fun _ _ h=>v_<|h.1) ?_;rintro _ _ ⟨si,rfl⟩;refine dR z z (mv z) ?_
   rcases bs bX with I | I
   ·refine dRg z z z I z (lN (vs:=[sl A0 N0 C0]) y_ t_ z z fid<|(((ab.e G).e sh).e si).row 0 1 z)<|dRg z z z I z (fd K_ z)<|dRg z z z I z (l1 B_ z fid<|(aS.e si).at z) ?_
    obtain ⟨_,bZ,bf⟩:=bdS<|ifT ay I;have aU:=ho.e si;refine b_K z z z I z (at_ (α:=Int) w_ z_3 z z z (p2_7.g aU) bZ) ?_;rintro _ ⟨_,_,_,rfl,c0,c1,_⟩;obtain ⟨rfl,c2⟩:=O_ c1;refine dRg z z z I z (l1 g_3 z fid<|c0.at0 z) ?_;obtain ⟨c3,c4,bg⟩:=bdS bf;refine dEg z z z I z (fc call206 z<|e_Y (B:=B) c4 (zt' hBw<|lt_ aT si.s) (p1_0.g aU) c2) (.inr fun _ _ h=>v_<|h.1) ?_;rintro _ _ ⟨c5,rfl,_⟩;exact dRg z z z I z (a_9 z z)<|dR z z (pT z I z)<|dR z z (asg z)<|pD (fun _ q=>⟨decide<|0<c3,som bg,q.k<|s1 z,bup (bup sh si) c5⟩)
   iterate 5 refine dRn z z z I z ?_
   exact dEn z z z I z<|dRn z z z I z<|dR z z (pF z I z)<|dR z z (asg z)<|pD (fun _ q=>⟨false,som<|ifF ay I,q.k<|s1 z,bup sh si⟩)
  rintro c6 _ ⟨ah,rfl,_,c7⟩;revert c6;refine Wo ?_;obtain rfl:=som be;exact Wr<|rtO<|h_ hr z ⟨bup (bup h1 G) c7,z⟩
 have az:=ifF ax a3;refine Ws<|R z (eql z z)<|Ra z<|Wn<|Wc z (fun a4=>?_) (fun a4=>?_)
 ·refine Wq ?_;obtain ⟨c8,bh,bi⟩:=bdS<|ifT az a4;refine Wt (fun a w=>∃ (ai:Bool),ai=c8∧Sat 114 [(4,vB ai)] a∧Below H.z H w) ?_ ?_
  ·refine Wd (X:=noX) 0 (.rd 0<|.ef 1<|.rd 2<|.rd 3<|.rd 4<|.rd 5<|.rd 6<|.rd 7<|.ef 8<|.rd 9<|.rd 10<|.rd 11 .done) mo (by kernel_rfl) fun cP sj _=>?_
   have aV:=h3.e sj;refine dR z z (lN (vs:=vR x2 A2 N2 C2 A3 N3 C3 A1 N1 C1 A4 N4 C4) J_ p_ z z fid<|aV.row 0 8 z) ?_;have hp:=((h1.ag B).e G).e sj;have aW:=lt_ (lt_ h1.s G.s) sj.s;obtain ⟨c9,ca,aA⟩:=bdS bh;refine dE z z (fc call205 z<|c_I (B:=B) ca (zt' hBw aW) p2_0 p2_1 p2_2 (p2_4.g hp) (p2_5.g hp) (p2_6.g hp) (p2_7.g hp)<|ii z) (.inr fun _ _ h=>v_<|h.1) ?_;rintro _ _ ⟨sk,rfl⟩;refine dR z z (mv z) ?_
   rcases bs c9 with J | J
   ·refine dRg z z z J z (lN (vs:=[sl A0 N0 C0]) y_ t_ z z fid<|(((ab.e G).e sj).e sk).row 0 1 z)<|dRg z z z J z (fd K_ z)<|dRg z z z J z (l1 B_ z fid<|(aV.e sk).at z) ?_
    obtain ⟨_,cb,bj⟩:=bdS<|ifT aA J;have aX:=hp.e sk;refine b_K z z z J z (at_ (α:=Int) w_ z_3 z z z (p2_7.g aX) cb) ?_;rintro _ ⟨_,_,_,rfl,cc,cd,_⟩;obtain ⟨rfl,ce⟩:=O_ cd;refine dRg z z z J z (l1 g_3 z fid<|cc.at0 z) ?_;obtain ⟨cf,cg,bk⟩:=bdS bj;refine dEg z z z J z (fc call206 z<|e_Y (B:=B) cg (zt' hBw<|lt_ aW sk.s) (p1_0.g aX) ce) (.inr fun _ _ h=>v_<|h.1) ?_;rintro _ _ ⟨ch,rfl,_⟩;exact dRg z z z J z (a_9 z z)<|dR z z (pT z J z)<|dR z z (asg z)<|pD (fun _ q=>⟨decide<|0<cf,som bk,q.k<|s1 z,bup (bup sj sk) ch⟩)
   iterate 5 refine dRn z z z J z ?_
   exact dEn z z z J z<|dRn z z z J z<|dR z z (pF z J z)<|dR z z (asg z)<|pD (fun _ q=>⟨false,som<|ifF aA J,q.k<|s1 z,bup sj sk⟩)
  rintro ci _ ⟨ai,rfl,_,cj⟩;revert ci;refine Wo ?_;obtain rfl:=som bi;exact Wr<|rtO<|h_ hr z ⟨bup (bup h1 G) cj,z⟩
 have aB:=ifF az a4;refine Ws<|R z (eql z z)<|Ra z<|Wn<|Wc z (fun a5=>?_) (fun a5=>?_)
 ·refine Wq ?_;obtain ⟨ck,bm,bn⟩:=bdS<|ifT aB a5;refine Wt (fun a w=>∃ (aj:Bool),aj=ck∧Sat 114 [(4,vB aj)] a∧Below H.z H w) ?_ ?_
  ·refine Wg<|R z (lN (vs:=vR x2 A2 N2 C2 A3 N3 C3 A1 N1 C1 A4 N4 C4) J_ p_ z z fid<|h3.row 0 8 z)<|R z (fd b_P z)<|R z (l1 b_Z z fid<|h3.at z) ?_
   have hq:=(h1.ag B).e G;have ak:=p2_5.g hq;refine R z (lnR a_N z ak) ?_;have aY:=lt_ h1.s G.s;obtain ⟨cl,cm,aC⟩:=bdS bm;refine E z (fc call205 z<|c_I (B:=B) cm (zt' hBw aY) p2_0 p2_1 p2_2 (p2_4.g hq) ak (p2_6.g hq) (p2_7.g hq)<|a_M<|repS.len ak) ?_;rintro _ _ ⟨sr,rfl⟩;refine Rm z ?_
   rcases bs cl with hcd | hcd
   ·refine Rh z hcd (fd b_P z)<|Rh z hcd (l1 b_Z z fid<|(h3.e sr).at z) ?_
    obtain ⟨cn,co,bo⟩:=bdS<|ifT aC hcd;refine Eg z z hcd z (fc call207 z<|W_w21 (B:=B) co (zt' hBw<|lt_ aY sr.s)<|p2_5.g<|hq.e sr) ?_;rintro _ _ ⟨cp,rfl⟩;exact R z (pT z hcd z)<|Ra z<|Wl (fun _ q=>⟨cn,som bo,q.k<|s1 z,bup sr cp⟩)
   iterate 3 refine Nh z hcd ?_
   exact R z (pF z hcd z)<|Ra z<|Wl (fun _ q=>⟨false,som<|ifF aC hcd,q.k<|s1 z,sr⟩)
  rintro cq _ ⟨aj,rfl,_,cr⟩;revert cq;refine Wo ?_;obtain rfl:=som bn;exact Wr<|rtO<|h_ hr z ⟨bup (bup h1 G) cr,z⟩
 have aD:=ifF aB a5;refine Ws<|R z (eql z z)<|Ra z<|Wn<|Wc z (fun a6=>?_) (fun a6=>?_)
 ·refine Wq ?_;obtain ⟨ct,bp,bq⟩:=bdS<|ifT aD a6;refine Wt (fun a w=>∃ (al:Bool),al=ct∧Sat 114 [(4,vB al)] a∧Below H.z H w) ?_ ?_
  ·refine Wg<|R z (lN (vs:=vR x2 A2 N2 C2 A3 N3 C3 A1 N1 C1 A4 N4 C4) J_ p_ z z fid<|h3.row 0 8 z) ?_
   have ht:=(h1.ag B).e G;have aZ:=lt_ h1.s G.s;obtain ⟨cu,cv,aE⟩:=bdS bp;refine E z (fc call205 z<|c_I (B:=B) cv (zt' hBw aZ) p2_0 p2_1 p2_2 (p2_4.g ht) (p2_5.g ht) (p2_6.g ht) (p2_7.g ht)<|ii z) ?_;rintro _ _ ⟨sm,rfl⟩;refine Rm z ?_
   rcases bs cu with hce | hce
   ·refine Rh z hce (lN (vs:=[sl A0 N0 C0]) y_ t_ z z fid<|((ab.e G).e sm).row 0 1 z)<|Rh z hce (lN (vs:=vR x2 A2 N2 C2 A3 N3 C3 A1 N1 C1 A4 N4 C4) J_ p_ z z fid<|(h3.e sm).row 0 8 z) ?_
    have hu:=ht.e sm;obtain ⟨cw,cx,bt⟩:=bdS<|ifT aE hce;refine Eg z z hce z (fc call208 z<|W_w22 (B:=B) cx (zt' hBw<|lt_ aZ sm.s) (p1_0.g hu) p2_0 p2_1 p2_2 (p2_4.g hu) (p2_5.g hu) (p2_6.g hu)<|p2_7.g hu) ?_;rintro _ _ ⟨cy,rfl⟩;exact R z (pT z hce z)<|Ra z<|Wl (fun _ q=>⟨cw,som bt,q.k<|s1 z,bup sm cy⟩)
   iterate 3 refine Nh z hce ?_
   exact R z (pF z hce z)<|Ra z<|Wl (fun _ q=>⟨false,som<|ifF aE hce,q.k<|s1 z,sm⟩)
  rintro cz _ ⟨al,rfl,_,cA⟩;revert cz;refine Wo ?_;obtain rfl:=som bq;exact Wr<|rtO<|h_ hr z ⟨bup (bup h1 G) cA,z⟩
 refine Wq<|Ws<|R z (eql z z)<|Ra z<|Wn ?_
 obtain ⟨cB,aF,aG⟩:=bdS<|ifF aD a6;refine Wt (fun a w=>∃ (am:Bool),am=cB∧Sat 114 [(3,pt aa.z),(6,vI x2.kind),(92,vB am)] a∧Below H.z H w) ?_ ?_
 ·refine Wc z (fun a7=>?_)<|fun a7=>?_
  ·exact a_g<|fun _ q=>⟨x2.kind==8,som<|ifT aF a7,q.k<|s3 z z z,br H⟩
  exact Wg<|R z (eql z z)<|Ra z<|Wl (fun _ q=>⟨x2.kind==9,som<|ifF aF a7,q.k<|s3 z z z,br H⟩)
 rintro cC b0 ⟨am,rfl,_,sf⟩;revert cC;refine Wo<|Wc z (fun a8=>?_) (fun a8=>?_)
 ·refine Ws<|R z (lN (vs:=vR x2 A2 N2 C2 A3 N3 C3 A1 N1 C1 A4 N4 C4) J_ p_ z z fid<|(h3.e sf).row 0 8 z) ?_
  have Y:=((h1.ag B).e G).e sf;obtain ⟨_,cD,bu⟩:=bdS<|ifT aG a8;refine E z (fc call205 z<|c_I (B:=B) cD (zt' hBw<|lt_ (lt_ h1.s G.s) sf.s) p2_0 p2_1 p2_2 (p2_4.g Y) (p2_5.g Y) (p2_6.g Y) (p2_7.g Y)<|ii z) ?_;rintro _ _ ⟨cE,rfl⟩;refine Ra z<|Wn ?_
  obtain rfl:=som bu;exact Wr<|rtO<|h_ hr z ⟨bup (bup (bup h1 G) sf) cE,z⟩
 have aH:=ifF aG a8;refine Ws<|R z (eql z z)<|Ra z<|Wn<|Wc z (fun a9=>?_) (fun a9=>?_)
 ·refine Wq ?_;obtain ⟨cF,bv,bw⟩:=bdS<|ifT aH a9;refine Wt (fun a w=>∃ (an:Bool),an=cF∧Sat 114 [(4,vB an)] a∧Below b0.z b0 w) ?_ ?_
  ·refine Wg ?_;have b1:=h3.e sf;refine R z (lN (vs:=vR x2 A2 N2 C2 A3 N3 C3 A1 N1 C1 A4 N4 C4) J_ p_ z z fid<|b1.row 0 8 z) ?_;have hv:=((h1.ag B).e G).e sf;obtain ⟨cG,cH,aI⟩:=bdS bv;refine E z (fc call205 z<|c_I (B:=B) cH (zt' hBw<|lt_ (lt_ h1.s G.s) sf.s) p2_0 p2_1 p2_2 (p2_4.g hv) (p2_5.g hv) (p2_6.g hv) (p2_7.g hv)<|ii z) ?_;rintro _ _ ⟨ss,rfl⟩;refine Rm z ?_
   rcases bs cG with W | W
   ·have aJ:=ifT aI W;refine Rh z W (fd a_K z) ?_;have b2:=b1.e ss;refine Rh z W (l1 Q_ z fid<|b2.at z) ?_;have b3:=p2_4.g<|hv.e ss
    refine Rh z W (lnR n_ z b3)<|Rh z W (eql z z)<|R z (pT z W z)<|Rm z ?_
    rcases bs ((x2.bytes.length:Int)==1) with O | O
    ·refine Rh z O (fd a_K z)<|Rh z O (l1 Q_ z fid<|b2.at z) ?_
     obtain ⟨cI,cJ,bx⟩:=bdS<|ifT aJ O;refine RXg z z O z (at_ (α:=UInt8) n_ z_5 z z z b3 cJ) ?_;rintro _ ⟨_,_,_,rfl,cK,cL,_⟩;obtain rfl:=u8 cL;exact Rh z O (l1 g_5 z fid<|cK.at0 z)<|Rh z O (nq z z)<|R z (pT z O z)<|Ra z<|Wl (fun _ q=>⟨(byteI cI) != (byteI (92:UInt8)),som bx,q.k<|s1 z,ss⟩)
    iterate 5 refine Nh z O ?_
    exact R z (pF z O z)<|Ra z<|Wl (fun _ q=>⟨false,som<|ifF aJ O,q.k<|s1 z,ss⟩)
   iterate 4 refine Nh z W ?_
   exact R z (pF z W z)<|Rm z<|Nh z z<|Nh z z<|Nh z z<|Nh z z<|Nh z z<|R z (pF z z z)<|Ra z<|Wl (fun _ q=>⟨false,som<|ifF aI W,q.k<|s1 z,ss⟩)
  rintro cM _ ⟨an,rfl,_,cN⟩;revert cM;refine Wo ?_;obtain rfl:=som bw;exact Wr<|rtO<|h_ hr z ⟨bup (bup (bup h1 G) sf) cN,z⟩
 refine Wk<|Ws<|Ra z<|Wn ?_
 obtain rfl:=som<|ifF aH a9;exact Wr<|h_ hr z ⟨bup (bup h1 G) sf,z⟩
theorem W_w24 {x1:d_} {x2:Int} {res:Bool} (hm:f_x x1 x2=some res) (hBw:B≤w0.z) (p1_0:repS w0 B (sl A0 N0 C0) x1.rules) (p2_0:inI x2):o_ prog 122 [(.agg #[sl A0 N0 C0]),vI x2] w0 (Q0 w0 B res):=by
 unfold f_x at hm
 refine goF func122 z z (lb z) fun fn hr=>Ws<|E z (fb z) ?_
 rintro _ aL ⟨rfl,a6⟩;have h1:=a6.below;have he:Blk aL w0.z [sl A0 N0 C0]:=a6.blk;refine Ra z<|Wn<|Wq<|Ws<|Rm z<|R z (fd X_ z)<|R z (l1 a_0 z fid<|he.at z)<|R z (lnR a_1 z<|p1_0.e h1)<|R z (sb_ z z) ?_
 obtain ⟨_,aM,W⟩:=bdS hm;refine E z (fc call103 z<|b_d (B:=B) aM (zt' hBw h1.s) p2_0 (ii z)<|iS _ _) ?_;rintro _ I ⟨G,rfl⟩;refine R z (not_ z)<|Wn<|Wc z (fun hci=>?_) (fun hci=>?_)
 ·refine Ws<|Ra z<|Wn ?_
  obtain rfl:=som<|ifT W hci;exact Wr<|h_ hr z ⟨bup h1 G,z⟩
 refine Wk<|Ws<|R z (fd X_ z) ?_
 have hj:=he.e G;refine R z (l1 a_0 z fid<|hj.at z)<|Rm z ?_
 obtain ⟨xk,aN,an⟩:=bdS<|ifF W hci;have hl:=(h1.ag B).e G;refine RX z (at_ (α:=g_) a_1 p_ z z z (p1_0.g hl) aN) ?_;rintro _ ⟨_,_,_,rfl,aO,aP,_⟩;obtain ⟨am,nn,co,ap,nq,cr,au,ns,ct,av,nw,cx,rfl,a7,aQ,aR,aS,aT,aU,hf⟩:=a_z aP;refine R z (lN (vs:=vR xk am nn co ap nq cr au ns ct av nw cx) J_ p_ z z fid aO)<|E z (fa b_i) ?_
 rintro _ aV ⟨rfl,a8⟩;have h2:=a8.below;refine E0 (fs (cur':=vR xk am nn co ap nq cr au ns ct av nw cx) p_ z z (a8.blk:Blk aV I.z [(Str.v (⟨[]⟩:Str)),vI 0,vI 0,vB false,sl none 0 0,sl none 0 0,sl none 0 0,sl none 0 0]) z (lb z) (oA z) z) ?_;rintro _ J ⟨hg,aW⟩;have h3:=aW.one;refine Wn<|Wq<|Ws<|Ra z<|Wn ?_
 obtain ⟨_,ao,Y⟩:=bdS an;refine Wf (σ:=Unit) (ρ:=Bool) (fun (a9:Nat) (_:Unit) a w=>Sat 58 [(1,vI x2),(2,pt w0.z),(5,pt I.z),(6,vI ((a9:Nat):Int))] a∧Below J.z J w) (fun (_:Unit) a w=>Sat 58 [(1,vI x2),(2,pt w0.z),(5,pt I.z)] a∧Below J.z J w) (fun r ex a w=>ex = .ret∧L_ prog fn (Q0 w0 B r) a w) ao ?_ ?_ ?_ ?_ ?_
 ·exact fun _ q=>⟨q.k<|s4 z z z z,br J⟩
 ·rintro a9 _ _ _ _ a0 ⟨aq,sa⟩ ar;refine Wu ?_ aq;refine Wq<|Ws<|Rm z<|Rm z<|R z (lss z z)<|Wn<|Wc z (fun _=>?_) (fun hc=>(i_2 a0 hc).elim)
  refine Wk<|Wq<|Wb<|Wq (Wd (X:=noX) 0 (.rd 0<|.rd 1<|.rd 2<|.rd 3<|.rd 4<|.rd 5<|.rd 6<|.rd 7<|.rd 8 .done) mo (by kernel_rfl) fun bh sb _=>dR z z (fd X_ z)<|dR z z (l1 a_0 z fid<|((((hj.e h2).c h3<|djs<|mm1 he.lt G.s).e sa).e sb).at z)<|dR z z (mv z) ?_)
  obtain ⟨_,aX,a1⟩:=bdS ar;have aa:=lt_ h1.s G.s;refine dRX z z (at_ (α:=g_) a_1 p_ z z z (p1_0.g<|(((hl.e h2).c h3<|c_ (or0 (b_ lr)  (m_<|zt' hBw aa) : ∀ k∈[I.z],¬ B k)).e sa).e sb) aX) ?_;rintro _ ⟨_,_,_,rfl,aY,aZ,_⟩;obtain ⟨_,_,_,_,_,_,_,_,_,_,_,_,rfl,_,_,_,_,_,_,_⟩:=a_z aZ;refine dR z z (fd e_5 z)<|dR z z (l1 g_9 z fid<|aY.at (j:=0) z)<|dR z z (fd e_5 z)<|dR z z (l1 g_9 z fid<|((hg.e sa).e sb).at z)<|dR z z (f_3 z z)<|pD<|Wo<|Wc z (fun hcy=>?_) (fun hcy=>?_)
  ·exact Ws<|Ra z<|Wn<|Wr<|rtO<|qL (som<|ifT a1 hcy).symm<|h_ hr z ⟨bup (bup (bM (bup (bup h1 G) h2) h3<|m1 aa) sa) sb,z⟩
  exact Wk<|Wg<|Rm z<|R z (inc_ a0 (tl_ p2_0) z z)<|Ra z<|Wl (fun _ q=>⟨(),(som<|ifF a1 hcy).symm,⟨q.k<|s4 z z z z,bup sa sb⟩⟩)
 ·rintro _ _ _ ⟨aw,b0⟩;refine Wu ?_ aw;refine Wq<|Ws<|Rm z<|Rm z<|R z (lss z z)<|Wn<|Wc z (fun hc=>(i_3 hc).elim) (fun _=>?_)
  exact We<|fun a' ha'=>⟨rfl,⟨Sat.weaken ha'<|s3 z z z,b0⟩⟩
 ·rintro _ b1 wc rfl ⟨_,s5⟩;have ax:=elL Y;revert b1;refine Wo<|Wq<|Ws<|Ra z<|Wn ?_
  obtain ⟨_,ay,a2⟩:=bdS ax;refine Wf (σ:=Unit) (ρ:=Bool) (fun (ab:Nat) (_:Unit) a w=>Sat 58 [(1,vI x2),(2,pt w0.z),(5,pt I.z),(7,vI ((ab:Nat):Int))] a∧Below wc.z wc w) (fun (_:Unit) a w=>Sat 58 [(2,pt w0.z),(5,pt I.z)] a∧Below wc.z wc w) (fun r ex a w=>ex = .ret∧L_ prog fn (Q0 w0 B r) a w) ay ?_ ?_ ?_ ?_ ?_
  ·exact fun _ q=>⟨q.k<|s4 z z z z,br wc⟩
  ·rintro ab _ _ _ _ a3 ⟨az,sd⟩ aA;refine Wu ?_ az;refine Wq<|Ws<|Rm z<|R z (fd K_ z) ?_
   have ad:=(hg.e s5).e sd;refine R z (l1 B_ z fid<|ad.at z) ?_;have hz:=lt_ h1.s G.s;have ae:=hf.g<|(((h2.ag B).c h3<|c_ (or0 (b_ lr)  (m_<|zt' hBw hz) : ∀ k∈[I.z],¬ B k)).e s5).e sd
   refine R z (lnR w_ z ae)<|R z (lss z z)<|Wn<|Wc z (fun _=>?_) (fun hc=>(a_3 a3 hc).elim)
   refine Wk<|Wq<|Wb<|Ws<|R z (fd K_ z)<|R z (l1 B_ z fid<|ad.at z)<|Rm z ?_
   obtain ⟨_,b2,aB⟩:=bdS aA;refine RX z (at_ (α:=Int) w_ z_3 z z z ae b2) ?_;rintro _ ⟨_,_,_,rfl,b3,b4,_⟩;obtain ⟨rfl,b5⟩:=O_ b4;refine R z (l1 g_3 z fid<|b3.at0 z)<|Rm z<|R z (sb_ z z) ?_
   obtain ⟨_,b6,a4⟩:=bdS aB;refine E z (fc call103 z<|b_d (B:=B) b6 (zt' hBw<|lt_ (lt_ (lt_ (lt_ hz h2.s) h3.s) s5.s) sd.s) b5 (ii z)<|iS _ _) ?_;rintro _ _ ⟨af,rfl⟩;refine R z (not_ z)<|Wn<|Wc z (fun L=>?_) (fun L=>?_)
   ·exact Ws<|Ra z<|Wn<|Wr<|rtO<|qL (som<|ifT a4 L).symm<|h_ hr z ⟨bup (bup (bup (bM (bup (bup h1 G) h2) h3<|m1 hz) s5) sd) af,z⟩
   exact Wk<|Wg<|Rm z<|R z (inc_ a3 (lt_ (repS.len hf) M_) z z)<|Ra z<|Wl (fun _ q=>⟨(),(som<|ifF a4 L).symm,⟨q.k<|s4 z z z z,bup sd af⟩⟩)
  ·rintro _ _ _ ⟨aC,O⟩;refine Wu ?_ aC;refine Wq<|Ws<|Rm z<|R z (fd K_ z)<|R z (l1 B_ z fid<|((hg.e s5).e O).at z) ?_
   refine R z (lnR w_ z<|hf.g<|(((h2.ag B).c h3<|c_ (or0 (b_ lr)  (m_<|zt' hBw<|lt_ h1.s G.s) : ∀ k∈[I.z],¬ B k)).e s5).e O)<|R z (lss z z)<|Wn<|Wc z (fun hc=>(a_4 hc).elim) (fun _=>?_)
   exact We<|fun a' ha'=>⟨rfl,⟨Sat.weaken ha'<|s2 z z,O⟩⟩
  ·rintro _ b7 ah rfl ⟨_,s8⟩;have aD:=elL a2;revert b7;refine Wo<|Wq ?_
   obtain ⟨b8,aE,aF⟩:=bdS aD;refine Wt (fun a w=>∃ (V:Bool),V=b8∧Sat 58 [(4,vB V)] a∧Below ah.z ah w) ?_ ?_
   ·refine Wg<|R z (fd e_5 z) ?_
    have ai:=(hg.e s5).e s8;refine R z (l1 g_9 z fid<|ai.at z) ?_;have aj:=lt_ h1.s G.s;have ak:=lt_ (lt_ (lt_ (lt_ aj h2.s) h3.s) s5.s) s8.s;obtain ⟨b9,ba,a5⟩:=bdS aE;refine E z (fc call173 z<|W_w18 (B:=B) ba (zt' hBw ak) a7) ?_;rintro _ _ ⟨s7,rfl⟩;refine Rm z ?_
    rcases bs b9 with H | H
    ·refine Rh z H (lN (vs:=[sl A0 N0 C0]) y_ t_ z z fid<|(((((hj.e h2).c h3<|djs<|mm1 he.lt G.s).e s5).e s8).e s7).row 0 1 z)<|Rh z H (lN (vs:=vR xk am nn co ap nq cr au ns ct av nw cx) J_ p_ z z fid<|(ai.e s7).row 0 8 z) ?_
     have al : ∀ k∈[I.z],¬ B k:=or0 (b_ lr)  (m_<|zt' hBw aj);have hh:=((((h2.ag B).c h3<|c_ al).e s5).e s8).e s7;obtain ⟨bb,bc,aG⟩:=bdS<|ifT a5 H;refine Eg z z H z (fc call174 z<|W_w23 (B:=B) bc (zt' hBw<|lt_ ak s7.s) (p1_0.g<|((((hl.e h2).c h3<|c_ al).e s5).e s8).e s7) a7 aQ aR (aS.g hh) (aT.g hh) (aU.g hh)<|hf.g hh) ?_;rintro _ _ ⟨be,rfl⟩;exact R z (pT z H z)<|Ra z<|Wl (fun _ q=>⟨bb,som aG,q.k<|s1 z,bup s7 be⟩)
    iterate 3 refine Nh z H ?_
    exact R z (pF z H z)<|Ra z<|Wl (fun _ q=>⟨false,som<|ifF a5 H,q.k<|s1 z,s7⟩)
   rintro bf _ ⟨V,rfl,_,bg⟩;revert bf;refine Wo ?_;obtain rfl:=som aF;exact Wr<|h_ hr z ⟨bup (bup (bup (bM (bup (bup h1 G) h2) h3<|m1<|lt_ h1.s G.s) s5) s8) bg,z⟩
  rintro _ _ _ _ rfl ⟨rfl,aH⟩;have aI:=elR a2;obtain rfl:=som aI;exact ⟨aH,z⟩
 rintro _ _ _ _ rfl ⟨rfl,aJ⟩;have aK:=elR Y;obtain rfl:=som aK;exact ⟨aJ,z⟩
theorem W_w25 {x1:d_} {res:Bool} (hm:f_y x1=some res) (hBw:B≤w0.z) (p1_0:repS w0 B (sl A0 N0 C0) x1.rules):o_ prog 64 [(.agg #[sl A0 N0 C0])] w0 (Q0 w0 B res):=by
 unfold f_y at hm
 refine goF func64 z z (lb z) fun fn hr=>Ws<|E z (fb z) ?_
 rintro _ H ⟨rfl,O⟩;have G:=O.below;have h2:Blk H w0.z [sl A0 N0 C0]:=O.blk;refine Ra z<|Wn<|Wq<|Ws<|Ra z<|Wn ?_
 obtain ⟨_,hug,L⟩:=bdS hm;refine Wf (σ:=Unit) (ρ:=Bool) (fun (ka:Nat) (_:Unit) a w=>Sat 19 [(1,pt w0.z),(3,vI ((ka:Nat):Int))] a∧Below H.z H w) (fun (_:Unit) a w=>Sat 19 [(1,pt w0.z)] a∧Below H.z H w) (fun r ex a w=>ex = .ret∧L_ prog fn (Q0 w0 B r) a w) hug ?_ ?_ ?_ ?_ ?_
 ·exact fun _ q=>⟨q.k<|s2 z z,br H⟩
 ·rintro ka _ _ _ _ I ⟨hSh,s3⟩ hmi;refine Wu ?_ hSh;refine Wq<|Ws<|Rm z<|R z (fd X_ z) ?_
  have hb:=h2.e s3;refine R z (l1 a_0 z fid<|hb.at z) ?_;have hd:=p1_0.g<|(G.ag B).e s3
  refine R z (lnR a_1 z hd)<|R z (lss z z)<|Wn<|Wc z (fun _=>?_) (fun hc=>(a_3 I hc).elim)
  refine Wk<|Wq<|Wb<|Ws<|R z (lN (vs:=[sl A0 N0 C0]) y_ t_ z z fid<|hb.row 0 1 z)<|Rm z ?_
  obtain ⟨_,ej,hmc⟩:=bdS hmi;refine E z (fc call122 z<|W_w24 (B:=B) ej (zt' hBw<|lt_ G.s s3.s) hd<|ic (Nat.le_of_lt I)<|lt_ (repS.len p1_0) M_) ?_;rintro _ _ ⟨se,rfl⟩;refine R z (not_ z)<|Wn<|Wc z (fun J=>?_) (fun J=>?_)
  ·exact Ws<|Ra z<|Wn<|Wr<|rtO<|qL (som<|ifT hmc J).symm<|h_ hr z ⟨bup (bup G s3) se,z⟩
  exact Wk<|Wg<|Rm z<|R z (inc_ I (lt_ (repS.len p1_0) M_) z z)<|Ra z<|Wl (fun _ q=>⟨(),(som<|ifF hmc J).symm,⟨q.k<|s2 z z,bup s3 se⟩⟩)
 ·rintro _ _ _ ⟨hSk,s7⟩;refine Wu ?_ hSk;refine Wq<|Ws<|Rm z<|R z (fd X_ z)<|R z (l1 a_0 z fid<|(h2.e s7).at z)<|R z (lnR a_1 z<|p1_0.g<|(G.ag B).e s7)<|R z (lss z z)<|Wn<|Wc z (fun hc=>(a_4 hc).elim) (fun _=>?_)
  exact We<|fun a' ha'=>⟨rfl,⟨Sat.weaken ha'<|s1 z,s7⟩⟩
 ·rintro _ al _ rfl ⟨_,s4⟩;have hmm:=elL L;revert al;refine Wo<|Ws<|R z (fd X_ z)<|R z (l1 a_0 z fid<|(h2.e s4).at z) ?_
  have hf:=p1_0.g<|(G.ag B).e s4
  refine R z (lnR a_1 z hf) ?_;obtain ⟨_,en,hmo⟩:=bdS hmm;refine E z (fc call103 z<|b_d (B:=B) en (zt' hBw<|lt_ G.s s4.s) (a_M<|repS.len hf) (ii z)<|ii z) ?_;rintro _ _ ⟨sp,rfl⟩;refine Ra z<|Wn ?_
  obtain rfl:=som hmo;exact Wr<|h_ hr z ⟨bup (bup G s4) sp,z⟩
 rintro _ _ _ _ rfl ⟨rfl,hqq⟩;have hmr:=elR L;obtain rfl:=som hmr;exact ⟨hqq,z⟩
theorem i_k {x1:d_} {x2:Int} {res:Bool} (hm:d_O x1 x2=some res) (hBw:B≤w0.z) (p1_0:repS w0 B (sl A0 N0 C0) x1.rules) (p2_0:inI x2):o_ prog 160 [(.agg #[sl A0 N0 C0]),vI x2] w0 (Q0 w0 B res):=by
 unfold d_O at hm
 refine goF func160 z z (lb z) fun fn hr=>Ws<|E z (fb z) ?_
 rintro _ H ⟨rfl,h5⟩;have h1:=h5.below;have h6:Blk H w0.z [sl A0 N0 C0]:=h5.blk;refine Ra z<|Wn<|Wq ?_
 obtain ⟨u8,J,hma⟩:=bdS hm;refine Wt (fun a w=>∃ (x4:Bool),x4=u8∧Sat 15 [(4,vB x4)] a∧Below H.z H w) ?_ ?_
 ·refine Wg<|Rm z<|R z (fd X_ z)<|R z (l1 a_0 z fid<|h6.at z)<|R z (lnR a_1 z<|p1_0.e h1)<|R z (sb_ z z) ?_
  obtain ⟨rb,ec,I⟩:=bdS J;refine E z (fc call103 z<|b_d (B:=B) ec (zt' hBw h1.s) p2_0 (ii z)<|iS _ _) ?_;rintro _ _ ⟨s2,rfl⟩;refine Rm z ?_
  rcases bs rb with G | G
  ·refine Rh z G (lN (vs:=[sl A0 N0 C0]) y_ t_ z z fid<|(h6.e s2).row 0 1 z) ?_;obtain ⟨rd,ee,hmf⟩:=bdS<|ifT I G;refine Eg z z G z (fc call64 z<|W_w25 (B:=B) ee (zt' hBw<|lt_ h1.s s2.s)<|p1_0.g<|(h1.ag B).e s2) ?_;rintro _ _ ⟨sg,rfl⟩;exact R z (pT z G z)<|Ra z<|Wl (fun _ q=>⟨rd,som hmf,q.k<|s1 z,bup s2 sg⟩)
  exact Nh z G<|Nh z G<|R z (pF z G z)<|Ra z<|Wl (fun _ q=>⟨false,som<|ifF I G,q.k<|s1 z,s2⟩)
 rintro ah _ ⟨x4,rfl,_,si⟩;revert ah;refine Wo ?_;obtain rfl:=som hma;exact Wr<|h_ hr z ⟨bup h1 si,z⟩
def Q12 (w0:World) (B:Zone) (r:Val) (v:Value) (w':World):Prop:=Bw w0 w'∧(fun G=>∃ H I J S1 a2 L O S2,(.agg #[vI G.number,sl H I J,sl a2 L O])=v∧inI G.number∧a_ w' S1 (sl H I J) G.bytes∧a_ w' S2 (sl a2 L O) G.items∧(S1++S2).Nodup∧(∀ k∈(S1++S2),w0.z≤k)) r
structure i_l (f:d_→Int→Option Val):Prop where
  run : ∀ {A0:Option Addr} {N0 C0:Nat} {B:Zone} {x1:d_} {x2:Int} {res:Val} {w0:World} (hm:f x1 x2=some res) (hBw:B≤w0.z) (p1_0:repS w0 B (sl A0 N0 C0) x1.rules) (p2_0:inI x2),o_ prog 189 [(.agg #[sl A0 N0 C0]),vI x2] w0<|Q12 w0 B res
abbrev k_d (n:Nat):Prop:=i_l (d_M n).spec_l9Default
end Go.Vw
