/- Texts of this claim, put together. -/
import Derived.Test.YtadehdicfeopeaaGreatDoorVmA
import Derived.Carry
import Derived.Deep.DeepHandedRow
import Derived.WalkKit
import Derived.ProofKit
import Derived.OpenShut
import Derived.Laws.RangeAny
set_option linter.unusedVariables false
namespace Go.Vw
def h_d (x1:List UInt8):Option Bool :=
 some (decide<|1048576<(x1.length:Int))
def f_s (n:Nat)(x1:List UInt8):Option E_ :=
 bd (a_8 (σ:=Int×Int) (ρ:=E_) (un2 fun H G=>bd (α:=Bool) (if (decide<|G<(x1.length:Int))=true then some (decide<|G<4000) else some false) (fun I=>if I=true then bd (idx x1 G) fun J=>some (.next (a_A .i64 (· &&& ·) (g_ (g_ (a_1 H 137)<|byteI J) 11) 1073741823,g_ G 1)) else some (.brk (H,G)))) n (g_ 193017 (x1.length:Int),0)) (el (un2 fun H G=>some (⟨x1,0,H⟩:E_))<|fun L=>some L)
def c_C (x1:E_):Option (Int×Int×Int) :=
 bd (α:=Int×Int) (if (decide<|x1.i<(x1.b.length:Int))=true then bd (idx x1.b x1.i) fun G=>some (a_A .i64 (· &&& ·) (g_ (a_A .i64 (· &&& ·) (a_A .i64 (· ^^^ ·) (c_5 .i64 (g_ (a_1 x1.h 6364136223846793005) 1442695040888963407) 33)<|c_5 .i64 (g_ (a_1 x1.h 6364136223846793005) 1442695040888963407) 47) 255)<|byteI G) 255,g_ x1.i 1) else some (a_A .i64 (· &&& ·) (a_A .i64 (· ^^^ ·) (c_5 .i64 (g_ (a_1 x1.h 6364136223846793005) 1442695040888963407) 33)<|c_5 .i64 (g_ (a_1 x1.h 6364136223846793005) 1442695040888963407) 47) 255,x1.i)) (un2 fun H I=>some (H,I,g_ (a_1 x1.h 6364136223846793005) 1442695040888963407))
def a_l (x1:E_)(x2:Int):Option (Int×Int×Int) :=
 if (decide<|x2<=0)=true then some (0,x1.i,x1.h) else if (decide<|x2<=256)=true then bd3 (c_C x1) fun G H I=>bd (nz x2) fun a3=>some (b_6 G x2,H,I) else bd3 (c_C x1) fun J L O=>bd3 (c_C (⟨x1.b,L,O⟩:E_)) fun V W Y=>bd3 (c_C (⟨x1.b,W,Y⟩:E_)) fun a0 a1 a2=>bd (nz x2) fun a4=>some (b_6 (g_ (g_ (a_1 J 65536)<|a_1 V 256) a0) x2,a1,a2)
def c_D (x1:E_)(x2:List Str):Option (Str×Int×Int) :=
 bd3 (a_l x1 (x2.length:Int)) fun G H I=>bd (idx x2 G) fun J=>some (J,H,I)
def d_Y (x1:E_)(x2:Int):Option (Bool×Int×Int) :=
 bd3 (a_l x1 x2) fun G H I=>some (G==0,H,I)
def d_Z (x1:E_)(x2:Int):Option ((List UInt8)×Int×Int) :=
 bd (x_ (σ:=(List UInt8)×Int×Int) (ρ:=(List UInt8)×Int×Int) (fun Y=>un3 fun G H I=>bd3 (c_C (⟨x1.b,H,I⟩:E_)) fun J L O=>bd (psh G<|mkB J) fun V=>some<|.next (V,L,O)) x2.toNat 0 (([]:List UInt8),x1.i,x1.h)) (el (un3 fun G H I=>some (G,H,I))<|fun W=>some W)
def e_0 (x1:E_)(x2:List Int):Option (Int×Int×Int) :=
 bd3 (a_l x1 (x2.length:Int)) fun G H I=>bd (idx x2 G) fun J=>some (J,H,I)
def d_1 (x1:E_)(x2:d_):Option (Int×Int×Int) :=
 bd (x_ (σ:=List Int) (ρ:=Int×Int×Int) (fun H=>(fun G=>bd (idx x2.rules (H:Int)) fun I=>bd (α:=List Int) (if (I.kind==1)=true then bd (psh G (H:Int)) fun J=>some J else some G)<|fun L=>some<|.next L)) x2.rules.length 0 ([]:List Int)) (el (fun G=>bd3 (e_0 x1 G) fun O V W=>some (O,V,W))<|fun Y=>some Y)
def d_2 (n:Nat)(x1:E_)(x2:d_)(x3:Int):Option (e_×Int×Int) :=
 bd3 (c_D x1 [(⟨[97]⟩:Str),(⟨[105,116,101,109]⟩:Str),(⟨[98]⟩:Str),(⟨[104,101,97,100]⟩:Str),(⟨[120]⟩:Str)]) fun a6 G H=>bd (b_y n (x2.rules.length:Int)) fun a7=>bd (cat a6 a7) fun a8=>bd (α:=Sum (Int×Int×Int×Bool×(List UInt8)×(List Str)×(List Int)×(List Int))<|e_×Int×Int) (if (x3==1)=true then bd3 (a_l (⟨x1.b,G,H⟩:E_) 3) fun a3 a4 a5=>bd (α:=Int×Int×Bool) (if (decide<|1<(g_ 1 a3))=true then bd3 (d_Y (⟨x1.b,a4,a5⟩:E_) 2) fun a9 aa ab=>some (aa,ab,a9) else some (a4,a5,false)) (un3 fun ad ae af=>some<|.inl (ad,ae,g_ 1 a3,af,([]:List UInt8),([]:List Str),([]:List Int),([]:List Int))) else bd (α:=Sum (Int×Int×Int×(List UInt8)×(List Str)×(List Int)×(List Int))<|Sum (Int×Int×Int×Bool×(List UInt8)×(List Str)×(List Int)×(List Int))<|e_×Int×Int) (if (x3==2)=true then bd3 (a_l (⟨x1.b,G,H⟩:E_) 3) fun ah ai aj=>bd3 (d_Z (⟨x1.b,ai,aj⟩:E_)<|g_ 1 ah) fun ak al am=>some (.inl (al,am,0,ak,([]:List Str),([]:List Int),([]:List Int))) else bd (α:=Sum (Int×Int×Int×(List UInt8)×(List Str)×(List Int)×(List Int))<|Sum (Int×Int×Int×(List UInt8)×(List Str)×(List Int)×(List Int))<|Sum (Int×Int×Int×Bool×(List UInt8)×(List Str)×(List Int)×(List Int))<|e_×Int×Int) (if (x3==3)=true then bd3 (a_l (⟨x1.b,G,H⟩:E_) 4) fun an ao ap=>some (.inl (ao,ap,g_ 1 an,([]:List UInt8),([]:List Str),([]:List Int),([]:List Int))) else bd (α:=Sum (Int×Int×(List UInt8)×(List Str)×(List Int)×(List Int))<|Sum (Int×Int×Int×(List UInt8)×(List Str)×(List Int)×(List Int))<|Sum (Int×Int×Int×(List UInt8)×(List Str)×(List Int)×(List Int))<|Sum (Int×Int×Int×Bool×(List UInt8)×(List Str)×(List Int)×(List Int))<|e_×Int×Int) (if (x3==4)=true then bd3 (d_1 (⟨x1.b,G,H⟩:E_) x2) fun aq ar au=>some (.inl (ar,au,([]:List UInt8),([]:List Str),([]:List Int),[aq])) else bd (α:=Sum (Int×Int×(List UInt8)×(List Str)×(List Int)×(List Int))<|Sum (Int×Int×(List UInt8)×(List Str)×(List Int)×(List Int))<|Sum (Int×Int×Int×(List UInt8)×(List Str)×(List Int)×(List Int))<|Sum (Int×Int×Int×(List UInt8)×(List Str)×(List Int)×(List Int))<|Sum (Int×Int×Int×Bool×(List UInt8)×(List Str)×(List Int)×(List Int))<|e_×Int×Int) (if (x3==5)=true then bd3 (d_1 (⟨x1.b,G,H⟩:E_) x2) fun av aw ax=>bd3 (a_l (⟨x1.b,aw,ax⟩:E_) (x2.rules.length:Int)) fun ay az aA=>some (.inl (az,aA,([]:List UInt8),([]:List Str),([]:List Int),[av,ay])) else bd (α:=Sum (Int×Int×(List UInt8)×(List Str)×(List Int)×(List Int))<|Sum (Int×Int×(List UInt8)×(List Str)×(List Int)×(List Int))<|Sum (Int×Int×(List UInt8)×(List Str)×(List Int)×(List Int))<|Sum (Int×Int×Int×(List UInt8)×(List Str)×(List Int)×(List Int))<|Sum (Int×Int×Int×(List UInt8)×(List Str)×(List Int)×(List Int))<|Sum (Int×Int×Int×Bool×(List UInt8)×(List Str)×(List Int)×(List Int))<|e_×Int×Int) (if (x3==6)=true then bd3 (a_l (⟨x1.b,G,H⟩:E_) 3) fun aB aC aD=>bd (a_8 (σ:=Int×Int×Int×(List Str)×(List Int)) (ρ:=e_×Int×Int) (un5 fun I L O V W=>if (decide<|0<I)=true then bd3 (c_D (⟨x1.b,L,O⟩:E_) [(⟨[112]⟩:Str),(⟨[113]⟩:Str),(⟨[114]⟩:Str)]) fun aE aF aG=>bd (b_y n I) fun aH=>bd (cat aE aH) fun aI=>bd (psh V aI) fun aJ=>bd3 (a_l (⟨x1.b,aF,aG⟩:E_) (x2.rules.length:Int)) fun aK aL aM=>bd (psh W aK) fun aN=>some (.next (L_ I 1,aL,aM,aJ,aN)) else some (.brk (I,L,O,V,W))) n (g_ 1 aB,aC,aD,([]:List Str),([]:List Int))) (el (un5 fun I L O V W=>some<|.inl (L,O,([]:List UInt8),V,([]:List Int),W))<|fun aO=>some<|.inr<|.inr<|.inr<|.inr<|.inr<|.inr aO) else bd (α:=Sum (Int×Int×(List UInt8)×(List Int)×(List Int))<|Sum (Int×Int×(List UInt8)×(List Str)×(List Int)×(List Int))<|Sum (Int×Int×(List UInt8)×(List Str)×(List Int)×(List Int))<|Sum (Int×Int×(List UInt8)×(List Str)×(List Int)×(List Int))<|Sum (Int×Int×Int×(List UInt8)×(List Str)×(List Int)×(List Int))<|Sum (Int×Int×Int×(List UInt8)×(List Str)×(List Int)×(List Int))<|Sum (Int×Int×Int×Bool×(List UInt8)×(List Str)×(List Int)×(List Int))<|e_×Int×Int) (if (x3==7)=true then bd3 (d_1 (⟨x1.b,G,H⟩:E_) x2) fun aP aQ aR=>bd3 (a_l (⟨x1.b,aQ,aR⟩:E_) 3) fun aS aT aU=>bd (a_8 (σ:=Int×Int×Int×(List Int)×(List Int)) (ρ:=e_×Int×Int) (un5 fun Y a0 a1 J a2=>if (decide<|0<Y)=true then bd3 (a_l (⟨x1.b,a0,a1⟩:E_) 4) fun aV aW aX=>bd (psh J<|g_ (a_1 4 (J.length:Int)) aV) fun aY=>bd3 (a_l (⟨x1.b,aW,aX⟩:E_) (x2.rules.length:Int)) fun aZ b0 b1=>bd (psh a2 aZ) fun b2=>some (.next (L_ Y 1,b0,b1,aY,b2)) else some (.brk (Y,a0,a1,J,a2))) n (g_ 1 aS,aT,aU,([]:List Int),[aP])) (el (un5 fun Y a0 a1 J a2=>some<|.inl (a0,a1,([]:List UInt8),J,a2))<|fun b3=>some<|.inr<|.inr<|.inr<|.inr<|.inr<|.inr<|.inr b3) else bd (α:=Bool) (if (x3==8)=true then some (x3==8) else some (x3==9)) (fun b4=>bd (α:=Int×Int×(List UInt8)×(List Int)) (if b4=true then bd3 (a_l (⟨x1.b,G,H⟩:E_) (x2.rules.length:Int)) fun b5 b6 b7=>some (b6,b7,([]:List UInt8),[b5]) else bd (α:=Int×Int×(List UInt8)) (if (x3==10)=true then bd3 (e_0 (⟨x1.b,G,H⟩:E_) [0,10,59,255]) fun b8 b9 ba=>some (b9,ba,[mkB b8]) else some (G,H,([]:List UInt8))) (un3 fun bb bc be=>some (bb,bc,be,([]:List Int))))<|un4 fun bf bg bh bi=>some<|.inl (bf,bg,bh,([]:List Int),bi))) (el (un5 fun bj bk bm bn bo=>some<|.inl (bj,bk,bm,([]:List Str),bn,bo)) some)) (el (un6 fun bp bq br bs bt bu=>some<|.inl (bp,bq,br,bs,bt,bu)) some)) (el (un6 fun bv bw bx bz bA bB=>some<|.inl (bv,bw,bx,bz,bA,bB)) some)) (el (un6 fun bC bD bE bF bG bH=>some<|.inl (bC,bD,0,bE,bF,bG,bH)) some)) (el (un7 fun bI bJ bK bL bM bN bO=>some<|.inl (bI,bJ,bK,bL,bM,bN,bO)) some)) (el (un7 fun bP bQ bR bS bT bU bV=>some<|.inl (bP,bQ,bR,false,bS,bT,bU,bV)) some))<|el (un8 fun bW bX bY bZ c0 c1 c2 c3=>some ((⟨a8,x3,bY,bZ,c0,c1,c2,c3⟩:e_),bW,bX)) some
def f_t (n:Nat)(x1:E_):Option (d_×Int×Int) :=
 bd3 (d_2 n x1 (⟨([]:List e_)⟩:d_) 1) fun L O V=>bd (psh ([]:List e_) L) fun W=>bd3 (a_l (⟨x1.b,O,V⟩:E_) 6) fun Y a0 a1=>bd (a_8 (σ:=Int×Int×Int×(List e_)) (ρ:=d_×Int×Int) (un4 fun H I J G=>if (decide<|0<H)=true then bd3 (a_l (⟨x1.b,I,J⟩:E_) 10) fun a2 a3 a4=>bd3 (d_2 n (⟨x1.b,a3,a4⟩:E_) (⟨G⟩:d_)<|g_ 1 a2) fun a5 a6 a7=>bd (psh G a5) fun a8=>some (.next (L_ H 1,a6,a7,a8)) else some (.brk (H,I,J,G))) n (Y,a0,a1,W))<|el (un4 fun H I J G=>some ((⟨G⟩:d_),I,J))<|fun a9=>some a9
structure h_e where
 spec_l9Make:E_->d_->Int->Int->Option (Val×Int×Int)
def f_u (n:Nat)(rec:h_e)(x1:E_)(x2:d_)(x3:Int)(x4:Int):Option (Val×Int×Int) :=
 bd (idx x2.rules x3) fun G=>bd (α:=Sum (Int×Int×Int×(List UInt8)×(List Val))<|Val×Int×Int) (if (G.kind==1)=true then bd (c_Z G.size) fun a7=>bd (d_r a7 70000) fun a8=>bd3 (a_l x1 a8) fun a9 aa ab=>some (.inl (aa,ab,a9,([]:List UInt8),([]:List Val))) else bd (α:=Sum (Int×Int×Int×(List UInt8)×(List Val))<|Sum (Int×Int×Int×(List UInt8)×(List Val))<|Val×Int×Int) (if (G.kind==3)=true then bd3 (d_Z x1 G.size) fun ad ae af=>some (.inl (ae,af,0,ad,([]:List Val))) else bd (α:=Bool) (if (G.kind==4)=true then some (G.kind==4) else some (G.kind==10)) (fun ah=>bd (α:=Sum (Int×Int×Int×(List UInt8)×(List Val))<|Sum (Int×Int×Int×(List UInt8)×(List Val))<|Sum (Int×Int×Int×(List UInt8)×(List Val))<|Val×Int×Int) (if ah=true then bd (d_r x4 6) fun ai=>bd3 (a_l x1<|g_ ai 1) fun aj ak al=>bd3 (d_Z (⟨x1.b,ak,al⟩:E_) aj) fun O V W=>bd (α:=Bool×Int×Int) (if (G.kind==10)=true then if (decide<|0<(O.length:Int))=true then bd3 (d_Y (⟨x1.b,V,W⟩:E_) 2) fun am an ao=>some (am,an,ao) else some (false,V,W) else some (false,V,W)) (un3 fun ap a2 a3=>bd (α:=Int×Int×(List UInt8)) (if ap=true then bd (idx G.bytes 0) fun aq=>bd3 (e_0 (⟨x1.b,a2,a3⟩:E_) [byteI aq,92]) fun ar au av=>bd (upd O 0<|mkB ar) fun aw=>some (au,av,aw) else some (a2,a3,O))<|un3 fun ax ay az=>some<|.inl (ax,ay,0,az,([]:List Val))) else bd (α:=Sum (Int×Int×Int×(List Val))<|Sum (Int×Int×Int×(List UInt8)×(List Val))<|Sum (Int×Int×Int×(List UInt8)×(List Val))<|Sum (Int×Int×Int×(List UInt8)×(List Val))<|Val×Int×Int) (if (G.kind==5)=true then bd (d_r x4 3) fun aA=>bd3 (a_l x1<|g_ aA 1) fun aB aC aD=>bd (a_8 (σ:=Int×Int×Int×(List Val)) (ρ:=Val×Int×Int) (un4 fun H I J L=>if (decide<|0<H)=true then bd (idx G.kids 1) fun aE=>bd3 (rec.spec_l9Make (⟨x1.b,I,J⟩:E_) x2 aE<|b_N x4 2) fun aF aG aH=>bd (psh L aF) fun aI=>some (.next (L_ H 1,aG,aH,aI)) else some (.brk (H,I,J,L))) n (aB,aC,aD,([]:List Val))) (el (un4 fun H I J L=>some<|.inl (I,J,0,L))<|fun aJ=>some<|.inr<|.inr<|.inr<|.inr aJ) else bd (α:=Sum (Int×Int×Int×(List Val))<|Sum (Int×Int×Int×(List Val))<|Sum (Int×Int×Int×(List UInt8)×(List Val))<|Sum (Int×Int×Int×(List UInt8)×(List Val))<|Sum (Int×Int×Int×(List UInt8)×(List Val))<|Val×Int×Int) (if (G.kind==6)=true then bd (x_ (σ:=Int×Int×(List Val)) (ρ:=Val×Int×Int) (fun aK=>un3 fun Y a0 a1=>bd (idx G.kids (aK:Int)) fun aL=>bd3 (rec.spec_l9Make (⟨x1.b,Y,a0⟩:E_) x2 aL<|b_N x4 2) fun aM aN aO=>bd (psh a1 aM) fun aP=>some<|.next (aN,aO,aP)) G.kids.length 0 (x1.i,x1.h,([]:List Val))) (el (un3 fun Y a0 a1=>some<|.inl (Y,a0,0,a1))<|fun aQ=>some<|.inr<|.inr<|.inr<|.inr<|.inr aQ) else bd (α:=Int×Int×Int×(List Val)) (if (G.kind==7)=true then bd3 (a_l x1 (G.tags.length:Int)) fun a4 aR aS=>bd (idx G.tags a4) fun aT=>bd (idx G.kids<|g_ a4 1) fun aU=>bd3 (rec.spec_l9Make (⟨x1.b,aR,aS⟩:E_) x2 aU<|b_N x4 2) fun aV aW aX=>some (aW,aX,aT,[aV]) else bd (α:=Int×Int×(List Val)) (if (G.kind==8)=true then bd3 (d_Y x1 2) fun aY a5 a6=>bd (α:=Int×Int×(List Val)) (if aY=true then bd (idx G.kids 0) fun aZ=>bd3 (rec.spec_l9Make (⟨x1.b,a5,a6⟩:E_) x2 aZ<|b_N x4 2) fun b0 b1 b2=>some (b1,b2,[b0]) else some (a5,a6,([]:List Val))) (un3 fun b3 b4 b5=>some (b3,b4,b5)) else bd (α:=Int×Int×(List Val)) (if (G.kind==9)=true then bd (idx G.kids 0) fun b6=>bd3 (rec.spec_l9Make x1 x2 b6<|b_N x4 2) fun b7 b8 b9=>some (b8,b9,[b7]) else some (x1.i,x1.h,([]:List Val))) (un3 fun ba bb bc=>some (ba,bb,bc))) (un3 fun be bf bg=>some (be,bf,0,bg))) (un4 fun bh bi bj bk=>some<|.inl (bh,bi,bj,bk))) (el (un4 fun bm bn bo bp=>some<|.inl (bm,bn,bo,bp)) some)) (el (un4 fun bq br bs bt=>some<|.inl (bq,br,bs,([]:List UInt8),bt)) some))<|el (un5 fun bu bv bw bx bz=>some<|.inl (bu,bv,bw,bx,bz)) some)) (el (un5 fun bA bB bC bD bE=>some<|.inl (bA,bB,bC,bD,bE)) some))<|el (un5 fun bF bG bH bI bJ=>some ((⟨bH,bI,bJ⟩:Val),bF,bG)) some
def e_1:Nat->h_e
 | 0=>⟨fun _ _ _ _=>none⟩
 | n+1=>⟨f_u n<|e_1 n⟩
def k_y (n:Nat):=(e_1 n).spec_l9Make
def f_v (n:Nat)(x1:Int)(x2:Int):Option (List UInt8) :=
 bd (f_e n x1 x2) fun I=>bd (a_8 (σ:=(List UInt8)×Int) (ρ:=List UInt8) (un2 fun H G=>if (decide<|0<=G)=true then bd (idx I G) fun J=>bd (psh H J) fun L=>some (.next (L,L_ G 1)) else some (.brk (H,G))) n (([]:List UInt8),L_ (I.length:Int) 1))<|el (un2 fun H G=>some H)<|fun O=>some O
def d_u (n:Nat)(x1:e_)(x2:Int):Option (List UInt8) :=
 if x1.little=true then bd (f_v n x2 x1.size) fun G=>some G else bd (f_e n x2 x1.size) fun H=>some H
structure k_z where
 spec_l11Print:d_->Int->Val->Option (List UInt8)
def f_w (n:Nat)(rec:k_z)(x1:d_)(x2:Int)(x3:Val):Option (List UInt8) :=
 bd (idx x1.rules x2) fun G=>bd (x_ (σ:=List UInt8) (ρ:=List UInt8) (fun L=>(fun H=>bd (idx x3.items (L:Int)) fun O=>bd (b_l G x3.number (L:Int)) fun V=>bd (rec.spec_l11Print x1 V O) fun W=>bd (app H W) fun Y=>some<|.next Y)) x3.items.length 0 ([]:List UInt8)) (el (fun H=>if (G.kind==1)=true then bd (d_u n G x3.number) fun a0=>some a0 else if (G.kind==2)=true then bd (app ([]:List UInt8) G.bytes) fun a1=>some a1 else if (G.kind==4)=true then bd (idx G.kids 0) fun a2=>bd (idx x1.rules a2) fun a3=>bd (d_u n a3 (x3.bytes.length:Int)) fun a4=>bd (app a4 x3.bytes) fun a5=>some a5 else if (G.kind==5)=true then bd (idx G.kids 0) fun a6=>bd (idx x1.rules a6) fun a7=>bd (d_u n a7 (x3.items.length:Int)) fun a8=>bd (app a8 H) fun a9=>some a9 else if (G.kind==7)=true then bd (idx G.kids 0) fun aa=>bd (idx x1.rules aa) fun ab=>bd (d_u n ab x3.number) fun ad=>bd (app ad H) fun ae=>some ae else if (G.kind==8)=true then bd (app [mkB (x3.items.length:Int)] H) fun af=>some af else if (G.kind==9)=true then bd (f_3 H) fun ah=>bd (psh H<|mkB ah) fun ai=>some ai else if (G.kind==10)=true then bd (x_ (σ:=List UInt8) (ρ:=List UInt8) (fun J=>(fun I=>bd (α:=Bool) (bd (idx x3.bytes (J:Int)) fun aj=>bd (idx G.bytes 0) fun ak=>if ((byteI aj)==(byteI ak))=true then some true else bd (idx x3.bytes (J:Int)) fun al=>some<|(byteI al)==(byteI (92:UInt8))) (fun am=>bd (α:=List UInt8) (if am=true then bd (psh I (92:UInt8)) fun an=>some an else some I)<|fun ao=>bd (idx x3.bytes (J:Int)) fun ap=>bd (psh ao ap) fun aq=>some<|.next aq))) x3.bytes.length 0 H) (el (fun I=>bd (idx G.bytes 0) fun ar=>bd (psh I ar) fun au=>some au)<|fun av=>some av) else if (G.kind==3)=true then bd (app ([]:List UInt8) x3.bytes) fun aw=>some aw else some H)<|fun ax=>some ax)
def d_v:Nat->k_z
 | 0=>⟨fun _ _ _=>none⟩
 | n+1=>⟨f_w n<|d_v n⟩
def f_x (n:Nat):=(d_v n).spec_l11Print
end Go.Vw
namespace Go.Vw
structure k_l where
 spec_l9Default:d_->Int->Option Val
def g_k (n:Nat)(rec:k_l)(x1:d_)(x2:Int):Option Val :=
 bd (idx x1.rules x2) fun G=>if (G.kind==3)=true then bd (mk0 (0:UInt8) G.size) fun I=>some (⟨0,I,([]:List Val)⟩:Val) else if (G.kind==7)=true then bd (idx G.tags 0) fun J=>bd (idx G.kids 1) fun L=>bd (rec.spec_l9Default x1 L) fun O=>some (⟨J,([]:List UInt8),[O]⟩:Val) else bd (α:=Bool) (if (G.kind==6)=true then some (G.kind==6) else some (G.kind==9)) (fun V=>if V=true then bd (x_ (σ:=List Val) (ρ:=Val) (fun W=>(fun H=>bd (idx G.kids (W:Int)) fun Y=>bd (rec.spec_l9Default x1 Y) fun a0=>bd (psh H a0) fun a1=>some<|.next a1)) G.kids.length 0 ([]:List Val)) (el (fun H=>some (⟨0,([]:List UInt8),H⟩:Val))<|fun a2=>some a2) else some (⟨0,([]:List UInt8),([]:List Val)⟩:Val))
def e_h:Nat->k_l
 | 0=>⟨fun _ _=>none⟩
 | n+1=>⟨g_k n<|e_h n⟩
def m_t (n:Nat):=(e_h n).spec_l9Default
def i_J (n:Nat)(x1:d_)(x2:Int):Option Val :=
 bd (e_n x1 x2) fun G=>if (!G)=true then some (⟨0,([]:List UInt8),([]:List Val)⟩:Val) else bd (m_t n x1 x2) fun H=>some H
def g_l (x1:d_)(x2:e_)(x3:Val):Option Bool :=
 if (x2.kind==1)=true then bd (α:=Bool) (bd (c_Z x2.size) fun G=>bd (a_M x3.number 0<|L_ G 1) fun H=>if H=true then if ((x3.bytes.length:Int)==0)=true then some ((x3.items.length:Int)==0) else some false else some false) (fun I=>some I) else if (x2.kind==2)=true then bd (α:=Bool) (if (x3.number==0)=true then if ((x3.bytes.length:Int)==0)=true then some ((x3.items.length:Int)==0) else some false else some false) (fun J=>some J) else if (x2.kind==3)=true then bd (α:=Bool) (if (x3.number==0)=true then if ((x3.bytes.length:Int)==x2.size)=true then some ((x3.items.length:Int)==0) else some false else some false) (fun L=>some L) else if (x2.kind==4)=true then bd (α:=Bool) (if (x3.number==0)=true then bd (idx x2.kids 0) fun O=>bd (d_o x1 O) fun V=>bd (d_r 400 V) fun W=>if (decide<|(x3.bytes.length:Int)<=W)=true then some ((x3.items.length:Int)==0) else some false else some false) (fun Y=>some Y) else if (x2.kind==10)=true then bd (α:=Bool) (if (x3.number==0)=true then if (decide<|(x3.bytes.length:Int)<=400)=true then some ((x3.items.length:Int)==0) else some false else some false) (fun a0=>some a0) else if (x2.kind==5)=true then bd (α:=Bool) (if (x3.number==0)=true then if ((x3.bytes.length:Int)==0)=true then bd (idx x2.kids 0) fun a1=>bd (d_o x1 a1) fun a2=>bd (d_r 40 a2) fun a3=>some (decide<|(x3.items.length:Int)<=a3) else some false else some false) (fun a4=>some a4) else if (x2.kind==6)=true then bd (α:=Bool) (if (x3.number==0)=true then if ((x3.bytes.length:Int)==0)=true then some ((x3.items.length:Int)==(x2.kids.length:Int)) else some false else some false) (fun a5=>some a5) else if (x2.kind==7)=true then bd (α:=Bool) (if ((x3.bytes.length:Int)==0)=true then if ((x3.items.length:Int)==1)=true then bd (b_l x2 x3.number 0) fun a6=>some (decide<|0<=a6) else some false else some false) (fun a7=>some a7) else if (x2.kind==8)=true then bd (α:=Bool) (if (x3.number==0)=true then if ((x3.bytes.length:Int)==0)=true then some (decide<|(x3.items.length:Int)<=1) else some false else some false) (fun a8=>some a8) else bd (α:=Bool) (if (x3.number==0)=true then if ((x3.bytes.length:Int)==0)=true then some ((x3.items.length:Int)==1) else some false else some false) (fun a9=>some a9)
structure m_u where
 spec_l9Valid:d_->Int->Val->Option Bool
def g_m (n:Nat)(rec:m_u)(x1:d_)(x2:Int)(x3:Val):Option Bool :=
 bd (idx x1.rules x2) fun G=>bd (g_l x1 G x3) fun I=>if (!I)=true then some false else bd (x_ (σ:=Unit) (ρ:=Bool) (fun H=>(fun (_:Unit)=>bd (idx x3.items (H:Int)) fun J=>bd (b_l G x3.number (H:Int)) fun L=>bd (rec.spec_l9Valid x1 L J) fun O=>if (!O)=true then some (.ret false) else some (.next ()))) x3.items.length 0 ()) (el (fun (_:Unit)=>some true)<|fun V=>some V)
def d_M:Nat->m_u
 | 0=>⟨fun _ _ _=>none⟩
 | n+1=>⟨g_m n<|d_M n⟩
def i_K (n:Nat):=(d_M n).spec_l9Valid
def i_L (n:Nat)(x1:d_)(x2:Int)(x3:Val):Option Bool :=
 bd (α:=Bool) (bd (e_n x1 x2) fun G=>if G=true then bd (i_K n x1 x2 x3) fun H=>some H else some false) (fun I=>some I)
def i_M (n:Nat)(x1:d_)(x2:Int)(x3:Val):Option ((List UInt8)×Bool) :=
 bd (i_L n x1 x2 x3) fun H=>if (!H)=true then some (([]:List UInt8),false) else bd (f_x n x1 x2 x3) fun G=>if (decide<|400<(G.length:Int))=true then some (([]:List UInt8),false) else some (G,true)
def i_N (n:Nat)(x1:d_)(x2:Val):Option ((List UInt8)×Bool) :=
 bd (d_p x1) fun G=>bd2 (i_M n x1 G x2) fun H I=>some (H,I)
def g_n (n:Nat)(x1:d_):Option ((List UInt8)×Bool) :=
 bd (d_p x1) fun G=>bd (i_J n x1 G) fun H=>bd2 (i_N n x1 H) fun I J=>some (I,J)
def g_o (n:Nat)(x1:List UInt8):Option (d_×(List UInt8)×(List u_)) :=
 bd (f_s n x1) fun H=>bd3 (f_t n H) fun G L O=>bd3 (k_y n (⟨H.b,L,O⟩:E_) G (L_ (G.rules.length:Int) 1) 10) fun V a0 a1=>bd (f_x n G (L_ (G.rules.length:Int) 1) V) fun I=>bd (α:=List UInt8) (if (decide<|400<(I.length:Int))=true then bd2 (g_n n G) fun W a2=>some W else some I)<|fun J=>bd2 (f_c n G J) fun Y a3=>some (G,J,Y)
end Go.Vw
namespace Go.Vw
def f_j (n:Nat)(x1:d_)(x2:List UInt8):Option (List Int) :=
 bd2 (f_d n x1 x2) fun H J=>if (!J)=true then some ([]:List Int) else bd (mk0 0 (x1.rules.length:Int)) fun L=>bd (x_ (σ:=List Int) (ρ:=List Int) (fun O=>(fun G=>bd (idx H (O:Int)) fun I=>bd (idx G I.rule) fun V=>bd (upd G I.rule<|g_ V 1) fun W=>some<|.next W)) H.length 0 L)<|el (fun G=>some G)<|fun Y=>some Y
def d_t (n:Nat)(x1:d_):Option (List Int) :=
 bd (d_Q x1) fun Y=>bd (upd (List.replicate 24 false) Y true) fun a0=>bd (d_Q x1) fun a1=>bd (a_8 (σ:=(List Bool)×Int) (ρ:=List Int) (un2 fun H G=>if (decide<|0<=G)=true then bd (α:=Sum (List Bool)<|Out ((List Bool)×Int)<|List Int) (bd (idx H G) fun a2=>if (!a2)=true then some (.inl H) else bd (idx x1.rules G) fun L=>bd (idx x1.rules G) fun I=>bd (α:=Bool) (if (I.kind==4)=true then some (I.kind==4) else bd (α:=Bool) (if (I.kind==5)=true then some (I.kind==5) else some (I.kind==7)) (fun a3=>some a3)) (fun a4=>bd (α:=List Int) (if a4=true then bd (slc L.kids 1 (L.kids.length:Int)) fun a5=>some a5 else some L.kids)<|fun V=>bd (x_ (σ:=List Bool) (ρ:=List Int) (fun a6=>(fun O=>bd (idx V (a6:Int)) fun a7=>bd (upd O a7 true) fun a8=>some<|.next a8)) V.length 0 H)<|el (fun O=>some<|.inl O)<|fun a9=>some<|.inr<|.ret a9)) (el (fun aa=>some<|.next (aa,L_ G 1)) some) else some (.brk (H,G))) n (a0,a1)) (el (un2 fun H G=>bd (x_ (σ:=List Int) (ρ:=List Int) (fun W=>(fun J=>bd (idx H (W:Int)) fun ab=>bd (α:=List Int) (if ab=true then bd (psh J (W:Int)) fun ad=>some ad else some J)<|fun ae=>some<|.next ae)) x1.rules.length 0 ([]:List Int))<|el (fun J=>some J)<|fun af=>some af)<|fun ah=>some ah)
def c_0 (x1:List Int)(x2:Int):Option Int :=
 bd (α:=Bool) (if (decide<|x2<0)=true then some true else some (decide<|(x1.length:Int)<=x2)) (fun G=>if G=true then some 0 else bd (idx x1 x2) fun H=>some H)
def f_k (n:Nat)(x1:d_)(x2:List Int):Option Int :=
 bd (e_q n x1) fun I=>if (!I)=true then some 0 else bd (d_t n x1) fun G=>bd (x_ (σ:=Int) (ρ:=Int) (fun J=>(fun H=>bd (idx G (J:Int)) fun L=>bd (c_0 x2 L) fun O=>bd (α:=Int) (if (decide<|0<O)=true then some (g_ H 1) else some H)<|fun V=>some<|.next V)) G.length 0 0)<|el (fun H=>bd (nz (G.length:Int)) fun Y=>some<|b_N (a_1 100 H) (G.length:Int))<|fun W=>some W
def f_l (n:Nat)(x1:d_)(x2:List Int):Option (List Str) :=
 bd (e_q n x1) fun J=>if (!J)=true then some ([]:List Str) else bd (d_t n x1) fun H=>bd (x_ (σ:=List Str) (ρ:=List Str) (fun L=>(fun G=>bd (idx H (L:Int)) fun I=>bd (c_0 x2 I) fun O=>bd (α:=List Str) (if (O==0)=true then bd (idx x1.rules I) fun V=>bd (psh G V.name) fun W=>some W else some G)<|fun Y=>some<|.next Y)) H.length 0 ([]:List Str))<|el (fun G=>some G)<|fun a0=>some a0
def e_A (x1:Int)(x2:Int):Option Bool :=
 some (decide<|x2<x1)
def h_9 (x2:Int)(x3:List Int):Option Int :=
 bd (x_ (σ:=Int) (ρ:=Int) (fun I=>(fun G=>bd (idx x3 (I:Int)) fun H=>bd (e_A H G) fun J=>bd (α:=Int) (if J=true then some H else some G)<|fun L=>some<|.next L)) x3.length 0 x2) (el (fun G=>some G)<|fun O=>some O)
def f_m (x1:Int)(x2:Int):Option Int :=
 bd (h_9 x1 [x2]) fun G=>some G
def f_n (x1:List Int)(x2:List Int):Option (List Int) :=
 bd (f_m (x1.length:Int) (x2.length:Int)) fun I=>bd (mk0 0 I) fun H=>bd (x_ (σ:=List Int) (ρ:=List Int) (fun k10=>(fun G=>bd (c_0 x1 (k10:Int)) fun J=>bd (c_0 x2 (k10:Int)) fun L=>bd (upd G (k10:Int)<|g_ J L) fun O=>some<|.next O)) H.length 0 H)<|el (fun G=>some G)<|fun V=>some V
def f_o (x1:List Str)(x2:List Str):Option Bool :=
 if ((x1.length:Int) != (x2.length:Int))=true then some false else bd (x_ (σ:=Unit) (ρ:=Bool) (fun k10=>(fun (_:Unit)=>bd (idx x1 (k10:Int)) fun G=>bd (idx x2 (k10:Int)) fun H=>if (G.b != H.b)=true then some (.ret false) else some (.next ()))) x1.length 0 ()) (el (fun (_:Unit)=>some true)<|fun I=>some I)
def f_p (n:Nat)(x1:List UInt8):Option Bool :=
 bd (h_d x1) fun a0=>if a0=true then some true else bd3 (g_o n x1) fun H I a1=>bd (f_j n H I) fun G=>bd (x_ (σ:=Int) (ρ:=Bool) (fun a2=>(fun J=>bd (idx G (a2:Int)) fun a3=>some<|.next<|g_ J a3)) G.length 0 0) (el (fun J=>bd (f_k n H G) fun L=>bd (f_l n H G) fun O=>bd (x_ (σ:=Unit) (ρ:=Bool) (fun V=>(fun (_:Unit)=>bd (α:=Bool) (bd (idx G (V:Int)) fun a4=>if (decide<|0<a4)=true then bd (idx H.rules (V:Int)) fun a5=>bd (d_N O a5.name) fun a6=>some a6 else some false) (fun a7=>if a7=true then some (.ret false) else some (.next ())))) G.length 0 ()) (el (fun (_:Unit)=>bd (f_n G G) fun W=>bd (x_ (σ:=Unit) (ρ:=Bool) (fun Y=>(fun (_:Unit)=>bd (α:=Bool) (if ((W.length:Int) != (G.length:Int))=true then some true else bd (idx W (Y:Int)) fun a8=>bd (idx G (Y:Int)) fun a9=>some<|a8 != (a_1 2 a9)) (fun aa=>if aa=true then some (.ret false) else some (.next ())))) G.length 0 ()) (el (fun (_:Unit)=>bd (α:=Bool) (if (J==(a1.length:Int))=true then if (decide<|0<=L)=true then if (decide<|L<=100)=true then if ((L==100)==((O.length:Int)==0))=true then bd (h_6 n H I) fun ab=>bd (h_3 n H I) fun ad=>bd (f_o ab ad) fun ae=>some ae else some false else some false else some false else some false)<|fun af=>some af)<|fun ah=>some ah))<|fun ai=>some ai))<|fun aj=>some aj)
end Go.Vw
namespace Go.Vw
open Go.RowKit Dat
theorem m_Q {P:Program}{o:Oper}{a:Act}{w:World}{K K' K1 K2:Act->World->Prop}{Q:Exit->Act->World->Prop}(h:∀a w,K a w->K' a w)(hh:o.wp P a w K (Exit.then K1 Q)):o.wp P a w K' (Exit.then K2 Q):=by
 unfold Oper.wp at *
 generalize (execOp a.eval o).run P w=r at *
 cases r with
 | ok n w' =>
  cases n <;> simp only [Oper.upon] at hh ⊢ <;>
   first
    | exact h _ _ hh
    | exact Calls.mono hh (fun e w'' he=>by cases e <;> first | exact h _ _ he | exact he)
    | exact Rows.mono hh<|fun _ _ he=>h _ _ he
 | halt x w'=>cases x <;> simp only [Oper.upon] at hh ⊢ <;> exact hh
theorem i_V {P:Program}{ops:Array Oper}{K K1:Act->World->Prop}{Q:Exit->Act->World->Prop}{G:List Oper}(hk:∀a w,K1 a w->wpList P ops (Exit.then K Q) G a w):∀(l1:List Oper)(a:Act)(w:World),wpList P ops (Exit.then K1 Q) l1 a w->wpList P ops (Exit.then K Q) (l1++G) a w
 | [],a,w,h=>hk a w h
 | o::l1,a,w,h=>by
  rw [List.cons_append]
  unfold wpList at h ⊢
  split at h
  ·rename_i hw
   rw [if_pos hw]
   rcases h with h | ⟨h1,h2⟩
   ·exact .inl<|m_Q (i_V hk l1) h
   ·exact .inr ⟨h1,h2⟩
  ·rename_i hw
   rw [if_neg hw]
   exact i_V hk l1 _ _ h
section
variable {P:Program}{N:Nat}{ops:Array Oper}{K:Act->World->Prop}{Q:Exit->Act->World->Prop}{e:Env}{w:World}{l:List Oper}
theorem m_R (k:Nat)(l:List Oper):l.take k++l.drop k=l:=List.take_append_drop k l
theorem d_0 (d:Nat)(u:Bool)(k:Nat)(h1:WL P N ops (fun a w'=>w'=w/\Sat N ((d,vB u)::e) a) Q (l.take k) e w)(h2:WL P N ops K Q (l.drop k) ((d,vB u)::e) w):WL P N ops K Q l e w:=fun a ha=>by
 rw [← m_R k l]
 exact i_V (fun a w' ⟨hw,hs⟩=>by subst hw;exact h2 a hs) _ a w<|h1 a ha
variable {d:Nat}{u c:Bool}
def i_W (n:Nat)(e:Env):Bool:=(e.take n).all fun p=>(e.drop n).all fun q=>!Nat.beq p.1 q.1
theorem k_w:∀{e:Env}{t:Nat},(∀q∈e,Nat.beq t q.1=false)->z_ e t=none
 | [],_,_=>rfl
 | (k,v)::e,t,h=>by
  have h1:=h (k,v) List.mem_cons_self;have h2:Nat.beq k t=false:=by rw [← Bool.not_eq_true,Nat.beq_eq] at *;exact fun h=>h1 h.symm
  rw [z_,h2]
  exact k_w fun q hq=>h q<|List.mem_cons_of_mem _ hq
theorem k_x:∀{G H:Env}{t:Nat},(∀p∈G,Nat.beq p.1 t=false)->z_ (G++H) t=z_ H t
 | [],_,_,_=>rfl
 | (k,v)::G,H,t,h=>by
  rw [List.cons_append,z_,h (k,v) List.mem_cons_self]
  exact k_x fun p hp=>h p<|List.mem_cons_of_mem _ hp
theorem m_S {n:Nat}{e:Env}(h:i_W n e=true){t:Nat}{v:Value}(hl:z_ (e.drop n) t=some v):z_ e t=some v:=by
 have:z_ (e.take n++e.drop n) t=z_ (e.drop n) t:=by
  refine k_x fun p hp=>?_
  cases hb:Nat.beq p.1 t with
  | false=>rfl
  | true =>
   exfalso
   have hpt:p.1=t:=Nat.eq_of_beq_eq_true hb;have h1:=List.all_eq_true.1 h p hp
   rw [List.all_eq_true] at h1
   have:=k_w (e:=e.drop n) (t:=t) fun q hq=>by
    have:=h1 q hq
    rw [Bool.not_eq_true'] at this
    rw [← hpt];exact this
   rw [this] at hl;cases hl
 rw [List.take_append_drop] at this
 rw [this];exact hl
theorem m_T (n:Nat){e':Env}{a:Act}(hu:c=u)(G:z_ e' d=some (vB c))(hf:i_W n e'=true)(he:e'.drop n=e)(ha:Sat N e' a):Sat N ((d,vB u)::e) a:=by
 subst hu;subst he;refine ⟨ha.defers,ha.size,fun t v ht=>?_⟩
 simp only [z_] at ht
 by_cases hk:d=t
 ·subst hk;have hb:Nat.beq d d=true:=by simp
  rw [hb] at ht
  simp only [cond_true,Option.some.injEq] at ht
  subst ht;exact ha.at_ d _ G
 ·have hb:Nat.beq d t=false:=by rw [← Bool.not_eq_true,Nat.beq_eq];exact hk
  rw [hb] at ht
  simp only [cond_false] at ht
  exact ha.at_ t v<|m_S hf ht
theorem WLq (n:Nat){e':Env}(hu:some c=some u)(G:z_ e' d=some (vB c))(hf:i_W n e'=true)(he:e'.drop n=e):WL P N ops (fun a w'=>w'=w/\Sat N ((d,vB u)::e) a) Q [] e' w :=
 e_z fun _ ha=>⟨rfl,m_T n (Option.some.inj hu) G hf he ha⟩
end
end Go.Vw
universe u
namespace Go.Vw
open Go.RowKit Dat
section
variable {P:Program}{N:Nat}{ops:Array Oper}{K:Act->World->Prop}{Q:Exit->Act->World->Prop}{e:Env}{w:World}{rest:List Oper}
variable {d:Nat}{op:Op}{ty:TypeId}{pos:String}{aft:Array Edge}{x:Operand}
theorem Wn {y:Code}{Q':Exit->Act->World->Prop}(h:WC P N y K Q e w):WL P N ops (KC P y K Q) Q' [] e w:=e_z<|WC.of_KC h
theorem Ws {id:Nat}{l:List Oper}{y:Code}(h:WL P N l.toArray (KC P y K Q) Q l e w):WC P N (.seq (.region id l.toArray false) y) K Q e w:=f_g<|f_i h
theorem Wk {y:Code}{Q':Exit->Act->World->Prop}(h:WC P N y K Q e w):WC P N .skip (KC P y K Q) Q' e w:=a_7<|WC.of_KC h
theorem c_X {b:Bool}{o:Option Value}{v:Value}(h:(bif b then o else none)=some v):b=true/\o=some v:=by
 cases b
 ·cases h
 ·exact ⟨rfl,h⟩
theorem Rm {v:Value}(h:(bif Nat.blt d N then ev e x else none)=some v)(k:WL P N ops K Q rest ((d,v)::e) w):WL P N ops K Q (⟨some d,.move x,ty,pos,aft,none⟩::rest) e w:=R (c_X h).1 (e_Q (c_X h).2) k
theorem Ra {v:Value}(h:(bif Nat.blt d N then ev e x else none)=some v)(k:WL P N ops K Q rest ((d,v)::e) w):WL P N ops K Q (⟨some d,.assign x,ty,pos,aft,none⟩::rest) e w:=R (c_X h).1 (e_R (c_X h).2) k
section
variable {j:Nat}{want b:Bool}
theorem bind_some {o:Option Nat}{v:Value}(h:o.bind (z_ e)=some v):∃gd,o=some gd/\z_ e gd=some v:=by
 cases o with
 | none=>cases h
 | some g=>exact ⟨g,rfl,h⟩
theorem Rh {v:Value}(h:(bif Nat.blt d N then ((ops[j]?).bind (·.dst)).bind (z_ e) else none)=some (.bool b))(hw:b=want)(hr:Rd noX P N ⟨some d,op,ty,pos,aft,some (j,want)⟩ e w v)(k:WL P N ops K Q rest ((d,v)::e) w):WL P N ops K Q (⟨some d,op,ty,pos,aft,some (j,want)⟩::rest) e w:=by
 obtain ⟨gd,h1,h2⟩:=bind_some (c_X h).2;exact Rg h1 h2 hw (c_X h).1 hr k
theorem Nh (h:(bif Nat.blt d N then ((ops[j]?).bind (·.dst)).bind (z_ e) else none)=some (.bool b))(hw:b = !want)(k:WL P N ops K Q rest ((d,undef)::e) w):WL P N ops K Q (⟨some d,op,ty,pos,aft,some (j,want)⟩::rest) e w:=by
 obtain ⟨gd,h1,h2⟩:=bind_some (c_X h).2;exact Ng h1 h2 hw (c_X h).1 k
theorem Nv (h:(bif Nat.blt d N then ((ops[j]?).bind (·.dst)).bind (z_ e) else none)=some undef)(k:WL P N ops K Q rest ((d,undef)::e) w):WL P N ops K Q (⟨some d,op,ty,pos,aft,some (j,want)⟩::rest) e w:=by
 obtain ⟨gd,h1,h2⟩:=bind_some (c_X h).2;exact Nu h1 h2 (c_X h).1 k
end
end
theorem inbR {j:Nat}{K':Act->World->Prop}{Q:Exit->Act->World->Prop}{a:Act}{w:World}(h:Q .ret a w):inB j K' Q .ret a w:=h
theorem goF {P:Program}{f:FuncId}{G:Func}{c:Code}{N:Nat}{args:List Value}{w:World}{R:Value->World->Prop}(hf:P.funcs[f]? = some G)(hb:G.body=some c)(hN:G.ntmps=N)(hle:args.length<=N)(h:∀fn:Func,fn.results=G.results->WC P N c (c_O P fn R) (QR P fn R) (e_9 0 args) w):n_ P f args w R:=o_o hf hb hN hle<|h G rfl
theorem goG {P:Program}{f:FuncId}{G:Func}{c:Code}{N:Nat}{args:List Value}{w:World}{R:Value->World->Prop}(hf:P.funcs[f]? = some G)(hb:G.body=some c)(hN:G.ntmps=N)(hle:Nat.ble args.length N=true)(h:∀fn:Func,fn.results=G.results->WC P N c (c_O P fn R) (QR P fn R) (e_9 0 args) w):n_ P f args w R:=goF hf hb hN (Nat.le_of_ble_eq_true hle) h
section
variable {P:Program}{N:Nat}{e:Env}{w:World}{ty:TypeId}{pos:String}{aft:Array Edge}{gd:Option (Nat×Bool)}{x y:Operand}
theorem fs0 {T n g o:Nat}{v:Value}{cur cur':List Value}(hs:∀w,(sizeOf T).run P w = .ok n w)(hp:ev e x=some (.pointer<|some ⟨g,o,none⟩))(hv:ev e y=some v)(hB:Blk w g cur)(hn:v.cells.size=n)
  (ho:Nat.ble (o+n) cur.length=true) (h1:v.cells.toList.all Value.oneCell'=true) (hcur:cur.take o++v.cells.toList++cur.drop (o+v.cells.toList.length)=cur') :
  Ef P N ⟨none,.store T x y,ty,pos,aft,gd⟩ e w (fun _ w'=>Blk w' g cur'/\Chg (· = g) w w'):=e_2 hs hp hv hB hn (Nat.le_of_ble_eq_true ho) (f_D h1) hcur
end
abbrev rQ {ρ:Type}(P:Program)(fn:Func)(Q:ρ->Value->World->Prop)(r:ρ)(ex:Exit)(a:Act)(w:World):Prop:=ex = .ret/\c_O P fn (Q r) a w
abbrev _root_.Go.World.z (w:World):Nat:=w.heap.size
abbrev sl (a:Option Addr)(n c:Nat):Value:=.slice a n c
abbrev pt (g:Nat):Value:=.pointer<|some ⟨g,0,none⟩
abbrev Bw (a b:World):Prop:=Below a.heap.size a b
abbrev vR (x:e_)(G:Option Addr)(H I:Nat)(a2:Option Addr)(J L:Nat)(O:Option Addr)(V W:Nat)(Y:Option Addr)(n4 c4:Nat):List Value:=[x.name.v,vI x.kind,vI x.size,vB x.little,.slice G H I,.slice a2 J L,.slice O V W,.slice Y n4 c4]
theorem z {α:Sort u}{a:α}:a=a:=rfl
theorem Sat.k {N:Nat}{e e':Env}{a:Act}(h:Sat N e a)(hs:sub e e'):Sat N e' a:=h.weaken hs
theorem fid {a:Prop}(h:a):a:=h
theorem lt_ {a b c:Nat}(h:a<=b)(h':b<=c):a<=c:=Nat.le_trans h h'
theorem lr {a:Nat}:a<=a:=Nat.le_refl a
theorem lb {a b:Nat}(h:Nat.ble a b=true):a<=b:=Nat.le_of_ble_eq_true h
theorem ii {x:Int}(h:(decide (-9223372036854775808<=x) && decide (x<=9223372036854775807))=true):inI x:=inI_of x h
section
variable {S T A M:List Nat}{m n g k:Nat}
theorem i_O (h:m<=n):∀k∈[n],m<=k:=c_ h
theorem mno (h:∀ k∈T,k<m)(h':m<=n):∀k∈[n],k∉T:=c_<|fun ht=>absurd (h n ht)<|Nat.not_lt.2 h'
theorem mnr (h:∀ k∈T,k<m):∀k∈[m],k∉T:=mno h lr
theorem mm1 (h:g<m)(h':m<=n):∀k∈[n],k∉[g]:=mno (c_ h) h'
theorem mmr (h:g<m):∀k∈[m],k∉[g]:=mno (c_ h) lr
theorem mor (h:m<=n):∀k∈[n],k∈M∨m<=k:=c_<|.inr h
theorem l_ (hs:∀k∈S,n<=k)(h:m<=n):∀k∈S,m<=k:=or0 hs<|b_f h
theorem j_ (hs:∀k∈S,n<=k)(h:g<m)(h':m<=n):∀k∈S,k∉[g]:=or0 hs<|O_ (c_ h) h'
theorem b_e (hs:∀k∈S,n<=k)(h:∀ k∈T,k<m)(h':m<=n):∀k∈S,k∉T:=or0 hs<|O_ h h'
theorem a_i (hs:∀k∈S,k∈A∨n<=k)(ha:∀k∈A,m<=k)(h:m<=n):∀k∈S,m<=k:=or1 hs ha<|b_f h
theorem o1no (hs:∀k∈S,k∈A∨n<=k)(ha:∀k∈A,k∉T)(h:∀ k∈T,k<m)(h':m<=n):∀k∈S,k∉T:=or1 hs ha<|O_ h h'
theorem djs (h:∀k∈S,k∉[g]):g∉S:=fun hg=>h g hg<|List.mem_singleton.2 rfl
theorem atp {p:Nat->Prop}(h:∀k∈[g],p k):p g:=h g<|List.mem_singleton.2 rfl
theorem nd0:([]++[]:List Nat).Nodup:=f_F G_ G_ d_w
theorem al0 {p:Nat->Prop}:∀k∈([]++[]:List Nat),p k:=f_E d_w d_w
end
section
variable {e e':Env}{v1 v2 v3 v4 v5 v6 v7 v8 v9:Value}{k1 k2 k3 k4 k5 k6 k7 k8 k9:Nat}
theorem s1 (h1:z_ e k1=some v1):sub e [(k1,v1)]:=⟨h1,trivial⟩
theorem s2 (h1:z_ e k1=some v1)(h2:z_ e k2=some v2):sub e [(k1,v1),(k2,v2)]:=⟨h1,s1 h2⟩
theorem s3 (h1:z_ e k1=some v1)(h2:z_ e k2=some v2)(h3:z_ e k3=some v3):sub e [(k1,v1),(k2,v2),(k3,v3)]:=⟨h1,s2 h2 h3⟩
theorem s4 (h1:z_ e k1=some v1)(h2:z_ e k2=some v2)(h3:z_ e k3=some v3)(h4:z_ e k4=some v4):sub e [(k1,v1),(k2,v2),(k3,v3),(k4,v4)]:=⟨h1,s3 h2 h3 h4⟩
theorem s5 (h1:z_ e k1=some v1)(h2:z_ e k2=some v2)(h3:z_ e k3=some v3)(h4:z_ e k4=some v4)(h5:z_ e k5=some v5):sub e [(k1,v1),(k2,v2),(k3,v3),(k4,v4),(k5,v5)]:=⟨h1,s4 h2 h3 h4 h5⟩
theorem s6 (h1:z_ e k1=some v1)(h2:z_ e k2=some v2)(h3:z_ e k3=some v3)(h4:z_ e k4=some v4)(h5:z_ e k5=some v5)(h6:z_ e k6=some v6):sub e [(k1,v1),(k2,v2),(k3,v3),(k4,v4),(k5,v5),(k6,v6)]:=⟨h1,s5 h2 h3 h4 h5 h6⟩
theorem s7 (h1:z_ e k1=some v1)(h2:z_ e k2=some v2)(h3:z_ e k3=some v3)(h4:z_ e k4=some v4)(h5:z_ e k5=some v5)(h6:z_ e k6=some v6)(G:z_ e k7=some v7):sub e [(k1,v1),(k2,v2),(k3,v3),(k4,v4),(k5,v5),(k6,v6),(k7,v7)]:=⟨h1,s6 h2 h3 h4 h5 h6 G⟩
theorem s8 (h1:z_ e k1=some v1)(h2:z_ e k2=some v2)(h3:z_ e k3=some v3)(h4:z_ e k4=some v4)(h5:z_ e k5=some v5)(h6:z_ e k6=some v6)(G:z_ e k7=some v7)(H:z_ e k8=some v8):sub e [(k1,v1),(k2,v2),(k3,v3),(k4,v4),(k5,v5),(k6,v6),(k7,v7),(k8,v8)]:=⟨h1,s7 h2 h3 h4 h5 h6 G H⟩
theorem s9 (h1:z_ e k1=some v1)(h2:z_ e k2=some v2)(h3:z_ e k3=some v3)(h4:z_ e k4=some v4)(h5:z_ e k5=some v5)(h6:z_ e k6=some v6)(G:z_ e k7=some v7)(H:z_ e k8=some v8)(I:z_ e k9=some v9):sub e [(k1,v1),(k2,v2),(k3,v3),(k4,v4),(k5,v5),(k6,v6),(k7,v7),(k8,v8),(k9,v9)]:=⟨h1,s8 h2 h3 h4 h5 h6 G H I⟩
end
theorem onL {α:Type}[Dat α]{w:World}:a_ w [] (.slice none 0 0) ([]:List α):=n_8 w
theorem _root_.Go.RowKit.Below.s {b:Nat}{w w':World}(h:Below b w w'):w.heap.size<=w'.heap.size:=h.size
theorem Chg.s {X:Nat->Prop}{w w':World}(h:Chg X w w'):w.heap.size<=w'.heap.size:=h.size
abbrev Chg.e:=@Chg.ext
abbrev repS.e:=@repS.ext
abbrev repS.c:=@repS.chg
abbrev a_.e:=@a_.ext
abbrev a_.c:=@a_.chg
abbrev W_.e:=@W_.ext
abbrev W_.c:=@W_.chg
abbrev a_D.e:=@a_D.ext
abbrev a_D.c:=@a_D.chg
abbrev b_n.e:=@b_n.ext
abbrev b_n.c:=@b_n.chg
abbrev GlW.e:=@GlW.ext
abbrev GlW.c:=@GlW.chg
abbrev a_Z.e:=@a_Z.ext
abbrev a_Z.c:=@a_Z.chg
abbrev Blk.e:=@Blk.ext
abbrev Blk.c:=@Blk.chg
abbrev b_A.e:=@b_A.ext
abbrev b_A.c:=@b_A.chg
section
variable {P:Program}{N:Nat}{ops:Array Oper}{K:Act->World->Prop}{Q:Exit->Act->World->Prop}{e:Env}{w:World}{rest:List Oper}{X:Nat->Prop}{T:Nat}{p:a_J}
variable {d d':Nat}{ty ty':TypeId}{pos pos':String}{aft aft':Array Edge}{x x':Operand}{v v':Value}
theorem Rw {c:Code}{Q':Exit->Act->World->Prop}(h:(bif Nat.blt d N then ev e x else none)=some v)(k:WC P N c K Q ((d,v)::e) w):WL P N ops (KC P c K Q) Q' [⟨some d,.assign x,ty,pos,aft,none⟩] e w:=Ra h<|Wn k
theorem Wm {id:Nat}{l:List Oper}{c:Code}(h:(bif Nat.blt d N then ev e x else none)=some v)(k:WL P N (⟨some d,.move x,ty,pos,aft,none⟩::l).toArray (KC P c K Q) Q l ((d,v)::e) w):WC P N (.seq (.region id (⟨some d,.move x,ty,pos,aft,none⟩::l).toArray false) c) K Q e w:=Ws<|Rm h k
theorem RM (h:(bif Nat.blt d N then ev e x else none)=some v)(h':(bif Nat.blt d' N then ev ((d,v)::e) x' else none)=some v')(k:WL P N ops K Q rest ((d',v')::(d,v)::e) w):WL P N ops K Q (⟨some d,.move x,ty,pos,aft,none⟩::⟨some d',.move x',ty',pos',aft',none⟩::rest) e w:=Rm h<|Rm h' k
theorem RA (h:(bif Nat.blt d N then ev e x else none)=some v)(h':(bif Nat.blt d' N then ev ((d,v)::e) x' else none)=some v')(k:WL P N ops K Q rest ((d',v')::(d,v)::e) w):WL P N ops K Q (⟨some d,.assign x,ty,pos,aft,none⟩::⟨some d',.assign x',ty',pos',aft',none⟩::rest) e w:=Ra h<|Ra h' k
theorem dM {i:Nat}(ho:ops[i]? = some ⟨some d,.move x,ty,pos,aft,none⟩)(hf:Nat.blt d N=true)(h:ev e x=some v)(k:PR X P N ops T K p ((d,v)::e) w):PR X P N ops T K (.rd i p) e w:=dR ho hf (e_Q h) k
theorem dQ {i:Nat}(ho:ops[i]? = some ⟨some d,.assign x,ty,pos,aft,none⟩)(hf:Nat.blt d N=true)(h:ev e x=some v)(k:PR X P N ops T K p ((d,v)::e) w):PR X P N ops T K (.rd i p) e w:=dR ho hf (e_R h) k
theorem Wx {y y':Code}{b:Bool}{Q':Exit->Act->World->Prop}(hc:ev e x=some (.bool b))(ht:b=true->WC P N y K Q e w)(hf:b=false->WC P N y' K Q e w):WL P N ops (KC P (.cond x y y') K Q) Q' [] e w:=Wn<|f_h hc ht hf
section
variable {t u i:Nat}{k:IntKind}{a b:Int}
theorem Rl (hf:Nat.blt d N=true)(h1:ev e x=some (.int k a))(h2:ev e x'=some (.int k b))(h:WL P N ops K Q rest ((d,vB<|decide<|a<b)::e) w):WL P N ops K Q (⟨some d,.binOp .lss t x x' u,ty,pos,aft,none⟩::rest) e w:=R hf (f_Y h1 h2) h
theorem Rq (hf:Nat.blt d N=true)(h1:ev e x=some (.int k a))(h2:ev e x'=some (.int k b))(h:WL P N ops K Q rest ((d,vB<|a==b)::e) w):WL P N ops K Q (⟨some d,.binOp .eql t x x' u,ty,pos,aft,none⟩::rest) e w:=R hf (f_X h1 h2) h
theorem Rf {g o j:Nat}(hf:Nat.blt d N=true)(h1:Fld P t i j)(h2:ev e x=some (.pointer<|some ⟨g,o,none⟩))(h:WL P N ops K Q rest ((d,.pointer<|some ⟨g,o+j,none⟩)::e) w):WL P N ops K Q (⟨some d,.fieldAddr t x i,ty,pos,aft,none⟩::rest) e w:=R hf (f_S h1 h2) h
theorem Re {vs:Array Value}(hf:Nat.blt d N=true)(h1:ev e x=some (.tuple vs))(h2:vs[i]? = some v)(h:WL P N ops K Q rest ((d,v)::e) w):WL P N ops K Q (⟨some d,.extract x i,ty,pos,aft,none⟩::rest) e w:=R hf (f_U h1 h2) h
end
theorem l0 {t g o:Nat}{dst:Option Tmp}{gd:Option (Nat×Bool)}(hT:∀w,(isAgg t).run P w = .ok false w)(h:ev e x=some (.pointer<|some ⟨g,o,none⟩))(hc:w.cell? ⟨g,o,none⟩=some v):Rd noX P N ⟨dst,.load t x,ty,pos,aft,gd⟩ e w v:=f_T hT h (fun h=>h) hc
def plA:Nat->Nat->List Nat->a_J
 | _,0,_=>.done
 | i,n+1,l=>bif l.elem i then .ef i (plA (i+1) n l) else .rd i (plA (i+1) n l)
abbrev pl_ (n:Nat)(l:List Nat):a_J:=plA 0 n l
end
end Go.Vw
namespace Go.Vw
open Go.RowKit Dat Go.ChangeShapes Go.WideShapes Go.ChangeAt
structure IsT (P:Program)(t:TypeId)(α:Type)[Dat α](L:α->Prop):Prop where
 rd:∀{H:Type}(enc:TypeId×Value->H)(W:World)(fuel:Nat)(cs:List Value)(x:DataW H×List MemPlace),DataW.trod enc P W 0 (fun _=>true) true fuel t cs=some x->(x.1.weights P t).all (· <= reachBytes)=true->∃v:α,rep W W.heap.size cs v/\L v
section
variable {P:Program}{t:TypeId}
theorem o_f (ht:P.underlying t=some (.int .u8)):IsT P t UInt8 (fun _=>True):=⟨fun enc W fuel cs x h _=>by
 obtain ⟨n,rfl,_,hw⟩:=DataW.trod_int ht h;have hb:=bounds_u8 hw
 have e:n=byteI (UInt8.ofNat n.toNat):=by
  unfold byteI
  rw [UInt8.toNat_ofNat']
  omega
 refine ⟨UInt8.ofNat n.toNat,⟨_,rfl,?_⟩,trivial⟩
 show Value.int .u8 n=vU (byteI<|UInt8.ofNat n.toNat)
 rw [← e]⟩
theorem l_0 {H:Type}{e:TypeId}:∀{l:List (DataW H)}{d:DataW H},(DataW.weightsAll P e l).all (· <= reachBytes)=true->d∈l->(d.weights P e).all (· <= reachBytes)=true
 | [],_,_,h=>by cases h
 | y::l,d,hw,h=>by
  unfold DataW.weightsAll at hw
  rw [List.all_append,Bool.and_eq_true] at hw
  rcases List.mem_cons.1 h with rfl | h
  ·exact hw.1
  ·exact l_0 hw.2 h
theorem l_1 {H:Type}:∀{ts:List TypeId}{l:List (DataW H)}{i:Nat}{t:TypeId}{d:DataW H},(DataW.weightsEach P ts l).all (· <= reachBytes)=true->ts[i]? = some t->l[i]? = some d->(d.weights P t).all (· <= reachBytes)=true
 | [],_,_,_,_,_,h,_=>by simp at h
 | _::_,[],_,_,_,_,_,h=>by simp at h
 | t::ts,y::l,i,t',d,hw,h1,h2=>by
  unfold DataW.weightsEach at hw
  rw [List.all_append,Bool.and_eq_true] at hw
  cases i with
  | zero=>simp at h1 h2;subst h1 h2;exact hw.1
  | succ i=>simp at h1 h2;exact l_1 hw.2 h1 h2
theorem cells?_spec {w:World}{a:Addr}{n:Nat}{cs:List Value}(h:w.cells? 0 a n=some cs):cs.length=n/\∀j v,cs[j]? = some v->w.cell? (a.add j)=some v:=by
 unfold World.cells? at h
 rw [if_pos (Nat.zero_le _)] at h
 refine ⟨by simpa using mapM_some_length h,fun j v hv=>?_⟩
 have hj:j<n:=by
  have h1:=(List.getElem?_eq_some_iff.1 hv).1;have h2:=mapM_some_length h
  simp at h2
  omega
 have:=mapM_some_get h j j (by rw [List.getElem?_range hj])
 rw [this];exact hv
theorem o_g {w:World}{a:Addr}{v:Value}(h:w.cell? a=some v):a.spot=none:=by
 unfold World.cell? at h
 split at h
 ·cases hs:a.spot with
  | none=>rfl
  | some x=>rw [hs] at h;simp at h
 ·cases h
theorem l_2 {α:Type}(Q:Nat->α->Prop):∀(len:Nat),(∀i,i<len->∃v,Q i v)->∃l:List α,l.length=len/\∀(i:Nat)(x:α),l[i]? = some x->Q i x
 | 0,_=>⟨[],rfl,fun i x h=>by simp at h⟩
 | n+1,h=>by
  obtain ⟨l,hl,hq⟩:=l_2 Q n<|fun i hi=>h i (by omega);obtain ⟨v,hv⟩:=h n (by omega);refine ⟨l++[v],by simp [hl],fun i x hx=>?_⟩
  by_cases hi:i<l.length
  ·rw [List.getElem?_append_left hi] at hx;exact hq i x hx
  ·rw [List.getElem?_append_right (by omega)] at hx
   have h1:=(List.getElem?_eq_some_iff.1 hx).1
   simp only [List.length_cons,List.length_nil] at h1
   have h2:i=n:=by omega
   subst h2
   rw [show i - l.length=0 by omega] at hx
   simp at hx
   exact hx ▸ hv
theorem o_h {α:Type}[Dat α]{L:α->Prop}{e:TypeId}(ht:P.underlying t=some (.slice e))(he:IsT P e α L)(hc:P.cellsOf e=sz α)(hb:1<=P.bytesOf e):IsT P t (List α) (fun l=>l.length<=LEN/\∀x∈l,L x):=⟨fun enc W fuel cs x h hw=>by
 have hr:reachBytes=140737488351232:=rfl;have hL:LEN=140737488355328:=rfl
 rcases DataW.trod_slice ht h with ⟨rfl,rfl⟩ | ⟨a,len,cap,elems,rest,n,_,rfl,rfl,_,hlc,_,hlen,hel,hsp,_⟩
 ·exact ⟨[],⟨_,rfl,none,0,rfl,Nat.le_refl _,Nat.zero_le _,fun _=>rfl,fun p hp=>by cases hp⟩,by simp,fun x hx=>by cases hx⟩
 ·obtain ⟨hrl,_⟩:=hsp rfl
  have hw':(elems.length+rest.length) * P.bytesOf e<=reachBytes/\(DataW.weightsAll P e<|elems.map (·.1)).all (· <= reachBytes)=true:=by
   unfold DataW.weights at hw
   rw [ht] at hw
   simp only [List.all_cons,List.all_append,Bool.and_eq_true,decide_eq_true_eq,List.length_map] at hw
   exact ⟨hw.1,hw.2.1⟩
  have hcap:cap<=LEN:=by
   have h1:elems.length+rest.length<=(elems.length+rest.length) * P.bytesOf e:=Nat.le_mul_of_pos_right _ hb
   omega
  have hone:∀i:Nat,i<len->∃v:α,a.spot=none/\a.block<W.heap.size/\(∃cs,W_ W a.block (a.off+i * sz α) cs/\rep W W.heap.size cs v)/\L v:=by
   intro i hi;have h1:=hel i hi;have hie:i<elems.length:=by omega
   rw [List.getElem?_eq_getElem hie] at h1
   cases hcs:W.cells? 0 (a.add<|i * P.cellsOf e) (P.cellsOf e) with
   | none=>rw [hcs] at h1;cases h1
   | some cs =>
    rw [hcs] at h1
    simp only [Option.bind_some] at h1
    obtain ⟨v,hv,hl⟩:=he.rd enc W n cs _ h1<|l_0 hw'.2<|List.mem_map_of_mem<|List.getElem_mem hie;obtain ⟨J,O⟩:=cells?_spec hcs;have hpos:0<cs.length:=by rw [J,hc];exact Dat.pos
    have hsp:a.spot=none:=by
     have G:=hel 0 (by omega)
     rw [List.getElem?_eq_getElem (show 0<elems.length by omega)] at G
     cases H:W.cells? 0 (a.add<|0 * P.cellsOf e) (P.cellsOf e) with
     | none=>rw [H] at G;cases G
     | some I =>
      obtain ⟨V,Y⟩:=cells?_spec H;have hpos0:0<I.length:=by rw [V,hc];exact Dat.pos
      have:=Y 0 I[0] (by rw [List.getElem?_eq_getElem hpos0]);have:=o_g this
      simpa [Addr.add] using this
    have ha:a=⟨a.block,a.off,none⟩:=by cases a;simp only at hsp;rw [hsp]
    have hcells:W_ W a.block (a.off+i * sz α) cs:=by
     intro j u hu;have:=O j u hu
     rw [ha,Addr.add_lit,Addr.add_lit,hc] at this
     exact this
    exact ⟨v,hsp,hcells.lt (by intro h;rw [h] at hpos;cases hpos),⟨cs,hcells,hv⟩,hl⟩
  obtain ⟨l,hll,hq⟩:=l_2 _ len hone;refine ⟨l,⟨_,rfl,some a,cap,by rw [hll],by omega,by omega,fun h=>(by cases h),fun p hp=>?_⟩,by omega,fun x hx=>?_⟩
  ·obtain rfl:=Option.some.inj hp;refine ⟨fun hne=>?_,fun hne=>?_,fun i x hx=>(hq i x hx).2.2.1⟩
   ·cases l with
    | nil=>exact absurd rfl hne
    | cons y l=>exact (hq 0 y rfl).1
   ·cases l with
    | nil=>exact absurd rfl hne
    | cons y l=>exact (hq 0 y rfl).2.1
  ·obtain ⟨i,hi⟩:=List.getElem?_of_mem hx
   exact (hq i x hi).2.2.2⟩
structure OkW (P:Program)(W:World)(base:Nat)(t:TypeId)(v:Value):Prop where
 h:Value.okWide P W .any base t v
structure OkWs (P:Program)(W:World)(base:Nat)(ts:Array TypeId)(vs:Array Value):Prop where
 h:∀(j:Nat) t v,ts[j]? = some t->vs[j]? = some v->Value.okWide P W .any base t v
theorem OkWs.at {W:World}{base:Nat}{ts:Array TypeId}{vs:Array Value}(h:OkWs P W base ts vs)(j:Nat)(t:TypeId)(v:Value)(h1:ts[j]? = some t)(h2:vs[j]? = some v):OkW P W base t v:=⟨h.h j t v h1 h2⟩
theorem o_i {W:World}{base:Nat}{t:TypeId}{v:Value}{e:TypeId}(ht:P.underlying t=some (.slice e))(h:OkW P W base t v):∃a n c,v = .slice a n c:=okWide_slice ht h.h
theorem l_3 {H:Type}{enc:TypeId×Value->H}(hl:laidOutB P=true){W W':World}(hb:Below W.heap.size W W'):∀(ts:List TypeId)(vs:List Value)(ds:List (DataW H))(ps:List MemPlace),(∀t∈ts,P.readableRec t=true/\t<P.types.size) ->
  DataW.TrodAll enc P W 0 (fun _=>true) true ts vs ds ps->(∀x∈ps,x.block<W.heap.size)->∀(sp:Nat->Bool),(∀b,b<W.heap.size->sp b=true)->DataW.TrodAll enc P W' 0 sp true ts vs ds ps
 | [],[],[],_,_,h,_,_,_=>h
 | t::ts,v::vs,d::ds,ps,hr,h,hlt,sp,hsp=>by
  obtain ⟨p,q,h1,h2,rfl⟩:=h;refine ⟨p,q,?_,l_3 hl hb ts vs ds q (fun t ht=>hr t<|List.mem_cons_of_mem _ ht) h2 (fun x hx=>hlt x<|List.mem_append_right _ hx) sp hsp,rfl⟩;have hlp:∀x∈p,x.block<W.heap.size:=fun x hx=>hlt x<|List.mem_append_left _ hx
  exact WideElems.Trod_stays hl (hr t List.mem_cons_self).1 (hr t List.mem_cons_self).2 h1 (fun x hx=>hb.same<|hlp x hx) (fun x hx=>hsp _<|hlp x hx)
 | [],_::_,_,_,_,h,_,_,_=>by cases h
 | [],[],_::_,_,_,h,_,_,_=>by cases h
 | _::_,[],_,_,_,h,_,_,_=>by cases h
 | _::_,_::_,[],_,_,h,_,_,_=>by cases h
theorem o_j {H:Type}{enc:TypeId×Value->H}{f:Func}{s:ChangeSpec}{apart fresh handsOn again:Bool}{W W':World}{args:Array Value}{ds gs:List (DataW H)}{before:List MemPlace}{tb:TypeId}(hl:laidOutB P=true)(hread:∀t∈f.params.toList,P.readableRec t=true/\t<P.types.size)
  (hb:Below W.heap.size W W') (hW:DataW.Whole enc P f.params.toList s.vars apart W args.toList ds gs before) (hres:f.resultTypes = #[tb]) (htb:P.underlying tb=some .bool) (hvars:s.vars=[]) (hfn:s.fn H (ds++gs)={ results:=[.lit (.bool true)],args:=ds }) :
  s.post enc P f apart fresh handsOn again W args (.bool true) W':=by
 have hlt:∀x∈before,x.block<W.heap.size:=fun p hp=>hW.lt p hp
 have hW':=hW;obtain ⟨p,q,hA,hV,rfl,hz,hn⟩:=hW
 rw [hvars] at hV
 obtain ⟨rfl,rfl⟩:=trodVars_none hV;have hA':=fun sp hsp=>l_3 hl hb _ _ _ _ hread hA (fun x hx=>hlt x (by simpa using hx)) sp hsp
 have hr:∀(b:Nat)(sp:Nat->Bool)(hd:Bool),DataW.TrodAll enc P W' b sp hd f.resultTypes.toList ((Value.bool true).resultList f.resultTypes.size) (s.fn H<|ds++[]).results []:=fun b sp hd=>by
  rw [hfn,hres];exact trodAll_cons_mk (shut_bool htb _) trodAll_mk0
 have hvs:∀sp:Nat->Bool,DataW.TrodVars enc P W' sp s.vars (s.fn H<|ds++[]).vars []:=fun sp=>by rw [hfn,hvars];rfl
 refine ⟨ds,[],p++[],[],p,[],hW',hr _ _ _,by rw [hfn];exact hA' _ (fun b hb=>by simpa using hb),hvs _,hb.frame _,fun _=>⟨?_,([.lit (.bool true)]:List (DataW H))++ds,[],([]++p)++[],⟨[]++p,[],?_,?_,rfl,?_,?_⟩,?_⟩⟩
 ·exact ok_one hres rfl<|okWide_bool_mk htb _
 ·have h1:=hr 0 (fun _=>true) true
  rw [hfn] at h1
  exact trodAll_append (hA' _<|fun _ _=>rfl) h1
 ·rw [hvars];rfl
 ·intro b off hp;have hp':MemPlace.cell b off∈p++[]:=by simpa using hp
  have:=hlt _ hp'
  rw [hb.frozen (p:=⟨b,off,none⟩) this]
  exact hz b off hp'
 ·intro ha;have:=hn ha;simpa using this
 ·intro x hx _;simpa using hx
end
end Go.Vw
namespace Go.Vw
open Go.RowKit Dat
theorem q_l {x y:Int}(h1 : -9223372036854775808<=x+y)(h2:x+y<=9223372036854775807):g_ x y=x+y:=by
 unfold g_;rw [IntKind.wrap_i64];omega
theorem a_L {x y:Int}(h1 : -9223372036854775808<=x - y)(h2:x - y<=9223372036854775807):L_ x y=x - y:=by
 unfold L_;rw [IntKind.wrap_i64];omega
theorem c_V {x y:Int}(h1 : -9223372036854775808<=x * y)(h2:x * y<=9223372036854775807):a_1 x y=x * y:=by
 unfold a_1;rw [IntKind.wrap_i64];omega
theorem k_i {x y:Int}(G:0<=x)(hx:x<=9223372036854775807)(hy:0<y):b_N x y=x / y:=by
 unfold b_N
 rw [Int.tdiv_eq_ediv_of_nonneg G,IntKind.wrap_i64]
 have h1:=Int.ediv_nonneg G<|Int.le_of_lt hy;have h2:=Int.ediv_le_self y G
 omega
theorem i_G {x y:Int}(G:0<=x):b_6 x y=x % y:=by
 unfold b_6;exact Int.tmod_eq_emod_of_nonneg G
theorem q_m {a b:UInt8}:byteI a=byteI b ↔ a=b:=by
 unfold byteI
 constructor
 ·intro h;have:a.toNat=b.toNat:=by omega
  exact UInt8.toNat_inj.1 this
 ·rintro rfl;rfl
section
variable {α:Type}
theorem k_j {l:List α}{k:Nat}(h:k<l.length):idx l (k:Int)=some l[k]:=by rw [n_3];simp [h]
theorem c_8 {l:List α}{i:Int}(G:0<=i)(h:i.toNat<l.length):idx l i=some l[i.toNat]:=by
 unfold idx;rw [if_pos G];simp [h]
theorem b_b {l:List α}(h:0<l.length):idx l 0=some l[0]:=k_j (k:=0) h
theorem g_h {l:List α}(h:1<l.length):idx l 1=some l[1]:=k_j (k:=1) h
theorem g_i {l:List α}{a b:Int}(G:0<=a)(h1:a<=b)(h2:b<=l.length):slc l a b=some ((l.take b.toNat).drop a.toNat):=by
 unfold slc;rw [if_pos ⟨G,h1,h2⟩]
theorem a_s {l:List α}{x:α}(h:l.length<LIM):psh l x=some (l++[x]):=by unfold psh;rw [if_pos h]
theorem c_W {l m:List α}(h:l.length+m.length<=LIM):app l m=some (l++m):=by unfold app;rw [if_pos h]
theorem c_9 {s t:Str}(h:s.b.length+t.b.length<=LIM):cat s t=some ⟨s.b++t.b⟩:=by unfold cat;rw [if_pos h]
theorem k_k {l:List α}{k:Nat}{x:α}(h:k<l.length):upd l (k:Int) x=some (l.set k x):=by
 unfold upd;rw [if_pos ⟨by omega,by omega⟩];rfl
theorem i_H {l:List α}{i:Int}{x:α}(G:0<=i)(h:i<l.length):upd l i x=some (l.set i.toNat x):=by
 unfold upd;rw [if_pos ⟨G,h⟩]
theorem m_n {z:α}{n:Nat}(h:n<=LIM):mk0 z (n:Int)=some (List.replicate n z):=by
 unfold mk0;rw [if_pos ⟨by omega,by omega⟩];simp
theorem m_o {z:α}{n:Int}(G:0<=n)(h:n<=LIM):mk0 z n=some (List.replicate n.toNat z):=by
 unfold mk0;rw [if_pos ⟨G,h⟩]
end
section
variable {σ ρ:Type}
theorem m_p {body:Nat->σ->Option (Out σ ρ)}(st:Nat->σ):∀n k,(∀j,k<=j->j<k+n->body j (st j)=some (.next<|st<|j+1))->x_ body n k (st k)=some (.inl<|st<|k+n)
 | 0,k,_=>rfl
 | n+1,k,h=>by
  have h1:=h k (Nat.le_refl _) (by omega);have h2:=m_p st n (k+1)<|fun j a b=>h j (by omega) (by omega);unfold x_
  rw [h1]
  simp only
  rw [h2,show k+1+n=k+(n+1) by omega]
theorem b_I {body:Nat->σ->Option (Out σ ρ)}(st:Nat->σ){n:Nat}(h:∀j,j<n->body j (st j)=some (.next<|st<|j+1)):x_ body n 0 (st 0)=some (.inl<|st n):=by
 have:=m_p st n 0<|fun j _ b=>h j (by omega)
 simpa using this
theorem forN_ret' {body:Nat->σ->Option (Out σ ρ)}(st:Nat->σ){r:ρ}:∀n k j0,k<=j0->j0<k+n->(∀j,k<=j->j<j0->body j (st j)=some (.next<|st<|j+1))->body j0 (st j0)=some (.ret r)->x_ body n k (st k)=some (.inr r)
 | 0,k,j0,a,b,_,_=>by omega
 | n+1,k,j0,a,b,h,hr=>by
  unfold x_
  by_cases hk:k=j0
  ·subst hk;rw [hr]
  ·rw [h k (Nat.le_refl _) (by omega)]
   exact forN_ret' st n (k+1) j0 (by omega) (by omega) (fun j c d=>h j (by omega) d) hr
theorem i_I {body:Nat->σ->Option (Out σ ρ)}(st:Nat->σ){r:ρ}{n j0:Nat}(G:j0<n)(h:∀j,j<j0->body j (st j)=some (.next<|st<|j+1))(hr:body j0 (st j0)=some (.ret r)):x_ body n 0 (st 0)=some (.inr r) :=
 forN_ret' st n 0 j0 (by omega) (by omega) (fun j _ b=>h j b) hr
theorem g_j {body:Nat->Unit->Option (Out Unit ρ)}{n:Nat}(p:Nat->Bool)(r:Nat->ρ)(h:∀k,k<n->(∀j,j<k->p j=false)->body k ()=some (if p k=true then .ret (r k) else .next ())) :
  x_ body n 0 ()=some (match (List.range n).find? p with | some k=>.inr (r k) | none=>.inl ()):=by
 cases hf:(List.range n).find? p with
 | none =>
  have hn:∀k,k<n->p k=false:=fun k hk=>by
   have:=List.find?_eq_none.1 hf k<|List.mem_range.2 hk
   simpa using this
  exact b_I (fun _=>()) (fun j hj=>by rw [h j hj (fun i hi=>hn i (by omega)),hn j hj];rfl)
 | some k =>
  obtain ⟨hp,as,bs,hl,has⟩:=List.find?_eq_some_iff_append.1 hf
  have hk:as.length<n/\as.length=k:=by
   have h1:as.length<(List.range n).length:=by rw [hl];simp
   simp at h1
   refine ⟨h1,?_⟩;have h2:(List.range n)[as.length]? = some k:=by rw [hl];simp
   rw [List.getElem?_range h1] at h2
   exact Option.some.inj h2
  obtain ⟨h1,rfl⟩:=hk
  have hb:∀j,j<as.length->p j=false:=fun j hj=>by
   have h2:(List.range n)[j]? = some (as[j]):=by rw [hl,List.getElem?_append_left hj];simp
   rw [List.getElem?_range (by omega)] at h2
   have h3:=has as[j] (List.getElem_mem hj)
   rw [← Option.some.inj h2] at h3
   simpa using h3
  exact i_I (fun _=>()) h1 (fun j hj=>by rw [h j (by omega) (fun i hi=>hb i (by omega)),hb j hj];rfl) (by rw [h _ h1 hb,if_pos hp])
theorem q_n {α:Type}(l:List α)(p:α->Bool)(q:Nat->Bool)(h:∀k (hk:k<l.length),q k=p l[k]):(List.range l.length).any q=l.any p:=by
 rw [Bool.eq_iff_iff]
 simp only [List.any_eq_true,List.mem_range]
 constructor
 ·rintro ⟨k,hk,hq⟩;exact ⟨l[k],List.getElem_mem hk,by rw [← h k hk];exact hq⟩
 ·rintro ⟨x,hx,hp⟩;obtain ⟨k,hk,rfl⟩:=List.getElem_of_mem hx;exact ⟨k,hk,by rw [h k hk];exact hp⟩
theorem d_L {body:Nat->Unit->Option (Out Unit ρ)}{n:Nat}(p:Nat->Bool)(r:ρ)(h:∀k,k<n->(∀j,j<k->p j=false)->body k ()=some (if p k=true then .ret r else .next ())) :
  x_ body n 0 ()=some (if (List.range n).any p=true then .inr r else .inl ()):=by
 rw [g_j p (fun _=>r) h]
 cases hf:(List.range n).find? p with
 | none =>
  have:(List.range n).any p=false:=by
   rw [List.any_eq_false];exact fun x hx=>by simpa using List.find?_eq_none.1 hf x hx
  rw [this];rfl
 | some k =>
  have:(List.range n).any p=true:=List.any_eq_true.2 ⟨k,List.mem_of_find?_eq_some hf,List.find?_some hf⟩
  rw [this];rfl
theorem f_0 {α:Type}{body:Nat->Unit->Option (Out Unit ρ)}{l:List α}(p:α->Bool)(r:ρ)(h:∀k (hk:k<l.length),body k ()=some (if p l[k]=true then .ret r else .next ())) :
  x_ body l.length 0 ()=some (if l.any p=true then .inr r else .inl ()):=by
 rw [d_L (fun k=>if hk:k<l.length then p l[k] else false) r (fun k hk _=>by rw [dif_pos hk];exact h k hk)]
 rw [q_n l p _ (fun k hk=>by rw [dif_pos hk])]
theorem iter_brk' {step:σ->Option (Out σ ρ)}(st:Nat->σ){s:σ}:∀m k j0,k<=j0->j0<k+m->(∀j,k<=j->j<j0->step (st j)=some (.next<|st<|j+1))->step (st j0)=some (.brk s)->a_8 step m (st k)=some (.inl s)
 | 0,k,j0,a,b,_,_=>by omega
 | m+1,k,j0,a,b,h,hr=>by
  unfold a_8
  by_cases hk:k=j0
  ·subst hk;rw [hr]
  ·rw [h k (Nat.le_refl _) (by omega)]
   exact iter_brk' st m (k+1) j0 (by omega) (by omega) (fun j c d=>h j (by omega) d) hr
theorem m_q {step:σ->Option (Out σ ρ)}(st:Nat->σ){s:σ}{m j0:Nat}(G:j0<m)(h:∀j,j<j0->step (st j)=some (.next<|st<|j+1))(hr:step (st j0)=some (.brk s)):a_8 step m (st 0)=some (.inl s) :=
 iter_brk' st m 0 j0 (by omega) (by omega) (fun j _ b=>h j b) hr
theorem iter_ret' {step:σ->Option (Out σ ρ)}(st:Nat->σ){r:ρ}:∀m k j0,k<=j0->j0<k+m->(∀j,k<=j->j<j0->step (st j)=some (.next<|st<|j+1))->step (st j0)=some (.ret r)->a_8 step m (st k)=some (.inr r)
 | 0,k,j0,a,b,_,_=>by omega
 | m+1,k,j0,a,b,h,hr=>by
  unfold a_8
  by_cases hk:k=j0
  ·subst hk;rw [hr]
  ·rw [h k (Nat.le_refl _) (by omega)]
   exact iter_ret' st m (k+1) j0 (by omega) (by omega) (fun j c d=>h j (by omega) d) hr
theorem m_r {step:σ->Option (Out σ ρ)}(st:Nat->σ){r:ρ}{m j0:Nat}(G:j0<m)(h:∀j,j<j0->step (st j)=some (.next<|st<|j+1))(hr:step (st j0)=some (.ret r)):a_8 step m (st 0)=some (.inr r) :=
 iter_ret' st m 0 j0 (by omega) (by omega) (fun j _ b=>h j b) hr
end
theorem m_s {s:Str}{p:Nat}(h:p<s.b.length)(ha:s.b[p].toNat<128):dec s p=((s.b[p].toNat:Int),1):=by
 have hq:p<(⟨s.b.toArray⟩:ByteArray).size:=by simpa [ByteArray.size] using h
 have hb:(⟨s.b.toArray⟩:ByteArray)[p]'hq=s.b[p]:=rfl;unfold dec
 rw [decode_ascii _ p hq (by rw [hb];exact ha),hb]
theorem q_o {s:Str}{p:Nat}(h:p<s.b.length)(ha:128<=s.b[p].toNat):128<=(dec s p).1:=by
 have hq:p<(⟨s.b.toArray⟩:ByteArray).size:=by simpa [ByteArray.size] using h
 have hb:(⟨s.b.toArray⟩:ByteArray)[p]'hq=s.b[p]:=rfl;unfold dec;have:=(decode_high _ p hq (by rw [hb];exact ha)).1
 simp only
 omega
abbrev bF_:=@Bool.false_eq_true
abbrev dT_:=@decide_eq_true
abbrev dF_:=@decide_eq_false
abbrev bQ_:=@beq_self_eq_true
abbrev mT_:=@List.mem_cons_of_mem
abbrev mS_:=@List.mem_cons_self
abbrev gE_:=@List.getElem_mem
abbrev oI_:=@Option.some.injEq
abbrev gG_:=@List.getElem?_eq_getElem
abbrev gD_:=@List.getD_eq_getElem?_getD
abbrev aE_:=@Bool.and_eq_true
abbrev dE_:=@decide_eq_true_eq
abbrev tN_:=@Int.toNat_natCast
abbrev gS_:=@List.getElem?_eq_some_iff
abbrev iP_:=@if_pos
abbrev iN_:=@if_neg
abbrev fF_:=@if_false
abbrev fT_:=@if_true
abbrev gN_:=@List.getElem?_eq_none
abbrev nT_:=@Bool.not_true
abbrev ix_:=@k_j
abbrev ia_:=@q_l
abbrev lC_:=@List.length_cons
abbrev bN_:=@bne_self_eq_false
abbrev dC_:=@List.drop_eq_getElem_cons
end Go.Vw
