import Derived.Test.YtgpbbhplnbndeaaGreatDoorV0
import Derived.Lib.Join
import Derived.Carry
import Derived.Deep.DeepHandedRow
import Derived.WalkKit
import Derived.ProofKit
import Derived.OpenShut
import Derived.Laws.RangeAny
set_option linter.unusedVariables false
namespace Go.Vw
def i_x (x1:Bt):Option Bool :=
 some (decide<|1048576<(x1.length:Int))
def h_1 (n:Nat)(x1:Bt):Option E_ :=
 bd (G_ (σ:=Int×Int) (ρ:=E_) (un2 λH G=>bd (α:=Bool) (if (decide<|G<(x1.length:Int)) then some (decide<|G<4000) else some false) (λI=>if I then bd (idx x1 G) λJ=>some (.next (a_x .i64 (· &&& ·) (d_ (d_ (L_ H 137)<|byteI J) 11) 1073741823,d_ G 1)) else some (.brk (H,G)))) n (d_ 193017 (x1.length:Int),0)) (el (un2 λH G=>some (⟨x1,0,H⟩:E_))<|λL=>some L)
def c_X (x1:E_):Option (Int×Int×Int) :=
 bd (α:=Int×Int) (if (decide<|x1.i<(x1.b.length:Int)) then bd (idx x1.b x1.i) λG=>some (a_x .i64 (· &&& ·) (d_ (a_x .i64 (· &&& ·) (a_x .i64 (· ^^^ ·) (a_h .i64 (d_ (L_ x1.h 6364136223846793005) 1442695040888963407) 33)<|a_h .i64 (d_ (L_ x1.h 6364136223846793005) 1442695040888963407) 47) 255)<|byteI G) 255,d_ x1.i 1) else some (a_x .i64 (· &&& ·) (a_x .i64 (· ^^^ ·) (a_h .i64 (d_ (L_ x1.h 6364136223846793005) 1442695040888963407) 33)<|a_h .i64 (d_ (L_ x1.h 6364136223846793005) 1442695040888963407) 47) 255,x1.i)) (un2 λH I=>some (H,I,d_ (L_ x1.h 6364136223846793005) 1442695040888963407))
def a_t (x1:E_)(x2:Int):Option (Int×Int×Int) :=
 if (decide<|x2<=0) then some (0,x1.i,x1.h) else if (decide<|x2<=256) then bd3 (c_X x1) λG H I=>bd (nz x2) λa3=>some (R_ G x2,H,I) else bd3 (c_X x1) λJ L O=>bd3 (c_X (⟨x1.b,L,O⟩:E_)) λV W Y=>bd3 (c_X (⟨x1.b,W,Y⟩:E_)) λa0 a1 a2=>bd (nz x2) λa4=>some (R_ (d_ (d_ (L_ J 65536)<|L_ V 256) a0) x2,a1,a2)
def c_Y (x1:E_)(x2:List Str):Option (Str×Int×Int) :=
 bd3 (a_t x1 (x2.length:Int)) λG H I=>bd (idx x2 G) λJ=>some (J,H,I)
def h_2 (x1:E_)(x2:Int):Option (Bool×Int×Int) :=
 bd3 (a_t x1 x2) λG H I=>some (G==0,H,I)
def h_3 (x1:E_)(x2:Int):Option (Bt×Int×Int) :=
 bd (n_ (σ:=Bt×Int×Int) (ρ:=Bt×Int×Int) (λY=>un3 λG H I=>bd3 (c_X (⟨x1.b,H,I⟩:E_)) λJ L O=>bd (psh G<|mkB J) λV=>some<|.next (V,L,O)) x2.toNat 0 (([]:Bt),x1.i,x1.h)) (el (un3 λG H I=>some (G,H,I))<|λW=>some W)
def f_E (x1:E_)(x2:List Int):Option (Int×Int×Int) :=
 bd3 (a_t x1 (x2.length:Int)) λG H I=>bd (idx x2 G) λJ=>some (J,H,I)
def d_n (x1:E_)(x2:b_):Option (Int×Int×Int) :=
 bd (n_ (σ:=List Int) (ρ:=Int×Int×Int) (λH=>(λG=>bd (idx x2.rules (H:Int)) λI=>bd (α:=List Int) (if (I.kind==1) then bd (psh G (H:Int)) λJ=>some J else some G)<|λL=>some<|.next L)) x2.rules.length 0 ([]:List Int)) (el (λG=>bd3 (f_E x1 G) λO V W=>some (O,V,W))<|λY=>some Y)
def d_o (n:Nat)(x1:E_)(x2:b_)(x3:Int):Option (c_×Int×Int) :=
 bd3 (c_Y x1 [(⟨[97]⟩:Str),(⟨[105,116,101,109]⟩:Str),(⟨[98]⟩:Str),(⟨[104,101,97,100]⟩:Str),(⟨[120]⟩:Str)]) λa6 G H=>bd (c_Q n (x2.rules.length:Int)) λa7=>bd (cat a6 a7) λa8=>bd (α:=Sum (Int×Int×Int×Bool×Bt×(List Str)×(List Int)×(List Int))<|c_×Int×Int) (if (x3==1) then bd3 (a_t (⟨x1.b,G,H⟩:E_) 3) λa3 a4 a5=>bd (α:=Int×Int×Bool) (if (decide<|1<(d_ 1 a3)) then bd3 (h_2 (⟨x1.b,a4,a5⟩:E_) 2) λa9 aa ab=>some (aa,ab,a9) else some (a4,a5,false)) (un3 λad ae af=>some<|.inl (ad,ae,d_ 1 a3,af,([]:Bt),([]:List Str),([]:List Int),([]:List Int))) else bd (α:=Sum (Int×Int×Int×Bt×(List Str)×(List Int)×(List Int))<|Sum (Int×Int×Int×Bool×Bt×(List Str)×(List Int)×(List Int))<|c_×Int×Int) (if (x3==2) then bd3 (a_t (⟨x1.b,G,H⟩:E_) 3) λah ai aj=>bd3 (h_3 (⟨x1.b,ai,aj⟩:E_)<|d_ 1 ah) λak al am=>some (.inl (al,am,0,ak,([]:List Str),([]:List Int),([]:List Int))) else bd (α:=Sum (Int×Int×Int×Bt×(List Str)×(List Int)×(List Int))<|Sum (Int×Int×Int×Bt×(List Str)×(List Int)×(List Int))<|Sum (Int×Int×Int×Bool×Bt×(List Str)×(List Int)×(List Int))<|c_×Int×Int) (if (x3==3) then bd3 (a_t (⟨x1.b,G,H⟩:E_) 4) λan ap aq=>some (.inl (ap,aq,d_ 1 an,([]:Bt),([]:List Str),([]:List Int),([]:List Int))) else bd (α:=Sum (Int×Int×Bt×(List Str)×(List Int)×(List Int))<|Sum (Int×Int×Int×Bt×(List Str)×(List Int)×(List Int))<|Sum (Int×Int×Int×Bt×(List Str)×(List Int)×(List Int))<|Sum (Int×Int×Int×Bool×Bt×(List Str)×(List Int)×(List Int))<|c_×Int×Int) (if (x3==4) then bd3 (d_n (⟨x1.b,G,H⟩:E_) x2) λar au av=>some (.inl (au,av,([]:Bt),([]:List Str),([]:List Int),[ar])) else bd (α:=Sum (Int×Int×Bt×(List Str)×(List Int)×(List Int))<|Sum (Int×Int×Bt×(List Str)×(List Int)×(List Int))<|Sum (Int×Int×Int×Bt×(List Str)×(List Int)×(List Int))<|Sum (Int×Int×Int×Bt×(List Str)×(List Int)×(List Int))<|Sum (Int×Int×Int×Bool×Bt×(List Str)×(List Int)×(List Int))<|c_×Int×Int) (if (x3==5) then bd3 (d_n (⟨x1.b,G,H⟩:E_) x2) λaw ax ay=>bd3 (a_t (⟨x1.b,ax,ay⟩:E_) (x2.rules.length:Int)) λaz aA aB=>some (.inl (aA,aB,([]:Bt),([]:List Str),([]:List Int),[aw,az])) else bd (α:=Sum (Int×Int×Bt×(List Str)×(List Int)×(List Int))<|Sum (Int×Int×Bt×(List Str)×(List Int)×(List Int))<|Sum (Int×Int×Bt×(List Str)×(List Int)×(List Int))<|Sum (Int×Int×Int×Bt×(List Str)×(List Int)×(List Int))<|Sum (Int×Int×Int×Bt×(List Str)×(List Int)×(List Int))<|Sum (Int×Int×Int×Bool×Bt×(List Str)×(List Int)×(List Int))<|c_×Int×Int) (if (x3==6) then bd3 (a_t (⟨x1.b,G,H⟩:E_) 3) λaC aD aE=>bd (G_ (σ:=Int×Int×Int×(List Str)×(List Int)) (ρ:=c_×Int×Int) (un5 λI L O V W=>if (decide<|0<I) then bd3 (c_Y (⟨x1.b,L,O⟩:E_) [(⟨[112]⟩:Str),(⟨[113]⟩:Str),(⟨[114]⟩:Str)]) λaF aG aH=>bd (c_Q n I) λaI=>bd (cat aF aI) λaJ=>bd (psh V aJ) λaK=>bd3 (a_t (⟨x1.b,aG,aH⟩:E_) (x2.rules.length:Int)) λaL aM aN=>bd (psh W aL) λaO=>some (.next (k_ I 1,aM,aN,aK,aO)) else some (.brk (I,L,O,V,W))) n (d_ 1 aC,aD,aE,([]:List Str),([]:List Int))) (el (un5 λI L O V W=>some<|.inl (L,O,([]:Bt),V,([]:List Int),W))<|λaP=>some<|.inr<|.inr<|.inr<|.inr<|.inr<|.inr aP) else bd (α:=Sum (Int×Int×Bt×(List Int)×(List Int))<|Sum (Int×Int×Bt×(List Str)×(List Int)×(List Int))<|Sum (Int×Int×Bt×(List Str)×(List Int)×(List Int))<|Sum (Int×Int×Bt×(List Str)×(List Int)×(List Int))<|Sum (Int×Int×Int×Bt×(List Str)×(List Int)×(List Int))<|Sum (Int×Int×Int×Bt×(List Str)×(List Int)×(List Int))<|Sum (Int×Int×Int×Bool×Bt×(List Str)×(List Int)×(List Int))<|c_×Int×Int) (if (x3==7) then bd3 (d_n (⟨x1.b,G,H⟩:E_) x2) λaQ aR aS=>bd3 (a_t (⟨x1.b,aR,aS⟩:E_) 3) λaT aU aV=>bd (G_ (σ:=Int×Int×Int×(List Int)×(List Int)) (ρ:=c_×Int×Int) (un5 λY a0 a1 J a2=>if (decide<|0<Y) then bd3 (a_t (⟨x1.b,a0,a1⟩:E_) 4) λaW aX aY=>bd (psh J<|d_ (L_ 4 (J.length:Int)) aW) λaZ=>bd3 (a_t (⟨x1.b,aX,aY⟩:E_) (x2.rules.length:Int)) λb0 b3 b4=>bd (psh a2 b0) λb5=>some (.next (k_ Y 1,b3,b4,aZ,b5)) else some (.brk (Y,a0,a1,J,a2))) n (d_ 1 aT,aU,aV,([]:List Int),[aQ])) (el (un5 λY a0 a1 J a2=>some<|.inl (a0,a1,([]:Bt),J,a2))<|λb6=>some<|.inr<|.inr<|.inr<|.inr<|.inr<|.inr<|.inr b6) else bd (α:=Bool) (if (x3==8) then some (x3==8) else some (x3==9)) (λb7=>bd (α:=Int×Int×Bt×(List Int)) (if b7 then bd3 (a_t (⟨x1.b,G,H⟩:E_) (x2.rules.length:Int)) λb8 b9 ba=>some (b9,ba,([]:Bt),[b8]) else bd (α:=Int×Int×Bt) (if (x3==10) then bd3 (f_E (⟨x1.b,G,H⟩:E_) [0,10,59,255]) λbb bc be=>some (bc,be,[mkB bb]) else some (G,H,([]:Bt))) (un3 λbf bg bh=>some (bf,bg,bh,([]:List Int))))<|un4 λbi bj bk bm=>some<|.inl (bi,bj,bk,([]:List Int),bm))) (el (un5 λbn bo bp bq br=>some<|.inl (bn,bo,bp,([]:List Str),bq,br)) some)) (el (un6 λbs bt bu bv bw bx=>some<|.inl (bs,bt,bu,bv,bw,bx)) some)) (el (un6 λbz bA bB bC bD bE=>some<|.inl (bz,bA,bB,bC,bD,bE)) some)) (el (un6 λbF bG bH bI bJ bK=>some<|.inl (bF,bG,0,bH,bI,bJ,bK)) some)) (el (un7 λbL bM bN bO bP bR bS=>some<|.inl (bL,bM,bN,bO,bP,bR,bS)) some)) (el (un7 λbT bU bV bW bX bY bZ=>some<|.inl (bT,bU,bV,false,bW,bX,bY,bZ)) some))<|el (un8 λc0 c1 c2 c3 c4 c5 c6 c7=>some ((⟨a8,x3,c2,c3,c4,c5,c6,c7⟩:c_),c0,c1)) some
def h_4 (n:Nat)(x1:E_):Option (b_×Int×Int) :=
 bd3 (d_o n x1 (⟨([]:List c_)⟩:b_) 1) λL O V=>bd (psh ([]:List c_) L) λW=>bd3 (a_t (⟨x1.b,O,V⟩:E_) 6) λY a0 a1=>bd (G_ (σ:=Int×Int×Int×(List c_)) (ρ:=b_×Int×Int) (un4 λH I J G=>if (decide<|0<H) then bd3 (a_t (⟨x1.b,I,J⟩:E_) 10) λa2 a3 a4=>bd3 (d_o n (⟨x1.b,a3,a4⟩:E_) (⟨G⟩:b_)<|d_ 1 a2) λa5 a6 a7=>bd (psh G a5) λa8=>some (.next (k_ H 1,a6,a7,a8)) else some (.brk (H,I,J,G))) n (Y,a0,a1,W))<|el (un4 λH I J G=>some ((⟨G⟩:b_),I,J))<|λa9=>some a9
def h_5 (n:Nat)(x1:Int)(x2:Int):Option Bt :=
 bd (f_t n x1 x2) λI=>bd (G_ (σ:=Bt×Int) (ρ:=Bt) (un2 λH G=>if (decide<|0<=G) then bd (idx I G) λJ=>bd (psh H J) λL=>some (.next (L,k_ G 1)) else some (.brk (H,G))) n (([]:Bt),k_ (I.length:Int) 1))<|el (un2 λH G=>some H)<|λO=>some O
def d_p (n:Nat)(x1:c_)(x2:Int):Option Bt :=
 if x1.little then bd (h_5 n x2 x1.size) λG=>some G else bd (f_t n x2 x1.size) λH=>some H
structure i_y where
 spec_l11Print:b_->Int->Val->Option Bt
def b_K (n:Nat)(rec:i_y)(x1:b_)(x2:Int)(x3:Val):Option Bt :=
 bd (idx x1.rules x2) λG=>bd (n_ (σ:=Bt) (ρ:=Bt) (λL=>(λH=>bd (idx x3.items (L:Int)) λO=>bd (a_E G x3.number (L:Int)) λV=>bd (rec.spec_l11Print x1 V O) λW=>bd (app H W) λY=>some<|.next Y)) x3.items.length 0 ([]:Bt)) (el (λH=>if (G.kind==1) then bd (d_p n G x3.number) λa0=>some a0 else if (G.kind==2) then bd (app ([]:Bt) G.bytes) λa1=>some a1 else if (G.kind==4) then bd (idx G.kids 0) λa2=>bd (idx x1.rules a2) λa3=>bd (d_p n a3 (x3.bytes.length:Int)) λa4=>bd (app a4 x3.bytes) λa5=>some a5 else if (G.kind==5) then bd (idx G.kids 0) λa6=>bd (idx x1.rules a6) λa7=>bd (d_p n a7 (x3.items.length:Int)) λa8=>bd (app a8 H) λa9=>some a9 else if (G.kind==7) then bd (idx G.kids 0) λaa=>bd (idx x1.rules aa) λab=>bd (d_p n ab x3.number) λad=>bd (app ad H) λae=>some ae else if (G.kind==8) then bd (app [mkB (x3.items.length:Int)] H) λaf=>some af else if (G.kind==9) then bd (g_I H) λah=>bd (psh H<|mkB ah) λai=>some ai else if (G.kind==10) then bd (n_ (σ:=Bt) (ρ:=Bt) (λJ=>(λI=>bd (α:=Bool) (bd (idx x3.bytes (J:Int)) λaj=>bd (idx G.bytes 0) λak=>if ((byteI aj)==(byteI ak)) then some true else bd (idx x3.bytes (J:Int)) λal=>some<|(byteI al)==(byteI (92:UInt8))) (λam=>bd (α:=Bt) (if am then bd (psh I (92:UInt8)) λan=>some an else some I)<|λap=>bd (idx x3.bytes (J:Int)) λaq=>bd (psh ap aq) λar=>some<|.next ar))) x3.bytes.length 0 H) (el (λI=>bd (idx G.bytes 0) λau=>bd (psh I au) λav=>some av)<|λaw=>some aw) else if (G.kind==3) then bd (app ([]:Bt) x3.bytes) λax=>some ax else some H)<|λay=>some ay)
def e_y:Nat->i_y
 | 0=>⟨λ_ _ _=>none⟩
 | n+1=>⟨b_K n<|e_y n⟩
def h_6 (n:Nat):=(e_y n).spec_l11Print
end Go.Vw
namespace Go.Vw
def h_z (x1:b_)(x2:c_)(x3:Val):Option Bool :=
 if (x2.kind==1) then bd (α:=Bool) (bd (c_R x2.size) λG=>bd (a_L x3.number 0<|k_ G 1) λH=>if H then if ((x3.bytes.length:Int)==0) then some ((x3.items.length:Int)==0) else some false else some false) (λI=>some I) else if (x2.kind==2) then bd (α:=Bool) (if (x3.number==0) then if ((x3.bytes.length:Int)==0) then some ((x3.items.length:Int)==0) else some false else some false) (λJ=>some J) else if (x2.kind==3) then bd (α:=Bool) (if (x3.number==0) then if ((x3.bytes.length:Int)==x2.size) then some ((x3.items.length:Int)==0) else some false else some false) (λL=>some L) else if (x2.kind==4) then bd (α:=Bool) (if (x3.number==0) then bd (idx x2.kids 0) λO=>bd (c_S x1 O) λV=>bd (c_k 400 V) λW=>if (decide<|(x3.bytes.length:Int)<=W) then some ((x3.items.length:Int)==0) else some false else some false) (λY=>some Y) else if (x2.kind==10) then bd (α:=Bool) (if (x3.number==0) then if (decide<|(x3.bytes.length:Int)<=400) then some ((x3.items.length:Int)==0) else some false else some false) (λa0=>some a0) else if (x2.kind==5) then bd (α:=Bool) (if (x3.number==0) then if ((x3.bytes.length:Int)==0) then bd (idx x2.kids 0) λa1=>bd (c_S x1 a1) λa2=>bd (c_k 40 a2) λa3=>some (decide<|(x3.items.length:Int)<=a3) else some false else some false) (λa4=>some a4) else if (x2.kind==6) then bd (α:=Bool) (if (x3.number==0) then if ((x3.bytes.length:Int)==0) then some ((x3.items.length:Int)==(x2.kids.length:Int)) else some false else some false) (λa5=>some a5) else if (x2.kind==7) then bd (α:=Bool) (if ((x3.bytes.length:Int)==0) then if ((x3.items.length:Int)==1) then bd (a_E x2 x3.number 0) λa6=>some (decide<|0<=a6) else some false else some false) (λa7=>some a7) else if (x2.kind==8) then bd (α:=Bool) (if (x3.number==0) then if ((x3.bytes.length:Int)==0) then some (decide<|(x3.items.length:Int)<=1) else some false else some false) (λa8=>some a8) else bd (α:=Bool) (if (x3.number==0) then if ((x3.bytes.length:Int)==0) then some ((x3.items.length:Int)==1) else some false else some false) (λa9=>some a9)
structure n_h where
 spec_l9Valid:b_->Int->Val->Option Bool
def h_A (n:Nat)(rec:n_h)(x1:b_)(x2:Int)(x3:Val):Option Bool :=
 bd (idx x1.rules x2) λG=>bd (h_z x1 G x3) λI=>if (!I) then some false else bd (n_ (σ:=Unit) (ρ:=Bool) (λH=>(λ(_:Unit)=>bd (idx x3.items (H:Int)) λJ=>bd (a_E G x3.number (H:Int)) λL=>bd (rec.spec_l9Valid x1 L J) λO=>if (!O) then some (.ret false) else some (.next ()))) x3.items.length 0 ()) (el (λ(_:Unit)=>some true)<|λV=>some V)
def e_i:Nat->n_h
 | 0=>⟨λ_ _ _=>none⟩
 | n+1=>⟨h_A n<|e_i n⟩
def n_i (n:Nat):=(e_i n).spec_l9Valid
def f_m (n:Nat)(x1:b_)(x2:Int)(x3:Val):Option Bool :=
 bd (α:=Bool) (bd (f_o x1 x2) λG=>if G then bd (n_i n x1 x2 x3) λH=>some H else some false) (λI=>some I)
def j_y (n:Nat)(x1:b_)(x2:Int)(x3:Val):Option (Bt×Bool) :=
 bd (f_m n x1 x2 x3) λH=>if (!H) then some (([]:Bt),false) else bd (h_6 n x1 x2 x3) λG=>if (decide<|400<(G.length:Int)) then some (([]:Bt),false) else some (G,true)
def h_B (n:Nat)(x1:b_)(x2:Val):Option (Bt×Bool) :=
 bd (d_j x1) λG=>bd2 (j_y n x1 G x2) λH I=>some (H,I)
end Go.Vw
namespace Go.Vw
def i_m (x1:b_)(x2:Int)(x3:Val):Option Bool :=
 bd (idx x1.rules x2) λG=>bd (α:=Sum (Int×Int×Int) Bool) (if (G.kind==1) then bd (b_Y x1 x2) λI=>some (.inl (I,0,0)) else bd (α:=Sum (Int×Int×Int)<|Sum (Int×Int×Int) Bool) (if (G.kind==3) then if ((x3.bytes.length:Int) != G.size) then some (.inr<|.inr false) else some (.inl (0,G.size,0)) else bd (α:=Int×Int×Int) (if (G.kind==4) then bd (idx G.kids 0) λJ=>bd (b_Y x1 J) λL=>bd (c_l 400 L) λO=>some (0,O,0) else bd (α:=Int×Int×Int) (if (G.kind==10) then some (0,400,0) else bd (α:=Int×Int) (if (G.kind==5) then bd (idx G.kids 0) λV=>bd (b_Y x1 V) λW=>bd (c_l 40 W) λY=>some (0,Y) else bd (α:=Int×Int) (if (G.kind==6) then some (0,(G.kids.length:Int)) else bd (α:=Int×Int) (if (G.kind==7) then bd (idx G.kids 0) λa0=>bd (b_Y x1 a0) λa1=>some (a1,1) else bd (α:=Bool) (if (G.kind==8) then some (G.kind==8) else some (G.kind==9)) (λa2=>bd (α:=Int) (if a2 then some 1 else some 0)<|λa3=>some (0,a3))) (un2 λa4 a5=>some (a4,a5))) (un2 λa6 a7=>some (a6,a7))) (un2 λa8 a9=>some (a8,0,a9))) (un3 λaa ab ad=>some (aa,ab,ad))) (un3 λae af ah=>some<|.inl (ae,af,ah))) (el (un3 λai aj ak=>some<|.inl (ai,aj,ak)) some)) (el (un3 λal am H=>bd (α:=Bool) (if (G.kind==6) then some ((x3.items.length:Int) != H) else bd (α:=Bool) (if (G.kind==7) then some true else some (G.kind==9)) λan=>if an then some ((x3.items.length:Int) != H) else some false) (λap=>if ap then some false else bd (α:=Bool) (bd (b_z x3.number 0 al) λaq=>if aq then if (decide<|(x3.bytes.length:Int)<=am) then some (decide<|(x3.items.length:Int)<=H) else some false else some false) (λar=>some ar))) some)
structure n_n where
 impl_validValue:b_->Int->Val->Option Bool
def i_n (n:Nat)(rec:n_n)(x1:b_)(x2:Int)(x3:Val):Option Bool :=
 bd (i_m x1 x2 x3) λH=>if (!H) then some false else bd (n_ (σ:=Unit) (ρ:=Bool) (λk10=>(λ(_:Unit)=>bd (c_T x1 x2 x3 (k10:Int)) λG=>bd (α:=Bool) (if (decide<|G<0) then some true else bd (idx x3.items (k10:Int)) λI=>bd (rec.impl_validValue x1 G I) λJ=>some (!J)) (λL=>if L then some (.ret false) else some (.next ())))) x3.items.length 0 ()) (el (λ(_:Unit)=>some true)<|λO=>some O)
def e_q:Nat->n_n
 | 0=>⟨λ_ _ _=>none⟩
 | n+1=>⟨i_n n<|e_q n⟩
def n_o (n:Nat):=(e_q n).impl_validValue
def f_v (n:Nat)(x1:b_)(x2:Int)(x3:Val):Option Bool :=
 bd (α:=Bool) (bd (d_k n x1 x2) λG=>if G then bd (n_o n x1 x2 x3) λH=>some H else some false) (λI=>some I)
end Go.Vw
namespace Go.Vw
open Go.RowKit Dat
structure a_M where
 d:b_
 out:Bt
deriving Inhabited
end Go.Vw
namespace Go.Vw
def c_2 (x1:a_M)(x2:Bt):Option Bt :=
 bd (app x1.out x2) λG=>some G
def h_a (x1:Bt)(x2:UInt8):Option Bt :=
 bd (mk0 ()<|d_ (x1.length:Int) 1) λa0=>bd (n_ (σ:=Bt) (ρ:=Bt) (λI=>(λG=>bd (idx x1 (I:Int)) λH=>bd (α:=Bool) (if ((byteI H)==(byteI x2)) then some true else some ((byteI H)==(byteI (92:UInt8)))) (λJ=>bd (α:=Bt) (if J then bd (psh G (92:UInt8)) λL=>some L else some G)<|λO=>bd (psh O H) λV=>some<|.next V))) x1.length 0 ([]:Bt))<|el (λG=>bd (psh G x2) λW=>some W)<|λY=>some Y
def e_X (x1:a_M):Option Bool :=
 some (decide<|400<(x1.out.length:Int))
def e_Y (n:Nat)(x1:Int)(x2:Int):Option Bt :=
 bd (α:=Bool) (bd (b_z x2 1 4) λJ=>if (!J) then some true else if (decide<|x1<0) then some true else bd (nn<|L_ 8 x2) λY=>some<|decide<|(b_h .i64 1<|L_ 8 x2)<=x1) (λL=>if L then some ([]:Bt) else bd (mk0 (0:UInt8) x2) λO=>bd (G_ (σ:=Int×Bt×Int) (ρ:=Bt) (un3 λH I G=>if (decide<|0<=G) then bd (upd I G<|mkB H) λV=>some (.next (a_h .i64 H 8,V,k_ G 1)) else some (.brk (H,I,G))) n (x1,O,k_ x2 1))<|el (un3 λH I G=>some I)<|λW=>some W)
def h_b (n:Nat)(x1:Int)(x2:Int):Option Bt :=
 bd (e_Y n x1 x2) λJ=>bd (G_ (σ:=Bt×Int×Int) (ρ:=Bt) (un3 λG H I=>if (decide<|H<I) then bd (α:=Bt) (bd (idx G I) λL=>bd (idx G H) λO=>bd (upd G H L) λV=>bd (upd V I O) λW=>some W) (λY=>some<|.next (Y,d_ H 1,k_ I 1)) else some (.brk (G,H,I))) n (J,0,k_ (J.length:Int) 1))<|el (un3 λG H I=>some G)<|λa0=>some a0
def e_Z (n:Nat)(x1:c_)(x2:Int):Option Bt :=
 if x1.little then bd (h_b n x2 x1.size) λG=>some G else bd (e_Y n x2 x1.size) λH=>some H
def d_W (n:Nat)(x1:Int)(x2:Int)(x3:a_M):Option Bt :=
 bd (idx x3.d.rules x1) λG=>bd (e_Z n G x2) λH=>bd (c_2 x3 H) λI=>some I
structure h_c where
 impl_printer_value:a_M->Int->Val->Option Bt
 impl_printer_items:a_M->Int->Val->Option Bt
def b_O (n:Nat)(rec:h_c)(x1:a_M)(x2:Int)(x3:Val):Option Bt :=
 bd (idx x1.d.rules x2) λG=>bd (α:=Bt) (if (G.kind==1) then bd (d_W n x2 x3.number x1) λJ=>some J else bd (α:=Bt) (if (G.kind==2) then bd (c_2 x1 G.bytes) λL=>some L else bd (α:=Bt) (if (G.kind==3) then bd (c_2 x1 x3.bytes) λO=>some O else bd (α:=Bt) (if (G.kind==4) then bd (idx G.kids 0) λV=>bd (d_W n V (x3.bytes.length:Int) x1) λW=>bd (c_2 (⟨(⟨x1.d.rules⟩:b_),W⟩:a_M) x3.bytes) λY=>some Y else bd (α:=Bt) (if (G.kind==5) then bd (idx G.kids 0) λa0=>bd (d_W n a0 (x3.items.length:Int) x1) λa1=>some a1 else bd (α:=Bt) (if (G.kind==7) then bd (idx G.kids 0) λa2=>bd (d_W n a2 x3.number x1) λa3=>some a3 else bd (α:=Bt) (if (G.kind==8) then bd (c_2 x1 [mkB (x3.items.length:Int)]) λa4=>some a4 else bd (α:=Bt) (if (G.kind==10) then bd (idx G.bytes 0) λa5=>bd (h_a x3.bytes a5) λa6=>bd (c_2 x1 a6) λa7=>some a7 else some x1.out) (λa8=>some a8)) (λa9=>some a9)) (λaa=>some aa)) (λab=>some ab)) (λad=>some ad)) (λae=>some ae)) (λaf=>some af)) (λI=>bd (rec.impl_printer_items (⟨(⟨x1.d.rules⟩:b_),I⟩:a_M) x2 x3) λH=>bd (α:=Bt) (if (G.kind==9) then bd (slc H (I.length:Int) (H.length:Int)) λah=>bd (e_l ah) λai=>bd (c_2 (⟨(⟨x1.d.rules⟩:b_),H⟩:a_M) [mkB ai]) λaj=>some aj else some H)<|λak=>some ak)
def h_d (n:Nat)(rec:h_c)(x1:a_M)(x2:Int)(x3:Val):Option Bt :=
 bd (n_ (σ:=Bt) (ρ:=Bt) (λH=>(λG=>bd (e_X (⟨(⟨x1.d.rules⟩:b_),G⟩:a_M)) λI=>if I then some (.ret G) else bd (idx x3.items (H:Int)) λJ=>bd (c_T (⟨x1.d.rules⟩:b_) x2 x3 (H:Int)) λL=>bd (rec.impl_printer_value (⟨(⟨x1.d.rules⟩:b_),G⟩:a_M) L J) λO=>some<|.next O)) x3.items.length 0 x1.out) (el (λG=>some G)<|λV=>some V)
def c_9:Nat->h_c
 | 0=>⟨λ_ _ _=>none,λ_ _ _=>none⟩
 | n+1=>⟨b_O n<|c_9 n,h_d n<|c_9 n⟩
def h_e (n:Nat):=(c_9 n).impl_printer_value
def i_I (n:Nat)(x1:b_)(x2:Int)(x3:Val):Option (Bt×Bool) :=
 bd (f_v n x1 x2 x3) λH=>if (!H) then some (([]:Bt),false) else bd (h_e n (⟨(⟨x1.rules⟩:b_),([]:Bt)⟩:a_M) x2 x3) λG=>bd (e_X (⟨(⟨x1.rules⟩:b_),G⟩:a_M)) λI=>if I then some (([]:Bt),false) else some (G,true)
def h_f (n:Nat)(x1:b_)(x2:Val):Option (Bt×Bool) :=
 bd (d_I x1) λG=>bd2 (i_I n x1 G x2) λH I=>some (H,I)
end Go.Vw
namespace Go.Vw
open Go.RowKit Dat
structure l_g where
 kind:Int
 at_:Int
 byte:Int
deriving DecidableEq,Inhabited
instance:Dat l_g:=Dat.via<|λr=>(r.kind,r.at_,r.byte)
instance:a_j l_g:=⟨λh=>a_j.flat (α:=Int×Int×Int) h,λh=>a_j.none (α:=Int×Int×Int) h⟩
end Go.Vw
namespace Go.Vw
def h_9 (x1:Int)(x2:Int):Option Int :=
 bd (a_L x2 1 1000000000000) λG=>if (!G) then some 0 else bd (nz x2) λH=>bd (nz x2) λI=>some<|R_ (d_ (R_ x1 x2) x2) x2
def e_W (x1:Int)(x2:Int):Option Int :=
 if (decide<|x1<x2) then some x2 else some x1
def g_6 (x1:Int):Option Int :=
 bd (h_9 x1 2147483647) λG=>bd (e_W 1<|R_ (L_ G 48271) 2147483647) λH=>some H
def b_u (x1:Int):Option (Int×Int) :=
 bd (g_6 x1) λG=>some (G,G)
end Go.Vw
namespace Go.Vw
def g_Y (n:Nat)(x1:b_)(x2:Bt):Option (List Int) :=
 bd2 (i_j n x1 x2) λH J=>if (!J) then some ([]:List Int) else bd (mk0 0 (x1.rules.length:Int)) λL=>bd (n_ (σ:=List Int) (ρ:=List Int) (λO=>(λG=>bd (idx H (O:Int)) λI=>bd (idx G I.rule) λV=>bd (upd G I.rule<|d_ V 1) λW=>some<|.next W)) H.length 0 L)<|el (λG=>some G)<|λY=>some Y
def c_U (x1:List Int)(x2:Int):Option Int :=
 bd (α:=Bool) (if (decide<|x2<0) then some true else some (decide<|(x1.length:Int)<=x2)) (λG=>if G then some 0 else bd (idx x1 x2) λH=>some H)
def i_t (x1:Int)(x2:Int):Option Bool :=
 some (decide<|x2<x1)
def i_u (x2:Int)(x3:List Int):Option Int :=
 bd (n_ (σ:=Int) (ρ:=Int) (λI=>(λG=>bd (idx x3 (I:Int)) λH=>bd (i_t H G) λJ=>bd (α:=Int) (if J then some H else some G)<|λL=>some<|.next L)) x3.length 0 x2) (el (λG=>some G)<|λO=>some O)
def e_x (x1:Int)(x2:Int):Option Int :=
 bd (i_u x1 [x2]) λG=>some G
def g_Z (x1:List Int)(x2:List Int):Option (List Int) :=
 bd (e_x (x1.length:Int) (x2.length:Int)) λI=>bd (mk0 0 I) λH=>bd (n_ (σ:=List Int) (ρ:=List Int) (λk10=>(λG=>bd (c_U x1 (k10:Int)) λJ=>bd (c_U x2 (k10:Int)) λL=>bd (upd G (k10:Int)<|d_ J L) λO=>some<|.next O)) H.length 0 H)<|el (λG=>some G)<|λV=>some V
def h_0 (x1:List Str)(x2:List Str):Option Bool :=
 if ((x1.length:Int) != (x2.length:Int)) then some false else bd (n_ (σ:=Unit) (ρ:=Bool) (λk10=>(λ(_:Unit)=>bd (idx x1 (k10:Int)) λG=>bd (idx x2 (k10:Int)) λH=>if (G.b != H.b) then some (.ret false) else some (.next ()))) x1.length 0 ()) (el (λ(_:Unit)=>some true)<|λI=>some I)
end Go.Vw
namespace Go.Vw
def d_l (x1:Int)(x2:Int):Option (Bt×Int) :=
 bd (n_ (σ:=Bt×Int) (ρ:=Bt×Int) (λV=>un2 λG H=>bd2 (b_u H) λI J=>bd (psh G<|mkB<|R_ I 256) λL=>some<|.next (L,J)) x2.toNat 0 (([]:Bt),x1)) (el (un2 λG H=>some (G,H))<|λO=>some O)
structure l_4 where
 spec_l25Value:b_->Int->Int->Int->Option (Val×Int)
def e_r (n:Nat)(rec:l_4)(x1:b_)(x2:Int)(x3:Int)(x4:Int):Option (Val×Int) :=
 bd (idx x1.rules x2) λG=>bd (α:=Int×Int×Int×Bt) (if (G.kind==1) then bd2 (b_u x3) λY a0=>bd (c_R G.size) λJ=>bd (nz J) λaW=>some (0,a0,R_ Y J,([]:Bt)) else bd (α:=Int×Int×Int×Bt) (if (G.kind==3) then bd2 (d_l x3 G.size) λa1 a2=>some (0,a2,0,a1) else bd (α:=Int×Int×Int×Bt) (if (G.kind==4) then bd (idx G.kids 0) λa3=>bd2 (b_u x3) λa4 a5=>bd (c_k x4 400) λa6=>bd (c_S x1 a3) λa7=>bd (c_k a6 a7) λL=>bd (nz<|d_ L 1) λaX=>bd2 (d_l a5<|R_ a4<|d_ L 1) λa8 a9=>some (0,a9,0,a8) else bd (α:=Int×Int×Int×Bt) (if (G.kind==10) then bd2 (b_u x3) λaa ab=>bd (c_k x4 400) λO=>bd (nz<|d_ O 1) λaY=>bd2 (d_l ab<|R_ aa<|d_ O 1) λad ae=>some (0,ae,0,ad) else bd (α:=Int×Int×Int) (if (G.kind==5) then bd (idx G.kids 0) λaf=>bd2 (b_u x3) λah ai=>bd (c_k x4 40) λaj=>bd (c_S x1 af) λak=>bd (c_k aj ak) λV=>bd (nz<|d_ V 1) λaZ=>some (R_ ah<|d_ V 1,ai,0) else bd (α:=Int×Int×Int) (if (G.kind==7) then bd2 (b_u x3) λal am=>bd (nz (G.tags.length:Int)) λb0=>bd (idx G.tags<|R_ al (G.tags.length:Int)) λan=>some (1,am,an) else bd (α:=Int×Int) (if (G.kind==8) then bd2 (b_u x3) λap aq=>some (R_ ap 2,aq) else some ((G.kids.length:Int),x3)) (un2 λar au=>some (ar,au,0))) (un3 λav aw ax=>some (av,aw,ax))) (un3 λay az aA=>some (ay,az,aA,([]:Bt)))) (un4 λaB aC aD aE=>some (aB,aC,aD,aE))) (un4 λaF aG aH aI=>some (aF,aG,aH,aI))) (un4 λaJ aK aL aM=>some (aJ,aK,aL,aM)))<|un4 λaN aO W aP=>bd (n_ (σ:=Int×(List Val)) (ρ:=Val×Int) (λaQ=>un2 λH I=>bd (a_E G W (aQ:Int)) λaR=>bd2 (rec.spec_l25Value x1 aR H<|b_9 x4 2) λaS aT=>bd (psh I aS) λaU=>some<|.next (aT,aU)) aN.toNat 0 (aO,([]:List Val)))<|el (un2 λH I=>some ((⟨W,aP,I⟩:Val),H))<|λaV=>some aV
def b_s:Nat->l_4
 | 0=>⟨λ_ _ _ _=>none⟩
 | n+1=>⟨e_r n<|b_s n⟩
def j_D (n:Nat):=(b_s n).spec_l25Value
def i_o (n:Nat)(x1:b_)(x2:Int)(x3:Int)(x4:Int):Option Val :=
 bd (f_o x1 x2) λG=>if (!G) then some (⟨0,([]:Bt),([]:List Val)⟩:Val) else bd (e_W 0 x4) λH=>bd2 (j_D n x1 x2 x3 H) λI J=>some I
def d_L (n:Nat)(x1:b_)(x2:Int)(x3:Int):Option (Bt×Bool) :=
 bd (d_j x1) λG=>bd (i_o n x1 G x2 x3) λH=>bd2 (h_B n x1 H) λI J=>some (I,J)
end Go.Vw
namespace Go.Vw
def e_S (x1:List Int)(x2:c_):Option Int :=
 bd (n_ (σ:=Int) (ρ:=Int) (λH=>(λG=>bd (idx x2.kids (H:Int)) λI=>bd (idx x1 I) λJ=>some<|.next<|d_ G J)) x2.kids.length 0 0) (el (λG=>some G)<|λL=>some L)
def e_T (x1:List Int)(x2:c_):Option Int :=
 bd (idx x2.kids 1) λI=>bd (idx x1 I) λJ=>bd (slc x2.kids 2 (x2.kids.length:Int)) λH=>bd (n_ (σ:=Int) (ρ:=Int) (λL=>(λG=>bd (idx H (L:Int)) λO=>bd (idx x1 O) λV=>bd (c_l G V) λW=>some<|.next W)) H.length 0 J)<|el (λG=>some G)<|λY=>some Y
def e_U (x1:b_):Option (List Int) :=
 bd (n_ (σ:=List Int) (ρ:=List Int) (λI=>(λH=>bd (idx x1.rules (I:Int)) λG=>bd (α:=Bool) (if (G.kind==1) then some (G.kind==1) else some (G.kind==3)) (λJ=>bd (α:=Int) (if J then some G.size else bd (α:=Int) (if (G.kind==2) then some (G.bytes.length:Int) else bd (α:=Bool) (if (G.kind==4) then some (G.kind==4) else some (G.kind==5)) (λL=>bd (α:=Int) (if L then bd (idx G.kids 0) λO=>bd (idx H O) λV=>some V else bd (α:=Int) (if (G.kind==6) then bd (e_S H G) λW=>some W else bd (α:=Int) (if (G.kind==7) then bd (idx G.kids 0) λY=>bd (idx H Y) λa0=>bd (e_T H G) λa1=>some (d_ a0 a1) else bd (α:=Int) (if (G.kind==9) then bd (idx G.kids 0) λa2=>bd (idx H a2) λa3=>some (d_ a3 1) else some 1) (λa4=>some a4)) (λa5=>some a5)) (λa6=>some a6))<|λa7=>some a7)) (λa8=>some a8))<|λa9=>bd (c_l a9 401) λaa=>bd (upd H (I:Int) aa) λab=>some<|.next ab))) x1.rules.length 0<|List.replicate 24 (0:Int)) (el (λH=>some H)<|λad=>some ad)
def e_V (n:Nat)(x1:b_)(x2:Int):Option Int :=
 bd (d_k n x1 x2) λG=>if (!G) then some 0 else bd (e_U x1) λH=>bd (idx H x2) λI=>some I
end Go.Vw
namespace Go.Vw
def g_P (n:Nat)(x1:Bt):Option b_ :=
 bd (h_1 n x1) λG=>bd3 (h_4 n G) λH I J=>some H
def i_p (x1:Int):Option Int :=
 some x1
def i_q (x1:Int)(x2:Int):Option Int :=
 bd (b_z x2 1 1000000000000) λG=>if (!G) then some 0 else bd (nz x2) λI=>bd (α:=Int) (if (decide<|(R_ x1 x2)<0) then some (d_ (R_ x1 x2) x2) else some (R_ x1 x2))<|λH=>some H
def g_Q (x1:Int):Option Int :=
 bd (i_q x1 2147483647) λG=>if ((R_ (L_ G 48271) 2147483647)==0) then some 1 else some (R_ (L_ G 48271) 2147483647)
def c_m (x1:Int)(x2:Int):Option (Int×Int) :=
 bd (g_Q x2) λG=>bd (nz x1) λH=>some (R_ G x1,G)
def e_t (I:Int)(x2:Int):Option (Bt×Int) :=
 bd (mk0 () x2) λW=>bd (n_ (σ:=Bt×Int) (ρ:=Bt×Int) (λY=>un2 λG H=>bd2 (c_m 256 H) λJ L=>bd (psh G<|mkB J) λO=>some<|.next (O,L)) x2.toNat 0 (([]:Bt),I))<|el (un2 λG H=>some (G,H))<|λV=>some V
def i_r (x1:Int)(x2:Int):Option Bool :=
 some (decide<|x1<x2)
def f_x (x2:Int)(x3:List Int):Option Int :=
 bd (n_ (σ:=Int) (ρ:=Int) (λI=>(λG=>bd (idx x3 (I:Int)) λH=>bd (i_r H G) λJ=>bd (α:=Int) (if J then some H else some G)<|λL=>some<|.next L)) x3.length 0 x2) (el (λG=>some G)<|λO=>some O)
structure j_F where
 impl_sample:b_->Int->Int->Int->Option (Val×Int)
 impl_sample_1:Int->Val->b_->Int->Int->Option ((List Val)×Int)
def g_R (n:Nat)(rec:j_F)(x1:b_)(x2:Int)(x3c0:Int)(x4:Int):Option (Val×Int) :=
 bd (idx x1.rules x2) λG=>bd (α:=Sum (Int×Int×Bt×(List Val))<|Val×Int) (if (G.kind==1) then bd (b_Y x1 x2) λY=>bd2 (c_m (d_ Y 1) x3c0) λa0 a1=>some (.inl (a1,a0,([]:Bt),([]:List Val))) else bd (α:=Sum (Int×Int×Bt×(List Val))<|Sum (Int×Int×Bt×(List Val))<|Val×Int) (if (G.kind==3) then bd2 (e_t x3c0 G.size) λa2 a3=>some (.inl (a3,0,a2,([]:List Val))) else bd (α:=Sum (Int×Int×Bt×(List Val))<|Sum (Int×Int×Bt×(List Val))<|Sum (Int×Int×Bt×(List Val))<|Val×Int) (if (G.kind==4) then bd (idx G.kids 0) λa4=>bd (b_Y x1 a4) λa5=>bd (f_x x4 [400,a5]) λa6=>bd2 (c_m (d_ a6 1) x3c0) λa7 a8=>bd2 (e_t a8 a7) λa9 aa=>some (.inl (aa,0,a9,([]:List Val))) else bd (α:=Sum (Int×Int×Bt×(List Val))<|Sum (Int×Int×Bt×(List Val))<|Sum (Int×Int×Bt×(List Val))<|Sum (Int×Int×Bt×(List Val))<|Val×Int) (if (G.kind==10) then bd (c_l x4 400) λab=>bd2 (c_m (d_ ab 1) x3c0) λad ae=>bd2 (e_t ae ad) λaf ah=>some (.inl (ah,0,af,([]:List Val))) else bd (α:=Sum (Int×Int×(List Val))<|Sum (Int×Int×Bt×(List Val))<|Sum (Int×Int×Bt×(List Val))<|Sum (Int×Int×Bt×(List Val))<|Sum (Int×Int×Bt×(List Val))<|Val×Int) (if (G.kind==5) then bd (idx G.kids 0) λai=>bd (b_Y x1 ai) λaj=>bd (f_x x4 [40,aj]) λak=>bd2 (c_m (d_ ak 1) x3c0) λal am=>bd (n_ (σ:=Int×(List Val)) (ρ:=Val×Int) (λbc=>un2 λH I=>bd (idx G.kids 1) λan=>bd2 (rec.impl_sample_1 an (⟨0,([]:Bt),I⟩:Val) x1 H x4) λap aq=>some<|.next (aq,ap)) al.toNat 0 (am,([]:List Val))) (el (un2 λH I=>some<|.inl (H,0,I))<|λar=>some<|.inr<|.inr<|.inr<|.inr<|.inr ar) else bd (α:=Sum (Int×Int×(List Val))<|Sum (Int×Int×(List Val))<|Sum (Int×Int×Bt×(List Val))<|Sum (Int×Int×Bt×(List Val))<|Sum (Int×Int×Bt×(List Val))<|Sum (Int×Int×Bt×(List Val))<|Val×Int) (if (G.kind==7) then bd2 (c_m (G.tags.length:Int) x3c0) λO au=>bd (idx G.tags O) λV=>bd (idx G.kids<|d_ O 1) λav=>bd2 (rec.impl_sample_1 av (⟨V,([]:Bt),([]:List Val)⟩:Val) x1 au x4) λaw ax=>some (.inl (ax,V,aw)) else bd (α:=Sum (Int×(List Val))<|Sum (Int×Int×(List Val))<|Sum (Int×Int×(List Val))<|Sum (Int×Int×Bt×(List Val))<|Sum (Int×Int×Bt×(List Val))<|Sum (Int×Int×Bt×(List Val))<|Sum (Int×Int×Bt×(List Val))<|Val×Int) (if (G.kind==8) then bd2 (c_m 2 x3c0) λay W=>bd (α:=Int×(List Val)) (if (ay==1) then bd (idx G.kids 0) λaz=>bd2 (rec.impl_sample_1 az (⟨0,([]:Bt),([]:List Val)⟩:Val) x1 W x4) λaA aB=>some (aB,aA) else some (W,([]:List Val))) (un2 λaC aD=>some<|.inl (aC,aD)) else bd (α:=Bool) (if (G.kind==6) then some (G.kind==6) else some (G.kind==9)) (λaE=>bd (α:=Sum (Int×(List Val))<|Sum (Int×(List Val))<|Sum (Int×Int×(List Val))<|Sum (Int×Int×(List Val))<|Sum (Int×Int×Bt×(List Val))<|Sum (Int×Int×Bt×(List Val))<|Sum (Int×Int×Bt×(List Val))<|Sum (Int×Int×Bt×(List Val))<|Val×Int) (if aE then bd (n_ (σ:=Int×(List Val)) (ρ:=Val×Int) (λaF=>un2 λJ L=>bd (idx G.kids (aF:Int)) λaG=>bd2 (rec.impl_sample_1 aG (⟨0,([]:Bt),L⟩:Val) x1 J x4) λaH aI=>some<|.next (aI,aH)) G.kids.length 0 (x3c0,([]:List Val))) (el (un2 λJ L=>some<|.inl (J,L))<|λaJ=>some<|.inr<|.inr<|.inr<|.inr<|.inr<|.inr<|.inr<|.inr aJ) else some (.inl (x3c0,([]:List Val))))<|el (un2 λaK aL=>some<|.inl (aK,aL)) some)) (el (un2 λaM aN=>some<|.inl (aM,0,aN)) some)) (el (un3 λaO aP aQ=>some<|.inl (aO,aP,aQ)) some)) (el (un3 λaR aS aT=>some<|.inl (aR,aS,([]:Bt),aT)) some)) (el (un4 λaU aV aW aX=>some<|.inl (aU,aV,aW,aX)) some)) (el (un4 λaY aZ b0 b3=>some<|.inl (aY,aZ,b0,b3)) some)) (el (un4 λb4 b5 b6 b7=>some<|.inl (b4,b5,b6,b7)) some))<|el (un4 λb8 b9 ba bb=>some ((⟨b9,ba,bb⟩:Val),b8)) some
def g_S (n:Nat)(rec:j_F)(x1:Int)(x2:Val)(x3:b_)(x4:Int)(x5:Int):Option ((List Val)×Int) :=
 bd (α:=(List Val)×Int) (bd2 (rec.impl_sample x3 x1 x4<|b_9 x5 2) λG H=>bd (psh x2.items (⟨0,([]:Bt),([]:List Val)⟩:Val)) λI=>bd (upd I (x2.items.length:Int) G) λJ=>some (J,H)) (un2 λL O=>some (L,O))
def b_B:Nat->j_F
 | 0=>⟨λ_ _ _ _=>none,λ_ _ _ _ _=>none⟩
 | n+1=>⟨g_R n<|b_B n,g_S n<|b_B n⟩
def j_G (n:Nat):=(b_B n).impl_sample
def i_s (n:Nat)(x1:b_)(x2:Int)(x3:Int)(x4:Int):Option Val :=
 bd (d_k n x1 x2) λG=>if (!G) then some (⟨0,([]:Bt),([]:List Val)⟩:Val) else bd (i_p x3) λH=>bd (e_x x4 0) λI=>bd2 (j_G n x1 x2 H I) λJ L=>some J
def d_m (n:Nat)(x1:b_)(x2:Int)(x3:Int):Option (Bt×Bool) :=
 bd (d_I x1) λG=>bd (e_V n x1 G) λH=>if (decide<|400<H) then some (([]:Bt),false) else bd (d_I x1) λI=>bd (i_s n x1 I x2 x3) λJ=>bd2 (h_f n x1 J) λL O=>some (L,O)
def g_T (x1:List Int)(x2:List Int):Option Bool :=
 bd (n_ (σ:=Unit) (ρ:=Bool) (λk10=>(λ(_:Unit)=>bd (idx x1 (k10:Int)) λG=>bd (α:=Bool) (if (decide<|0<G) then bd (c_U x2 (k10:Int)) λH=>some (H==0) else some false) (λI=>if I then some (.ret true) else some (.next ())))) x1.length 0 ()) (el (λ(_:Unit)=>some false)<|λJ=>some J)
def g_U (n:Nat)(x1:b_)(x2:Int)(x3:Int):Option (List Int) :=
 bd (G_ (σ:=(List Int)×(List Int)×Int) (ρ:=List Int) (un3 λG H I=>bd (e_x x2 0) λL=>bd (c_l L 60) λO=>if (decide<|I<=O) then bd (α:=(List Int)×(List Int)) (bd2 (d_m n x1 I x3) λV W=>if (!W) then some (G,H) else bd (g_Y n x1 V) λJ=>bd (g_T J H) λY=>bd (α:=(List Int)×(List Int)) (if Y then bd (psh G I) λa0=>bd (g_Z H J) λa1=>some (a0,a1) else some (G,H))<|un2 λa2 a3=>some (a2,a3)) (un2 λa4 a5=>some<|.next (a4,a5,d_ I 1)) else some (.brk (G,H,I))) n (([]:List Int),([]:List Int),1)) (el (un3 λG H I=>some G)<|λa6=>some a6)
def g_V (n:Nat)(x1:b_)(x2:Bt):Option (List Int) :=
 bd2 (i_g n x1 x2) λH J=>if (!J) then some ([]:List Int) else bd (mk0 0 (x1.rules.length:Int)) λL=>bd (n_ (σ:=List Int) (ρ:=List Int) (λI=>(λG=>bd (idx H (I:Int)) λO=>bd (idx H (I:Int)) λV=>bd (idx G V.rule) λW=>bd (upd G O.rule<|d_ W 1) λY=>some<|.next Y)) H.length 0 L)<|el (λG=>some G)<|λa0=>some a0
def f_y (n:Nat)(x1:List Int)(x2:List Int):Option (List Int) :=
 bd (G_ (σ:=(List Int)×Int) (ρ:=List Int) (un2 λH G=>bd (α:=Bool) (if (decide<|G<(x1.length:Int)) then some true else some (decide<|G<(x2.length:Int))) (λJ=>if J then bd (α:=Int) (if (decide<|G<(x1.length:Int)) then bd (idx x1 G) λL=>some L else some 0) (λI=>bd (α:=Int) (if (decide<|G<(x2.length:Int)) then bd (idx x2 G) λO=>some (d_ I O) else some I)<|λV=>bd (psh H V) λW=>some<|.next (W,d_ G 1)) else some (.brk (H,G)))) n (([]:List Int),0)) (el (un2 λH G=>some H)<|λY=>some Y)
def g_W (x1:List Int)(x2:Int):Option Bool :=
 bd (n_ (σ:=Unit) (ρ:=Bool) (λk10=>(λ(_:Unit)=>bd (idx x1 (k10:Int)) λG=>if (G==x2) then some (.ret true) else some (.next ()))) x1.length 0 ()) (el (λ(_:Unit)=>some false)<|λH=>some H)
def f_z (n:Nat)(x1:b_):Option (List Bool) :=
 bd (mk0 false (x1.rules.length:Int)) λO=>bd (d_j x1) λV=>bd (upd O V true) λW=>bd (d_j x1) λY=>bd (G_ (σ:=(List Bool)×Int) (ρ:=List Bool) (un2 λL G=>if (decide<|0<=G) then bd (idx x1.rules G) λJ=>bd (G_ (σ:=(List Bool)×Int) (ρ:=List Bool) (un2 λH I=>bd (α:=Bool) (if (decide<|I<(J.kids.length:Int)) then bd (idx H G) λa0=>some a0 else some false) (λa1=>if a1 then bd (α:=Bool) (if (decide<|0<I) then some true else if (J.kind != 4) then if (J.kind != 5) then some (J.kind != 7) else some false else some false) (λa2=>bd (α:=List Bool) (if a2 then bd (idx J.kids I) λa3=>bd (upd H a3 true) λa4=>some a4 else some H)<|λa5=>some<|.next (a5,d_ I 1)) else some (.brk (H,I)))) n (L,0)) (el (un2 λH I=>some<|.next (H,k_ G 1))<|λa6=>some<|.ret a6) else some (.brk (L,G))) n (W,Y))<|el (un2 λL G=>some L)<|λa7=>some a7
def d_N (n:Nat)(x1:b_)(x2:List Int):Option (List Str) :=
 bd (g_F x1) λI=>if (!I) then some ([]:List Str) else bd (f_z n x1) λH=>bd (n_ (σ:=List Str) (ρ:=List Str) (λk10=>(λG=>bd (α:=Bool) (bd (idx H (k10:Int)) λJ=>if J then if (decide<|(x2.length:Int)<=(k10:Int)) then some true else bd (idx x2 (k10:Int)) λL=>some (L==0) else some false) (λO=>bd (α:=List Str) (if O then bd (idx x1.rules (k10:Int)) λV=>bd (psh G V.name) λW=>some W else some G)<|λY=>some<|.next Y))) H.length 0 ([]:List Str))<|el (λG=>some G)<|λa0=>some a0
def g_X (n:Nat)(x1:Bt):Option Bool :=
 bd (i_x x1) λW=>if W then some true else bd (g_P n x1) λG=>bd (g_U n G 12 3) λL=>bd (G_ (σ:=(List Int)×(List Int)×Int) (ρ:=Bool) (un3 λH J I=>if (decide<|I<=12) then bd (α:=Sum ((List Int)×(List Int))<|Out ((List Int)×(List Int)×Int) Bool) (bd2 (d_L n G I 3) λY a0=>if (!a0) then some (.inl (H,J)) else bd (g_V n G Y) λO=>bd (f_y n J O) λa1=>bd (g_W L I) λa2=>bd (α:=Sum (List Int)<|Sum ((List Int)×(List Int))<|Out ((List Int)×(List Int)×Int) Bool) (if a2 then bd (d_N n G H) λa3=>bd (f_y n H O) λV=>bd (d_N n G V) λa4=>if (decide<|(a3.length:Int)<=(a4.length:Int)) then some (.inr<|.inr<|.ret false) else some (.inl V) else some (.inl H))<|el (λa5=>some<|.inl (a5,a1)) some) (el (un2 λa6 a7=>some<|.next (a6,a7,d_ I 1)) some) else some (.brk (H,J,I))) n (([]:List Int),([]:List Int),1)) (el (un3 λH J I=>bd (α:=Bool) (bd (d_N n G H) λa8=>bd (d_N n G J) λa9=>bd (h_0 a8 a9) λaa=>if aa then some (decide<|(L.length:Int)<=(G.rules.length:Int)) else some false)<|λab=>some ab)<|λad=>some ad)
end Go.Vw
namespace Go.Vw
open Go.RowKit Dat
theorem n_K {P:Program}{o:Oper}{a:Act}{w:World}{K K' K1 K2:Act->World->Prop}{Q:Exit->Act->World->Prop}(h:∀a w,K a w->K' a w)(hh:o.wp P a w K (Exit.then K1 Q)):o.wp P a w K' (Exit.then K2 Q):=by
 unfold Oper.wp at *
 generalize (execOp a.eval o).run P w=r at *
 cases r with
 | ok n w' =>
  cases n <;> simp only [Oper.upon] at hh ⊢ <;>
   first
    | exact h _ _ hh
    | exact Calls.mono hh (λe w'' he=>by cases e <;> first | exact h _ _ he | exact he)
    | exact Rows.mono hh<|λ_ _ he=>h _ _ he
 | halt x w'=>cases x <;> simp only [Oper.upon] at hh ⊢ <;> exact hh
theorem j_K {P:Program}{ops:Array Oper}{K K1:Act->World->Prop}{Q:Exit->Act->World->Prop}{G:List Oper}(hk:∀a w,K1 a w->wpList P ops (Exit.then K Q) G a w):∀(l1:List Oper)(a:Act)(w:World),wpList P ops (Exit.then K1 Q) l1 a w->wpList P ops (Exit.then K Q) (l1++G) a w
 | [],a,w,h=>hk a w h
 | o::l1,a,w,h=>by
  rw [List.cons_append]
  unfold wpList at h ⊢
  split at h
  .rename_i hw
   rw [if_pos hw]
   rcases h with h | ⟨h1,h2⟩
   .exact .inl<|n_K (j_K hk l1) h
   .exact .inr ⟨h1,h2⟩
  .rename_i hw
   rw [if_neg hw]
   exact j_K hk l1 _ _ h
section
variable {P:Program}{N:Nat}{ops:Array Oper}{K:Act->World->Prop}{Q:Exit->Act->World->Prop}{e:Env}{w:World}{l:List Oper}
theorem n_L (k:Nat)(l:List Oper):l.take k++l.drop k=l:=List.take_append_drop k l
theorem c_W (d:Nat)(u:Bool)(k:Nat)(h1:WL P N ops (λa w'=>w'=w/\Sat N ((d,vB u)::e) a) Q (l.take k) e w)(h2:WL P N ops K Q (l.drop k) ((d,vB u)::e) w):WL P N ops K Q l e w:=λa ha=>by
 rw [← n_L k l]
 exact j_K (λa w' ⟨hw,hs⟩=>by subst hw;exact h2 a hs) _ a w<|h1 a ha
variable {d:Nat}{u c:Bool}
def j_L (n:Nat)(e:Env):Bool:=(e.take n).all λp=>(e.drop n).all λq=>!Nat.beq p.1 q.1
theorem l_e:∀{e:Env}{t:Nat},(∀q∈e,Nat.beq t q.1=false)->q_ e t=none
 | [],_,_=>rfl
 | (k,v)::e,t,h=>by
  have h1:=h (k,v) List.mem_cons_self;have h2:Nat.beq k t=false:=by rw [← Bool.not_eq_true,Nat.beq_eq] at *;exact λh=>h1 h.symm
  rw [q_,h2]
  exact l_e λq hq=>h q<|List.mem_cons_of_mem _ hq
theorem l_f:∀{G H:Env}{t:Nat},(∀p∈G,Nat.beq p.1 t=false)->q_ (G++H) t=q_ H t
 | [],_,_,_=>rfl
 | (k,v)::G,H,t,h=>by
  rw [List.cons_append,q_,h (k,v) List.mem_cons_self]
  exact l_f λp hp=>h p<|List.mem_cons_of_mem _ hp
theorem n_M {n:Nat}{e:Env}(h:j_L n e=true){t:Nat}{v:Value}(hl:q_ (e.drop n) t=some v):q_ e t=some v:=by
 have:q_ (e.take n++e.drop n) t=q_ (e.drop n) t:=by
  refine l_f λp hp=>?_
  cases hb:Nat.beq p.1 t with
  | false=>rfl
  | true =>
   exfalso
   have hpt:p.1=t:=Nat.eq_of_beq_eq_true hb;have h1:=List.all_eq_true.1 h p hp
   rw [List.all_eq_true] at h1
   have:=l_e (e:=e.drop n) (t:=t) λq hq=>by
    have:=h1 q hq
    rw [Bool.not_eq_true'] at this
    rw [← hpt];exact this
   rw [this] at hl;cases hl
 rw [List.take_append_drop] at this
 rw [this];exact hl
theorem n_N (n:Nat){e':Env}{a:Act}(hu:c=u)(G:q_ e' d=some (vB c))(hf:j_L n e'=true)(he:e'.drop n=e)(ha:Sat N e' a):Sat N ((d,vB u)::e) a:=by
 subst hu;subst he;refine ⟨ha.defers,ha.size,λt v ht=>?_⟩
 simp only [q_] at ht
 by_cases hk:d=t
 .subst hk;have hb:Nat.beq d d=true:=by simp
  rw [hb] at ht
  simp only [cond_true,Option.some.injEq] at ht
  subst ht;exact ha.at_ d _ G
 .have hb:Nat.beq d t=false:=by rw [← Bool.not_eq_true,Nat.beq_eq];exact hk
  rw [hb] at ht
  simp only [cond_false] at ht
  exact ha.at_ t v<|n_M hf ht
theorem WLq (n:Nat){e':Env}(hu:some c=some u)(G:q_ e' d=some (vB c))(hf:j_L n e'=true)(he:e'.drop n=e):WL P N ops (λa w'=>w'=w/\Sat N ((d,vB u)::e) a) Q [] e' w :=
 d_P λ_ ha=>⟨rfl,n_N n (Option.some.inj hu) G hf he ha⟩
end
end Go.Vw
universe u
namespace Go.Vw
open Go.RowKit Dat
section
variable {P:Program}{N:Nat}{ops:Array Oper}{K:Act->World->Prop}{Q:Exit->Act->World->Prop}{e:Env}{w:World}{rest:List Oper}
variable {d:Nat}{op:Op}{ty:TypeId}{pos:String}{aft:Array Edge}{x:Operand}
theorem Wn {y:Code}{Q':Exit->Act->World->Prop}(h:WC P N y K Q e w):WL P N ops (KC P y K Q) Q' [] e w:=d_P<|WC.of_KC h
theorem Ws {id:Nat}{l:List Oper}{y:Code}(h:WL P N l.toArray (KC P y K Q) Q l e w):WC P N (.seq (.region id l.toArray false) y) K Q e w:=e_u<|e_w h
theorem Wk {y:Code}{Q':Exit->Act->World->Prop}(h:WC P N y K Q e w):WC P N .skip (KC P y K Q) Q' e w:=X_<|WC.of_KC h
theorem d_h {b:Bool}{o:Option Value}{v:Value}(h:(bif b then o else none)=some v):b=true/\o=some v:=by
 cases b
 .cases h
 .exact ⟨rfl,h⟩
theorem Rm {v:Value}(h:(bif Nat.blt d N then ev e x else none)=some v)(k:WL P N ops K Q rest ((d,v)::e) w):WL P N ops K Q (⟨some d,.move x,ty,pos,aft,none⟩::rest) e w:=R (d_h h).1 (e_3 (d_h h).2) k
theorem Ra {v:Value}(h:(bif Nat.blt d N then ev e x else none)=some v)(k:WL P N ops K Q rest ((d,v)::e) w):WL P N ops K Q (⟨some d,.assign x,ty,pos,aft,none⟩::rest) e w:=R (d_h h).1 (e_4 (d_h h).2) k
section
variable {j:Nat}{want b:Bool}
theorem bind_some {o:Option Nat}{v:Value}(h:o.bind (q_ e)=some v):∃gd,o=some gd/\q_ e gd=some v:=by
 cases o with
 | none=>cases h
 | some g=>exact ⟨g,rfl,h⟩
theorem Rh {v:Value}(h:(bif Nat.blt d N then ((ops[j]?).bind (·.dst)).bind (q_ e) else none)=some (.bool b))(hw:b=want)(hr:Rd noX P N ⟨some d,op,ty,pos,aft,some (j,want)⟩ e w v)(k:WL P N ops K Q rest ((d,v)::e) w):WL P N ops K Q (⟨some d,op,ty,pos,aft,some (j,want)⟩::rest) e w:=by
 obtain ⟨gd,h1,h2⟩:=bind_some (d_h h).2;exact Rg h1 h2 hw (d_h h).1 hr k
theorem Nh (h:(bif Nat.blt d N then ((ops[j]?).bind (·.dst)).bind (q_ e) else none)=some (.bool b))(hw:b = !want)(k:WL P N ops K Q rest ((d,undef)::e) w):WL P N ops K Q (⟨some d,op,ty,pos,aft,some (j,want)⟩::rest) e w:=by
 obtain ⟨gd,h1,h2⟩:=bind_some (d_h h).2;exact Ng h1 h2 hw (d_h h).1 k
theorem Nv (h:(bif Nat.blt d N then ((ops[j]?).bind (·.dst)).bind (q_ e) else none)=some undef)(k:WL P N ops K Q rest ((d,undef)::e) w):WL P N ops K Q (⟨some d,op,ty,pos,aft,some (j,want)⟩::rest) e w:=by
 obtain ⟨gd,h1,h2⟩:=bind_some (d_h h).2;exact Nu h1 h2 (d_h h).1 k
end
end
theorem inbR {j:Nat}{K':Act->World->Prop}{Q:Exit->Act->World->Prop}{a:Act}{w:World}(h:Q .ret a w):inB j K' Q .ret a w:=h
theorem goF {P:Program}{f:FuncId}{G:Func}{c:Code}{N:Nat}{args:List Value}{w:World}{R:Value->World->Prop}(hf:P.funcs[f]? = some G)(hb:G.body=some c)(hN:G.ntmps=N)(hle:args.length<=N)(h:∀fn:Func,fn.results=G.results->WC P N c (c_3 P fn R) (QR P fn R) (f_0 0 args) w):g_ P f args w R:=o_D hf hb hN hle<|h G rfl
theorem goG {P:Program}{f:FuncId}{G:Func}{c:Code}{N:Nat}{args:List Value}{w:World}{R:Value->World->Prop}(hf:P.funcs[f]? = some G)(hb:G.body=some c)(hN:G.ntmps=N)(hle:Nat.ble args.length N=true)(h:∀fn:Func,fn.results=G.results->WC P N c (c_3 P fn R) (QR P fn R) (f_0 0 args) w):g_ P f args w R:=goF hf hb hN (Nat.le_of_ble_eq_true hle) h
section
variable {P:Program}{N:Nat}{e:Env}{w:World}{ty:TypeId}{pos:String}{aft:Array Edge}{gd:Option (Nat×Bool)}{x y:Operand}
theorem fs0 {T n g o:Nat}{v:Value}{cur cur':List Value}(hs:∀w,(sizeOf T).run P w = .ok n w)(hp:ev e x=some (.pointer<|some ⟨g,o,none⟩))(hv:ev e y=some v)(hB:Blk w g cur)(hn:v.cells.size=n)
  (ho:Nat.ble (o+n) cur.length=true) (h1:v.cells.toList.all Value.oneCell'=true) (hcur:cur.take o++v.cells.toList++cur.drop (o+v.cells.toList.length)=cur') :
  Ef P N ⟨none,.store T x y,ty,pos,aft,gd⟩ e w (λ_ w'=>Blk w' g cur'/\Chg (· = g) w w'):=d_0 hs hp hv hB hn (Nat.le_of_ble_eq_true ho) (e_E h1) hcur
end
abbrev rQ {ρ:Type}(P:Program)(fn:Func)(Q:ρ->Value->World->Prop)(r:ρ)(ex:Exit)(a:Act)(w:World):Prop:=ex = .ret/\c_3 P fn (Q r) a w
abbrev _root_.Go.World.z (w:World):Nat:=w.heap.size
abbrev sl (a:Option Addr)(n c:Nat):Value:=.slice a n c
abbrev sN:Value:=sl none 0 0
abbrev pt (g:Nat):Value:=.pointer<|some ⟨g,0,none⟩
abbrev Bw (a b:World):Prop:=Below a.heap.size a b
abbrev vR (x:c_)(G:Option Addr)(H I:Nat)(a2:Option Addr)(J L:Nat)(O:Option Addr)(V W:Nat)(Y:Option Addr)(n4 c4:Nat):List Value:=[x.name.v,vI x.kind,vI x.size,vB x.little,.slice G H I,.slice a2 J L,.slice O V W,.slice Y n4 c4]
theorem z {α:Sort u}{a:α}:a=a:=rfl
theorem Sat.k {N:Nat}{e e':Env}{a:Act}(h:Sat N e a)(hs:sub e e'):Sat N e' a:=h.weaken hs
theorem fid {a:Prop}(h:a):a:=h
theorem lt_ {a b c:Nat}(h:a<=b)(h':b<=c):a<=c:=Nat.le_trans h h'
theorem lr {a:Nat}:a<=a:=Nat.le_refl a
theorem lb {a b:Nat}(h:Nat.ble a b=true):a<=b:=Nat.le_of_ble_eq_true h
theorem ii {x:Int}(h:(decide (-9223372036854775808<=x) && decide (x<=9223372036854775807))=true):inI x:=inI_of x h
section
variable {S T A M:List Nat}{m n g k:Nat}
theorem g_D (h:m<=n):∀k∈[n],m<=k:=a_N h
theorem atp {p:Nat->Prop}(h:∀k∈[g],p k):p g:=h g<|List.mem_singleton.2 rfl
theorem nd0:([]++[]:List Nat).Nodup:=e_I s_ s_ c_o
end
section
variable {e e':Env}{v1 v2 v3 v4 v5 v6 v7 v8 v9:Value}{k1 k2 k3 k4 k5 k6 k7 k8 k9:Nat}
theorem s1 (h1:q_ e k1=some v1):sub e [(k1,v1)]:=⟨h1,trivial⟩
theorem s2 (h1:q_ e k1=some v1)(h2:q_ e k2=some v2):sub e [(k1,v1),(k2,v2)]:=⟨h1,s1 h2⟩
theorem s3 (h1:q_ e k1=some v1)(h2:q_ e k2=some v2)(h3:q_ e k3=some v3):sub e [(k1,v1),(k2,v2),(k3,v3)]:=⟨h1,s2 h2 h3⟩
theorem s4 (h1:q_ e k1=some v1)(h2:q_ e k2=some v2)(h3:q_ e k3=some v3)(h4:q_ e k4=some v4):sub e [(k1,v1),(k2,v2),(k3,v3),(k4,v4)]:=⟨h1,s3 h2 h3 h4⟩
theorem s5 (h1:q_ e k1=some v1)(h2:q_ e k2=some v2)(h3:q_ e k3=some v3)(h4:q_ e k4=some v4)(h5:q_ e k5=some v5):sub e [(k1,v1),(k2,v2),(k3,v3),(k4,v4),(k5,v5)]:=⟨h1,s4 h2 h3 h4 h5⟩
theorem s6 (h1:q_ e k1=some v1)(h2:q_ e k2=some v2)(h3:q_ e k3=some v3)(h4:q_ e k4=some v4)(h5:q_ e k5=some v5)(h6:q_ e k6=some v6):sub e [(k1,v1),(k2,v2),(k3,v3),(k4,v4),(k5,v5),(k6,v6)]:=⟨h1,s5 h2 h3 h4 h5 h6⟩
theorem s7 (h1:q_ e k1=some v1)(h2:q_ e k2=some v2)(h3:q_ e k3=some v3)(h4:q_ e k4=some v4)(h5:q_ e k5=some v5)(h6:q_ e k6=some v6)(G:q_ e k7=some v7):sub e [(k1,v1),(k2,v2),(k3,v3),(k4,v4),(k5,v5),(k6,v6),(k7,v7)]:=⟨h1,s6 h2 h3 h4 h5 h6 G⟩
theorem s8 (h1:q_ e k1=some v1)(h2:q_ e k2=some v2)(h3:q_ e k3=some v3)(h4:q_ e k4=some v4)(h5:q_ e k5=some v5)(h6:q_ e k6=some v6)(G:q_ e k7=some v7)(H:q_ e k8=some v8):sub e [(k1,v1),(k2,v2),(k3,v3),(k4,v4),(k5,v5),(k6,v6),(k7,v7),(k8,v8)]:=⟨h1,s7 h2 h3 h4 h5 h6 G H⟩
theorem s9 (h1:q_ e k1=some v1)(h2:q_ e k2=some v2)(h3:q_ e k3=some v3)(h4:q_ e k4=some v4)(h5:q_ e k5=some v5)(h6:q_ e k6=some v6)(G:q_ e k7=some v7)(H:q_ e k8=some v8)(I:q_ e k9=some v9):sub e [(k1,v1),(k2,v2),(k3,v3),(k4,v4),(k5,v5),(k6,v6),(k7,v7),(k8,v8),(k9,v9)]:=⟨h1,s8 h2 h3 h4 h5 h6 G H I⟩
end
theorem onL {α:Type}[Dat α]{w:World}:a_ w [] (.slice none 0 0) ([]:List α):=l_s w
theorem _root_.Go.RowKit.Below.s {b:Nat}{w w':World}(h:Below b w w'):w.heap.size<=w'.heap.size:=h.size
theorem Chg.s {X:Nat->Prop}{w w':World}(h:Chg X w w'):w.heap.size<=w'.heap.size:=h.size
abbrev Chg.e:=@Chg.ext
abbrev repS.e:=@repS.ext
abbrev repS.c:=@repS.chg
abbrev a_.e:=@a_.ext
abbrev a_.c:=@a_.chg
abbrev r_.e:=@r_.ext
abbrev r_.c:=@r_.chg
abbrev a_s.e:=@a_s.ext
abbrev a_s.c:=@a_s.chg
abbrev a_O.e:=@a_O.ext
abbrev a_O.c:=@a_O.chg
abbrev GlW.e:=@GlW.ext
abbrev GlW.c:=@GlW.chg
abbrev b_P.e:=@b_P.ext
abbrev b_P.c:=@b_P.chg
abbrev Blk.e:=@Blk.ext
abbrev Blk.c:=@Blk.chg
abbrev b_j.e:=@b_j.ext
abbrev b_j.c:=@b_j.chg
section
variable {P:Program}{N:Nat}{ops:Array Oper}{K:Act->World->Prop}{Q:Exit->Act->World->Prop}{e:Env}{w:World}{rest:List Oper}{X:Nat->Prop}{T:Nat}{p:a_o}
variable {d d':Nat}{ty ty':TypeId}{pos pos':String}{aft aft':Array Edge}{x x':Operand}{v v':Value}
theorem Rw {c:Code}{Q':Exit->Act->World->Prop}(h:(bif Nat.blt d N then ev e x else none)=some v)(k:WC P N c K Q ((d,v)::e) w):WL P N ops (KC P c K Q) Q' [⟨some d,.assign x,ty,pos,aft,none⟩] e w:=Ra h<|Wn k
theorem Wm {id:Nat}{l:List Oper}{c:Code}(h:(bif Nat.blt d N then ev e x else none)=some v)(k:WL P N (⟨some d,.move x,ty,pos,aft,none⟩::l).toArray (KC P c K Q) Q l ((d,v)::e) w):WC P N (.seq (.region id (⟨some d,.move x,ty,pos,aft,none⟩::l).toArray false) c) K Q e w:=Ws<|Rm h k
theorem RM (h:(bif Nat.blt d N then ev e x else none)=some v)(h':(bif Nat.blt d' N then ev ((d,v)::e) x' else none)=some v')(k:WL P N ops K Q rest ((d',v')::(d,v)::e) w):WL P N ops K Q (⟨some d,.move x,ty,pos,aft,none⟩::⟨some d',.move x',ty',pos',aft',none⟩::rest) e w:=Rm h<|Rm h' k
theorem RA (h:(bif Nat.blt d N then ev e x else none)=some v)(h':(bif Nat.blt d' N then ev ((d,v)::e) x' else none)=some v')(k:WL P N ops K Q rest ((d',v')::(d,v)::e) w):WL P N ops K Q (⟨some d,.assign x,ty,pos,aft,none⟩::⟨some d',.assign x',ty',pos',aft',none⟩::rest) e w:=Ra h<|Ra h' k
theorem dM {i:Nat}(ho:ops[i]? = some ⟨some d,.move x,ty,pos,aft,none⟩)(hf:Nat.blt d N=true)(h:ev e x=some v)(k:PR X P N ops T K p ((d,v)::e) w):PR X P N ops T K (.rd i p) e w:=dR ho hf (e_3 h) k
theorem dQ {i:Nat}(ho:ops[i]? = some ⟨some d,.assign x,ty,pos,aft,none⟩)(hf:Nat.blt d N=true)(h:ev e x=some v)(k:PR X P N ops T K p ((d,v)::e) w):PR X P N ops T K (.rd i p) e w:=dR ho hf (e_4 h) k
theorem Wx {y y':Code}{b:Bool}{Q':Exit->Act->World->Prop}(hc:ev e x=some (.bool b))(ht:b=true->WC P N y K Q e w)(hf:b=false->WC P N y' K Q e w):WL P N ops (KC P (.cond x y y') K Q) Q' [] e w:=Wn<|e_v hc ht hf
section
variable {t u i:Nat}{k:IntKind}{a b:Int}
theorem Rl (hf:Nat.blt d N=true)(h1:ev e x=some (.int k a))(h2:ev e x'=some (.int k b))(h:WL P N ops K Q rest ((d,vB<|decide<|a<b)::e) w):WL P N ops K Q (⟨some d,.binOp .lss t x x' u,ty,pos,aft,none⟩::rest) e w:=R hf (f_g h1 h2) h
theorem Rq (hf:Nat.blt d N=true)(h1:ev e x=some (.int k a))(h2:ev e x'=some (.int k b))(h:WL P N ops K Q rest ((d,vB<|a==b)::e) w):WL P N ops K Q (⟨some d,.binOp .eql t x x' u,ty,pos,aft,none⟩::rest) e w:=R hf (f_f h1 h2) h
theorem Rf {g o j:Nat}(hf:Nat.blt d N=true)(h1:Fld P t i j)(h2:ev e x=some (.pointer<|some ⟨g,o,none⟩))(h:WL P N ops K Q rest ((d,.pointer<|some ⟨g,o+j,none⟩)::e) w):WL P N ops K Q (⟨some d,.fieldAddr t x i,ty,pos,aft,none⟩::rest) e w:=R hf (f_b h1 h2) h
theorem Re {vs:Array Value}(hf:Nat.blt d N=true)(h1:ev e x=some (.tuple vs))(h2:vs[i]? = some v)(h:WL P N ops K Q rest ((d,v)::e) w):WL P N ops K Q (⟨some d,.extract x i,ty,pos,aft,none⟩::rest) e w:=R hf (f_d h1 h2) h
end
theorem l0 {t g o:Nat}{dst:Option Tmp}{gd:Option (Nat×Bool)}(hT:∀w,(isAgg t).run P w = .ok false w)(h:ev e x=some (.pointer<|some ⟨g,o,none⟩))(hc:w.cell? ⟨g,o,none⟩=some v):Rd noX P N ⟨dst,.load t x,ty,pos,aft,gd⟩ e w v:=f_c hT h (λh=>h) hc
def plA:Nat->Nat->List Nat->a_o
 | _,0,_=>.done
 | i,n+1,l=>bif l.elem i then .ef i (plA (i+1) n l) else .rd i (plA (i+1) n l)
abbrev pl_ (n:Nat)(l:List Nat):a_o:=plA 0 n l
end
end Go.Vw
namespace Go.Vw
open Go.RowKit Dat
section
variable {w w' a b c : World} {M A S T : List Nat} {B : Zone} {v : Value} {g m n : Nat} {p : Prop}
section
variable {P : Nat → Prop} {S1 S2 S3 S4 : List Nat}
theorem a_1 (h : (S1 ++ S2).Nodup) (g : ∀ k ∈ S1 ++ S2, P k) : S1.Nodup ∧ S2.Nodup ∧ (∀ k ∈ S1, k ∉ S2) ∧ (∀ k ∈ S1, P k) ∧ ∀ k ∈ S2, P k := ⟨e_J h, e_K h, e_L h, λk hk => g k (List.mem_append_left _ hk), λk hk => g k (List.mem_append_right _ hk)⟩
theorem apQ3 (h : (S1 ++ (S2 ++ S3)).Nodup) (g : ∀ k ∈ S1 ++ (S2 ++ S3), P k) : S1.Nodup ∧ S2.Nodup ∧ S3.Nodup ∧ (∀ k ∈ S1, k ∉ S2) ∧ (∀ k ∈ S1, k ∉ S3) ∧ (∀ k ∈ S2, k ∉ S3) ∧ (∀ k ∈ S1, P k) ∧ (∀ k ∈ S2, P k) ∧ ∀ k ∈ S3, P k := by
 obtain ⟨a, b, c, d, e⟩ := a_1 h g
 obtain ⟨a', b', c', d', e'⟩ := a_1 b e
 exact ⟨a, a', b', λk hk h => c k hk (List.mem_append_left _ h), λk hk h => c k hk (List.mem_append_right _ h), c', d, d', e'⟩
theorem apQ4 (h : (S1 ++ (S2 ++ (S3 ++ S4))).Nodup) (g : ∀ k ∈ S1 ++ (S2 ++ (S3 ++ S4)), P k) : S1.Nodup ∧ S2.Nodup ∧ S3.Nodup ∧ S4.Nodup ∧ (∀ k ∈ S1, k ∉ S2) ∧ (∀ k ∈ S1, k ∉ S3) ∧ (∀ k ∈ S1, k ∉ S4) ∧ (∀ k ∈ S2, k ∉ S3) ∧ (∀ k ∈ S2, k ∉ S4) ∧ (∀ k ∈ S3, k ∉ S4) ∧ (∀ k ∈ S1, P k) ∧ (∀ k ∈ S2, P k) ∧ (∀ k ∈ S3, P k) ∧ ∀ k ∈ S4, P k := by
 obtain ⟨a, b, c, d, e⟩ := a_1 h g
 obtain ⟨n1, n2, n3, d1, d2, d3, g1, g2, g3⟩ := apQ3 b e
 exact ⟨a, n1, n2, n3, λk hk h => c k hk (List.mem_append_left _ h), λk hk h => c k hk (List.mem_append_right _ (List.mem_append_left _ h)), λk hk h => c k hk (List.mem_append_right _ (List.mem_append_right _ h)), d1, d2, d3, d, g1, g2, g3⟩
end
theorem kM1 {k : Nat} (hb : Below k w w') (h : m ≤ w.heap.size) : m ≤ w'.heap.size := Nat.le_trans h hb.size
theorem kM2 {X : Nat → Prop} (hb : Chg X w w') (h : m ≤ w.heap.size) : m ≤ w'.heap.size := Nat.le_trans h hb.size
theorem kM3 {k : Nat} (hb : Below k w w') (h : B ≤ bl w.heap.size) : B ≤ bl w'.heap.size := zt' h hb.size
theorem kM4 {X : Nat → Prop} (hb : Chg X w w') (h : B ≤ bl w.heap.size) : B ≤ bl w'.heap.size := zt' h hb.size
theorem kM5 {k : Nat} (hb : Below k w w') (h : g < w.heap.size) : g < w'.heap.size := Nat.lt_of_lt_of_le h hb.size
theorem kM6 {X : Nat → Prop} (hb : Chg X w w') (h : g < w.heap.size) : g < w'.heap.size := Nat.lt_of_lt_of_le h hb.size
theorem kM (h : p := by
 first
 | ((repeat' first
   | with_reducible assumption
   | exact Nat.le_refl _
   | ((with_reducible apply Blk.lt); (· with_reducible assumption))
   | ((with_reducible apply kM5); (· with_reducible assumption))
   | ((with_reducible apply kM6); (· with_reducible assumption))
   | ((with_reducible apply kM1); (· with_reducible assumption))
   | ((with_reducible apply kM2); (· with_reducible assumption))
   | ((with_reducible apply kM3); (· with_reducible assumption))
   | ((with_reducible apply kM4); (· with_reducible assumption))
   | with_reducible apply a_f
   | with_reducible apply a_Y
   | exact zr); done)
 | fail) : p := h
theorem kL1 {k : Nat} (hb : Below k w w') (h : ∀ k ∈ S, k < w.heap.size) : ∀ k ∈ S, k < w'.heap.size := λk hk => Nat.lt_of_lt_of_le (h k hk) hb.size
theorem kL2 {X : Nat → Prop} (hb : Chg X w w') (h : ∀ k ∈ S, k < w.heap.size) : ∀ k ∈ S, k < w'.heap.size := λk hk => Nat.lt_of_lt_of_le (h k hk) hb.size
theorem kL3 {α : Type} {d : Dat α} {l : List α} (h : a_ w S v l) : ∀ k ∈ S, k < w.heap.size := h.lt
theorem kL4 {α : Type} {d : Dat α} {l : List α} (h : b_j w S B v l) : ∀ k ∈ S, k < w.heap.size := h.lt
theorem kL5 {α : Type} {d : Dat α} {l : List α} (h : b_Q w S v l) : ∀ k ∈ S, k < w.heap.size := h.lt
theorem kL6 {o : Option (Int × Int)} (h : a_s g w S v o) : ∀ k ∈ S, k < w.heap.size := h.lt
theorem kL (h : p := by
 first
 | ((repeat' first
   | with_reducible assumption
   | exact c_o
   | ((with_reducible apply d_2))
   | ((with_reducible apply kL3); (· with_reducible assumption))
   | ((with_reducible apply kL4); (· with_reducible assumption))
   | ((with_reducible apply kL5); (· with_reducible assumption))
   | ((with_reducible apply kL6); (· with_reducible assumption))
   | ((with_reducible apply a_N); exact kM)
   | ((with_reducible apply kL1); (· with_reducible assumption))
   | ((with_reducible apply kL2); (· with_reducible assumption))); done)
 | fail) : p := h
section
variable {P : Nat → Prop}
theorem f_H (h : ∀ k, n ≤ k → P k) : ∀ k ∈ [n], P k := a_N (h n (Nat.le_refl n))
theorem f_I (hg : n ≤ g) (h : ∀ k, n ≤ k → P k) : ∀ k ∈ [g], P k := a_N (h g hg)
theorem lit1 (h : ∀ k, n ≤ k → P k) (hs : ∀ k ∈ S, P k) : ∀ k ∈ n :: S, P k := λk hk => (List.mem_cons.1 hk).elim (λe => e ▸ h n (Nat.le_refl n)) (hs k)
theorem or1' (hs : ∀ k ∈ S, k ∈ A ∨ n ≤ k) (h : ∀ k, n ≤ k → P k) (ha : ∀ k ∈ A, P k) : ∀ k ∈ S, P k := or1 hs ha h
theorem or2' (hs : ∀ k ∈ S, k ∈ A ∨ k ∈ T ∨ n ≤ k) (h : ∀ k, n ≤ k → P k) (ha : ∀ k ∈ A, P k) (hb : ∀ k ∈ T, P k) : ∀ k ∈ S, P k := or2 hs ha hb h
theorem ltnotL (h : ∀ k ∈ T, k < n) : ∀ k, n ≤ k → k ∉ T := λk hk ht => absurd (h k ht) (Nat.not_lt.2 hk)
theorem ltgeb (h : ∀ k ∈ A, n ≤ k) : ∀ k, bl n k → k ∉ A := e_G h
theorem memJ (hg : g ∈ S) (h : ∀ k ∈ S, k ∉ T) : g ∉ T := h g hg
theorem singM (h : ∀ k ∈ [g], k ∉ T) : g ∉ T := h g (List.mem_singleton.2 rfl)
theorem singN {i j : Nat} (h : ∀ k ∈ [g], ¬ zn B i j k) : ¬ zn B i j g := h g (List.mem_singleton.2 rfl)
theorem singB (h : ∀ k ∈ [g], ¬ bl n k) : ¬ bl n g := h g (List.mem_singleton.2 rfl)
theorem nznL' {i j : Nat} (h1 : ∀ k ∈ A, k < i) (h : ∀ k ∈ A, ¬ B k) : ∀ k ∈ A, ¬ zn B i j k := nznL h h1 (Nat.le_refl _)
theorem nznR' {i j : Nat} (h1 : ∀ k ∈ A, j ≤ k) (h : ∀ k ∈ A, ¬ B k) : ∀ k ∈ A, ¬ zn B i j k := nznR h h1
end
theorem kU (h : p := by
 first
 | ((first
   | ((with_reducible apply lele); exact kM)
   | ((with_reducible apply leor); exact kM)
   | ((with_reducible apply ltnotL); exact kL)
   | ((with_reducible apply lenB); exact kM)); done)
 | fail) : p := h
theorem sG (h : p := by
 first
 | ((repeat' first
   | with_reducible assumption
   | exact c_o
   | ((with_reducible apply d_2))
   | ((with_reducible apply f_H); exact kU)
   | ((with_reducible apply f_I); (· with_reducible assumption); exact kU)
   | ((with_reducible apply or0); (· with_reducible assumption); exact kU)
   | ((with_reducible apply or1'); (· with_reducible assumption); (· exact kU))
   | ((with_reducible apply or2'); (· with_reducible assumption); (· exact kU))
   | ((with_reducible apply lit1); (· exact kU))); done)
 | fail) : p := h
theorem sZ (h : p := by
 first
 | ((repeat' first
   | with_reducible assumption
   | exact c_o
   | ((with_reducible apply d_2))
   | ((with_reducible apply a_N); (· with_reducible assumption))
   | ((with_reducible apply nbl); exact sG)
   | ((with_reducible apply f_H); exact kU)
   | ((with_reducible apply f_I); (· with_reducible assumption); exact kU)
   | ((with_reducible apply or0); (· with_reducible assumption); exact kU)
   | ((with_reducible apply or1'); (· with_reducible assumption); (· exact kU))
   | ((with_reducible apply or2'); (· with_reducible assumption); (· exact kU))
   | ((with_reducible apply lit1); (· exact kU))
   | ((with_reducible apply nznL'); (· exact kL))
   | ((with_reducible apply nznR'); (· exact sG))); done)
 | fail) : p := h
theorem sJ (h : p := by
 first
 | ((repeat' first
   | with_reducible assumption
   | ((with_reducible apply nmA))
   | with_reducible exact b_8 (by with_reducible assumption)
   | ((with_reducible apply f_H); exact kU)
   | ((with_reducible apply f_I); (· with_reducible assumption); exact kU)
   | ((with_reducible apply b_8); (with_reducible apply f_H); exact kU)
   | ((with_reducible apply b_8); (with_reducible apply f_I); (· with_reducible assumption); exact kU)
   | ((with_reducible apply b_8); (with_reducible apply or0); (· with_reducible assumption); exact kU)
   | ((with_reducible apply b_8); (with_reducible apply or1'); (· with_reducible assumption); (· exact kU))
   | ((with_reducible apply b_8); (with_reducible apply or2'); (· with_reducible assumption); (· exact kU))
   | ((with_reducible apply b_8); (with_reducible apply lit1); (· exact kU))); done)
 | fail) : p := h
theorem nBg {Z : Zone} (hg : n ≤ g) (hb : Z ≤ bl n) : ¬ Z g := λh => absurd (hb g h) (Nat.not_lt.2 hg)
theorem nBh {Z : Zone} (hb : Z ≤ bl n) (hg : n ≤ g) : ¬ Z g := nBg hg hb
theorem sQ (h : p := by
 first
 | ((repeat' first
   | with_reducible assumption
   | exact c_o
   | exact nmN _
   | ((with_reducible show ∀ k ∈ (_ : List Nat), _); first
     | ((with_reducible apply b_8); (· with_reducible assumption))
     | (with_reducible apply d_2)
     | (with_reducible apply nmA)
     | ((with_reducible apply e_H); (first | exact b_N | exact i_E b_N | exact b_C b_N | exact b_C (i_E b_N) | exact b_C (b_C b_N) | exact b_C (b_C (i_E b_N)) | exact b_C (b_C (b_C (i_E b_N))) | exact b_C (b_C (b_C (b_C b_N))) | exact b_C (b_C (b_C b_N))))
     | ((with_reducible apply f_H); exact kU)
     | ((with_reducible apply f_I); (· with_reducible assumption); exact kU)
     | ((with_reducible apply or0); (· with_reducible assumption); exact kU)
     | ((with_reducible apply or1'); (· with_reducible assumption); (· exact kU))
     | ((with_reducible apply or2'); (· with_reducible assumption); (· exact kU))
     | ((with_reducible apply lit1); (· exact kU))
     | ((with_reducible apply b_8); (with_reducible apply f_H); exact kU)
     | ((with_reducible apply b_8); (with_reducible apply f_I); (· with_reducible assumption); exact kU)
     | ((with_reducible apply b_8); (with_reducible apply or0); (· with_reducible assumption); exact kU)
     | ((with_reducible apply b_8); (with_reducible apply or1'); (· with_reducible assumption); (· exact kU))
     | ((with_reducible apply b_8); (with_reducible apply or2'); (· with_reducible assumption); (· exact kU))
     | ((with_reducible apply b_8); (with_reducible apply lit1); (· exact kU))
     | exact sZ)
   | ((show ∀ _ : Nat, _ → _); first
     | (with_reducible apply nmA)
     | ((with_reducible apply ltgz); exact sZ)
     | ((with_reducible apply ltgeb); exact sG))
   | ((with_reducible apply memJ); (· with_reducible assumption); (with_reducible apply or0); (· with_reducible assumption); exact kU)
   | ((with_reducible apply memJ); (· with_reducible assumption); (· exact sJ))
   | ((with_reducible refine singM ?_); exact sJ)
   | (with_reducible refine singM ?_)
   | ((with_reducible apply nBg); (· with_reducible assumption); exact kM)
   | ((with_reducible apply nBh); (· with_reducible assumption); (· exact kM))
   | ((with_reducible refine singN ?_); exact sZ)
   | ((with_reducible refine singB ?_); exact sZ)
   | exact kM); done)
 | fail) : p := h
theorem b_7 {X : Nat → Prop} (h : Cg S w w') (hs : ∀ k ∈ S, X k := by exact sQ) : Chg X w w' := h.mono λk _ hk => hs k hk
theorem sQB {Z : Zone} (hk : Z g) (h : ∀ k, Z k → k ∉ M := by exact sQ) : g ∉ M := h g hk
theorem kW1 (h' : Below b.heap.size b c) (h : Below a.heap.size a b) : Below a.heap.size a c := bup h h'
theorem kW2 (h' : Cg A b c) (hx : ∀ k ∈ A, a.heap.size ≤ k) (h : Below a.heap.size a b) : Below a.heap.size a c := e_M h h' hx
theorem kW3 (h' : Below b.heap.size b c) (h : Cg M a b) : Cg M a c := cext h h'
theorem kW4 (h' : Cg A b c) (hx : ∀ k ∈ A, k ∈ M ∨ a.heap.size ≤ k) (h : Cg M a b) : Cg M a c := e_O h h' hx
theorem kW (h : p := by
 first
 | ((repeat' first
   | with_reducible assumption
   | with_reducible exact e_C _
   | with_reducible exact e_N _ _
   | ((with_reducible apply kW1); (· with_reducible assumption))
   | ((with_reducible apply kW2); (· with_reducible assumption); (· exact sQ))
   | ((with_reducible apply kW3); (· with_reducible assumption))
   | ((with_reducible apply kW4); (· with_reducible assumption); (· exact sQ))); done)
 | fail) : p := h
theorem Val.bytes_mk' (x : Int) (y : Bt) (z : List Val) : (Val.mk x y z).bytes = y := rfl
theorem Val.items_mk' (x : Int) (y : Bt) (z : List Val) : (Val.mk x y z).items = z := rfl
theorem kBx {l : List Value} (hb : Below w.heap.size w w') (h : Blk w g l) : Blk w' g l := h.ext hb
theorem kBy {l : List Value} (hc : Cg M w w') (h : Blk w g l) (hx : ∀ k ∈ [g], k ∉ M) : Blk w' g l := h.chg hc (hx g (List.mem_singleton.2 rfl))
theorem kB {l : List Value} (h : Blk w g l := by
 first
 | ((repeat' first
   | with_reducible assumption
   | ((with_reducible apply kBx); (· with_reducible assumption))
   | ((with_reducible apply kBy); (· with_reducible assumption))
   | exact sQ); done)
 | fail) : Blk w g l := h
theorem kBa {l : List Value} {i : Nat} (h : Blk w g l := by exact kB) (hv : l[i]? = some v := by exact rfl) : w.cell? ⟨g, i, none⟩ = some v := h.at hv
theorem kBr {l vs : List Value} (o n : Nat) (h : Blk w g l := by exact kB) (hv : (l.drop o).take n = vs := by exact rfl) : r_ w g o vs := h.row o n hv
theorem kRx {α : Type} {d : Dat α} {l : List α} (hb : Below w.heap.size w w') (h : repS w B v l) : repS w' B v l := h.ext hb
theorem kRy {α : Type} {d : Dat α} {l : List α} (hc : Cg M w w') (h : repS w B v l) (hx : ∀ k, B k → k ∉ M) : repS w' B v l := h.chg hc hx
theorem kR {α : Type} {d : Dat α} {l : List α} (h : repS w B v l := by
 first
 | ((repeat' first
   | with_reducible assumption
   | ((with_reducible apply kRx); (· with_reducible assumption))
   | ((with_reducible apply kRy); (· with_reducible assumption))
   | exact sQ); done)
 | (dsimp only [Val.bytes_mk', Val.items_mk']; (repeat' first
   | with_reducible assumption
   | ((with_reducible apply kRx); (· with_reducible assumption))
   | ((with_reducible apply kRy); (· with_reducible assumption))
   | exact sQ); done)
 | fail) : repS w B v l := h
theorem kOx {α : Type} {d : Dat α} {l : List α} (hb : Below w.heap.size w w') (h : a_ w S v l) : a_ w' S v l := h.ext hb
theorem kOy {α : Type} {d : Dat α} {l : List α} (hc : Cg M w w') (h : a_ w S v l) (hx : ∀ k ∈ S, k ∉ M) : a_ w' S v l := h.chg hc hx
theorem kO {α : Type} {d : Dat α} {l : List α} (h : a_ w S v l := by
 first
 | ((repeat' first
   | with_reducible assumption
   | ((with_reducible apply kOx); (· with_reducible assumption))
   | ((with_reducible apply kOy); (· with_reducible assumption))
   | exact sQ); done)
 | (dsimp only [Val.bytes_mk', Val.items_mk']; (repeat' first
   | with_reducible assumption
   | ((with_reducible apply kOx); (· with_reducible assumption))
   | ((with_reducible apply kOy); (· with_reducible assumption))
   | exact sQ); done)
 | fail) : a_ w S v l := h
theorem kEx {o : Option (Int × Int)} (hb : Below w.heap.size w w') (h : a_s g w S v o) : a_s g w' S v o := h.ext hb
theorem kEy {o : Option (Int × Int)} (hc : Cg M w w') (h : a_s g w S v o) (hx : ∀ k ∈ S, k ∉ M) : a_s g w' S v o := h.chg hc hx
theorem kE {o : Option (Int × Int)} (h : a_s g w S v o := by
 first
 | ((repeat' first
   | assumption
   | ((with_reducible apply kEx); (· with_reducible assumption))
   | ((with_reducible apply kEy); (· with_reducible assumption))
   | exact sQ); done)
 | fail) : a_s g w S v o := h
theorem kGx {D : World → Prop} (hb : Below w.heap.size w w') (h : GlW n D w B) : GlW n D w' B := h.ext hb
theorem kGy {D : World → Prop} (hc : Cg M w w') (h : GlW n D w B) (hx : ∀ k, B k → k ∉ M) : GlW n D w' B := h.chg hc hx
theorem kG {D : World → Prop} (h : GlW n D w B := by
 first
 | ((repeat' first
   | with_reducible assumption
   | ((with_reducible apply kGx); (· with_reducible assumption))
   | ((with_reducible apply kGy); (· with_reducible assumption))
   | exact sQ); done)
 | fail) : GlW n D w B := h
theorem kIx {x : Str} {q : Nat} (hb : Below w.heap.size w w') (h : a_O w g x q) : a_O w' g x q := h.ext hb
theorem kIy {x : Str} {q : Nat} (hc : Cg M w w') (h : a_O w g x q) (hx : ∀ k ∈ [g], k ∉ M) : a_O w' g x q := h.chg hc (hx g (List.mem_singleton.2 rfl))
theorem kI {x : Str} {q : Nat} (h : a_O w g x q := by
 first
 | ((repeat' first
   | with_reducible assumption
   | ((with_reducible apply kIx); (· with_reducible assumption))
   | ((with_reducible apply kIy); (· with_reducible assumption))
   | exact sQ); done)
 | fail) : a_O w g x q := h
theorem kCx {o : Nat} {l : List Value} (hb : Below w.heap.size w w') (h : r_ w g o l) : r_ w' g o l := h.ext hb
theorem kC {o : Nat} {l : List Value} (h : r_ w g o l := by
 first
 | ((repeat' first
   | with_reducible assumption
   | ((with_reducible apply kCx); (· with_reducible assumption))); done)
 | fail) : r_ w g o l := h
theorem kCa {o j : Nat} {l : List Value} (h : r_ w g o l := by exact kC) (hv : l[j]? = some v := by exact rfl) : w.cell? ⟨g, o + j, none⟩ = some v := h.at hv
theorem kC0 {o : Nat} {l : List Value} (h : r_ w g o l := by exact kC) (hv : l[0]? = some v := by exact rfl) : w.cell? ⟨g, o, none⟩ = some v := h.at (j := 0) hv
end
end Go.Vw
namespace Go.Vw
open Go.RowKit Dat
abbrev pq (b o:Nat):Value:=.pointer<|some ⟨b,o,none⟩
abbrev rp {α:Type}[Dat α](w:World)(B:Zone)(a:Option Addr)(n c:Nat)(l:List α):Prop:=repS w B (.slice a n c) l
section
variable {P:Program}{N:Nat}{ops:Array Oper}{K:Act->World->Prop}{Q:Exit->Act->World->Prop}{e:Env}{w:World}{rest:List Oper}
variable {d:Nat}{op:Op}{ty:TypeId}{pos:String}{aft:Array Edge}{gd:Option (Nat×Bool)}{x y:Operand}{X:Nat->Prop}{T i:Nat}{p:a_o}{t g o n:Nat}{v:Value}{cur vs:List Value}
theorem EvX (cs:List Value)(hf:Nat.blt d N=true)(hx:ev e x=some v)(hc:v.cells.toList=cs)(k:∀w',Below w.heap.size w w'->Blk w' w.heap.size cs->WL P N ops K Q rest ((d,.pointer<|some ⟨w.heap.size,0,none⟩)::e) w'):WL P N ops K Q (⟨some d,.box t x,ty,pos,aft,none⟩::rest) e w :=
 E hf (e_z hx) λ_ w' q=>by
  obtain ⟨rfl,c⟩:=q;exact k w' c.below<|hc ▸ c.blk
theorem EvZ (cs:List Value)(hf:Nat.blt d N=true)(hz:∀w,(zeroValue t).run P w = .ok v w)(hc:v.cells.toList=cs)(k:∀w',Below w.heap.size w w'->Blk w' w.heap.size cs->WL P N ops K Q rest ((d,.pointer<|some ⟨w.heap.size,0,none⟩)::e) w'):WL P N ops K Q (⟨some d,.alloc t,ty,pos,aft,none⟩::rest) e w :=
 E hf (d_q hz) λ_ w' q=>by
  obtain ⟨rfl,c⟩:=q;exact k w' c.below<|hc ▸ c.blk
theorem dNb (cs:List Value)(ho:ops[i]? = some ⟨some d,.alloc t,ty,pos,aft,none⟩)(hf:Nat.blt d N=true)(hz:∀w,(zeroValue t).run P w = .ok v w)(hc:v.cells.toList=cs)(k:∀w',Below w.heap.size w w'->Blk w' w.heap.size cs->PR X P N ops T K p ((d,.pointer<|some ⟨w.heap.size,0,none⟩)::e) w'):PR X P N ops T K (.ef i p) e w :=
 dE ho hf (d_q hz) (.inr λ_ _ h=>b_D h.2.below) λ_ w' q=>by
  obtain ⟨rfl,c⟩:=q;exact k w' c.below<|hc ▸ c.blk
theorem fs9 (cs:List Value)(hs:∀w,(sizeOf t).run P w = .ok n w)(hp:ev e x=some (.pointer<|some ⟨g,o,none⟩))(hv:ev e y=some v)(hB:Blk w g cur)(h:(v.cells.size,Nat.ble (o+n) cur.length,v.cells.toList.all Value.oneCell',cur.take o++v.cells.toList++cur.drop (o+v.cells.toList.length))=(n,true,true,cs)) :
  Ef P N ⟨none,.store t x y,ty,pos,aft,gd⟩ e w (λ_ w'=>Blk w' g cs/\Chg (· = g) w w'):=by
 simp only [Prod.mk.injEq] at h
 exact fs0 hs hp hv hB h.1 h.2.1 h.2.2.1 h.2.2.2
theorem E0q (cs:List Value)(hs:∀w,(sizeOf t).run P w = .ok n w)(hp:ev e x=some (.pointer<|some ⟨g,o,none⟩))(hv:ev e y=some v)(hB:Blk w g cur)(h:(v.cells.size,Nat.ble (o+n) cur.length,v.cells.toList.all Value.oneCell',cur.take o++v.cells.toList++cur.drop (o+v.cells.toList.length))=(n,true,true,cs))(k:∀w',Blk w' g cs->Cg [g] w w'->WL P N ops K Q rest e w'):WL P N ops K Q (⟨none,.store t x y,ty,pos,aft,none⟩::rest) e w :=
 E0 (fs9 cs hs hp hv hB h) λ_ w' h=>k w' h.1 h.2.one
theorem dS {m:Nat}{M:List Nat}(cs:List Value)(ho:ops[i]? = some ⟨none,.store t x y,ty,pos,aft,none⟩)(hs:∀w,(sizeOf t).run P w = .ok n w)(hp:ev e x=some (.pointer<|some ⟨g,o,none⟩))(hv:ev e y=some v)(hB:Blk w g cur)(h:(v.cells.size,Nat.ble (o+n) cur.length,v.cells.toList.all Value.oneCell',cur.take o++v.cells.toList++cur.drop (o+v.cells.toList.length))=(n,true,true,cs))(hm:m<=g)(k:∀w',Blk w' g cs->Cg [g] w w'->PR (λk=>k∈M∨m<=k) P N ops T K p e w'):PR (λk=>k∈M∨m<=k) P N ops T K (.ef i p) e w :=
 dE0 ho (fs9 cs hs hp hv hB h) (.inr λ_ _ h=>chgNew hm h.2) λ_ w' q=>k w' q.1 q.2.one
theorem iB {R:Value->World->Prop}:T.testBit i=true∨∀v w',(Below w.heap.size w w'/\R v w')->Chg X w w':=.inr λ_ _ h=>b_D h.1
theorem lC (vs:List Value)(hT:∀w,(isAgg t).run P w = .ok true w)(hs:∀w,(sizeOf t).run P w = .ok n w)(h:ev e x=some (.pointer<|some ⟨g,0,none⟩))(hl:vs.length=n:=by exact rfl)(hc:Blk w g vs:=by exact kB):Rd noX P N ⟨some d,.load t x,ty,pos,aft,gd⟩ e w (.agg vs.toArray):=e_5 hT hs h hl (λh=>h) hc.all
theorem bQ {zs:List Value}{places:List (Nat×Nat)}{us:List (Nat×Value)}(parts:List (Nat×Operand))(cs:List Value)(hB:c_0 P t zs places)(hv:evp e parts=some us)(hf:Instr.fill (places.toArray[·]?) zs.toArray us=some cs.toArray):Rd X P N ⟨some d,.build t parts.toArray,ty,pos,aft,gd⟩ e w (.agg cs.toArray):=e_P hB hv hf
variable {ao:Option Addr}{B:Zone}{c sz':Nat}{l:Int}{kk:IntKind}{E:Nat}{α:Type}
theorem xA [Dat α]{u:List α}{v:α}(hf:Nat.blt d N=true)(hT:P.underlying t=some (.slice E))(hs:∀w,(sizeOf E).run P w = .ok sz' w)(hsz:sz'=sz α)(hx:ev e x=some (.slice ao n c))(hy:ev e y=some (.int kk l))(hr:repS w B (.slice ao n c) u)(hi:idx u l=some v)
  (k:∀b o cs,r_ w b o cs->rep w B cs v->B b->WL P N ops K Q rest ((d,.pointer<|some ⟨b,o,none⟩)::e) w):WL P N ops K Q (⟨some d,.indexAddr t x y,ty,pos,aft,none⟩::rest) e w :=
 RX hf (d_T hT hs hsz hx hy hr hi) (by rintro _ ⟨b,o,cs,rfl,h1,h2,h3⟩;exact k b o cs h1 h2 h3)
theorem xI {u:List Int}{v:Int}(hf:Nat.blt d N=true)(hT:P.underlying t=some (.slice E))(hs:∀w,(sizeOf E).run P w = .ok sz' w)(hsz:sz'=sz Int)(hx:ev e x=some (.slice ao n c))(hy:ev e y=some (.int kk l))(hr:repS w B (.slice ao n c) u)(hi:idx u l=some v)
  (k:∀b o,r_ w b o [vI v]->inI v->WL P N ops K Q rest ((d,.pointer<|some ⟨b,o,none⟩)::e) w):WL P N ops K Q (⟨some d,.indexAddr t x y,ty,pos,aft,none⟩::rest) e w :=
 xA hf hT hs hsz hx hy hr hi (by rintro b o _ h1 h2 _;obtain ⟨rfl,h3⟩:=T_ h2;exact k b o h1 h3)
theorem dxA [Dat α]{u:List α}{v:α}(ho:ops[i]? = some ⟨some d,.indexAddr t x y,ty,pos,aft,none⟩)(hf:Nat.blt d N=true)(hT:P.underlying t=some (.slice E))(hs:∀w,(sizeOf E).run P w = .ok sz' w)(hsz:sz'=sz α)(hx:ev e x=some (.slice ao n c))(hy:ev e y=some (.int kk l))(hr:repS w B (.slice ao n c) u)(hi:idx u l=some v)
  (k:∀b o cs,r_ w b o cs->rep w B cs v->B b->PR X P N ops T K p ((d,.pointer<|some ⟨b,o,none⟩)::e) w):PR X P N ops T K (.rd i p) e w :=
 dRX ho hf (d_T hT hs hsz hx hy hr hi) (by rintro _ ⟨b,o,cs,rfl,h1,h2,h3⟩;exact k b o cs h1 h2 h3)
end
section
variable {P:Program}{N:Nat}{e:Env}{w:World}{fn:Func}{ρ:Type}{R:ρ->Value->World->Prop}{r s:ρ}{r1 r2 r3:ResultVar}{u v x:Value}
theorem rS1 (hq:some r=some s)(hr:fn.results = #[r1])(h1:b_E P e w r1 u)(hR:R r u w):∀a,Sat N e a->c_3 P fn (R s) a w:=by
 cases hq
 exact a_I hr h1 hR
theorem rS2 (hq:some r=some s)(hr:fn.results = #[r1,r2])(h1:b_E P e w r1 u)(h2:b_E P e w r2 v)(hR:R r (.tuple #[u,v]) w):∀a,Sat N e a->c_3 P fn (R s) a w:=by
 cases hq
 exact ret2 hr h1 h2 hR
theorem rS3 (hq:some r=some s)(hr:fn.results = #[r1,r2,r3])(h1:b_E P e w r1 u)(h2:b_E P e w r2 v)(h3:b_E P e w r3 x)(hR:R r (.tuple #[u,v,x]) w):∀a,Sat N e a->c_3 P fn (R s) a w:=by
 cases hq
 exact d_X hr h1 h2 h3 hR
end
end Go.Vw
namespace Go.Vw
open Go.RowKit Dat
section
variable {B Z:Zone}{T T1 T2 M:List Nat}{lo a b i j m n k:Nat}
end
structure c_7 {α:Type}[Dat α](w:World)(S Si:List Nat)(g n c:Nat)(l:List α)(i:Nat)(cs:List Value):Prop where
 gN:g∉Si
 gS:g∈S
 row:∃(rs:List (Raw α))(r:Raw α),a_ w [g] (.slice (some ⟨g,0,none⟩) n c) rs/\rs.length=l.length/\rs[i]? = some r/\r.cs=cs/\∀(j:Nat)(q:Raw α)(y:α),j ≠ i->rs[j]? = some q->l[j]? = some y->rep w (λk=>k∈S/\k ≠ g/\k∉Si) q.cs y
section
variable {α:Type}[Dat α]{w w':World}{S Si:List Nat}{g n c:Nat}{l:List α}{cs:List Value}
variable {i:Nat}
theorem c_7.ext (h:c_7 w S Si g n c l i cs)(hb:Below w.heap.size w w'):c_7 w' S Si g n c l i cs:=by
 obtain ⟨rs,r,h1,h2,h3,h4,h5⟩:=h.row;exact ⟨h.gN,h.gS,rs,r,h1.ext hb,h2,h3,h4,λj q y a b d=>l_D (h5 j q y a b d) hb⟩
theorem c_7.chg {M:List Nat}(h:c_7 w S Si g n c l i cs)(hc:Cg M w w')(hM:∀k∈M,k∈S->k∈Si):c_7 w' S Si g n c l i cs:=by
 obtain ⟨rs,r,h1,h2,h3,h4,h5⟩:=h.row;exact ⟨h.gN,h.gS,rs,r,h1.chg hc<|λk hk hm=>h.gN (by rw [List.mem_singleton.1 hk] at hm;exact hM _ hm h.gS),h2,h3,h4,λj q y a b d=>l_E (h5 j q y a b d) hc λk hk hm=>hk.2.2<|hM k hm hk.1⟩
theorem c_7.len (h:c_7 w S Si g n c l i cs):n=l.length:=by
 obtain ⟨rs,r,h1,h2,_⟩:=h.row;obtain ⟨_,_,he,_⟩:=h1.rep
 cases he
 exact h2
theorem c_7.shr {ao:Option Addr}(h:c_7 w S Si g n c l i cs)(ha:ao=some ⟨g,0,none⟩){x':α}{Z:Zone}(hr:rep w Z cs x')(hZ:∀k∈S,k∉[g]->Z k):b_j w [g] Z (.slice ao n c) (l.set i x'):=by
 subst ha;obtain ⟨rs,r,h1,h2,h3,rfl,h5⟩:=h.row;refine ⟨.inr ⟨rs,h1,by simpa using h2,λj q y hq hy=>?_⟩⟩
 by_cases hji:j=i
 .subst hji
  rw [h3] at hq
  obtain rfl:=Option.some.inj hq
  rw [List.getElem?_set_self (by have:=(List.getElem?_eq_some_iff.1 h3).1;omega)] at hy
  obtain rfl:=Option.some.inj hy;exact hr
 .rw [List.getElem?_set_ne (Ne.symm hji)] at hy
  exact rep_mono (h5 j q y hji hq hy) λk hk=>hZ k hk.1 λhm=>hk.2.1<|List.mem_singleton.1 hm
end
section
variable {P:Program}{N:Nat}{e:Env}{w:World}{dst:Option Tmp}{T E:Nat}{ty:TypeId}{pos:String}{aft:Array Edge}{gd:Option (Nat×Bool)}{x y:Operand}{X:Nat->Prop}
variable {S Si:List Nat}{g n c sz':Nat}{ao:Option Addr}{i:Int}{cs:List Value}{u:Value}{kk:IntKind}
end
abbrev c_7.e:=@c_7.ext
abbrev c_7.c:=@c_7.chg
end Go.Vw
namespace Go.Vw
open Go.RowKit Dat Go.ChangeShapes Go.WideShapes Go.ChangeAt
structure IsT (P:Program)(t:TypeId)(α:Type)[Dat α](L:α->Prop):Prop where
 rd:∀{H:Type}(enc:TypeId×Value->H)(W:World)(fuel:Nat)(cs:List Value)(x:DataW H×List MemPlace),DataW.trod enc P W 0 (λ_=>true) true fuel t cs=some x->(x.1.weights P t).all (· <= reachBytes)=true->∃v:α,rep W W.heap.size cs v/\L v
section
variable {P:Program}{t:TypeId}
theorem o_t (ht:P.underlying t=some (.int .u8)):IsT P t UInt8 (λ_=>True):=⟨λenc W fuel cs x h _=>by
 obtain ⟨n,rfl,_,hw⟩:=DataW.trod_int ht h;have hb:=bounds_u8 hw
 have e:n=byteI (UInt8.ofNat n.toNat):=by
  unfold byteI
  rw [UInt8.toNat_ofNat']
  omega
 refine ⟨UInt8.ofNat n.toNat,⟨_,rfl,?_⟩,trivial⟩
 show Value.int .u8 n=vU (byteI<|UInt8.ofNat n.toNat)
 rw [← e]⟩
theorem l_y {H:Type}{e:TypeId}:∀{l:List (DataW H)}{d:DataW H},(DataW.weightsAll P e l).all (· <= reachBytes)=true->d∈l->(d.weights P e).all (· <= reachBytes)=true
 | [],_,_,h=>by cases h
 | y::l,d,hw,h=>by
  unfold DataW.weightsAll at hw
  rw [List.all_append,Bool.and_eq_true] at hw
  rcases List.mem_cons.1 h with rfl | h
  .exact hw.1
  .exact l_y hw.2 h
theorem l_z {H:Type}:∀{ts:List TypeId}{l:List (DataW H)}{i:Nat}{t:TypeId}{d:DataW H},(DataW.weightsEach P ts l).all (· <= reachBytes)=true->ts[i]? = some t->l[i]? = some d->(d.weights P t).all (· <= reachBytes)=true
 | [],_,_,_,_,_,h,_=>by simp at h
 | _::_,[],_,_,_,_,_,h=>by simp at h
 | t::ts,y::l,i,t',d,hw,h1,h2=>by
  unfold DataW.weightsEach at hw
  rw [List.all_append,Bool.and_eq_true] at hw
  cases i with
  | zero=>simp at h1 h2;subst h1 h2;exact hw.1
  | succ i=>simp at h1 h2;exact l_z hw.2 h1 h2
theorem cells?_spec {w:World}{a:Addr}{n:Nat}{cs:List Value}(h:w.cells? 0 a n=some cs):cs.length=n/\∀j v,cs[j]? = some v->w.cell? (a.add j)=some v:=by
 unfold World.cells? at h
 rw [if_pos (Nat.zero_le _)] at h
 refine ⟨by simpa using mapM_some_length h,λj v hv=>?_⟩
 have hj:j<n:=by
  have h1:=(List.getElem?_eq_some_iff.1 hv).1;have h2:=mapM_some_length h
  simp at h2
  omega
 have:=mapM_some_get h j j (by rw [List.getElem?_range hj])
 rw [this];exact hv
theorem o_u {w:World}{a:Addr}{v:Value}(h:w.cell? a=some v):a.spot=none:=by
 unfold World.cell? at h
 split at h
 .cases hs:a.spot with
  | none=>rfl
  | some x=>rw [hs] at h;simp at h
 .cases h
theorem j_Q {α:Type}(Q:Nat->α->Prop):∀(len:Nat),(∀i,i<len->∃v,Q i v)->∃l:List α,l.length=len/\∀(i:Nat)(x:α),l[i]? = some x->Q i x
 | 0,_=>⟨[],rfl,λi x h=>by simp at h⟩
 | n+1,h=>by
  obtain ⟨l,hl,hq⟩:=j_Q Q n<|λi hi=>h i (by omega);obtain ⟨v,hv⟩:=h n (by omega);refine ⟨l++[v],by simp [hl],λi x hx=>?_⟩
  by_cases hi:i<l.length
  .rw [List.getElem?_append_left hi] at hx;exact hq i x hx
  .rw [List.getElem?_append_right (by omega)] at hx
   have h1:=(List.getElem?_eq_some_iff.1 hx).1
   simp only [List.length_cons,List.length_nil] at h1
   have h2:i=n:=by omega
   subst h2
   rw [show i - l.length=0 by omega] at hx
   simp at hx
   exact hx ▸ hv
theorem o_v {α:Type}[Dat α]{L:α->Prop}{e:TypeId}(ht:P.underlying t=some (.slice e))(he:IsT P e α L)(hc:P.cellsOf e=sz α)(hb:1<=P.bytesOf e):IsT P t (List α) (λl=>l.length<=LEN/\∀x∈l,L x):=⟨λenc W fuel cs x h hw=>by
 have hr:reachBytes=140737488351232:=rfl;have hL:LEN=140737488355328:=rfl
 rcases DataW.trod_slice ht h with ⟨rfl,rfl⟩ | ⟨a,len,cap,elems,rest,n,_,rfl,rfl,_,hlc,_,hlen,hel,hsp,_⟩
 .exact ⟨[],⟨_,rfl,none,0,rfl,Nat.le_refl _,Nat.zero_le _,λ_=>rfl,λp hp=>by cases hp⟩,by simp,λx hx=>by cases hx⟩
 .obtain ⟨hrl,_⟩:=hsp rfl
  have hw':(elems.length+rest.length) * P.bytesOf e<=reachBytes/\(DataW.weightsAll P e<|elems.map (·.1)).all (· <= reachBytes)=true:=by
   unfold DataW.weights at hw
   rw [ht] at hw
   simp only [List.all_cons,List.all_append,Bool.and_eq_true,decide_eq_true_eq,List.length_map] at hw
   exact ⟨hw.1,hw.2.1⟩
  have hcap:cap<=LEN:=by
   have h1:elems.length+rest.length<=(elems.length+rest.length) * P.bytesOf e:=Nat.le_mul_of_pos_right _ hb
   omega
  have hone:∀i:Nat,i<len->∃v:α,a.spot=none/\a.block<W.heap.size/\(∃cs,r_ W a.block (a.off+i * sz α) cs/\rep W W.heap.size cs v)/\L v:=by
   intro i hi;have h1:=hel i hi;have hie:i<elems.length:=by omega
   rw [List.getElem?_eq_getElem hie] at h1
   cases hcs:W.cells? 0 (a.add<|i * P.cellsOf e) (P.cellsOf e) with
   | none=>rw [hcs] at h1;cases h1
   | some cs =>
    rw [hcs] at h1
    simp only [Option.bind_some] at h1
    obtain ⟨v,hv,hl⟩:=he.rd enc W n cs _ h1<|l_y hw'.2<|List.mem_map_of_mem<|List.getElem_mem hie;obtain ⟨J,O⟩:=cells?_spec hcs;have hpos:0<cs.length:=by rw [J,hc];exact Dat.pos
    have hsp:a.spot=none:=by
     have G:=hel 0 (by omega)
     rw [List.getElem?_eq_getElem (show 0<elems.length by omega)] at G
     cases H:W.cells? 0 (a.add<|0 * P.cellsOf e) (P.cellsOf e) with
     | none=>rw [H] at G;cases G
     | some I =>
      obtain ⟨V,Y⟩:=cells?_spec H;have hpos0:0<I.length:=by rw [V,hc];exact Dat.pos
      have:=Y 0 I[0] (by rw [List.getElem?_eq_getElem hpos0]);have:=o_u this
      simpa [Addr.add] using this
    have ha:a=⟨a.block,a.off,none⟩:=by cases a;simp only at hsp;rw [hsp]
    have hcells:r_ W a.block (a.off+i * sz α) cs:=by
     intro j u hu;have:=O j u hu
     rw [ha,Addr.add_lit,Addr.add_lit,hc] at this
     exact this
    exact ⟨v,hsp,hcells.lt (by intro h;rw [h] at hpos;cases hpos),⟨cs,hcells,hv⟩,hl⟩
  obtain ⟨l,hll,hq⟩:=j_Q _ len hone;refine ⟨l,⟨_,rfl,some a,cap,by rw [hll],by omega,by omega,λh=>(by cases h),λp hp=>?_⟩,by omega,λx hx=>?_⟩
  .obtain rfl:=Option.some.inj hp;refine ⟨λhne=>?_,λhne=>?_,λi x hx=>(hq i x hx).2.2.1⟩
   .cases l with
    | nil=>exact absurd rfl hne
    | cons y l=>exact (hq 0 y rfl).1
   .cases l with
    | nil=>exact absurd rfl hne
    | cons y l=>exact (hq 0 y rfl).2.1
  .obtain ⟨i,hi⟩:=List.getElem?_of_mem hx
   exact (hq i x hi).2.2.2⟩
structure OkW (P:Program)(W:World)(base:Nat)(t:TypeId)(v:Value):Prop where
 h:Value.okWide P W .any base t v
structure OkWs (P:Program)(W:World)(base:Nat)(ts:Array TypeId)(vs:Array Value):Prop where
 h:∀(j:Nat) t v,ts[j]? = some t->vs[j]? = some v->Value.okWide P W .any base t v
theorem OkWs.at {W:World}{base:Nat}{ts:Array TypeId}{vs:Array Value}(h:OkWs P W base ts vs)(j:Nat)(t:TypeId)(v:Value)(h1:ts[j]? = some t)(h2:vs[j]? = some v):OkW P W base t v:=⟨h.h j t v h1 h2⟩
theorem o_w {W:World}{base:Nat}{t:TypeId}{v:Value}{e:TypeId}(ht:P.underlying t=some (.slice e))(h:OkW P W base t v):∃a n c,v = .slice a n c:=okWide_slice ht h.h
theorem l_A {H:Type}{enc:TypeId×Value->H}(hl:laidOutB P=true){W W':World}(hb:Below W.heap.size W W'):∀(ts:List TypeId)(vs:List Value)(ds:List (DataW H))(ps:List MemPlace),(∀t∈ts,P.readableRec t=true/\t<P.types.size) ->
  DataW.TrodAll enc P W 0 (λ_=>true) true ts vs ds ps->(∀x∈ps,x.block<W.heap.size)->∀(sp:Nat->Bool),(∀b,b<W.heap.size->sp b=true)->DataW.TrodAll enc P W' 0 sp true ts vs ds ps
 | [],[],[],_,_,h,_,_,_=>h
 | t::ts,v::vs,d::ds,ps,hr,h,hlt,sp,hsp=>by
  obtain ⟨p,q,h1,h2,rfl⟩:=h;refine ⟨p,q,?_,l_A hl hb ts vs ds q (λt ht=>hr t<|List.mem_cons_of_mem _ ht) h2 (λx hx=>hlt x<|List.mem_append_right _ hx) sp hsp,rfl⟩;have hlp:∀x∈p,x.block<W.heap.size:=λx hx=>hlt x<|List.mem_append_left _ hx
  exact WideElems.Trod_stays hl (hr t List.mem_cons_self).1 (hr t List.mem_cons_self).2 h1 (λx hx=>hb.same<|hlp x hx) (λx hx=>hsp _<|hlp x hx)
 | [],_::_,_,_,_,h,_,_,_=>by cases h
 | [],[],_::_,_,_,h,_,_,_=>by cases h
 | _::_,[],_,_,_,h,_,_,_=>by cases h
 | _::_,_::_,[],_,_,h,_,_,_=>by cases h
theorem o_x {H:Type}{enc:TypeId×Value->H}{f:Func}{s:ChangeSpec}{apart fresh handsOn again:Bool}{W W':World}{args:Array Value}{ds gs:List (DataW H)}{before:List MemPlace}{tb:TypeId}(hl:laidOutB P=true)(hread:∀t∈f.params.toList,P.readableRec t=true/\t<P.types.size)
  (hb:Below W.heap.size W W') (hW:DataW.Whole enc P f.params.toList s.vars apart W args.toList ds gs before) (hres:f.resultTypes = #[tb]) (htb:P.underlying tb=some .bool) (hvars:s.vars=[]) (hfn:s.fn H (ds++gs)={ results:=[.lit (.bool true)],args:=ds }) :
  s.post enc P f apart fresh handsOn again W args (.bool true) W':=by
 have hlt:∀x∈before,x.block<W.heap.size:=λp hp=>hW.lt p hp
 have hW':=hW;obtain ⟨p,q,hA,hV,rfl,hz,hn⟩:=hW
 rw [hvars] at hV
 obtain ⟨rfl,rfl⟩:=trodVars_none hV;have hA':=λsp hsp=>l_A hl hb _ _ _ _ hread hA (λx hx=>hlt x (by simpa using hx)) sp hsp
 have hr:∀(b:Nat)(sp:Nat->Bool)(hd:Bool),DataW.TrodAll enc P W' b sp hd f.resultTypes.toList ((Value.bool true).resultList f.resultTypes.size) (s.fn H<|ds++[]).results []:=λb sp hd=>by
  rw [hfn,hres];exact trodAll_cons_mk (shut_bool htb _) trodAll_mk0
 have hvs:∀sp:Nat->Bool,DataW.TrodVars enc P W' sp s.vars (s.fn H<|ds++[]).vars []:=λsp=>by rw [hfn,hvars];rfl
 refine ⟨ds,[],p++[],[],p,[],hW',hr _ _ _,by rw [hfn];exact hA' _ (λb hb=>by simpa using hb),hvs _,hb.frame _,λ_=>⟨?_,([.lit (.bool true)]:List (DataW H))++ds,[],([]++p)++[],⟨[]++p,[],?_,?_,rfl,?_,?_⟩,?_⟩⟩
 .exact ok_one hres rfl<|okWide_bool_mk htb _
 .have h1:=hr 0 (λ_=>true) true
  rw [hfn] at h1
  exact trodAll_append (hA' _<|λ_ _=>rfl) h1
 .rw [hvars];rfl
 .intro b off hp;have hp':MemPlace.cell b off∈p++[]:=by simpa using hp
  have:=hlt _ hp'
  rw [hb.frozen (p:=⟨b,off,none⟩) this]
  exact hz b off hp'
 .intro ha;have:=hn ha;simpa using this
 .intro x hx _;simpa using hx
end
end Go.Vw
namespace Go.Vw
open Go.RowKit Dat
theorem r_p {x y:Int}(h1 : -9223372036854775808<=x+y)(h2:x+y<=9223372036854775807):d_ x y=x+y:=by
 unfold d_;rw [IntKind.wrap_i64];omega
theorem a_V {x y:Int}(h1 : -9223372036854775808<=x - y)(h2:x - y<=9223372036854775807):k_ x y=x - y:=by
 unfold k_;rw [IntKind.wrap_i64];omega
theorem d_G {x y:Int}(h1 : -9223372036854775808<=x * y)(h2:x * y<=9223372036854775807):L_ x y=x * y:=by
 unfold L_;rw [IntKind.wrap_i64];omega
theorem j_v {x y:Int}(G:0<=x)(hx:x<=9223372036854775807)(hy:0<y):b_9 x y=x / y:=by
 unfold b_9
 rw [Int.tdiv_eq_ediv_of_nonneg G,IntKind.wrap_i64]
 have h1:=Int.ediv_nonneg G<|Int.le_of_lt hy;have h2:=Int.ediv_le_self y G
 omega
theorem a_W {x y:Int}(G:0<=x):R_ x y=x % y:=by
 unfold R_;exact Int.tmod_eq_emod_of_nonneg G
theorem r_q {a b:UInt8}:byteI a=byteI b ↔ a=b:=by
 unfold byteI
 constructor
 .intro h;have:a.toNat=b.toNat:=by omega
  exact UInt8.toNat_inj.1 this
 .rintro rfl;rfl
section
variable {α:Type}
theorem l_2 {l:List α}{k:Nat}(h:k<l.length):idx l (k:Int)=some l[k]:=by rw [n_X];simp [h]
theorem d_g {l:List α}{i:Int}(G:0<=i)(h:i.toNat<l.length):idx l i=some l[i.toNat]:=by
 unfold idx;rw [if_pos G];simp [h]
theorem b_2 {l:List α}(h:0<l.length):idx l 0=some l[0]:=l_2 (k:=0) h
theorem j_w {l:List α}(h:1<l.length):idx l 1=some l[1]:=l_2 (k:=1) h
theorem j_x {l:List α}{a b:Int}(G:0<=a)(h1:a<=b)(h2:b<=l.length):slc l a b=some ((l.take b.toNat).drop a.toNat):=by
 unfold slc;rw [if_pos ⟨G,h1,h2⟩]
theorem a_d {l:List α}{x:α}(h:l.length<LIM):psh l x=some (l++[x]):=by unfold psh;rw [if_pos h]
theorem c_h {l m:List α}(h:l.length+m.length<=LIM):app l m=some (l++m):=by unfold app;rw [if_pos h]
theorem d_H {s t:Str}(h:s.b.length+t.b.length<=LIM):cat s t=some ⟨s.b++t.b⟩:=by unfold cat;rw [if_pos h]
theorem f_l {l:List α}{k:Nat}{x:α}(h:k<l.length):upd l (k:Int) x=some (l.set k x):=by
 unfold upd;rw [if_pos ⟨by omega,by omega⟩];rfl
theorem n_d {l:List α}{i:Int}{x:α}(G:0<=i)(h:i<l.length):upd l i x=some (l.set i.toNat x):=by
 unfold upd;rw [if_pos ⟨G,h⟩]
theorem h_x {z:α}{n:Nat}(h:n<=LIM):mk0 z (n:Int)=some (List.replicate n z):=by
 unfold mk0;rw [if_pos ⟨by omega,by omega⟩];simp
theorem n_e {z:α}{n:Int}(G:0<=n)(h:n<=LIM):mk0 z n=some (List.replicate n.toNat z):=by
 unfold mk0;rw [if_pos ⟨G,h⟩]
end
section
variable {σ ρ:Type}
theorem n_f {body:Nat->σ->Option (Out σ ρ)}(st:Nat->σ):∀n k,(∀j,k<=j->j<k+n->body j (st j)=some (.next<|st<|j+1))->n_ body n k (st k)=some (.inl<|st<|k+n)
 | 0,k,_=>rfl
 | n+1,k,h=>by
  have h1:=h k (Nat.le_refl _) (by omega);have h2:=n_f st n (k+1)<|λj a b=>h j (by omega) (by omega);unfold n_
  rw [h1]
  simp only
  rw [h2,show k+1+n=k+(n+1) by omega]
theorem c_P {body:Nat->σ->Option (Out σ ρ)}(st:Nat->σ){n:Nat}(h:∀j,j<n->body j (st j)=some (.next<|st<|j+1)):n_ body n 0 (st 0)=some (.inl<|st n):=by
 have:=n_f st n 0<|λj _ b=>h j (by omega)
 simpa using this
theorem forN_ret' {body:Nat->σ->Option (Out σ ρ)}(st:Nat->σ){r:ρ}:∀n k j0,k<=j0->j0<k+n->(∀j,k<=j->j<j0->body j (st j)=some (.next<|st<|j+1))->body j0 (st j0)=some (.ret r)->n_ body n k (st k)=some (.inr r)
 | 0,k,j0,a,b,_,_=>by omega
 | n+1,k,j0,a,b,h,hr=>by
  unfold n_
  by_cases hk:k=j0
  .subst hk;rw [hr]
  .rw [h k (Nat.le_refl _) (by omega)]
   exact forN_ret' st n (k+1) j0 (by omega) (by omega) (λj c d=>h j (by omega) d) hr
theorem l_3 {body:Nat->σ->Option (Out σ ρ)}(st:Nat->σ){r:ρ}{n j0:Nat}(G:j0<n)(h:∀j,j<j0->body j (st j)=some (.next<|st<|j+1))(hr:body j0 (st j0)=some (.ret r)):n_ body n 0 (st 0)=some (.inr r) :=
 forN_ret' st n 0 j0 (by omega) (by omega) (λj _ b=>h j b) hr
theorem h_y {body:Nat->Unit->Option (Out Unit ρ)}{n:Nat}(p:Nat->Bool)(r:Nat->ρ)(h:∀k,k<n->(∀j,j<k->p j=false)->body k ()=some (if p k then .ret (r k) else .next ())) :
  n_ body n 0 ()=some (match (List.range n).find? p with | some k=>.inr (r k) | none=>.inl ()):=by
 cases hf:(List.range n).find? p with
 | none =>
  have hn:∀k,k<n->p k=false:=λk hk=>by
   have:=List.find?_eq_none.1 hf k<|List.mem_range.2 hk
   simpa using this
  exact c_P (λ_=>()) (λj hj=>by rw [h j hj (λi hi=>hn i (by omega)),hn j hj];rfl)
 | some k =>
  obtain ⟨hp,as,bs,hl,has⟩:=List.find?_eq_some_iff_append.1 hf
  have hk:as.length<n/\as.length=k:=by
   have h1:as.length<(List.range n).length:=by rw [hl];simp
   simp at h1
   refine ⟨h1,?_⟩;have h2:(List.range n)[as.length]? = some k:=by rw [hl];simp
   rw [List.getElem?_range h1] at h2
   exact Option.some.inj h2
  obtain ⟨h1,rfl⟩:=hk
  have hb:∀j,j<as.length->p j=false:=λj hj=>by
   have h2:(List.range n)[j]? = some (as[j]):=by rw [hl,List.getElem?_append_left hj];simp
   rw [List.getElem?_range (by omega)] at h2
   have h3:=has as[j] (List.getElem_mem hj)
   rw [← Option.some.inj h2] at h3
   simpa using h3
  exact l_3 (λ_=>()) h1 (λj hj=>by rw [h j (by omega) (λi hi=>hb i (by omega)),hb j hj];rfl) (by rw [h _ h1 hb,if_pos hp])
theorem r_r {α:Type}(l:List α)(p:α->Bool)(q:Nat->Bool)(h:∀k (hk:k<l.length),q k=p l[k]):(List.range l.length).any q=l.any p:=by
 rw [Bool.eq_iff_iff]
 simp only [List.any_eq_true,List.mem_range]
 constructor
 .rintro ⟨k,hk,hq⟩;exact ⟨l[k],List.getElem_mem hk,by rw [← h k hk];exact hq⟩
 .rintro ⟨x,hx,hp⟩;obtain ⟨k,hk,rfl⟩:=List.getElem_of_mem hx;exact ⟨k,hk,by rw [h k hk];exact hp⟩
theorem e_h {body:Nat->Unit->Option (Out Unit ρ)}{n:Nat}(p:Nat->Bool)(r:ρ)(h:∀k,k<n->(∀j,j<k->p j=false)->body k ()=some (if p k then .ret r else .next ())) :
  n_ body n 0 ()=some (if (List.range n).any p then .inr r else .inl ()):=by
 rw [h_y p (λ_=>r) h]
 cases hf:(List.range n).find? p with
 | none =>
  have:(List.range n).any p=false:=by
   rw [List.any_eq_false];exact λx hx=>by simpa using List.find?_eq_none.1 hf x hx
  rw [this];rfl
 | some k =>
  have:(List.range n).any p=true:=List.any_eq_true.2 ⟨k,List.mem_of_find?_eq_some hf,List.find?_some hf⟩
  rw [this];rfl
theorem g_C {α:Type}{body:Nat->Unit->Option (Out Unit ρ)}{l:List α}(p:α->Bool)(r:ρ)(h:∀k (hk:k<l.length),body k ()=some (if p l[k] then .ret r else .next ())) :
  n_ body l.length 0 ()=some (if l.any p then .inr r else .inl ()):=by
 rw [e_h (λk=>if hk:k<l.length then p l[k] else false) r (λk hk _=>by rw [dif_pos hk];exact h k hk)]
 rw [r_r l p _ (λk hk=>by rw [dif_pos hk])]
theorem iter_brk' {step:σ->Option (Out σ ρ)}(st:Nat->σ){s:σ}:∀m k j0,k<=j0->j0<k+m->(∀j,k<=j->j<j0->step (st j)=some (.next<|st<|j+1))->step (st j0)=some (.brk s)->G_ step m (st k)=some (.inl s)
 | 0,k,j0,a,b,_,_=>by omega
 | m+1,k,j0,a,b,h,hr=>by
  unfold G_
  by_cases hk:k=j0
  .subst hk;rw [hr]
  .rw [h k (Nat.le_refl _) (by omega)]
   exact iter_brk' st m (k+1) j0 (by omega) (by omega) (λj c d=>h j (by omega) d) hr
theorem r_s {step:σ->Option (Out σ ρ)}(st:Nat->σ){s:σ}{m j0:Nat}(G:j0<m)(h:∀j,j<j0->step (st j)=some (.next<|st<|j+1))(hr:step (st j0)=some (.brk s)):G_ step m (st 0)=some (.inl s) :=
 iter_brk' st m 0 j0 (by omega) (by omega) (λj _ b=>h j b) hr
theorem iter_ret' {step:σ->Option (Out σ ρ)}(st:Nat->σ){r:ρ}:∀m k j0,k<=j0->j0<k+m->(∀j,k<=j->j<j0->step (st j)=some (.next<|st<|j+1))->step (st j0)=some (.ret r)->G_ step m (st k)=some (.inr r)
 | 0,k,j0,a,b,_,_=>by omega
 | m+1,k,j0,a,b,h,hr=>by
  unfold G_
  by_cases hk:k=j0
  .subst hk;rw [hr]
  .rw [h k (Nat.le_refl _) (by omega)]
   exact iter_ret' st m (k+1) j0 (by omega) (by omega) (λj c d=>h j (by omega) d) hr
theorem r_t {step:σ->Option (Out σ ρ)}(st:Nat->σ){r:ρ}{m j0:Nat}(G:j0<m)(h:∀j,j<j0->step (st j)=some (.next<|st<|j+1))(hr:step (st j0)=some (.ret r)):G_ step m (st 0)=some (.inr r) :=
 iter_ret' st m 0 j0 (by omega) (by omega) (λj _ b=>h j b) hr
end
theorem n_g {s:Str}{p:Nat}(h:p<s.b.length)(ha:s.b[p].toNat<128):dec s p=((s.b[p].toNat:Int),1):=by
 have hq:p<(⟨s.b.toArray⟩:ByteArray).size:=by simpa [ByteArray.size] using h
 have hb:(⟨s.b.toArray⟩:ByteArray)[p]'hq=s.b[p]:=rfl;unfold dec
 rw [decode_ascii _ p hq (by rw [hb];exact ha),hb]
theorem r_u {s:Str}{p:Nat}(h:p<s.b.length)(ha:128<=s.b[p].toNat):128<=(dec s p).1:=by
 have hq:p<(⟨s.b.toArray⟩:ByteArray).size:=by simpa [ByteArray.size] using h
 have hb:(⟨s.b.toArray⟩:ByteArray)[p]'hq=s.b[p]:=rfl;unfold dec;have:=(decode_high _ p hq (by rw [hb];exact ha)).1
 simp only
 omega
abbrev bF_:=@Bool.false_eq_true
abbrev dT_:=@decide_eq_true
abbrev dF_:=@decide_eq_false
abbrev bQ_:=@beq_self_eq_true
abbrev mT_:=@List.mem_cons_of_mem
abbrev mS_:=@List.mem_cons_self
abbrev gE_:=@List.getElem_mem
abbrev oI_:=@Option.some.injEq
abbrev gG_:=@List.getElem?_eq_getElem
abbrev gD_:=@List.getD_eq_getElem?_getD
abbrev aE_:=@Bool.and_eq_true
abbrev dE_:=@decide_eq_true_eq
abbrev tN_:=@Int.toNat_natCast
abbrev gS_:=@List.getElem?_eq_some_iff
abbrev iP_:=@if_pos
abbrev iN_:=@if_neg
abbrev fF_:=@if_false
abbrev fT_:=@if_true
abbrev gN_:=@List.getElem?_eq_none
abbrev nT_:=@Bool.not_true
abbrev ix_:=@l_2
abbrev ia_:=@r_p
abbrev lC_:=@List.length_cons
abbrev bN_:=@bne_self_eq_false
abbrev dC_:=@List.drop_eq_getElem_cons
end Go.Vw
