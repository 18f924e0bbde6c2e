import Derived.Test.YtahlbmonbflopaaGreatDoorV0
import Derived.Lib.Join
import Derived.Carry
import Derived.Deep.DeepHandedRow
import Derived.WalkKit
import Derived.ProofKit
import Derived.OpenShut
import Derived.Laws.RangeAny
set_option linter.unusedVariables false
namespace Go.Vw
def j_8 (x1:Bt):Option Bool :=
 some (decide<|1048576<(x1.length:Int))
def h_Q (n:Nat)(x1:Bt):Option m_ :=
 bd (M_ (σ:=Int×Int) (ρ:=m_) (un2 λH G=>bd (α:=Bool) (if (decide<|G<(x1.length:Int)) then some (decide<|G<4000) else some false) (λI=>if I then bd (idx x1 G) λJ=>some (.next (a_O .i64 (· &&& ·) (h_ (h_ (a_5 H 137)<|byteI J) 11) 1073741823,h_ G 1)) else some (.brk (H,G)))) n (h_ 193017 (x1.length:Int),0)) (el (un2 λH G=>some (⟨x1,0,H⟩:m_))<|λL=>some L)
def d_e (x1:m_):Option (Int×Int×Int) :=
 bd (α:=Int×Int) (if (decide<|x1.i<(x1.b.length:Int)) then bd (idx x1.b x1.i) λG=>some (a_O .i64 (· &&& ·) (h_ (a_O .i64 (· &&& ·) (a_O .i64 (· ^^^ ·) (a_g .i64 (h_ (a_5 x1.h 6364136223846793005) 1442695040888963407) 33)<|a_g .i64 (h_ (a_5 x1.h 6364136223846793005) 1442695040888963407) 47) 255)<|byteI G) 255,h_ x1.i 1) else some (a_O .i64 (· &&& ·) (a_O .i64 (· ^^^ ·) (a_g .i64 (h_ (a_5 x1.h 6364136223846793005) 1442695040888963407) 33)<|a_g .i64 (h_ (a_5 x1.h 6364136223846793005) 1442695040888963407) 47) 255,x1.i)) (un2 λH I=>some (H,I,h_ (a_5 x1.h 6364136223846793005) 1442695040888963407))
def a_0 (x1:m_)(x2:Int):Option (Int×Int×Int) :=
 if (decide<|x2<=0) then some (0,x1.i,x1.h) else if (decide<|x2<=256) then bd3 (d_e x1) λG H I=>bd (nz x2) λa3=>some (b_q G x2,H,I) else bd3 (d_e x1) λJ L O=>bd3 (d_e (⟨x1.b,L,O⟩:m_)) λV W Y=>bd3 (d_e (⟨x1.b,W,Y⟩:m_)) λa0 a1 a2=>bd (nz x2) λa4=>some (b_q (h_ (h_ (a_5 J 65536)<|a_5 V 256) a0) x2,a1,a2)
def c_D (x1:m_)(x2:List Str):Option (Str×Int×Int) :=
 bd3 (a_0 x1 (x2.length:Int)) λG H I=>bd (idx x2 G) λJ=>some (J,H,I)
def b_R (x1:m_)(x2:Int):Option (Bool×Int×Int) :=
 bd3 (a_0 x1 x2) λG H I=>some (G==0,H,I)
def f_y (x1:m_)(x2:Int):Option (Bt×Int×Int) :=
 bd (y_ (σ:=Bt×Int×Int) (ρ:=Bt×Int×Int) (λY=>un3 λG H I=>bd3 (d_e (⟨x1.b,H,I⟩:m_)) λJ L O=>bd (psh G<|mkB J) λV=>some<|.next (V,L,O)) x2.toNat 0 (([]:Bt),x1.i,x1.h)) (el (un3 λG H I=>some (G,H,I))<|λW=>some W)
def c_n (x1:m_)(x2:List Int):Option (Int×Int×Int) :=
 bd3 (a_0 x1 (x2.length:Int)) λG H I=>bd (idx x2 G) λJ=>some (J,H,I)
def d_P (x1:m_)(x2:c_):Option (Int×Int×Int) :=
 bd (y_ (σ:=List Int) (ρ:=Int×Int×Int) (λH=>(λG=>bd (idx x2.rules (H:Int)) λI=>bd (α:=List Int) (if (I.kind==1) then bd (psh G (H:Int)) λJ=>some J else some G)<|λL=>some<|.next L)) x2.rules.length 0 ([]:List Int)) (el (λG=>bd3 (c_n x1 G) λO V W=>some (O,V,W))<|λY=>some Y)
def c_E (n:Nat)(x1:m_)(x2:c_)(x3:Int):Option (b_×Int×Int) :=
 bd3 (c_D x1 [(⟨[97]⟩:Str),(⟨[105,116,101,109]⟩:Str),(⟨[98]⟩:Str),(⟨[104,101,97,100]⟩:Str),(⟨[120]⟩:Str)]) λa6 G H=>bd (d_B n (x2.rules.length:Int)) λa7=>bd (cat a6 a7) λa8=>bd (α:=Sum (Int×Int×Int×Bool×Bt×(List Str)×(List Int)×(List Int))<|b_×Int×Int) (if (x3==1) then bd3 (a_0 (⟨x1.b,G,H⟩:m_) 3) λa3 a4 a5=>bd (α:=Int×Int×Bool) (if (decide<|1<(h_ 1 a3)) then bd3 (b_R (⟨x1.b,a4,a5⟩:m_) 2) λa9 aa ab=>some (aa,ab,a9) else some (a4,a5,false)) (un3 λad ae af=>some<|.inl (ad,ae,h_ 1 a3,af,([]:Bt),([]:List Str),([]:List Int),([]:List Int))) else bd (α:=Sum (Int×Int×Int×Bt×(List Str)×(List Int)×(List Int))<|Sum (Int×Int×Int×Bool×Bt×(List Str)×(List Int)×(List Int))<|b_×Int×Int) (if (x3==2) then bd3 (a_0 (⟨x1.b,G,H⟩:m_) 3) λah ai aj=>bd3 (f_y (⟨x1.b,ai,aj⟩:m_)<|h_ 1 ah) λak al am=>some (.inl (al,am,0,ak,([]:List Str),([]:List Int),([]:List Int))) else bd (α:=Sum (Int×Int×Int×Bt×(List Str)×(List Int)×(List Int))<|Sum (Int×Int×Int×Bt×(List Str)×(List Int)×(List Int))<|Sum (Int×Int×Int×Bool×Bt×(List Str)×(List Int)×(List Int))<|b_×Int×Int) (if (x3==3) then bd3 (a_0 (⟨x1.b,G,H⟩:m_) 4) λan ap aq=>some (.inl (ap,aq,h_ 1 an,([]:Bt),([]:List Str),([]:List Int),([]:List Int))) else bd (α:=Sum (Int×Int×Bt×(List Str)×(List Int)×(List Int))<|Sum (Int×Int×Int×Bt×(List Str)×(List Int)×(List Int))<|Sum (Int×Int×Int×Bt×(List Str)×(List Int)×(List Int))<|Sum (Int×Int×Int×Bool×Bt×(List Str)×(List Int)×(List Int))<|b_×Int×Int) (if (x3==4) then bd3 (d_P (⟨x1.b,G,H⟩:m_) x2) λar au av=>some (.inl (au,av,([]:Bt),([]:List Str),([]:List Int),[ar])) else bd (α:=Sum (Int×Int×Bt×(List Str)×(List Int)×(List Int))<|Sum (Int×Int×Bt×(List Str)×(List Int)×(List Int))<|Sum (Int×Int×Int×Bt×(List Str)×(List Int)×(List Int))<|Sum (Int×Int×Int×Bt×(List Str)×(List Int)×(List Int))<|Sum (Int×Int×Int×Bool×Bt×(List Str)×(List Int)×(List Int))<|b_×Int×Int) (if (x3==5) then bd3 (d_P (⟨x1.b,G,H⟩:m_) x2) λaw ax ay=>bd3 (a_0 (⟨x1.b,ax,ay⟩:m_) (x2.rules.length:Int)) λaz aA aB=>some (.inl (aA,aB,([]:Bt),([]:List Str),([]:List Int),[aw,az])) else bd (α:=Sum (Int×Int×Bt×(List Str)×(List Int)×(List Int))<|Sum (Int×Int×Bt×(List Str)×(List Int)×(List Int))<|Sum (Int×Int×Bt×(List Str)×(List Int)×(List Int))<|Sum (Int×Int×Int×Bt×(List Str)×(List Int)×(List Int))<|Sum (Int×Int×Int×Bt×(List Str)×(List Int)×(List Int))<|Sum (Int×Int×Int×Bool×Bt×(List Str)×(List Int)×(List Int))<|b_×Int×Int) (if (x3==6) then bd3 (a_0 (⟨x1.b,G,H⟩:m_) 3) λaC aD aE=>bd (M_ (σ:=Int×Int×Int×(List Str)×(List Int)) (ρ:=b_×Int×Int) (un5 λI L O V W=>if (decide<|0<I) then bd3 (c_D (⟨x1.b,L,O⟩:m_) [(⟨[112]⟩:Str),(⟨[113]⟩:Str),(⟨[114]⟩:Str)]) λaF aG aH=>bd (d_B n I) λaI=>bd (cat aF aI) λaJ=>bd (psh V aJ) λaK=>bd3 (a_0 (⟨x1.b,aG,aH⟩:m_) (x2.rules.length:Int)) λaL aM aN=>bd (psh W aL) λaO=>some (.next (j_ I 1,aM,aN,aK,aO)) else some (.brk (I,L,O,V,W))) n (h_ 1 aC,aD,aE,([]:List Str),([]:List Int))) (el (un5 λI L O V W=>some<|.inl (L,O,([]:Bt),V,([]:List Int),W))<|λaP=>some<|.inr<|.inr<|.inr<|.inr<|.inr<|.inr aP) else bd (α:=Sum (Int×Int×Bt×(List Int)×(List Int))<|Sum (Int×Int×Bt×(List Str)×(List Int)×(List Int))<|Sum (Int×Int×Bt×(List Str)×(List Int)×(List Int))<|Sum (Int×Int×Bt×(List Str)×(List Int)×(List Int))<|Sum (Int×Int×Int×Bt×(List Str)×(List Int)×(List Int))<|Sum (Int×Int×Int×Bt×(List Str)×(List Int)×(List Int))<|Sum (Int×Int×Int×Bool×Bt×(List Str)×(List Int)×(List Int))<|b_×Int×Int) (if (x3==7) then bd3 (d_P (⟨x1.b,G,H⟩:m_) x2) λaQ aR aS=>bd3 (a_0 (⟨x1.b,aR,aS⟩:m_) 3) λaT aU aV=>bd (M_ (σ:=Int×Int×Int×(List Int)×(List Int)) (ρ:=b_×Int×Int) (un5 λY a0 a1 J a2=>if (decide<|0<Y) then bd3 (a_0 (⟨x1.b,a0,a1⟩:m_) 4) λaW aX aY=>bd (psh J<|h_ (a_5 4 (J.length:Int)) aW) λaZ=>bd3 (a_0 (⟨x1.b,aX,aY⟩:m_) (x2.rules.length:Int)) λb0 b3 b4=>bd (psh a2 b0) λb5=>some (.next (j_ Y 1,b3,b4,aZ,b5)) else some (.brk (Y,a0,a1,J,a2))) n (h_ 1 aT,aU,aV,([]:List Int),[aQ])) (el (un5 λY a0 a1 J a2=>some<|.inl (a0,a1,([]:Bt),J,a2))<|λb6=>some<|.inr<|.inr<|.inr<|.inr<|.inr<|.inr<|.inr b6) else bd (α:=Bool) (if (x3==8) then some (x3==8) else some (x3==9)) (λb7=>bd (α:=Int×Int×Bt×(List Int)) (if b7 then bd3 (a_0 (⟨x1.b,G,H⟩:m_) (x2.rules.length:Int)) λb8 b9 ba=>some (b9,ba,([]:Bt),[b8]) else bd (α:=Int×Int×Bt) (if (x3==10) then bd3 (c_n (⟨x1.b,G,H⟩:m_) [0,10,59,255]) λbb bc be=>some (bc,be,[mkB bb]) else some (G,H,([]:Bt))) (un3 λbf bg bh=>some (bf,bg,bh,([]:List Int))))<|un4 λbi bj bk bm=>some<|.inl (bi,bj,bk,([]:List Int),bm))) (el (un5 λbn bo bp bq br=>some<|.inl (bn,bo,bp,([]:List Str),bq,br)) some)) (el (un6 λbs bt bu bv bw bx=>some<|.inl (bs,bt,bu,bv,bw,bx)) some)) (el (un6 λbz bA bB bC bD bE=>some<|.inl (bz,bA,bB,bC,bD,bE)) some)) (el (un6 λbF bG bH bI bJ bK=>some<|.inl (bF,bG,0,bH,bI,bJ,bK)) some)) (el (un7 λbL bM bN bO bP bR bS=>some<|.inl (bL,bM,bN,bO,bP,bR,bS)) some)) (el (un7 λbT bU bV bW bX bY bZ=>some<|.inl (bT,bU,bV,false,bW,bX,bY,bZ)) some))<|el (un8 λc0 c1 c2 c3 c4 c5 c6 c7=>some ((⟨a8,x3,c2,c3,c4,c5,c6,c7⟩:b_),c0,c1)) some
def e_p (n:Nat)(x1:m_):Option (c_×Int×Int) :=
 bd3 (c_E n x1 (⟨([]:List b_)⟩:c_) 1) λL O V=>bd (psh ([]:List b_) L) λW=>bd3 (a_0 (⟨x1.b,O,V⟩:m_) 6) λY a0 a1=>bd (M_ (σ:=Int×Int×Int×(List b_)) (ρ:=c_×Int×Int) (un4 λH I J G=>if (decide<|0<H) then bd3 (a_0 (⟨x1.b,I,J⟩:m_) 10) λa2 a3 a4=>bd3 (c_E n (⟨x1.b,a3,a4⟩:m_) (⟨G⟩:c_)<|h_ 1 a2) λa5 a6 a7=>bd (psh G a5) λa8=>some (.next (j_ H 1,a6,a7,a8)) else some (.brk (H,I,J,G))) n (Y,a0,a1,W))<|el (un4 λH I J G=>some ((⟨G⟩:c_),I,J))<|λa9=>some a9
structure j_9 where
 spec_l9Make:m_->c_->Int->Int->Option (Val×Int×Int)
def h_R (n:Nat)(rec:j_9)(x1:m_)(x2:c_)(x3:Int)(x4:Int):Option (Val×Int×Int) :=
 bd (idx x2.rules x3) λG=>bd (α:=Sum (Int×Int×Int×Bt×(List Val))<|Val×Int×Int) (if (G.kind==1) then bd (d_a G.size) λa7=>bd (d_b a7 70000) λa8=>bd3 (a_0 x1 a8) λa9 aa ab=>some (.inl (aa,ab,a9,([]:Bt),([]:List Val))) else bd (α:=Sum (Int×Int×Int×Bt×(List Val))<|Sum (Int×Int×Int×Bt×(List Val))<|Val×Int×Int) (if (G.kind==3) then bd3 (f_y x1 G.size) λad ae af=>some (.inl (ae,af,0,ad,([]:List Val))) else bd (α:=Bool) (if (G.kind==4) then some (G.kind==4) else some (G.kind==10)) (λah=>bd (α:=Sum (Int×Int×Int×Bt×(List Val))<|Sum (Int×Int×Int×Bt×(List Val))<|Sum (Int×Int×Int×Bt×(List Val))<|Val×Int×Int) (if ah then bd (d_b x4 6) λai=>bd3 (a_0 x1<|h_ ai 1) λaj ak al=>bd3 (f_y (⟨x1.b,ak,al⟩:m_) aj) λO V W=>bd (α:=Bool×Int×Int) (if (G.kind==10) then if (decide<|0<(O.length:Int)) then bd3 (b_R (⟨x1.b,V,W⟩:m_) 2) λam an ap=>some (am,an,ap) else some (false,V,W) else some (false,V,W)) (un3 λaq a2 a3=>bd (α:=Int×Int×Bt) (if aq then bd (idx G.bytes 0) λar=>bd3 (c_n (⟨x1.b,a2,a3⟩:m_) [byteI ar,92]) λau av aw=>bd (upd O 0<|mkB au) λax=>some (av,aw,ax) else some (a2,a3,O))<|un3 λay az aA=>some<|.inl (ay,az,0,aA,([]:List Val))) else bd (α:=Sum (Int×Int×Int×(List Val))<|Sum (Int×Int×Int×Bt×(List Val))<|Sum (Int×Int×Int×Bt×(List Val))<|Sum (Int×Int×Int×Bt×(List Val))<|Val×Int×Int) (if (G.kind==5) then bd (d_b x4 3) λaB=>bd3 (a_0 x1<|h_ aB 1) λaC aD aE=>bd (M_ (σ:=Int×Int×Int×(List Val)) (ρ:=Val×Int×Int) (un4 λH I J L=>if (decide<|0<H) then bd (idx G.kids 1) λaF=>bd3 (rec.spec_l9Make (⟨x1.b,I,J⟩:m_) x2 aF<|c_l x4 2) λaG aH aI=>bd (psh L aG) λaJ=>some (.next (j_ H 1,aH,aI,aJ)) else some (.brk (H,I,J,L))) n (aC,aD,aE,([]:List Val))) (el (un4 λH I J L=>some<|.inl (I,J,0,L))<|λaK=>some<|.inr<|.inr<|.inr<|.inr aK) else bd (α:=Sum (Int×Int×Int×(List Val))<|Sum (Int×Int×Int×(List Val))<|Sum (Int×Int×Int×Bt×(List Val))<|Sum (Int×Int×Int×Bt×(List Val))<|Sum (Int×Int×Int×Bt×(List Val))<|Val×Int×Int) (if (G.kind==6) then bd (y_ (σ:=Int×Int×(List Val)) (ρ:=Val×Int×Int) (λaL=>un3 λY a0 a1=>bd (idx G.kids (aL:Int)) λaM=>bd3 (rec.spec_l9Make (⟨x1.b,Y,a0⟩:m_) x2 aM<|c_l x4 2) λaN aO aP=>bd (psh a1 aN) λaQ=>some<|.next (aO,aP,aQ)) G.kids.length 0 (x1.i,x1.h,([]:List Val))) (el (un3 λY a0 a1=>some<|.inl (Y,a0,0,a1))<|λaR=>some<|.inr<|.inr<|.inr<|.inr<|.inr aR) else bd (α:=Int×Int×Int×(List Val)) (if (G.kind==7) then bd3 (a_0 x1 (G.tags.length:Int)) λa4 aS aT=>bd (idx G.tags a4) λaU=>bd (idx G.kids<|h_ a4 1) λaV=>bd3 (rec.spec_l9Make (⟨x1.b,aS,aT⟩:m_) x2 aV<|c_l x4 2) λaW aX aY=>some (aX,aY,aU,[aW]) else bd (α:=Int×Int×(List Val)) (if (G.kind==8) then bd3 (b_R x1 2) λaZ a5 a6=>bd (α:=Int×Int×(List Val)) (if aZ then bd (idx G.kids 0) λb0=>bd3 (rec.spec_l9Make (⟨x1.b,a5,a6⟩:m_) x2 b0<|c_l x4 2) λb3 b4 b5=>some (b4,b5,[b3]) else some (a5,a6,([]:List Val))) (un3 λb6 b7 b8=>some (b6,b7,b8)) else bd (α:=Int×Int×(List Val)) (if (G.kind==9) then bd (idx G.kids 0) λb9=>bd3 (rec.spec_l9Make x1 x2 b9<|c_l x4 2) λba bb bc=>some (bb,bc,[ba]) else some (x1.i,x1.h,([]:List Val))) (un3 λbe bf bg=>some (be,bf,bg))) (un3 λbh bi bj=>some (bh,bi,0,bj))) (un4 λbk bm bn bo=>some<|.inl (bk,bm,bn,bo))) (el (un4 λbp bq br bs=>some<|.inl (bp,bq,br,bs)) some)) (el (un4 λbt bu bv bw=>some<|.inl (bt,bu,bv,([]:Bt),bw)) some))<|el (un5 λbx bz bA bB bC=>some<|.inl (bx,bz,bA,bB,bC)) some)) (el (un5 λbD bE bF bG bH=>some<|.inl (bD,bE,bF,bG,bH)) some))<|el (un5 λbI bJ bK bL bM=>some ((⟨bK,bL,bM⟩:Val),bI,bJ)) some
def f_z:Nat->j_9
 | 0=>⟨λ_ _ _ _=>none⟩
 | n+1=>⟨h_R n<|f_z n⟩
def l_X (n:Nat):=(f_z n).spec_l9Make
def f_A (n:Nat)(x1:Int)(x2:Int):Option Bt :=
 bd (e_8 n x1 x2) λI=>bd (M_ (σ:=Bt×Int) (ρ:=Bt) (un2 λH G=>if (decide<|0<=G) then bd (idx I G) λJ=>bd (psh H J) λL=>some (.next (L,j_ G 1)) else some (.brk (H,G))) n (([]:Bt),j_ (I.length:Int) 1))<|el (un2 λH G=>some H)<|λO=>some O
def c_S (n:Nat)(x1:b_)(x2:Int):Option Bt :=
 if x1.little then bd (f_A n x2 x1.size) λG=>some G else bd (e_8 n x2 x1.size) λH=>some H
structure j_a where
 spec_l11Print:c_->Int->Val->Option Bt
def b_S (n:Nat)(rec:j_a)(x1:c_)(x2:Int)(x3:Val):Option Bt :=
 bd (idx x1.rules x2) λG=>bd (y_ (σ:=Bt) (ρ:=Bt) (λL=>(λH=>bd (idx x3.items (L:Int)) λO=>bd (b_r G x3.number (L:Int)) λV=>bd (rec.spec_l11Print x1 V O) λW=>bd (app H W) λY=>some<|.next Y)) x3.items.length 0 ([]:Bt)) (el (λH=>if (G.kind==1) then bd (c_S n G x3.number) λa0=>some a0 else if (G.kind==2) then bd (app ([]:Bt) G.bytes) λa1=>some a1 else if (G.kind==4) then bd (idx G.kids 0) λa2=>bd (idx x1.rules a2) λa3=>bd (c_S n a3 (x3.bytes.length:Int)) λa4=>bd (app a4 x3.bytes) λa5=>some a5 else if (G.kind==5) then bd (idx G.kids 0) λa6=>bd (idx x1.rules a6) λa7=>bd (c_S n a7 (x3.items.length:Int)) λa8=>bd (app a8 H) λa9=>some a9 else if (G.kind==7) then bd (idx G.kids 0) λaa=>bd (idx x1.rules aa) λab=>bd (c_S n ab x3.number) λad=>bd (app ad H) λae=>some ae else if (G.kind==8) then bd (app [mkB (x3.items.length:Int)] H) λaf=>some af else if (G.kind==9) then bd (h_o H) λah=>bd (psh H<|mkB ah) λai=>some ai else if (G.kind==10) then bd (y_ (σ:=Bt) (ρ:=Bt) (λJ=>(λI=>bd (α:=Bool) (bd (idx x3.bytes (J:Int)) λaj=>bd (idx G.bytes 0) λak=>if ((byteI aj)==(byteI ak)) then some true else bd (idx x3.bytes (J:Int)) λal=>some<|(byteI al)==(byteI (92:UInt8))) (λam=>bd (α:=Bt) (if am then bd (psh I (92:UInt8)) λan=>some an else some I)<|λap=>bd (idx x3.bytes (J:Int)) λaq=>bd (psh ap aq) λar=>some<|.next ar))) x3.bytes.length 0 H) (el (λI=>bd (idx G.bytes 0) λau=>bd (psh I au) λav=>some av)<|λaw=>some aw) else if (G.kind==3) then bd (app ([]:Bt) x3.bytes) λax=>some ax else some H)<|λay=>some ay)
def d_f:Nat->j_a
 | 0=>⟨λ_ _ _=>none⟩
 | n+1=>⟨b_S n<|d_f n⟩
def f_B (n:Nat):=(d_f n).spec_l11Print
def h_S (x1:Bt)(x2:Bt):Option Bool :=
 if ((x1.length:Int) != (x2.length:Int)) then some false else bd (y_ (σ:=Unit) (ρ:=Bool) (λk10=>(λ(_:Unit)=>bd (idx x1 (k10:Int)) λG=>bd (idx x2 (k10:Int)) λH=>if ((byteI G) != (byteI H)) then some (.ret false) else some (.next ()))) x1.length 0 ()) (el (λ(_:Unit)=>some true)<|λI=>some I)
end Go.Vw
namespace Go.Vw
structure n_J where
 spec_l9Default:c_->Int->Option Val
def e_5 (n:Nat)(rec:n_J)(x1:c_)(x2:Int):Option Val :=
 bd (idx x1.rules x2) λG=>if (G.kind==3) then bd (mk0 (0:UInt8) G.size) λI=>some (⟨0,I,([]:List Val)⟩:Val) else if (G.kind==7) then bd (idx G.tags 0) λJ=>bd (idx G.kids 1) λL=>bd (rec.spec_l9Default x1 L) λO=>some (⟨J,([]:Bt),[O]⟩:Val) else bd (α:=Bool) (if (G.kind==6) then some (G.kind==6) else some (G.kind==9)) (λV=>if V then bd (y_ (σ:=List Val) (ρ:=Val) (λW=>(λH=>bd (idx G.kids (W:Int)) λY=>bd (rec.spec_l9Default x1 Y) λa0=>bd (psh H a0) λa1=>some<|.next a1)) G.kids.length 0 ([]:List Val)) (el (λH=>some (⟨0,([]:Bt),H⟩:Val))<|λa2=>some a2) else some (⟨0,([]:Bt),([]:List Val)⟩:Val))
def e_6:Nat->n_J
 | 0=>⟨λ_ _=>none⟩
 | n+1=>⟨e_5 n<|e_6 n⟩
def i_r (n:Nat):=(e_6 n).spec_l9Default
def g_g (n:Nat)(x1:c_)(x2:Int):Option Val :=
 bd (f_8 x1 x2) λG=>if (!G) then some (⟨0,([]:Bt),([]:List Val)⟩:Val) else bd (i_r n x1 x2) λH=>some H
def g_h (x1:c_)(x2:b_)(x3:Val):Option Bool :=
 if (x2.kind==1) then bd (α:=Bool) (bd (d_a x2.size) λG=>bd (b_6 x3.number 0<|j_ G 1) λH=>if H then if ((x3.bytes.length:Int)==0) then some ((x3.items.length:Int)==0) else some false else some false) (λI=>some I) else if (x2.kind==2) then bd (α:=Bool) (if (x3.number==0) then if ((x3.bytes.length:Int)==0) then some ((x3.items.length:Int)==0) else some false else some false) (λJ=>some J) else if (x2.kind==3) then bd (α:=Bool) (if (x3.number==0) then if ((x3.bytes.length:Int)==x2.size) then some ((x3.items.length:Int)==0) else some false else some false) (λL=>some L) else if (x2.kind==4) then bd (α:=Bool) (if (x3.number==0) then bd (idx x2.kids 0) λO=>bd (e_7 x1 O) λV=>bd (d_b 400 V) λW=>if (decide<|(x3.bytes.length:Int)<=W) then some ((x3.items.length:Int)==0) else some false else some false) (λY=>some Y) else if (x2.kind==10) then bd (α:=Bool) (if (x3.number==0) then if (decide<|(x3.bytes.length:Int)<=400) then some ((x3.items.length:Int)==0) else some false else some false) (λa0=>some a0) else if (x2.kind==5) then bd (α:=Bool) (if (x3.number==0) then if ((x3.bytes.length:Int)==0) then bd (idx x2.kids 0) λa1=>bd (e_7 x1 a1) λa2=>bd (d_b 40 a2) λa3=>some (decide<|(x3.items.length:Int)<=a3) else some false else some false) (λa4=>some a4) else if (x2.kind==6) then bd (α:=Bool) (if (x3.number==0) then if ((x3.bytes.length:Int)==0) then some ((x3.items.length:Int)==(x2.kids.length:Int)) else some false else some false) (λa5=>some a5) else if (x2.kind==7) then bd (α:=Bool) (if ((x3.bytes.length:Int)==0) then if ((x3.items.length:Int)==1) then bd (b_r x2 x3.number 0) λa6=>some (decide<|0<=a6) else some false else some false) (λa7=>some a7) else if (x2.kind==8) then bd (α:=Bool) (if (x3.number==0) then if ((x3.bytes.length:Int)==0) then some (decide<|(x3.items.length:Int)<=1) else some false else some false) (λa8=>some a8) else bd (α:=Bool) (if (x3.number==0) then if ((x3.bytes.length:Int)==0) then some ((x3.items.length:Int)==1) else some false else some false) (λa9=>some a9)
structure n_K where
 spec_l9Valid:c_->Int->Val->Option Bool
def g_i (n:Nat)(rec:n_K)(x1:c_)(x2:Int)(x3:Val):Option Bool :=
 bd (idx x1.rules x2) λG=>bd (g_h x1 G x3) λI=>if (!I) then some false else bd (y_ (σ:=Unit) (ρ:=Bool) (λH=>(λ(_:Unit)=>bd (idx x3.items (H:Int)) λJ=>bd (b_r G x3.number (H:Int)) λL=>bd (rec.spec_l9Valid x1 L J) λO=>if (!O) then some (.ret false) else some (.next ()))) x3.items.length 0 ()) (el (λ(_:Unit)=>some true)<|λV=>some V)
def d_x:Nat->n_K
 | 0=>⟨λ_ _ _=>none⟩
 | n+1=>⟨g_i n<|d_x n⟩
def h_k (n:Nat):=(d_x n).spec_l9Valid
def d_y (n:Nat)(x1:c_)(x2:Int)(x3:Val):Option Bool :=
 bd (α:=Bool) (bd (f_8 x1 x2) λG=>if G then bd (h_k n x1 x2 x3) λH=>some H else some false) (λI=>some I)
def j_X (n:Nat)(x1:c_)(x2:Int)(x3:Val):Option (Bt×Bool) :=
 bd (d_y n x1 x2 x3) λH=>if (!H) then some (([]:Bt),false) else bd (f_B n x1 x2 x3) λG=>if (decide<|400<(G.length:Int)) then some (([]:Bt),false) else some (G,true)
def i_s (n:Nat)(x1:c_)(x2:Val):Option (Bt×Bool) :=
 bd (f_7 x1) λG=>bd2 (j_X n x1 G x2) λH I=>some (H,I)
end Go.Vw
namespace Go.Vw
def g_x (x1:c_)(x2:Int)(x3:Val):Option Bool :=
 bd (idx x1.rules x2) λG=>bd (α:=Sum (Int×Int×Int) Bool) (if (G.kind==1) then bd (c_M x1 x2) λI=>some (.inl (I,0,0)) else bd (α:=Sum (Int×Int×Int)<|Sum (Int×Int×Int) Bool) (if (G.kind==3) then if ((x3.bytes.length:Int) != G.size) then some (.inr<|.inr false) else some (.inl (0,G.size,0)) else bd (α:=Int×Int×Int) (if (G.kind==4) then bd (idx G.kids 0) λJ=>bd (c_M x1 J) λL=>bd (h_v 400 L) λO=>some (0,O,0) else bd (α:=Int×Int×Int) (if (G.kind==10) then some (0,400,0) else bd (α:=Int×Int) (if (G.kind==5) then bd (idx G.kids 0) λV=>bd (c_M x1 V) λW=>bd (h_v 40 W) λY=>some (0,Y) else bd (α:=Int×Int) (if (G.kind==6) then some (0,(G.kids.length:Int)) else bd (α:=Int×Int) (if (G.kind==7) then bd (idx G.kids 0) λa0=>bd (c_M x1 a0) λa1=>some (a1,1) else bd (α:=Bool) (if (G.kind==8) then some (G.kind==8) else some (G.kind==9)) (λa2=>bd (α:=Int) (if a2 then some 1 else some 0)<|λa3=>some (0,a3))) (un2 λa4 a5=>some (a4,a5))) (un2 λa6 a7=>some (a6,a7))) (un2 λa8 a9=>some (a8,0,a9))) (un3 λaa ab ad=>some (aa,ab,ad))) (un3 λae af ah=>some<|.inl (ae,af,ah))) (el (un3 λai aj ak=>some<|.inl (ai,aj,ak)) some)) (el (un3 λal am H=>bd (α:=Bool) (if (G.kind==6) then some ((x3.items.length:Int) != H) else bd (α:=Bool) (if (G.kind==7) then some true else some (G.kind==9)) λan=>if an then some ((x3.items.length:Int) != H) else some false) (λap=>if ap then some false else bd (α:=Bool) (bd (c_c x3.number 0 al) λaq=>if aq then if (decide<|(x3.bytes.length:Int)<=am) then some (decide<|(x3.items.length:Int)<=H) else some false else some false) (λar=>some ar))) some)
structure o_3 where
 impl_validValue:c_->Int->Val->Option Bool
def g_y (n:Nat)(rec:o_3)(x1:c_)(x2:Int)(x3:Val):Option Bool :=
 bd (g_x x1 x2 x3) λH=>if (!H) then some false else bd (y_ (σ:=Unit) (ρ:=Bool) (λk10=>(λ(_:Unit)=>bd (f_e x1 x2 x3 (k10:Int)) λG=>bd (α:=Bool) (if (decide<|G<0) then some true else bd (idx x3.items (k10:Int)) λI=>bd (rec.impl_validValue x1 G I) λJ=>some (!J)) (λL=>if L then some (.ret false) else some (.next ())))) x3.items.length 0 ()) (el (λ(_:Unit)=>some true)<|λO=>some O)
def d_H:Nat->o_3
 | 0=>⟨λ_ _ _=>none⟩
 | n+1=>⟨g_y n<|d_H n⟩
def h_A (n:Nat):=(d_H n).impl_validValue
def d_I (n:Nat)(x1:c_)(x2:Int)(x3:Val):Option Bool :=
 bd (α:=Bool) (bd (g_p n x1 x2) λG=>if G then bd (h_A n x1 x2 x3) λH=>some H else some false) (λI=>some I)
end Go.Vw
namespace Go.Vw
open Go.RowKit Dat
structure b_d where
 d:c_
 out:Bt
deriving Inhabited
end Go.Vw
namespace Go.Vw
def c_h (x1:b_d)(x2:Bt):Option Bt :=
 bd (app x1.out x2) λG=>some G
def i_0 (x1:Bt)(x2:UInt8):Option Bt :=
 bd (mk0 ()<|h_ (x1.length:Int) 1) λa0=>bd (y_ (σ:=Bt) (ρ:=Bt) (λI=>(λG=>bd (idx x1 (I:Int)) λH=>bd (α:=Bool) (if ((byteI H)==(byteI x2)) then some true else some ((byteI H)==(byteI (92:UInt8)))) (λJ=>bd (α:=Bt) (if J then bd (psh G (92:UInt8)) λL=>some L else some G)<|λO=>bd (psh O H) λV=>some<|.next V))) x1.length 0 ([]:Bt))<|el (λG=>bd (psh G x2) λW=>some W)<|λY=>some Y
def g_0 (x1:b_d):Option Bool :=
 some (decide<|400<(x1.out.length:Int))
def g_1 (n:Nat)(x1:Int)(x2:Int):Option Bt :=
 bd (α:=Bool) (bd (c_c x2 1 4) λJ=>if (!J) then some true else if (decide<|x1<0) then some true else bd (nn<|a_5 8 x2) λY=>some<|decide<|(b_w .i64 1<|a_5 8 x2)<=x1) (λL=>if L then some ([]:Bt) else bd (mk0 (0:UInt8) x2) λO=>bd (M_ (σ:=Int×Bt×Int) (ρ:=Bt) (un3 λH I G=>if (decide<|0<=G) then bd (upd I G<|mkB H) λV=>some (.next (a_g .i64 H 8,V,j_ G 1)) else some (.brk (H,I,G))) n (x1,O,j_ x2 1))<|el (un3 λH I G=>some I)<|λW=>some W)
def i_1 (n:Nat)(x1:Int)(x2:Int):Option Bt :=
 bd (g_1 n x1 x2) λJ=>bd (M_ (σ:=Bt×Int×Int) (ρ:=Bt) (un3 λG H I=>if (decide<|H<I) then bd (α:=Bt) (bd (idx G I) λL=>bd (idx G H) λO=>bd (upd G H L) λV=>bd (upd V I O) λW=>some W) (λY=>some<|.next (Y,h_ H 1,j_ I 1)) else some (.brk (G,H,I))) n (J,0,j_ (J.length:Int) 1))<|el (un3 λG H I=>some G)<|λa0=>some a0
def g_2 (n:Nat)(x1:b_)(x2:Int):Option Bt :=
 if x1.little then bd (i_1 n x2 x1.size) λG=>some G else bd (g_1 n x2 x1.size) λH=>some H
def e_J (n:Nat)(x1:Int)(x2:Int)(x3:b_d):Option Bt :=
 bd (idx x3.d.rules x1) λG=>bd (g_2 n G x2) λH=>bd (c_h x3 H) λI=>some I
structure i_2 where
 impl_printer_value:b_d->Int->Val->Option Bt
 impl_printer_items:b_d->Int->Val->Option Bt
def c_0 (n:Nat)(rec:i_2)(x1:b_d)(x2:Int)(x3:Val):Option Bt :=
 bd (idx x1.d.rules x2) λG=>bd (α:=Bt) (if (G.kind==1) then bd (e_J n x2 x3.number x1) λJ=>some J else bd (α:=Bt) (if (G.kind==2) then bd (c_h x1 G.bytes) λL=>some L else bd (α:=Bt) (if (G.kind==3) then bd (c_h x1 x3.bytes) λO=>some O else bd (α:=Bt) (if (G.kind==4) then bd (idx G.kids 0) λV=>bd (e_J n V (x3.bytes.length:Int) x1) λW=>bd (c_h (⟨(⟨x1.d.rules⟩:c_),W⟩:b_d) x3.bytes) λY=>some Y else bd (α:=Bt) (if (G.kind==5) then bd (idx G.kids 0) λa0=>bd (e_J n a0 (x3.items.length:Int) x1) λa1=>some a1 else bd (α:=Bt) (if (G.kind==7) then bd (idx G.kids 0) λa2=>bd (e_J n a2 x3.number x1) λa3=>some a3 else bd (α:=Bt) (if (G.kind==8) then bd (c_h x1 [mkB (x3.items.length:Int)]) λa4=>some a4 else bd (α:=Bt) (if (G.kind==10) then bd (idx G.bytes 0) λa5=>bd (i_0 x3.bytes a5) λa6=>bd (c_h x1 a6) λa7=>some a7 else some x1.out) (λa8=>some a8)) (λa9=>some a9)) (λaa=>some aa)) (λab=>some ab)) (λad=>some ad)) (λae=>some ae)) (λaf=>some af)) (λI=>bd (rec.impl_printer_items (⟨(⟨x1.d.rules⟩:c_),I⟩:b_d) x2 x3) λH=>bd (α:=Bt) (if (G.kind==9) then bd (slc H (I.length:Int) (H.length:Int)) λah=>bd (g_q ah) λai=>bd (c_h (⟨(⟨x1.d.rules⟩:c_),H⟩:b_d) [mkB ai]) λaj=>some aj else some H)<|λak=>some ak)
def i_3 (n:Nat)(rec:i_2)(x1:b_d)(x2:Int)(x3:Val):Option Bt :=
 bd (y_ (σ:=Bt) (ρ:=Bt) (λH=>(λG=>bd (g_0 (⟨(⟨x1.d.rules⟩:c_),G⟩:b_d)) λI=>if I then some (.ret G) else bd (idx x3.items (H:Int)) λJ=>bd (f_e (⟨x1.d.rules⟩:c_) x2 x3 (H:Int)) λL=>bd (rec.impl_printer_value (⟨(⟨x1.d.rules⟩:c_),G⟩:b_d) L J) λO=>some<|.next O)) x3.items.length 0 x1.out) (el (λG=>some G)<|λV=>some V)
def c_r:Nat->i_2
 | 0=>⟨λ_ _ _=>none,λ_ _ _=>none⟩
 | n+1=>⟨c_0 n<|c_r n,i_3 n<|c_r n⟩
def i_4 (n:Nat):=(c_r n).impl_printer_value
def j_i (n:Nat)(x1:c_)(x2:Int)(x3:Val):Option (Bt×Bool) :=
 bd (d_I n x1 x2 x3) λH=>if (!H) then some (([]:Bt),false) else bd (i_4 n (⟨(⟨x1.rules⟩:c_),([]:Bt)⟩:b_d) x2 x3) λG=>bd (g_0 (⟨(⟨x1.rules⟩:c_),G⟩:b_d)) λI=>if I then some (([]:Bt),false) else some (G,true)
def i_5 (n:Nat)(x1:c_)(x2:Val):Option (Bt×Bool) :=
 bd (f_a x1) λG=>bd2 (j_i n x1 G x2) λH I=>some (H,I)
end Go.Vw
namespace Go.Vw
def g_L (x1:m_)(x2:Bt):Option (Bt×Int×Int) :=
 bd (app ([]:Bt) x2) λG=>bd3 (a_0 x1 6) λJ H I=>bd (α:=Bt×Int×Int) (if (J==0) then bd (α:=Bt×Int×Int) (if (decide<|0<(G.length:Int)) then bd3 (a_0 (⟨x1.b,H,I⟩:m_) (G.length:Int)) λL O V=>bd3 (a_0 (⟨x1.b,O,V⟩:m_) 256) λW Y a0=>bd (upd G L<|mkB W) λa1=>some (a1,Y,a0) else some (G,H,I)) (un3 λa2 a3 a4=>some (a2,a3,a4)) else bd (α:=Bt×Int×Int) (if (J==1) then bd3 (a_0 (⟨x1.b,H,I⟩:m_)<|h_ (G.length:Int) 1) λa5 a6 a7=>bd (slc G 0 a5) λa8=>some (a8,a6,a7) else bd (α:=Bt×Int×Int) (if (J==2) then bd3 (c_n (⟨x1.b,H,I⟩:m_) [0,1,128,255]) λa9 aa ab=>bd (psh G<|mkB a9) λad=>some (ad,aa,ab) else some (G,H,I)) (un3 λae af ah=>some (ae,af,ah))) (un3 λai aj ak=>some (ai,aj,ak)))<|un3 λal am an=>some (al,am,an)
def h_T (n:Nat)(x1:m_):Option (c_×Int×Int) :=
 bd3 (e_p n x1) λG a4 a5=>bd3 (a_0 (⟨x1.b,a4,a5⟩:m_) (G.rules.length:Int)) λH a6 a7=>bd3 (a_0 (⟨x1.b,a6,a7⟩:m_) 16) λL I J=>bd (α:=Sum (Int×Int×(List b_))<|c_×Int×Int) (if (L==0) then bd (idx G.rules 0) λa8=>bd3 (c_D (⟨x1.b,I,J⟩:m_) [(⟨[]⟩:Str),(⟨[65]⟩:Str),a8.name,(⟨[118,101,114,121,108,111,110,103,110,97,109,101,105,110,100,101,101,100]⟩:Str)]) λa9 aa ab=>bd (idx G.rules H) λa0=>bd (upd G.rules H (⟨a9,a0.kind,a0.size,a0.little,a0.bytes,a0.names,a0.tags,a0.kids⟩:b_)) λad=>some (.inl (aa,ab,ad)) else bd (α:=Sum (Int×Int×(List b_))<|Sum (Int×Int×(List b_))<|c_×Int×Int) (if (L==1) then bd3 (a_0 (⟨x1.b,I,J⟩:m_) 13) λae af ah=>bd (idx G.rules H) λa1=>bd (upd G.rules H (⟨a1.name,j_ ae 1,a1.size,a1.little,a1.bytes,a1.names,a1.tags,a1.kids⟩:b_)) λai=>some (.inl (af,ah,ai)) else bd (α:=Sum (Int×Int×(List b_))<|Sum (Int×Int×(List b_))<|Sum (Int×Int×(List b_))<|c_×Int×Int) (if (L==2) then bd3 (c_n (⟨x1.b,I,J⟩:m_) [(-1),0,1,4,5,64,65]) λaj ak al=>bd (idx G.rules H) λa2=>bd (upd G.rules H (⟨a2.name,a2.kind,aj,a2.little,a2.bytes,a2.names,a2.tags,a2.kids⟩:b_)) λam=>some (.inl (ak,al,am)) else bd (α:=Sum (Int×Int×(List b_))<|Sum (Int×Int×(List b_))<|Sum (Int×Int×(List b_))<|Sum (Int×Int×(List b_))<|c_×Int×Int) (if (L==3) then bd (idx G.rules H) λan=>bd (idx G.rules H) λa3=>bd (upd G.rules H (⟨a3.name,a3.kind,a3.size,!an.little,a3.bytes,a3.names,a3.tags,a3.kids⟩:b_)) λap=>some (.inl (I,J,ap)) else bd (α:=Sum (Int×Int×(List b_))<|Sum (Int×Int×(List b_))<|Sum (Int×Int×(List b_))<|Sum (Int×Int×(List b_))<|Sum (Int×Int×(List b_))<|c_×Int×Int) (if (L==4) then bd (α:=Int×Int×(List b_)) (bd (idx G.rules H) λO=>bd3 (a_0 (⟨x1.b,I,J⟩:m_) 8) λaq ar au=>bd (psh O.kids<|j_ aq 1) λav=>some (ar,au,G.rules.set (H).toNat (⟨O.name,O.kind,O.size,O.little,O.bytes,O.names,O.tags,av⟩:b_))) (un3 λaw ax ay=>some<|.inl (aw,ax,ay)) else bd (α:=Sum (Int×Int×(List b_))<|Sum (Int×Int×(List b_))<|Sum (Int×Int×(List b_))<|Sum (Int×Int×(List b_))<|Sum (Int×Int×(List b_))<|Sum (Int×Int×(List b_))<|c_×Int×Int) (if (L==5) then bd (α:=Int×Int×(List b_)) (bd (idx G.rules H) λV=>bd3 (c_n (⟨x1.b,I,J⟩:m_) [0,92]) λaz aA aB=>bd (psh V.bytes<|mkB az) λaC=>some (aA,aB,G.rules.set (H).toNat (⟨V.name,V.kind,V.size,V.little,aC,V.names,V.tags,V.kids⟩:b_))) (un3 λaD aE aF=>some<|.inl (aD,aE,aF)) else bd (α:=Sum (Int×Int×(List b_))<|Sum (Int×Int×(List b_))<|Sum (Int×Int×(List b_))<|Sum (Int×Int×(List b_))<|Sum (Int×Int×(List b_))<|Sum (Int×Int×(List b_))<|Sum (Int×Int×(List b_))<|c_×Int×Int) (if (L==6) then bd (α:=Int×Int×(List b_)) (bd (idx G.rules H) λW=>bd3 (c_D (⟨x1.b,I,J⟩:m_) [(⟨[112,49]⟩:Str),(⟨[81]⟩:Str),(⟨[122]⟩:Str)]) λaG aH aI=>bd (psh W.names aG) λaJ=>some (aH,aI,G.rules.set (H).toNat (⟨W.name,W.kind,W.size,W.little,W.bytes,aJ,W.tags,W.kids⟩:b_))) (un3 λaK aL aM=>some<|.inl (aK,aL,aM)) else bd (α:=Sum (Int×Int×(List b_))<|Sum (Int×Int×(List b_))<|Sum (Int×Int×(List b_))<|Sum (Int×Int×(List b_))<|Sum (Int×Int×(List b_))<|Sum (Int×Int×(List b_))<|Sum (Int×Int×(List b_))<|Sum (Int×Int×(List b_))<|c_×Int×Int) (if (L==7) then bd (α:=Int×Int×(List b_)) (bd (idx G.rules H) λY=>bd3 (c_n (⟨x1.b,I,J⟩:m_) [(-1),0,5,256,70000]) λaN aO aP=>bd (psh Y.tags aN) λaQ=>some (aO,aP,G.rules.set (H).toNat (⟨Y.name,Y.kind,Y.size,Y.little,Y.bytes,Y.names,aQ,Y.kids⟩:b_))) (un3 λaR aS aT=>some<|.inl (aR,aS,aT)) else if (L==8) then some (.inr<|.inr<|.inr<|.inr<|.inr<|.inr<|.inr<|.inr ((⟨([]:List b_)⟩:c_),I,J)) else some (.inl (I,J,G.rules))) (el (un3 λaU aV aW=>some<|.inl (aU,aV,aW)) some)) (el (un3 λaX aY aZ=>some<|.inl (aX,aY,aZ)) some)) (el (un3 λb0 b3 b4=>some<|.inl (b0,b3,b4)) some)) (el (un3 λb5 b6 b7=>some<|.inl (b5,b6,b7)) some)) (el (un3 λb8 b9 ba=>some<|.inl (b8,b9,ba)) some)) (el (un3 λbb bc be=>some<|.inl (bb,bc,be)) some)) (el (un3 λbf bg bh=>some<|.inl (bf,bg,bh)) some))<|el (un3 λbi bj bk=>some ((⟨bk⟩:c_),bi,bj)) some
end Go.Vw
namespace Go.Vw
def e_d (n:Nat)(x1:m_)(x2:c_):Option (c_×Int×Int) :=
 bd (i_Z x2) λa1=>bd (M_ (σ:=Int×Int×Int×(List b_)) (ρ:=c_×Int×Int) (un4 λG L O H=>if (decide<|G<(H.length:Int)) then bd (α:=Int×Int×(List b_)) (bd (idx H G) λV=>bd (α:=Bool×Int×Int) (if (V.kind != 7) then some (true,L,O) else if (decide<|8<=(V.tags.length:Int)) then some (true,L,O) else bd3 (b_R (⟨x1.b,L,O⟩:m_) 4) λa2 a3 a4=>some (a2,a3,a4)) (un3 λa5 W Y=>if a5 then some (W,Y,H) else bd (idx V.tags<|j_ (V.tags.length:Int) 1) λa6=>bd3 (a_0 (⟨x1.b,W,Y⟩:m_) 3) λa7 a8 a9=>bd (α:=List b_) (bd (idx H G) λI=>bd (psh I.tags<|h_ (h_ a6 1) a7) λaa=>some<|H.set (G).toNat (⟨I.name,I.kind,I.size,I.little,I.bytes,I.names,aa,I.kids⟩:b_))<|λa0=>bd (α:=Int×Int×(List b_)) (bd (idx a0 G) λJ=>bd3 (a_0 (⟨x1.b,a8,a9⟩:m_) G) λab ad ae=>bd (psh J.kids ab) λaf=>some (ad,ae,a0.set (G).toNat (⟨J.name,J.kind,J.size,J.little,J.bytes,J.names,J.tags,af⟩:b_)))<|un3 λah ai aj=>some (ah,ai,aj))) (un3 λak al am=>some<|.next (h_ G 1,ak,al,am)) else some (.brk (G,L,O,H))) n (0,x1.i,x1.h,a1.rules))<|el (un4 λG L O H=>some ((⟨H⟩:c_),L,O))<|λan=>some an
def f_q (n:Nat)(x1:m_)(x2:c_):Option (c_×Int×Int) :=
 bd3 (e_d n x1 x2) λH Y a0=>bd3 (a_0 (⟨x1.b,Y,a0⟩:m_) (H.rules.length:Int)) λI J L=>bd (idx H.rules I) λG=>bd (α:=Int×Int×(List b_)) (if (G.kind==3) then bd3 (a_0 (⟨x1.b,J,L⟩:m_) 5) λa1 a2 a3=>some (a2,a3,H.rules.set (I).toNat (⟨G.name,G.kind,h_ 1 a1,G.little,G.bytes,G.names,G.tags,G.kids⟩:b_)) else bd (α:=Int×Int×(List b_)) (if (G.kind==6) then bd (α:=Bool×Int×Int) (if (decide<|(G.names.length:Int)<8) then bd3 (b_R (⟨x1.b,J,L⟩:m_) 2) λa4 a5 a6=>some (a4,a5,a6) else some (false,J,L)) (un3 λa7 V W=>bd (α:=Int×Int×(List b_)) (if a7 then bd (psh G.names (⟨[110,101,119]⟩:Str)) λa8=>bd3 (a_0 (⟨x1.b,V,W⟩:m_) I) λa9 aa ab=>bd (psh G.kids a9) λad=>some (aa,ab,H.rules.set (I).toNat (⟨G.name,G.kind,G.size,G.little,G.bytes,a8,G.tags,ad⟩:b_)) else bd (α:=List b_) (if (decide<|1<(G.names.length:Int)) then bd (slc G.names 1 (G.names.length:Int)) λae=>bd (slc G.kids 1 (G.kids.length:Int)) λaf=>some (H.rules.set (I).toNat (⟨G.name,G.kind,G.size,G.little,G.bytes,ae,G.tags,af⟩:b_)) else some (H.rules.set (I).toNat (⟨G.name,G.kind,G.size,G.little,G.bytes,G.names,G.tags,G.kids⟩:b_))) (λah=>some (V,W,ah)))<|un3 λai aj ak=>some (ai,aj,ak)) else bd (α:=List b_) (if (G.kind==10) then some (H.rules.set (I).toNat (⟨G.name,G.kind,G.size,G.little,[(7:UInt8)],G.names,G.tags,G.kids⟩:b_)) else bd (α:=List b_) (if (G.kind==1) then bd (α:=List b_) (if (decide<|G.size<3) then some (H.rules.set (I).toNat (⟨G.name,G.kind,h_ G.size 1,G.little,G.bytes,G.names,G.tags,G.kids⟩:b_)) else some (H.rules.set (I).toNat (⟨G.name,G.kind,G.size,G.little,G.bytes,G.names,G.tags,G.kids⟩:b_))) (λal=>some al) else some (H.rules.set (I).toNat (⟨G.name,G.kind,G.size,G.little,G.bytes,G.names,G.tags,G.kids⟩:b_))) (λam=>some am)) (λan=>some (J,L,an))) (un3 λap aq ar=>some (ap,aq,ar))) (un3 λau av O=>bd3 (b_R (⟨x1.b,au,av⟩:m_) 4) λaw ax ay=>bd (α:=List b_) (if aw then bd (psh O (⟨(⟨[111,112,116]⟩:Str),8,0,false,([]:Bt),([]:List Str),([]:List Int),[j_ (O.length:Int) 1]⟩:b_)) λaz=>some az else some O)<|λaA=>some ((⟨aA⟩:c_),ax,ay))
def h_B (n:Nat)(x1:m_):Option (W_×Bt×Int×Int) :=
 bd3 (e_p n x1) λa3 a4 a5=>bd3 (a_0 (⟨x1.b,a4,a5⟩:m_) 3) λa6 a7 a8=>bd (M_ (σ:=Int×Int×Int×(List b_)) (ρ:=W_×Bt×Int×Int) (un4 λJ L O G=>if (decide<|0<J) then bd3 (c_n (⟨x1.b,L,O⟩:m_) [6,7,5]) λa9 aa ab=>bd3 (c_E n (⟨x1.b,aa,ab⟩:m_) (⟨G⟩:c_) a9) λad ae af=>bd (psh G ad) λah=>some (.next (j_ J 1,ae,af,ah)) else some (.brk (J,L,O,G))) n (a6,a7,a8,a3.rules)) (el (un4 λJ L O G=>bd3 (l_X n (⟨x1.b,L,O⟩:m_) (⟨G⟩:c_) (j_ (G.length:Int) 1) 6) λai aj ak=>bd (f_B n (⟨G⟩:c_) (j_ (G.length:Int) 1) ai) λal=>bd3 (a_0 (⟨x1.b,aj,ak⟩:m_) 3) λam an ap=>bd (M_ (σ:=Int×Int×Int×(List b_)×(List c_)) (ρ:=W_×Bt×Int×Int) (un5 λV W Y H I=>bd (α:=Bool) (if (decide<|0<V) then some (decide<|(H.length:Int)<20) else some false) (λaq=>if aq then bd3 (b_R (⟨x1.b,W,Y⟩:m_) 2) λar a1 a2=>bd (α:=Int×Int×(List b_)) (if ar then bd3 (e_d n (⟨x1.b,a1,a2⟩:m_) (⟨H⟩:c_)) λau av aw=>some (av,aw,au.rules) else bd3 (f_q n (⟨x1.b,a1,a2⟩:m_) (⟨H⟩:c_)) λax ay az=>some (ay,az,ax.rules)) (un3 λaA aB a0=>bd (f_6 (⟨a0⟩:c_)) λaC=>bd (α:=List c_) (if aC then bd (psh I (⟨a0⟩:c_)) λaD=>some aD else some I)<|λaE=>some<|.next (j_ V 1,aA,aB,a0,aE)) else some (.brk (V,W,Y,H,I)))) n (am,an,ap,G,[(⟨G⟩:c_)]))<|el (un5 λV W Y H I=>some ((⟨I⟩:W_),al,W,Y))<|λaF=>some aF)<|λaG=>some aG)
end Go.Vw
namespace Go.Vw
def h_D (x1:List Int)(x2:Int):Option Bool :=
 bd (y_ (σ:=Unit) (ρ:=Bool) (λk10=>(λ(_:Unit)=>bd (idx x1 (k10:Int)) λG=>if (G==x2) then some (.ret true) else some (.next ()))) x1.length 0 ()) (el (λ(_:Unit)=>some false)<|λH=>some H)
end Go.Vw
namespace Go.Vw
open Go.RowKit Dat
@[reducible] def un16 {t1 t2 t3 t4 t5 t6 t7 t8 t9 t10 t11 t12 t13 t14 t15 t16 δ:Type} (f:t1->t2->t3->t4->t5->t6->t7->t8->t9->t10->t11->t12->t13->t14->t15->t16->δ):t1×t2×t3×t4×t5×t6×t7×t8×t9×t10×t11×t12×t13×t14×t15×t16->δ | (a1,a2,a3,a4,a5,a6,a7,a8,a9,a10,a11,a12,a13,a14,a15,a16)=>f a1 a2 a3 a4 a5 a6 a7 a8 a9 a10 a11 a12 a13 a14 a15 a16
theorem un16S {t1 t2 t3 t4 t5 t6 t7 t8 t9 G H I J L O V γ:Type}{f:t1->t2->t3->t4->t5->t6->t7->t8->t9->G->H->I->J->L->O->V->Option γ}{a1:t1}{a2:t2}{a3:t3}{a4:t4}{a5:t5}{a6:t6}{a7:t7}{a8:t8}{a9:t9}{W:G}{Y:H}{a0:I}{aa:J}{ab:L}{ad:O}{ae:V}{r:Option γ}(h:un16 f (a1,a2,a3,a4,a5,a6,a7,a8,a9,W,Y,a0,aa,ab,ad,ae)=r):f a1 a2 a3 a4 a5 a6 a7 a8 a9 W Y a0 aa ab ad ae=r:=h
structure b_D where
 a:c_
 b:c_
deriving Inhabited
end Go.Vw
namespace Go.Vw
def h_E (n:Nat)(x1:m_):Option (W_×Bt×Int×Int) :=
 bd4 (h_B n x1) λJ L a5 a6=>bd3 (a_0 (⟨x1.b,a5,a6⟩:m_) 12) λO H I=>bd (α:=Sum (Int×Int×(List c_))<|W_×Bt×Int×Int) (if (O==0) then bd3 (h_T n (⟨x1.b,H,I⟩:m_)) λa7 a8 a9=>bd (psh J.versions a7) λaa=>some (.inl (a8,a9,aa)) else bd (α:=Sum (Int×Int×(List c_))<|Sum (Int×Int×(List c_))<|W_×Bt×Int×Int) (if (O==1) then bd3 (a_0 (⟨x1.b,H,I⟩:m_) 2) λab ad ae=>bd (mk0 (⟨([]:List b_)⟩:c_) ab) λaf=>some (.inl (ad,ae,af)) else bd (α:=Sum (Int×Int×(List c_))<|Sum (Int×Int×(List c_))<|Sum (Int×Int×(List c_))<|W_×Bt×Int×Int) (if (O==2) then bd (M_ (σ:=Int×Int×(List c_)) (ρ:=W_×Bt×Int×Int) (un3 λV W G=>bd3 (a_0 (⟨x1.b,V,W⟩:m_) 2) λah Y a0=>if (decide<|(G.length:Int)<(h_ 8 ah)) then bd (idx G 0) λai=>bd (psh G ai) λaj=>some (.next (Y,a0,aj)) else some (.brk (Y,a0,G))) n (H,I,J.versions)) (el (un3 λV W G=>some<|.inl (V,W,G))<|λak=>some<|.inr<|.inr<|.inr ak) else some (.inl (H,I,J.versions))) (el (un3 λal am an=>some<|.inl (al,am,an)) some)) (el (un3 λap aq ar=>some<|.inl (ap,aq,ar)) some)) (el (un3 λa1 a2 au=>bd (α:=Bool×Int×Int) (if (decide<|0<(L.length:Int)) then bd3 (b_R (⟨x1.b,a1,a2⟩:m_) 8) λav aw ax=>some (av,aw,ax) else some (false,a1,a2)) (un3 λay a3 a4=>bd (α:=Bt×Int×Int) (if ay then bd3 (g_L (⟨x1.b,a3,a4⟩:m_) L) λaz aA aB=>some (az,aA,aB) else some (L,a3,a4))<|un3 λaC aD aE=>some ((⟨au⟩:W_),aC,aD,aE))) some)
def j_5 (n:Nat)(x1:Bt):Option (W_×Bt) :=
 bd (h_Q n x1) λG=>bd4 (h_E n G) λH I J L=>some (H,I)
def h_F (n:Nat)(x1:Bt):Option (W_×Bt) :=
 bd2 (j_5 n x1) λG H=>some (G,H)
def g_A (n:Nat)(x1:W_)(x2:Bt):Option (List Int) :=
 bd (y_ (σ:=List Int) (ρ:=List Int) (λH=>(λG=>bd (idx x1.versions (H:Int)) λI=>bd (f_d n I x2) λJ=>bd (α:=List Int) (if J then bd (psh G (H:Int)) λL=>some L else some G)<|λO=>some<|.next O)) x1.versions.length 0 ([]:List Int)) (el (λG=>some G)<|λV=>some V)
def h_G (x1:W_):Option Int :=
 some (j_ (x1.versions.length:Int) 1)
structure l_N where
 impl_defaultValue:c_->Int->Option Val
def d_L (n:Nat)(rec:l_N)(x1:c_)(x2:Int):Option Val :=
 bd (idx x1.rules x2) λG=>if (G.kind==3) then bd (mk0 (0:UInt8) G.size) λI=>some (⟨0,I,([]:List Val)⟩:Val) else if (G.kind==6) then bd (y_ (σ:=List Val) (ρ:=Val) (λJ=>(λH=>bd (idx G.kids (J:Int)) λL=>bd (rec.impl_defaultValue x1 L) λO=>bd (psh H O) λV=>some<|.next V)) G.kids.length 0 ([]:List Val)) (el (λH=>some (⟨0,([]:Bt),H⟩:Val))<|λW=>some W) else if (G.kind==7) then bd (idx G.tags 0) λY=>bd (idx G.kids 1) λa0=>bd (rec.impl_defaultValue x1 a0) λa1=>some (⟨Y,([]:Bt),[a1]⟩:Val) else if (G.kind==9) then bd (idx G.kids 0) λa2=>bd (rec.impl_defaultValue x1 a2) λa3=>some (⟨0,([]:Bt),[a3]⟩:Val) else some (⟨0,([]:Bt),([]:List Val)⟩:Val)
def d_M:Nat->l_N
 | 0=>⟨λ_ _=>none⟩
 | n+1=>⟨d_L n<|d_M n⟩
def e_i (n:Nat):=(d_M n).impl_defaultValue
def k_p (x1:Int)(x2:Int):Option Bool :=
 some (x1==x2)
def j_6 (x1:List Int)(G:Int):Option Int :=
 bd (y_ (σ:=Unit) (ρ:=Int) (λk10=>(λ(_:Unit)=>bd (idx x1 (k10:Int)) λH=>bd (k_p H G) λI=>if I then some (.ret (k10:Int)) else some (.next ()))) x1.length 0 ()) (el (λ(_:Unit)=>some (-1))<|λJ=>some J)
def g_B (x1:b_)(x2:Int):Option Int :=
 bd (j_6 x1.tags x2) λG=>some G
def h_H (x1:Int):Option Bool :=
 bd (α:=Bool) (if (x1==4) then some true else some (x1==10)) (λG=>some G)
def h_I (x1:Str)(x2:Str):Option Bool :=
 some (x1.b==x2.b)
def g_C (x1:List Str)(G:Str):Option Int :=
 bd (y_ (σ:=Unit) (ρ:=Int) (λk10=>(λ(_:Unit)=>bd (idx x1 (k10:Int)) λH=>bd (h_I H G) λI=>if I then some (.ret (k10:Int)) else some (.next ()))) x1.length 0 ()) (el (λ(_:Unit)=>some (-1))<|λJ=>some J)
structure f_u where
 impl_migrator_value:b_D->Int->Int->Val->Option (Val×Bool)
 impl_migrator_same:b_D->b_->b_->Int->Val->Option (Val×Bool)
 impl_migrator_items:b_D->Int->Int->Val->Option (Val×Bool)
 impl_migrator_parts:b_D->b_->b_->Val->Option (Val×Bool)
def e_j (n:Nat)(rec:f_u)(x1:b_D)(x2:Int)(x3:Int)(x4:Val):Option (Val×Bool) :=
 bd (α:=Str×Int×Int×Bool×Bt×(List Str)×(List Int)×(List Int)×Str×Int×Int×Bool×Bt×(List Str)×(List Int)×(List Int)) (bd (idx x1.a.rules x2) λG=>bd (idx x1.b.rules x3) λH=>some (G.name,G.kind,G.size,G.little,G.bytes,G.names,G.tags,G.kids,H.name,H.kind,H.size,H.little,H.bytes,H.names,H.tags,H.kids)) (un16 λa1 I a2 a3 a4 a5 a6 O a7 J a8 a9 aa ab ad V=>bd (α:=Sum (Bool×Int×Bt×(List Val))<|Val×Bool) (if (I==J) then bd2 (rec.impl_migrator_same x1 (⟨a1,I,a2,a3,a4,a5,a6,O⟩:b_) (⟨a7,J,a8,a9,aa,ab,ad,V⟩:b_) x3 x4) λL ae=>some (.inl (ae,L.number,L.bytes,L.items)) else bd (α:=Bool) (bd (h_H I) λaf=>if af then bd (h_H J) λah=>some ah else some false) (λai=>bd (α:=Sum (Bool×Bt×(List Val))<|Sum (Bool×Int×Bt×(List Val))<|Val×Bool) (if ai then bd (app ([]:Bt) x4.bytes) λaj=>some (.inl (true,aj,([]:List Val))) else bd (α:=Sum (Bool×(List Val))<|Sum (Bool×Bt×(List Val))<|Sum (Bool×Int×Bt×(List Val))<|Val×Bool) (if (J==8) then bd (idx V 0) λak=>bd2 (rec.impl_migrator_value x1 x2 ak x4) λal am=>some (.inl (am,[al])) else bd (α:=Bool) (if (I==8) then some ((x4.items.length:Int)==1) else some false) (λan=>if an then bd (idx O 0) λap=>bd (idx x4.items 0) λaq=>bd2 (rec.impl_migrator_value x1 ap x3 aq) λar au=>some (.inr<|.inr<|.inr (ar,au)) else some (.inl (false,([]:List Val))))) (el (un2 λav aw=>some<|.inl (av,([]:Bt),aw)) some))<|el (un3 λax ay az=>some<|.inl (ax,0,ay,az)) some)) (el (un4 λaA W Y a0=>bd (α:=Bool) (if (!aA) then some true else bd (h_A n (⟨x1.b.rules⟩:c_) x3 (⟨W,Y,a0⟩:Val)) λaB=>some (!aB)) (λaC=>if aC then some ((⟨0,([]:Bt),([]:List Val)⟩:Val),false) else some ((⟨W,Y,a0⟩:Val),true))) some))
def b_B (n:Nat)(rec:f_u)(x1:b_D)(x2:b_)(x3:b_)(x4:Int)(x5:Val):Option (Val×Bool) :=
 if (x3.kind==2) then some ((⟨0,([]:Bt),([]:List Val)⟩:Val),true) else if (x3.kind==1) then bd (c_M (⟨x1.b.rules⟩:c_) x4) λI=>some ((⟨x5.number,([]:Bt),([]:List Val)⟩:Val),decide<|x5.number<=I) else if (x3.kind==3) then bd (mk0 (0:UInt8) x3.size) λJ=>some ((⟨0,cpy J x5.bytes,([]:List Val)⟩:Val),true) else if (x3.kind==5) then bd (idx x2.kids 1) λL=>bd (idx x3.kids 1) λO=>bd2 (rec.impl_migrator_items x1 L O x5) λV W=>some (V,W) else bd (α:=Bool) (if (x3.kind==8) then some (x3.kind==8) else some (x3.kind==9)) (λY=>if Y then bd (idx x2.kids 0) λa0=>bd (idx x3.kids 0) λa1=>bd2 (rec.impl_migrator_items x1 a0 a1 x5) λa2 a3=>some (a2,a3) else if (x3.kind==6) then bd2 (rec.impl_migrator_parts x1 x2 x3 x5) λa4 a5=>some (a4,a5) else if (x3.kind==7) then bd (g_B x3 x5.number) λH=>if (decide<|H<0) then some ((⟨0,([]:Bt),([]:List Val)⟩:Val),false) else bd (α:=Int×Bt×(List Val)×Bool) (bd (idx x3.kids<|h_ H 1) λa6=>bd (g_B x2 x5.number) λa7=>bd (idx x2.kids<|h_ a7 1) λa8=>bd2 (rec.impl_migrator_items x1 a8 a6 x5) λG a9=>some (G.number,G.bytes,G.items,a9)) (un4 λaf aa ab ad=>some ((⟨x5.number,aa,ab⟩:Val),ad)) else bd (app ([]:Bt) x5.bytes) λae=>some ((⟨0,ae,([]:List Val)⟩:Val),true))
def g_D (n:Nat)(rec:f_u)(x1:b_D)(x2:Int)(x3:Int)(x4:Val):Option (Val×Bool) :=
 bd (y_ (σ:=List Val) (ρ:=Val×Bool) (λH=>(λG=>bd (idx x4.items (H:Int)) λI=>bd2 (rec.impl_migrator_value x1 x2 x3 I) λJ L=>if (!L) then some (.ret ((⟨0,([]:Bt),([]:List Val)⟩:Val),false)) else bd (psh G J) λO=>some<|.next O)) x4.items.length 0 ([]:List Val)) (el (λG=>some ((⟨0,([]:Bt),G⟩:Val),true))<|λV=>some V)
def d_N (n:Nat)(rec:f_u)(x1:b_D)(x2:b_)(x3:b_)(x4:Val):Option (Val×Bool) :=
 bd (y_ (σ:=List Val) (ρ:=Val×Bool) (λH=>(λG=>bd (α:=Sum (List Val)<|Out (List Val)<|Val×Bool) (bd (idx x3.names (H:Int)) λL=>bd (g_C x2.names L) λI=>if (decide<|I<0) then bd (idx x3.kids (H:Int)) λO=>bd (e_i n (⟨x1.b.rules⟩:c_) O) λV=>bd (psh G V) λW=>some (.inl W) else bd (α:=Int×Bt×(List Val)×Bool) (bd (idx x2.kids I) λY=>bd (idx x3.kids (H:Int)) λa0=>bd (idx x4.items I) λa1=>bd2 (rec.impl_migrator_value x1 Y a0 a1) λJ a2=>some (J.number,J.bytes,J.items,a2)) (un4 λa3 a4 a5 a6=>if (!a6) then some (.inr<|.ret ((⟨0,([]:Bt),([]:List Val)⟩:Val),false)) else bd (psh G (⟨a3,a4,a5⟩:Val)) λa7=>some<|.inl a7))<|el (λa8=>some<|.next a8) some)) x3.names.length 0 ([]:List Val)) (el (λG=>some ((⟨0,([]:Bt),G⟩:Val),true))<|λa9=>some a9)
def a_p:Nat->f_u
 | 0=>⟨λ_ _ _ _=>none,λ_ _ _ _ _=>none,λ_ _ _ _=>none,λ_ _ _ _=>none⟩
 | n+1=>⟨e_j n<|a_p n,b_B n<|a_p n,g_D n<|a_p n,d_N n<|a_p n⟩
def f_v (n:Nat):=(a_p n).impl_migrator_value
def o_c (n:Nat):=(a_p n).impl_migrator_same
def l_O (n:Nat):=(a_p n).impl_migrator_items
def h_J (n:Nat)(x1:c_)(x2:Int)(x3:c_)(x4:Int)(x5:Val):Option (Val×Bool) :=
 bd (α:=Bool) (bd (g_p n x3 x4) λG=>if (!G) then some true else bd (d_I n x1 x2 x5) λH=>some (!H)) (λI=>if I then some ((⟨0,([]:Bt),([]:List Val)⟩:Val),false) else bd2 (f_v n (⟨(⟨x1.rules⟩:c_),(⟨x3.rules⟩:c_)⟩:b_D) x2 x4 x5) λJ L=>some (J,L))
def g_E (n:Nat)(x1:c_)(x2:c_)(x3:Bt):Option (Bt×Bool) :=
 bd3 (h_u n x1 x3) λH a3 I=>if (I != 0) then some (([]:Bt),false) else bd (α:=Int×Bt×(List Val)×Bool) (bd (f_a x1) λJ=>bd (f_a x2) λL=>bd2 (h_J n x1 J x2 L H) λG O=>some (G.number,G.bytes,G.items,O)) (un4 λV W Y a0=>if (!a0) then some (([]:Bt),false) else bd2 (i_5 n x2 (⟨V,W,Y⟩:Val)) λa1 a2=>some (a1,a2))
def g_F (n:Nat)(x1:W_)(x2:Int)(x3:Int)(x4:Bt):Option (Bt×Bool) :=
 bd (α:=Bool) (bd (i_X n x1) λJ=>if (!J) then some true else bd (h_w x1 x2) λL=>if (!L) then some true else bd (h_w x1 x3) λO=>some (!O)) (λV=>if V then some (([]:Bt),false) else bd (α:=Bool) (if (x2==x3) then bd (idx x1.versions x2) λW=>bd (f_d n W x4) λY=>some (!Y) else some false) (λa0=>if a0 then some (([]:Bt),false) else bd (α:=Int) (if (decide<|x3<x2) then some (-1) else some 1) (λI=>bd (app ([]:Bt) x4) λa1=>bd (M_ (σ:=Int×Bt) (ρ:=Bt×Bool) (un2 λG H=>if (G != x3) then bd (idx x1.versions G) λa2=>bd (idx x1.versions<|h_ G I) λa3=>bd2 (g_E n a2 a3 H) λa4 a5=>if (!a5) then some (.ret (([]:Bt),false)) else some (.next (h_ G I,a4)) else some (.brk (G,H))) n (x2,a1))<|el (un2 λG H=>some (H,true))<|λa6=>some a6)))
def h_K (n:Nat)(x1:W_)(x2:Bt):Option (Bt×Int) :=
 bd (g_A n x1 x2) λH=>bd (M_ (σ:=Int) (ρ:=Bt×Int) (λG=>if (decide<|0<=G) then bd (idx H G) λI=>bd (h_G x1) λJ=>bd2 (g_F n x1 I J x2) λL O=>if O then bd (idx H G) λV=>some (.ret (L,V)) else some (.next<|j_ G 1) else some (.brk G)) n<|j_ (H.length:Int) 1)<|el (λG=>some (([]:Bt),(-1)))<|λW=>some W
def h_L (n:Nat)(x1:W_)(x2:Bt):Option (List Int) :=
 bd (y_ (σ:=List Int) (ρ:=List Int) (λH=>(λG=>bd (idx x1.versions (H:Int)) λI=>bd (d_C n I x2) λJ=>bd (α:=List Int) (if J then bd (psh G (H:Int)) λL=>some L else some G)<|λO=>some<|.next O)) x1.versions.length 0 ([]:List Int)) (el (λG=>some G)<|λV=>some V)
def h_M (x1:W_):Option Int :=
 some (j_ (x1.versions.length:Int) 1)
def e_k (x1:Int)(x2:Int):Option (List Int) :=
 bd (y_ (σ:=List Int) (ρ:=List Int) (λJ=>(λG=>bd (psh G x1) λH=>some<|.next H)) x2.toNat 0 ([]:List Int)) (el (λG=>some G)<|λI=>some I)
def g_G (x1:Int):Option Bool :=
 bd (α:=Bool) (if (x1==4) then some true else some (x1==10)) (λG=>some G)
structure e_l where
 spec_l30Migrate:c_->Int->c_->Int->Val->Option (Val×Bool)
 spec_l30Alike:c_->b_->c_->b_->Val->Option (Val×Bool)
 spec_l30Sequence:c_->b_->c_->b_->Val->Option (Val×Bool)
 spec_l30List:c_->(List Int)->c_->(List Int)->(List Val)->Option ((List Val)×Bool)
def e_m (n:Nat)(rec:e_l)(x1:c_)(x2:Int)(x3:c_)(x4:Int)(x5:Val):Option (Val×Bool) :=
 bd (idx x1.rules x2) λG=>bd (idx x3.rules x4) λH=>bd (α:=Bool×Int×Bt×(List Val)) (if (G.kind==H.kind) then bd2 (rec.spec_l30Alike x1 G x3 H x5) λI Y=>some (Y,I.number,I.bytes,I.items) else bd (α:=Bool) (bd (g_G G.kind) λa0=>if a0 then bd (g_G H.kind) λa1=>some a1 else some false) (λa2=>bd (α:=Bool×Int×Bt×(List Val)) (if a2 then bd (app ([]:Bt) x5.bytes) λa3=>some (true,0,a3,([]:List Val)) else bd (α:=Bool×Int×Bt×(List Val)) (if (H.kind==8) then bd (α:=Int×Bt×(List Val)×Bool) (bd (idx H.kids 0) λa4=>bd2 (rec.spec_l30Migrate x1 x2 x3 a4 x5) λJ a5=>some (J.number,J.bytes,J.items,a5)) (un4 λa6 a7 a8 a9=>some (a9,0,([]:Bt),[(⟨a6,a7,a8⟩:Val)])) else bd (α:=Bool) (if (G.kind==8) then some ((x5.items.length:Int)==1) else some false) (λaa=>bd (α:=Bool×Int×Bt×(List Val)) (if aa then bd (idx G.kids 0) λab=>bd (idx x5.items 0) λad=>bd2 (rec.spec_l30Migrate x1 ab x3 x4 ad) λL ae=>some (ae,L.number,L.bytes,L.items) else some (false,0,([]:Bt),([]:List Val)))<|un4 λaf ah ai aj=>some (af,ah,ai,aj))) (un4 λak al am an=>some (ak,al,am,an)))<|un4 λap aq ar au=>some (ap,aq,ar,au))) (un4 λav O V W=>bd (α:=Bool) (if (!av) then some true else bd (h_k n x3 x4 (⟨O,V,W⟩:Val)) λaw=>some (!aw)) (λax=>if ax then some ((⟨0,([]:Bt),([]:List Val)⟩:Val),false) else some ((⟨O,V,W⟩:Val),true)))
def b_C (n:Nat)(rec:e_l)(x1:c_)(x2:b_)(x3:c_)(x4:b_)(x5:Val):Option (Val×Bool) :=
 if (x2.kind==6) then bd2 (rec.spec_l30Sequence x1 x2 x3 x4 x5) λI J=>some (I,J) else if (x2.kind==3) then bd (app ([]:Bt) x5.bytes) λL=>bd (M_ (σ:=Bt) (ρ:=Val×Bool) (λG=>if (decide<|(G.length:Int)<x4.size) then bd (psh G (0:UInt8)) λO=>some (.next O) else some (.brk G)) n L) (el (λG=>bd (slc G 0 x4.size) λV=>some ((⟨0,V,([]:List Val)⟩:Val),true))<|λW=>some W) else if (x2.kind==5) then bd (idx x2.kids 1) λY=>bd (idx x4.kids 1) λa0=>bd (e_k Y (x5.items.length:Int)) λa1=>bd (e_k a0 (x5.items.length:Int)) λa2=>bd2 (rec.spec_l30List x1 a1 x3 a2 x5.items) λa3 a4=>some ((⟨0,([]:Bt),a3⟩:Val),a4) else bd (α:=Bool) (if (x2.kind==8) then some (x2.kind==8) else some (x2.kind==9)) (λa5=>if a5 then bd (idx x2.kids 0) λa6=>bd (idx x4.kids 0) λa7=>bd (e_k a6 (x5.items.length:Int)) λa8=>bd (e_k a7 (x5.items.length:Int)) λa9=>bd2 (rec.spec_l30List x1 a8 x3 a9 x5.items) λaa ab=>some ((⟨0,([]:Bt),aa⟩:Val),ab) else if (x2.kind==7) then bd (b_r x4 x5.number 0) λH=>if (decide<|H<0) then some ((⟨0,([]:Bt),([]:List Val)⟩:Val),false) else bd (α:=(List Val)×Bool) (bd (b_r x2 x5.number 0) λad=>bd2 (rec.spec_l30List x1 [ad] x3 [H] x5.items) λae af=>some (ae,af)) (un2 λah ai=>some ((⟨x5.number,([]:Bt),ah⟩:Val),ai)) else bd (app ([]:Bt) x5.bytes) λaj=>some ((⟨x5.number,aj,([]:List Val)⟩:Val),true))
def d_O (n:Nat)(rec:e_l)(x1:c_)(x2:b_)(x3:c_)(x4:b_)(x5:Val):Option (Val×Bool) :=
 bd (y_ (σ:=List Val) (ρ:=Val×Bool) (λk10=>(λG=>bd (α:=Int×Bt×(List Val)) (bd (idx x4.kids (k10:Int)) λW=>bd (g_g n x3 W) λH=>some (H.number,H.bytes,H.items)) (un3 λY a0 a1=>bd (y_ (σ:=Int×Bt×(List Val)) (ρ:=Val×Bool) (λI=>un3 λJ L O=>bd (α:=Sum (Int×Bt×(List Val))<|Out (Int×Bt×(List Val))<|Val×Bool) (bd (idx x2.names (I:Int)) λa2=>bd (idx x4.names (k10:Int)) λa3=>if (a2.b != a3.b) then some (.inl (J,L,O)) else bd (α:=Int×Bt×(List Val)×Bool) (bd (idx x2.kids (I:Int)) λa4=>bd (idx x4.kids (k10:Int)) λa5=>bd (idx x5.items (I:Int)) λa6=>bd2 (rec.spec_l30Migrate x1 a4 x3 a5 a6) λV a7=>some (V.number,V.bytes,V.items,a7)) (un4 λa8 a9 aa ab=>if (!ab) then some (.inr<|.ret ((⟨0,([]:Bt),([]:List Val)⟩:Val),false)) else some (.inl (a8,a9,aa))))<|el (un3 λad ae af=>some<|.next (ad,ae,af)) some) x2.names.length 0 (Y,a0,a1))<|el (un3 λJ L O=>bd (psh G (⟨J,L,O⟩:Val)) λah=>some<|.next ah)<|λai=>some<|.ret ai))) x4.names.length 0 ([]:List Val)) (el (λG=>some ((⟨0,([]:Bt),G⟩:Val),true))<|λaj=>some aj)
def g_H (n:Nat)(rec:e_l)(x1:c_)(x2:List Int)(x3:c_)(x4:List Int)(x5:List Val):Option ((List Val)×Bool) :=
 bd (y_ (σ:=List Val) (ρ:=(List Val)×Bool) (λH=>(λG=>bd (α:=Int×Bt×(List Val)×Bool) (bd (idx x2 (H:Int)) λJ=>bd (idx x4 (H:Int)) λL=>bd (idx x5 (H:Int)) λO=>bd2 (rec.spec_l30Migrate x1 J x3 L O) λI V=>some (I.number,I.bytes,I.items,V)) (un4 λW Y a0 a1=>if (!a1) then some (.ret (G,false)) else bd (psh G (⟨W,Y,a0⟩:Val)) λa2=>some<|.next a2))) x5.length 0 ([]:List Val)) (el (λG=>some (G,true))<|λa3=>some a3)
def a_q:Nat->e_l
 | 0=>⟨λ_ _ _ _ _=>none,λ_ _ _ _ _=>none,λ_ _ _ _ _=>none,λ_ _ _ _ _=>none⟩
 | n+1=>⟨e_m n<|a_q n,b_C n<|a_q n,d_O n<|a_q n,g_H n<|a_q n⟩
def g_I (n:Nat):=(a_q n).spec_l30Migrate
def o_d (n:Nat):=(a_q n).spec_l30Alike
def l_P (n:Nat):=(a_q n).spec_l30List
def h_N (n:Nat)(x1:c_)(x2:Int)(x3:c_)(x4:Int)(x5:Val):Option (Val×Bool) :=
 bd (α:=Bool) (bd (d_y n x1 x2 x5) λG=>if (!G) then some true else bd (f_8 x3 x4) λH=>some (!H)) (λI=>if I then some ((⟨0,([]:Bt),([]:List Val)⟩:Val),false) else bd2 (g_I n x1 x2 x3 x4 x5) λJ L=>some (J,L))
def g_J (n:Nat)(x1:c_)(x2:c_)(x3:Bt):Option (Bt×Bool) :=
 bd3 (h_q n x1 x3) λH a4 I=>bd (α:=Int×Bt×(List Val)×Bool) (bd (f_7 x1) λJ=>bd (f_7 x2) λL=>bd2 (h_N n x1 J x2 L H) λG O=>some (G.number,G.bytes,G.items,O)) (un4 λV W Y a0=>bd (α:=Bool) (if (I != 0) then some true else some (!a0)) (λa1=>if a1 then some (([]:Bt),false) else bd2 (i_s n x2 (⟨V,W,Y⟩:Val)) λa2 a3=>some (a2,a3)))
def g_K (n:Nat)(x1:W_)(x2:Int)(x3:Int)(x4:Bt):Option (Bt×Bool) :=
 bd (α:=Bool) (bd (i_W x1) λJ=>if (!J) then some true else bd (b_6 x2 0<|j_ (x1.versions.length:Int) 1) λL=>if (!L) then some true else bd (b_6 x3 0<|j_ (x1.versions.length:Int) 1) λO=>if (!O) then some true else bd (idx x1.versions x2) λV=>bd (d_C n V x4) λW=>some (!W)) (λY=>if Y then some (([]:Bt),false) else bd (app ([]:Bt) x4) λa0=>bd (M_ (σ:=Int×Bt) (ρ:=Bt×Bool) (un2 λG H=>if (G != x3) then bd (α:=Int) (if (decide<|x3<G) then some (j_ G 1) else some (h_ G 1)) (λI=>bd (idx x1.versions G) λa1=>bd (idx x1.versions I) λa2=>bd2 (g_J n a1 a2 H) λa3 a4=>if (!a4) then some (.ret (([]:Bt),false)) else some (.next (I,a3))) else some (.brk (G,H))) n (x2,a0))<|el (un2 λG H=>some (H,true))<|λa5=>some a5)
def h_O (n:Nat)(x1:W_)(x2:Bt):Option (Bt×Int) :=
 bd (h_L n x1 x2) λH=>bd (M_ (σ:=Int) (ρ:=Bt×Int) (λG=>if (decide<|0<=G) then bd (idx H G) λI=>bd (h_M x1) λJ=>bd2 (g_K n x1 I J x2) λL O=>if O then bd (idx H G) λV=>some (.ret (L,V)) else some (.next<|j_ G 1) else some (.brk G)) n<|j_ (H.length:Int) 1)<|el (λG=>some (([]:Bt),(-1)))<|λW=>some W
def h_P (n:Nat)(x1:Bt):Option Bool :=
 bd (j_8 x1) λV=>if V then some true else bd2 (h_F n x1) λG J=>bd (g_A n G J) λH=>bd2 (h_K n G J) λL O=>bd2 (h_O n G J) λW Y=>bd (α:=Bool) (if (O != Y) then some true else bd (h_S L W) λa0=>some (!a0)) (λa1=>if a1 then some false else bd (y_ (σ:=Unit) (ρ:=Bool) (λI=>(λ(_:Unit)=>bd (α:=Bool) (bd (idx H (I:Int)) λa2=>if (decide<|a2<0) then some true else bd (idx H (I:Int)) λa3=>if (decide<|(G.versions.length:Int)<=a3) then some true else bd (idx H (I:Int)) λa4=>bd (idx G.versions a4) λa5=>bd (d_C n a5 J) λa6=>if (!a6) then some true else if (decide<|0<(I:Int)) then bd (idx H (I:Int)) λa7=>bd (idx H<|j_ (I:Int) 1) λa8=>some (decide<|a7<=a8) else some false) (λa9=>if a9 then some (.ret false) else some (.next ())))) H.length 0 ()) (el (λ(_:Unit)=>bd (α:=Bool) (bd (α:=Bool) (if (O==(-1)) then some ((L.length:Int)==0) else some false) λaa=>if aa then some true else bd (h_D H O) λab=>if ab then bd (idx G.versions<|j_ (G.versions.length:Int) 1) λad=>bd (d_C n ad L) λae=>some ae else some false)<|λaf=>some af)<|λah=>some ah))
end Go.Vw
namespace Go.Vw
open Go.RowKit Dat
theorem o_q {P:Program}{o:Oper}{a:Act}{w:World}{K K' K1 K2:Act->World->Prop}{Q:Exit->Act->World->Prop}(h:∀a w,K a w->K' a w)(hh:o.wp P a w K (Exit.then K1 Q)):o.wp P a w K' (Exit.then K2 Q):=by
 unfold Oper.wp at *
 generalize (execOp a.eval o).run P w=r at *
 cases r with
 | ok n w' =>
  cases n <;> simp only [Oper.upon] at hh ⊢ <;>
   first
    | exact h _ _ hh
    | exact Calls.mono hh (λe w'' he=>by cases e <;> first | exact h _ _ he | exact he)
    | exact Rows.mono hh<|λ_ _ he=>h _ _ he
 | halt x w'=>cases x <;> simp only [Oper.upon] at hh ⊢ <;> exact hh
theorem k_t {P:Program}{ops:Array Oper}{K K1:Act->World->Prop}{Q:Exit->Act->World->Prop}{G:List Oper}(hk:∀a w,K1 a w->wpList P ops (Exit.then K Q) G a w):∀(l1:List Oper)(a:Act)(w:World),wpList P ops (Exit.then K1 Q) l1 a w->wpList P ops (Exit.then K Q) (l1++G) a w
 | [],a,w,h=>hk a w h
 | o::l1,a,w,h=>by
  rw [List.cons_append]
  unfold wpList at h ⊢
  split at h
  .rename_i hw
   rw [if_pos hw]
   rcases h with h | ⟨h1,h2⟩
   .exact .inl<|o_q (k_t hk l1) h
   .exact .inr ⟨h1,h2⟩
  .rename_i hw
   rw [if_neg hw]
   exact k_t hk l1 _ _ h
section
variable {P:Program}{N:Nat}{ops:Array Oper}{K:Act->World->Prop}{Q:Exit->Act->World->Prop}{e:Env}{w:World}{l:List Oper}
theorem o_r (k:Nat)(l:List Oper):l.take k++l.drop k=l:=List.take_append_drop k l
theorem c_R (d:Nat)(u:Bool)(k:Nat)(h1:WL P N ops (λa w'=>w'=w/\Sat N ((d,vB u)::e) a) Q (l.take k) e w)(h2:WL P N ops K Q (l.drop k) ((d,vB u)::e) w):WL P N ops K Q l e w:=λa ha=>by
 rw [← o_r k l]
 exact k_t (λa w' ⟨hw,hs⟩=>by subst hw;exact h2 a hs) _ a w<|h1 a ha
variable {d:Nat}{u c:Bool}
def k_u (n:Nat)(e:Env):Bool:=(e.take n).all λp=>(e.drop n).all λq=>!Nat.beq p.1 q.1
theorem l_V:∀{e:Env}{t:Nat},(∀q∈e,Nat.beq t q.1=false)->x_ e t=none
 | [],_,_=>rfl
 | (k,v)::e,t,h=>by
  have h1:=h (k,v) List.mem_cons_self;have h2:Nat.beq k t=false:=by rw [← Bool.not_eq_true,Nat.beq_eq] at *;exact λh=>h1 h.symm
  rw [x_,h2]
  exact l_V λq hq=>h q<|List.mem_cons_of_mem _ hq
theorem l_W:∀{G H:Env}{t:Nat},(∀p∈G,Nat.beq p.1 t=false)->x_ (G++H) t=x_ H t
 | [],_,_,_=>rfl
 | (k,v)::G,H,t,h=>by
  rw [List.cons_append,x_,h (k,v) List.mem_cons_self]
  exact l_W λp hp=>h p<|List.mem_cons_of_mem _ hp
theorem o_s {n:Nat}{e:Env}(h:k_u n e=true){t:Nat}{v:Value}(hl:x_ (e.drop n) t=some v):x_ e t=some v:=by
 have:x_ (e.take n++e.drop n) t=x_ (e.drop n) t:=by
  refine l_W λp hp=>?_
  cases hb:Nat.beq p.1 t with
  | false=>rfl
  | true =>
   exfalso
   have hpt:p.1=t:=Nat.eq_of_beq_eq_true hb;have h1:=List.all_eq_true.1 h p hp
   rw [List.all_eq_true] at h1
   have:=l_V (e:=e.drop n) (t:=t) λq hq=>by
    have:=h1 q hq
    rw [Bool.not_eq_true'] at this
    rw [← hpt];exact this
   rw [this] at hl;cases hl
 rw [List.take_append_drop] at this
 rw [this];exact hl
theorem o_t (n:Nat){e':Env}{a:Act}(hu:c=u)(G:x_ e' d=some (vB c))(hf:k_u n e'=true)(he:e'.drop n=e)(ha:Sat N e' a):Sat N ((d,vB u)::e) a:=by
 subst hu;subst he;refine ⟨ha.defers,ha.size,λt v ht=>?_⟩
 simp only [x_] at ht
 by_cases hk:d=t
 .subst hk;have hb:Nat.beq d d=true:=by simp
  rw [hb] at ht
  simp only [cond_true,Option.some.injEq] at ht
  subst ht;exact ha.at_ d _ G
 .have hb:Nat.beq d t=false:=by rw [← Bool.not_eq_true,Nat.beq_eq];exact hk
  rw [hb] at ht
  simp only [cond_false] at ht
  exact ha.at_ t v<|o_s hf ht
theorem WLq (n:Nat){e':Env}(hu:some c=some u)(G:x_ e' d=some (vB c))(hf:k_u n e'=true)(he:e'.drop n=e):WL P N ops (λa w'=>w'=w/\Sat N ((d,vB u)::e) a) Q [] e' w :=
 d_K λ_ ha=>⟨rfl,o_t n (Option.some.inj hu) G hf he ha⟩
end
end Go.Vw
universe u
namespace Go.Vw
open Go.RowKit Dat
section
variable {P:Program}{N:Nat}{ops:Array Oper}{K:Act->World->Prop}{Q:Exit->Act->World->Prop}{e:Env}{w:World}{rest:List Oper}
variable {d:Nat}{op:Op}{ty:TypeId}{pos:String}{aft:Array Edge}{x:Operand}
theorem Wn {y:Code}{Q':Exit->Act->World->Prop}(h:WC P N y K Q e w):WL P N ops (KC P y K Q) Q' [] e w:=d_K<|WC.of_KC h
theorem Ws {id:Nat}{l:List Oper}{y:Code}(h:WL P N l.toArray (KC P y K Q) Q l e w):WC P N (.seq (.region id l.toArray false) y) K Q e w:=e_f<|e_h h
theorem Wk {y:Code}{Q':Exit->Act->World->Prop}(h:WC P N y K Q e w):WC P N .skip (KC P y K Q) Q' e w:=a_b<|WC.of_KC h
theorem d_z {b:Bool}{o:Option Value}{v:Value}(h:(bif b then o else none)=some v):b=true/\o=some v:=by
 cases b
 .cases h
 .exact ⟨rfl,h⟩
theorem Rm {v:Value}(h:(bif Nat.blt d N then ev e x else none)=some v)(k:WL P N ops K Q rest ((d,v)::e) w):WL P N ops K Q (⟨some d,.move x,ty,pos,aft,none⟩::rest) e w:=R (d_z h).1 (d_V (d_z h).2) k
theorem Ra {v:Value}(h:(bif Nat.blt d N then ev e x else none)=some v)(k:WL P N ops K Q rest ((d,v)::e) w):WL P N ops K Q (⟨some d,.assign x,ty,pos,aft,none⟩::rest) e w:=R (d_z h).1 (d_W (d_z h).2) k
section
variable {j:Nat}{want b:Bool}
theorem bind_some {o:Option Nat}{v:Value}(h:o.bind (x_ e)=some v):∃gd,o=some gd/\x_ e gd=some v:=by
 cases o with
 | none=>cases h
 | some g=>exact ⟨g,rfl,h⟩
theorem Rh {v:Value}(h:(bif Nat.blt d N then ((ops[j]?).bind (·.dst)).bind (x_ e) else none)=some (.bool b))(hw:b=want)(hr:Rd noX P N ⟨some d,op,ty,pos,aft,some (j,want)⟩ e w v)(k:WL P N ops K Q rest ((d,v)::e) w):WL P N ops K Q (⟨some d,op,ty,pos,aft,some (j,want)⟩::rest) e w:=by
 obtain ⟨gd,h1,h2⟩:=bind_some (d_z h).2;exact Rg h1 h2 hw (d_z h).1 hr k
theorem Nh (h:(bif Nat.blt d N then ((ops[j]?).bind (·.dst)).bind (x_ e) else none)=some (.bool b))(hw:b = !want)(k:WL P N ops K Q rest ((d,undef)::e) w):WL P N ops K Q (⟨some d,op,ty,pos,aft,some (j,want)⟩::rest) e w:=by
 obtain ⟨gd,h1,h2⟩:=bind_some (d_z h).2;exact Ng h1 h2 hw (d_z h).1 k
theorem Nv (h:(bif Nat.blt d N then ((ops[j]?).bind (·.dst)).bind (x_ e) else none)=some undef)(k:WL P N ops K Q rest ((d,undef)::e) w):WL P N ops K Q (⟨some d,op,ty,pos,aft,some (j,want)⟩::rest) e w:=by
 obtain ⟨gd,h1,h2⟩:=bind_some (d_z h).2;exact Nu h1 h2 (d_z h).1 k
end
end
theorem inbR {j:Nat}{K':Act->World->Prop}{Q:Exit->Act->World->Prop}{a:Act}{w:World}(h:Q .ret a w):inB j K' Q .ret a w:=h
theorem goF {P:Program}{f:FuncId}{G:Func}{c:Code}{N:Nat}{args:List Value}{w:World}{R:Value->World->Prop}(hf:P.funcs[f]? = some G)(hb:G.body=some c)(hN:G.ntmps=N)(hle:args.length<=N)(h:∀fn:Func,fn.results=G.results->WC P N c (c_i P fn R) (QR P fn R) (g_6 0 args) w):n_ P f args w R:=p_h hf hb hN hle<|h G rfl
theorem goG {P:Program}{f:FuncId}{G:Func}{c:Code}{N:Nat}{args:List Value}{w:World}{R:Value->World->Prop}(hf:P.funcs[f]? = some G)(hb:G.body=some c)(hN:G.ntmps=N)(hle:Nat.ble args.length N=true)(h:∀fn:Func,fn.results=G.results->WC P N c (c_i P fn R) (QR P fn R) (g_6 0 args) w):n_ P f args w R:=goF hf hb hN (Nat.le_of_ble_eq_true hle) h
section
variable {P:Program}{N:Nat}{e:Env}{w:World}{ty:TypeId}{pos:String}{aft:Array Edge}{gd:Option (Nat×Bool)}{x y:Operand}
theorem fs0 {T n g o:Nat}{v:Value}{cur cur':List Value}(hs:∀w,(sizeOf T).run P w = .ok n w)(hp:ev e x=some (.pointer<|some ⟨g,o,none⟩))(hv:ev e y=some v)(hB:Blk w g cur)(hn:v.cells.size=n)
  (ho:Nat.ble (o+n) cur.length=true) (h1:v.cells.toList.all Value.oneCell'=true) (hcur:cur.take o++v.cells.toList++cur.drop (o+v.cells.toList.length)=cur') :
  Ef P N ⟨none,.store T x y,ty,pos,aft,gd⟩ e w (λ_ w'=>Blk w' g cur'/\Chg (· = g) w w'):=c_U hs hp hv hB hn (Nat.le_of_ble_eq_true ho) (e_t h1) hcur
end
abbrev rQ {ρ:Type}(P:Program)(fn:Func)(Q:ρ->Value->World->Prop)(r:ρ)(ex:Exit)(a:Act)(w:World):Prop:=ex = .ret/\c_i P fn (Q r) a w
abbrev _root_.Go.World.z (w:World):Nat:=w.heap.size
abbrev sl (a:Option Addr)(n c:Nat):Value:=.slice a n c
abbrev sN:Value:=sl none 0 0
abbrev pt (g:Nat):Value:=.pointer<|some ⟨g,0,none⟩
abbrev Bw (a b:World):Prop:=Below a.heap.size a b
abbrev vR (x:b_)(G:Option Addr)(H I:Nat)(a2:Option Addr)(J L:Nat)(O:Option Addr)(V W:Nat)(Y:Option Addr)(n4 c4:Nat):List Value:=[x.name.v,vI x.kind,vI x.size,vB x.little,.slice G H I,.slice a2 J L,.slice O V W,.slice Y n4 c4]
theorem z {α:Sort u}{a:α}:a=a:=rfl
theorem Sat.k {N:Nat}{e e':Env}{a:Act}(h:Sat N e a)(hs:sub e e'):Sat N e' a:=h.weaken hs
theorem fid {a:Prop}(h:a):a:=h
theorem lt_ {a b c:Nat}(h:a<=b)(h':b<=c):a<=c:=Nat.le_trans h h'
theorem lr {a:Nat}:a<=a:=Nat.le_refl a
theorem lb {a b:Nat}(h:Nat.ble a b=true):a<=b:=Nat.le_of_ble_eq_true h
theorem ii {x:Int}(h:(decide (-9223372036854775808<=x) && decide (x<=9223372036854775807))=true):inI x:=inI_of x h
section
variable {S T A M:List Nat}{m n g k:Nat}
theorem g_l (h:m<=n):∀k∈[n],m<=k:=f_ h
theorem mno (h:∀ k∈T,k<m)(h':m<=n):∀k∈[n],k∉T:=f_<|λht=>absurd (h n ht)<|Nat.not_lt.2 h'
theorem mnr (h:∀ k∈T,k<m):∀k∈[m],k∉T:=mno h lr
theorem mm1 (h:g<m)(h':m<=n):∀k∈[n],k∉[g]:=mno (f_ h) h'
theorem mmr (h:g<m):∀k∈[m],k∉[g]:=mno (f_ h) lr
theorem mor (h:m<=n):∀k∈[n],k∈M∨m<=k:=f_<|.inr h
theorem d_A (hs:∀k∈S,n<=k)(h:m<=n):∀k∈S,m<=k:=or0 hs<|lele h
theorem a_L (hs:∀k∈S,n<=k)(h:g<m)(h':m<=n):∀k∈S,k∉[g]:=or0 hs<|U_ (f_ h) h'
theorem h_l (hs:∀k∈S,n<=k)(h:∀ k∈T,k<m)(h':m<=n):∀k∈S,k∉T:=or0 hs<|U_ h h'
theorem f_5 (hs:∀k∈S,k∈A∨n<=k)(ha:∀k∈A,m<=k)(h:m<=n):∀k∈S,m<=k:=or1 hs ha<|lele h
theorem o1no (hs:∀k∈S,k∈A∨n<=k)(ha:∀k∈A,k∉T)(h:∀ k∈T,k<m)(h':m<=n):∀k∈S,k∉T:=or1 hs ha<|U_ h h'
theorem djs (h:∀k∈S,k∉[g]):g∉S:=λhg=>h g hg<|List.mem_singleton.2 rfl
theorem atp {p:Nat->Prop}(h:∀k∈[g],p k):p g:=h g<|List.mem_singleton.2 rfl
theorem nd0:([]++[]:List Nat).Nodup:=e_w s_ s_ c_g
end
section
variable {e e':Env}{v1 v2 v3 v4 v5 v6 v7 v8 v9:Value}{k1 k2 k3 k4 k5 k6 k7 k8 k9:Nat}
theorem s1 (h1:x_ e k1=some v1):sub e [(k1,v1)]:=⟨h1,trivial⟩
theorem s2 (h1:x_ e k1=some v1)(h2:x_ e k2=some v2):sub e [(k1,v1),(k2,v2)]:=⟨h1,s1 h2⟩
theorem s3 (h1:x_ e k1=some v1)(h2:x_ e k2=some v2)(h3:x_ e k3=some v3):sub e [(k1,v1),(k2,v2),(k3,v3)]:=⟨h1,s2 h2 h3⟩
theorem s4 (h1:x_ e k1=some v1)(h2:x_ e k2=some v2)(h3:x_ e k3=some v3)(h4:x_ e k4=some v4):sub e [(k1,v1),(k2,v2),(k3,v3),(k4,v4)]:=⟨h1,s3 h2 h3 h4⟩
theorem s5 (h1:x_ e k1=some v1)(h2:x_ e k2=some v2)(h3:x_ e k3=some v3)(h4:x_ e k4=some v4)(h5:x_ e k5=some v5):sub e [(k1,v1),(k2,v2),(k3,v3),(k4,v4),(k5,v5)]:=⟨h1,s4 h2 h3 h4 h5⟩
theorem s6 (h1:x_ e k1=some v1)(h2:x_ e k2=some v2)(h3:x_ e k3=some v3)(h4:x_ e k4=some v4)(h5:x_ e k5=some v5)(h6:x_ e k6=some v6):sub e [(k1,v1),(k2,v2),(k3,v3),(k4,v4),(k5,v5),(k6,v6)]:=⟨h1,s5 h2 h3 h4 h5 h6⟩
theorem s7 (h1:x_ e k1=some v1)(h2:x_ e k2=some v2)(h3:x_ e k3=some v3)(h4:x_ e k4=some v4)(h5:x_ e k5=some v5)(h6:x_ e k6=some v6)(G:x_ e k7=some v7):sub e [(k1,v1),(k2,v2),(k3,v3),(k4,v4),(k5,v5),(k6,v6),(k7,v7)]:=⟨h1,s6 h2 h3 h4 h5 h6 G⟩
theorem s8 (h1:x_ e k1=some v1)(h2:x_ e k2=some v2)(h3:x_ e k3=some v3)(h4:x_ e k4=some v4)(h5:x_ e k5=some v5)(h6:x_ e k6=some v6)(G:x_ e k7=some v7)(H:x_ e k8=some v8):sub e [(k1,v1),(k2,v2),(k3,v3),(k4,v4),(k5,v5),(k6,v6),(k7,v7),(k8,v8)]:=⟨h1,s7 h2 h3 h4 h5 h6 G H⟩
theorem s9 (h1:x_ e k1=some v1)(h2:x_ e k2=some v2)(h3:x_ e k3=some v3)(h4:x_ e k4=some v4)(h5:x_ e k5=some v5)(h6:x_ e k6=some v6)(G:x_ e k7=some v7)(H:x_ e k8=some v8)(I:x_ e k9=some v9):sub e [(k1,v1),(k2,v2),(k3,v3),(k4,v4),(k5,v5),(k6,v6),(k7,v7),(k8,v8),(k9,v9)]:=⟨h1,s8 h2 h3 h4 h5 h6 G H I⟩
end
theorem onL {α:Type}[Dat α]{w:World}:a_ w [] (.slice none 0 0) ([]:List α):=k_w w
theorem _root_.Go.RowKit.Below.s {b:Nat}{w w':World}(h:Below b w w'):w.heap.size<=w'.heap.size:=h.size
theorem Chg.s {X:Nat->Prop}{w w':World}(h:Chg X w w'):w.heap.size<=w'.heap.size:=h.size
abbrev Chg.e:=@Chg.ext
abbrev e_.e:=@e_.ext
abbrev e_.c:=@e_.chg
abbrev a_.e:=@a_.ext
abbrev a_.c:=@a_.chg
abbrev u_.e:=@u_.ext
abbrev u_.c:=@u_.chg
abbrev a_G.e:=@a_G.ext
abbrev a_G.c:=@a_G.chg
abbrev b_f.e:=@b_f.ext
abbrev b_f.c:=@b_f.chg
abbrev GlW.e:=@GlW.ext
abbrev GlW.c:=@GlW.chg
abbrev Blk.e:=@Blk.ext
abbrev Blk.c:=@Blk.chg
abbrev N_.e:=@N_.ext
abbrev N_.c:=@N_.chg
section
variable {P:Program}{N:Nat}{ops:Array Oper}{K:Act->World->Prop}{Q:Exit->Act->World->Prop}{e:Env}{w:World}{rest:List Oper}{X:Nat->Prop}{T:Nat}{p:a_E}
variable {d d':Nat}{ty ty':TypeId}{pos pos':String}{aft aft':Array Edge}{x x':Operand}{v v':Value}
theorem Rw {c:Code}{Q':Exit->Act->World->Prop}(h:(bif Nat.blt d N then ev e x else none)=some v)(k:WC P N c K Q ((d,v)::e) w):WL P N ops (KC P c K Q) Q' [⟨some d,.assign x,ty,pos,aft,none⟩] e w:=Ra h<|Wn k
theorem Wm {id:Nat}{l:List Oper}{c:Code}(h:(bif Nat.blt d N then ev e x else none)=some v)(k:WL P N (⟨some d,.move x,ty,pos,aft,none⟩::l).toArray (KC P c K Q) Q l ((d,v)::e) w):WC P N (.seq (.region id (⟨some d,.move x,ty,pos,aft,none⟩::l).toArray false) c) K Q e w:=Ws<|Rm h k
theorem RM (h:(bif Nat.blt d N then ev e x else none)=some v)(h':(bif Nat.blt d' N then ev ((d,v)::e) x' else none)=some v')(k:WL P N ops K Q rest ((d',v')::(d,v)::e) w):WL P N ops K Q (⟨some d,.move x,ty,pos,aft,none⟩::⟨some d',.move x',ty',pos',aft',none⟩::rest) e w:=Rm h<|Rm h' k
theorem RA (h:(bif Nat.blt d N then ev e x else none)=some v)(h':(bif Nat.blt d' N then ev ((d,v)::e) x' else none)=some v')(k:WL P N ops K Q rest ((d',v')::(d,v)::e) w):WL P N ops K Q (⟨some d,.assign x,ty,pos,aft,none⟩::⟨some d',.assign x',ty',pos',aft',none⟩::rest) e w:=Ra h<|Ra h' k
theorem dM {i:Nat}(ho:ops[i]? = some ⟨some d,.move x,ty,pos,aft,none⟩)(hf:Nat.blt d N=true)(h:ev e x=some v)(k:PR X P N ops T K p ((d,v)::e) w):PR X P N ops T K (.rd i p) e w:=dR ho hf (d_V h) k
theorem dQ {i:Nat}(ho:ops[i]? = some ⟨some d,.assign x,ty,pos,aft,none⟩)(hf:Nat.blt d N=true)(h:ev e x=some v)(k:PR X P N ops T K p ((d,v)::e) w):PR X P N ops T K (.rd i p) e w:=dR ho hf (d_W h) k
theorem Wx {y y':Code}{b:Bool}{Q':Exit->Act->World->Prop}(hc:ev e x=some (.bool b))(ht:b=true->WC P N y K Q e w)(hf:b=false->WC P N y' K Q e w):WL P N ops (KC P (.cond x y y') K Q) Q' [] e w:=Wn<|e_g hc ht hf
section
variable {t u i:Nat}{k:IntKind}{a b:Int}
theorem Rl (hf:Nat.blt d N=true)(h1:ev e x=some (.int k a))(h2:ev e x'=some (.int k b))(h:WL P N ops K Q rest ((d,vB<|decide<|a<b)::e) w):WL P N ops K Q (⟨some d,.binOp .lss t x x' u,ty,pos,aft,none⟩::rest) e w:=R hf (e_S h1 h2) h
theorem Rq (hf:Nat.blt d N=true)(h1:ev e x=some (.int k a))(h2:ev e x'=some (.int k b))(h:WL P N ops K Q rest ((d,vB<|a==b)::e) w):WL P N ops K Q (⟨some d,.binOp .eql t x x' u,ty,pos,aft,none⟩::rest) e w:=R hf (e_R h1 h2) h
theorem Rf {g o j:Nat}(hf:Nat.blt d N=true)(h1:Fld P t i j)(h2:ev e x=some (.pointer<|some ⟨g,o,none⟩))(h:WL P N ops K Q rest ((d,.pointer<|some ⟨g,o+j,none⟩)::e) w):WL P N ops K Q (⟨some d,.fieldAddr t x i,ty,pos,aft,none⟩::rest) e w:=R hf (e_M h1 h2) h
theorem Re {vs:Array Value}(hf:Nat.blt d N=true)(h1:ev e x=some (.tuple vs))(h2:vs[i]? = some v)(h:WL P N ops K Q rest ((d,v)::e) w):WL P N ops K Q (⟨some d,.extract x i,ty,pos,aft,none⟩::rest) e w:=R hf (e_P h1 h2) h
end
theorem l0 {t g o:Nat}{dst:Option Tmp}{gd:Option (Nat×Bool)}(hT:∀w,(isAgg t).run P w = .ok false w)(h:ev e x=some (.pointer<|some ⟨g,o,none⟩))(hc:w.cell? ⟨g,o,none⟩=some v):Rd noX P N ⟨dst,.load t x,ty,pos,aft,gd⟩ e w v:=e_N hT h (λh=>h) hc
def plA:Nat->Nat->List Nat->a_E
 | _,0,_=>.done
 | i,n+1,l=>bif l.elem i then .ef i (plA (i+1) n l) else .rd i (plA (i+1) n l)
abbrev pl_ (n:Nat)(l:List Nat):a_E:=plA 0 n l
end
end Go.Vw
namespace Go.Vw
open Go.RowKit Dat
section
variable {w w' a b c : World} {M A S T : List Nat} {B : Zone} {v : Value} {g m n : Nat} {p : Prop}
section
variable {P : Nat → Prop} {S1 S2 S3 S4 : List Nat}
theorem G_ (h : (S1 ++ S2).Nodup) (g : ∀ k ∈ S1 ++ S2, P k) : S1.Nodup ∧ S2.Nodup ∧ (∀ k ∈ S1, k ∉ S2) ∧ (∀ k ∈ S1, P k) ∧ ∀ k ∈ S2, P k := ⟨e_x h, e_y h, e_z h, λk hk => g k (List.mem_append_left _ hk), λk hk => g k (List.mem_append_right _ hk)⟩
theorem apQ3 (h : (S1 ++ (S2 ++ S3)).Nodup) (g : ∀ k ∈ S1 ++ (S2 ++ S3), P k) : S1.Nodup ∧ S2.Nodup ∧ S3.Nodup ∧ (∀ k ∈ S1, k ∉ S2) ∧ (∀ k ∈ S1, k ∉ S3) ∧ (∀ k ∈ S2, k ∉ S3) ∧ (∀ k ∈ S1, P k) ∧ (∀ k ∈ S2, P k) ∧ ∀ k ∈ S3, P k := by
 obtain ⟨a, b, c, d, e⟩ := G_ h g
 obtain ⟨a', b', c', d', e'⟩ := G_ b e
 exact ⟨a, a', b', λk hk h => c k hk (List.mem_append_left _ h), λk hk h => c k hk (List.mem_append_right _ h), c', d, d', e'⟩
theorem d_S (h : (S1 ++ (S2 ++ (S3 ++ S4))).Nodup) (g : ∀ k ∈ S1 ++ (S2 ++ (S3 ++ S4)), P k) : S1.Nodup ∧ S2.Nodup ∧ S3.Nodup ∧ S4.Nodup ∧ (∀ k ∈ S1, k ∉ S2) ∧ (∀ k ∈ S1, k ∉ S3) ∧ (∀ k ∈ S1, k ∉ S4) ∧ (∀ k ∈ S2, k ∉ S3) ∧ (∀ k ∈ S2, k ∉ S4) ∧ (∀ k ∈ S3, k ∉ S4) ∧ (∀ k ∈ S1, P k) ∧ (∀ k ∈ S2, P k) ∧ (∀ k ∈ S3, P k) ∧ ∀ k ∈ S4, P k := by
 obtain ⟨a, b, c, d, e⟩ := G_ h g
 obtain ⟨n1, n2, n3, d1, d2, d3, g1, g2, g3⟩ := apQ3 b e
 exact ⟨a, n1, n2, n3, λk hk h => c k hk (List.mem_append_left _ h), λk hk h => c k hk (List.mem_append_right _ (List.mem_append_left _ h)), λk hk h => c k hk (List.mem_append_right _ (List.mem_append_right _ h)), d1, d2, d3, d, g1, g2, g3⟩
end
theorem kM1 {k : Nat} (hb : Below k w w') (h : m ≤ w.heap.size) : m ≤ w'.heap.size := Nat.le_trans h hb.size
theorem kM2 {X : Nat → Prop} (hb : Chg X w w') (h : m ≤ w.heap.size) : m ≤ w'.heap.size := Nat.le_trans h hb.size
theorem kM3 {k : Nat} (hb : Below k w w') (h : B ≤ bl w.heap.size) : B ≤ bl w'.heap.size := zt' h hb.size
theorem kM4 {X : Nat → Prop} (hb : Chg X w w') (h : B ≤ bl w.heap.size) : B ≤ bl w'.heap.size := zt' h hb.size
theorem kM5 {k : Nat} (hb : Below k w w') (h : g < w.heap.size) : g < w'.heap.size := Nat.lt_of_lt_of_le h hb.size
theorem kM6 {X : Nat → Prop} (hb : Chg X w w') (h : g < w.heap.size) : g < w'.heap.size := Nat.lt_of_lt_of_le h hb.size
theorem kM (h : p := by
 first
 | ((repeat' first
   | with_reducible assumption
   | exact Nat.le_refl _
   | ((with_reducible apply Blk.lt); (· with_reducible assumption))
   | ((with_reducible apply kM5); (· with_reducible assumption))
   | ((with_reducible apply kM6); (· with_reducible assumption))
   | ((with_reducible apply kM1); (· with_reducible assumption))
   | ((with_reducible apply kM2); (· with_reducible assumption))
   | ((with_reducible apply kM3); (· with_reducible assumption))
   | ((with_reducible apply kM4); (· with_reducible assumption))
   | with_reducible apply a_z
   | with_reducible apply a_B
   | exact zr); done)
 | fail) : p := h
theorem kL1 {k : Nat} (hb : Below k w w') (h : ∀ k ∈ S, k < w.heap.size) : ∀ k ∈ S, k < w'.heap.size := λk hk => Nat.lt_of_lt_of_le (h k hk) hb.size
theorem kL2 {X : Nat → Prop} (hb : Chg X w w') (h : ∀ k ∈ S, k < w.heap.size) : ∀ k ∈ S, k < w'.heap.size := λk hk => Nat.lt_of_lt_of_le (h k hk) hb.size
theorem kL3 {α : Type} {d : Dat α} {l : List α} (h : a_ w S v l) : ∀ k ∈ S, k < w.heap.size := h.lt
theorem kL4 {α : Type} {d : Dat α} {l : List α} (h : N_ w S B v l) : ∀ k ∈ S, k < w.heap.size := h.lt
theorem kL5 {α : Type} {d : Dat α} {l : List α} (h : c_2 w S v l) : ∀ k ∈ S, k < w.heap.size := h.lt
theorem kL6 {o : Option (Int × Int)} (h : a_G g w S v o) : ∀ k ∈ S, k < w.heap.size := h.lt
theorem kL (h : p := by
 first
 | ((repeat' first
   | with_reducible assumption
   | exact c_g
   | ((with_reducible apply c_X))
   | ((with_reducible apply kL3); (· with_reducible assumption))
   | ((with_reducible apply kL4); (· with_reducible assumption))
   | ((with_reducible apply kL5); (· with_reducible assumption))
   | ((with_reducible apply kL6); (· with_reducible assumption))
   | ((with_reducible apply f_); exact kM)
   | ((with_reducible apply kL1); (· with_reducible assumption))
   | ((with_reducible apply kL2); (· with_reducible assumption))); done)
 | fail) : p := h
section
variable {P : Nat → Prop}
theorem g_M (h : ∀ k, n ≤ k → P k) : ∀ k ∈ [n], P k := f_ (h n (Nat.le_refl n))
theorem g_N (hg : n ≤ g) (h : ∀ k, n ≤ k → P k) : ∀ k ∈ [g], P k := f_ (h g hg)
theorem lit1 (h : ∀ k, n ≤ k → P k) (hs : ∀ k ∈ S, P k) : ∀ k ∈ n :: S, P k := λk hk => (List.mem_cons.1 hk).elim (λe => e ▸ h n (Nat.le_refl n)) (hs k)
theorem or1' (hs : ∀ k ∈ S, k ∈ A ∨ n ≤ k) (h : ∀ k, n ≤ k → P k) (ha : ∀ k ∈ A, P k) : ∀ k ∈ S, P k := or1 hs ha h
theorem or2' (hs : ∀ k ∈ S, k ∈ A ∨ k ∈ T ∨ n ≤ k) (h : ∀ k, n ≤ k → P k) (ha : ∀ k ∈ A, P k) (hb : ∀ k ∈ T, P k) : ∀ k ∈ S, P k := or2 hs ha hb h
theorem ltnotL (h : ∀ k ∈ T, k < n) : ∀ k, n ≤ k → k ∉ T := λk hk ht => absurd (h k ht) (Nat.not_lt.2 hk)
theorem ltgeb (h : ∀ k ∈ A, n ≤ k) : ∀ k, bl n k → k ∉ A := e_u h
theorem memJ (hg : g ∈ S) (h : ∀ k ∈ S, k ∉ T) : g ∉ T := h g hg
theorem singM (h : ∀ k ∈ [g], k ∉ T) : g ∉ T := h g (List.mem_singleton.2 rfl)
theorem singN {i j : Nat} (h : ∀ k ∈ [g], ¬ zn B i j k) : ¬ zn B i j g := h g (List.mem_singleton.2 rfl)
theorem singB (h : ∀ k ∈ [g], ¬ bl n k) : ¬ bl n g := h g (List.mem_singleton.2 rfl)
theorem nznL' {i j : Nat} (h1 : ∀ k ∈ A, k < i) (h : ∀ k ∈ A, ¬ B k) : ∀ k ∈ A, ¬ zn B i j k := nznL h h1 (Nat.le_refl _)
theorem nznR' {i j : Nat} (h1 : ∀ k ∈ A, j ≤ k) (h : ∀ k ∈ A, ¬ B k) : ∀ k ∈ A, ¬ zn B i j k := nznR h h1
end
theorem kU (h : p := by
 first
 | ((first
   | ((with_reducible apply lele); exact kM)
   | ((with_reducible apply b_9); exact kM)
   | ((with_reducible apply ltnotL); exact kL)
   | ((with_reducible apply b_0); exact kM)); done)
 | fail) : p := h
theorem sG (h : p := by
 first
 | ((repeat' first
   | with_reducible assumption
   | exact c_g
   | ((with_reducible apply c_X))
   | ((with_reducible apply g_M); exact kU)
   | ((with_reducible apply g_N); (· with_reducible assumption); exact kU)
   | ((with_reducible apply or0); (· with_reducible assumption); exact kU)
   | ((with_reducible apply or1'); (· with_reducible assumption); (· exact kU))
   | ((with_reducible apply or2'); (· with_reducible assumption); (· exact kU))
   | ((with_reducible apply lit1); (· exact kU))); done)
 | fail) : p := h
theorem sZ (h : p := by
 first
 | ((repeat' first
   | with_reducible assumption
   | exact c_g
   | ((with_reducible apply c_X))
   | ((with_reducible apply f_); (· with_reducible assumption))
   | ((with_reducible apply nbl); exact sG)
   | ((with_reducible apply g_M); exact kU)
   | ((with_reducible apply g_N); (· with_reducible assumption); exact kU)
   | ((with_reducible apply or0); (· with_reducible assumption); exact kU)
   | ((with_reducible apply or1'); (· with_reducible assumption); (· exact kU))
   | ((with_reducible apply or2'); (· with_reducible assumption); (· exact kU))
   | ((with_reducible apply lit1); (· exact kU))
   | ((with_reducible apply nznL'); (· exact kL))
   | ((with_reducible apply nznR'); (· exact sG))); done)
 | fail) : p := h
theorem sJ (h : p := by
 first
 | ((repeat' first
   | with_reducible assumption
   | ((with_reducible apply nmA))
   | with_reducible exact b_t (by with_reducible assumption)
   | ((with_reducible apply g_M); exact kU)
   | ((with_reducible apply g_N); (· with_reducible assumption); exact kU)
   | ((with_reducible apply b_t); (with_reducible apply g_M); exact kU)
   | ((with_reducible apply b_t); (with_reducible apply g_N); (· with_reducible assumption); exact kU)
   | ((with_reducible apply b_t); (with_reducible apply or0); (· with_reducible assumption); exact kU)
   | ((with_reducible apply b_t); (with_reducible apply or1'); (· with_reducible assumption); (· exact kU))
   | ((with_reducible apply b_t); (with_reducible apply or2'); (· with_reducible assumption); (· exact kU))
   | ((with_reducible apply b_t); (with_reducible apply lit1); (· exact kU))); done)
 | fail) : p := h
theorem nBg {Z : Zone} (hg : n ≤ g) (hb : Z ≤ bl n) : ¬ Z g := λh => absurd (hb g h) (Nat.not_lt.2 hg)
theorem nBh {Z : Zone} (hb : Z ≤ bl n) (hg : n ≤ g) : ¬ Z g := nBg hg hb
theorem sQ (h : p := by
 first
 | ((repeat' first
   | with_reducible assumption
   | exact c_g
   | exact nmN _
   | ((with_reducible show ∀ k ∈ (_ : List Nat), _); first
     | ((with_reducible apply b_t); (· with_reducible assumption))
     | (with_reducible apply c_X)
     | (with_reducible apply nmA)
     | ((with_reducible apply e_v); (first | exact b_V | exact a_1 b_V | exact A_ b_V | exact A_ (a_1 b_V) | exact A_ (A_ b_V) | exact A_ (A_ (a_1 b_V)) | exact A_ (A_ (A_ (a_1 b_V))) | exact A_ (A_ (A_ (A_ b_V))) | exact A_ (A_ (A_ b_V))))
     | ((with_reducible apply g_M); exact kU)
     | ((with_reducible apply g_N); (· with_reducible assumption); exact kU)
     | ((with_reducible apply or0); (· with_reducible assumption); exact kU)
     | ((with_reducible apply or1'); (· with_reducible assumption); (· exact kU))
     | ((with_reducible apply or2'); (· with_reducible assumption); (· exact kU))
     | ((with_reducible apply lit1); (· exact kU))
     | ((with_reducible apply b_t); (with_reducible apply g_M); exact kU)
     | ((with_reducible apply b_t); (with_reducible apply g_N); (· with_reducible assumption); exact kU)
     | ((with_reducible apply b_t); (with_reducible apply or0); (· with_reducible assumption); exact kU)
     | ((with_reducible apply b_t); (with_reducible apply or1'); (· with_reducible assumption); (· exact kU))
     | ((with_reducible apply b_t); (with_reducible apply or2'); (· with_reducible assumption); (· exact kU))
     | ((with_reducible apply b_t); (with_reducible apply lit1); (· exact kU))
     | exact sZ)
   | ((show ∀ _ : Nat, _ → _); first
     | (with_reducible apply nmA)
     | ((with_reducible apply D_); exact sZ)
     | ((with_reducible apply ltgeb); exact sG))
   | ((with_reducible apply memJ); (· with_reducible assumption); (with_reducible apply or0); (· with_reducible assumption); exact kU)
   | ((with_reducible apply memJ); (· with_reducible assumption); (· exact sJ))
   | ((with_reducible refine singM ?_); exact sJ)
   | (with_reducible refine singM ?_)
   | ((with_reducible apply nBg); (· with_reducible assumption); exact kM)
   | ((with_reducible apply nBh); (· with_reducible assumption); (· exact kM))
   | ((with_reducible refine singN ?_); exact sZ)
   | ((with_reducible refine singB ?_); exact sZ)
   | exact kM); done)
 | fail) : p := h
theorem b_Z {X : Nat → Prop} (h : Cg S w w') (hs : ∀ k ∈ S, X k := by exact sQ) : Chg X w w' := h.mono λk _ hk => hs k hk
theorem sQB {Z : Zone} (hk : Z g) (h : ∀ k, Z k → k ∉ M := by exact sQ) : g ∉ M := h g hk
theorem sQN {k : Nat} (hk : k ∈ S) (h : ∀ k ∈ S, k ∉ M := by exact sQ) : ¬ k ∈ M := h k hk
theorem kW1 (h' : Below b.heap.size b c) (h : Below a.heap.size a b) : Below a.heap.size a c := bup h h'
theorem kW2 (h' : Cg A b c) (hx : ∀ k ∈ A, a.heap.size ≤ k) (h : Below a.heap.size a b) : Below a.heap.size a c := e_A h h' hx
theorem kW3 (h' : Below b.heap.size b c) (h : Cg M a b) : Cg M a c := a_v h h'
theorem kW4 (h' : Cg A b c) (hx : ∀ k ∈ A, k ∈ M ∨ a.heap.size ≤ k) (h : Cg M a b) : Cg M a c := e_C h h' hx
theorem kW (h : p := by
 first
 | ((repeat' first
   | with_reducible assumption
   | with_reducible exact e_r _
   | with_reducible exact e_B _ _
   | ((with_reducible apply kW1); (· with_reducible assumption))
   | ((with_reducible apply kW2); (· with_reducible assumption); (· exact sQ))
   | ((with_reducible apply kW3); (· with_reducible assumption))
   | ((with_reducible apply kW4); (· with_reducible assumption); (· exact sQ))); done)
 | fail) : p := h
theorem Val.bytes_mk' (x : Int) (y : Bt) (z : List Val) : (Val.mk x y z).bytes = y := rfl
theorem Val.items_mk' (x : Int) (y : Bt) (z : List Val) : (Val.mk x y z).items = z := rfl
theorem kBx {l : List Value} (hb : Below w.heap.size w w') (h : Blk w g l) : Blk w' g l := h.ext hb
theorem kBy {l : List Value} (hc : Cg M w w') (h : Blk w g l) (hx : ∀ k ∈ [g], k ∉ M) : Blk w' g l := h.chg hc (hx g (List.mem_singleton.2 rfl))
theorem kB {l : List Value} (h : Blk w g l := by
 first
 | ((repeat' first
   | with_reducible assumption
   | ((with_reducible apply kBx); (· with_reducible assumption))
   | ((with_reducible apply kBy); (· with_reducible assumption))
   | exact sQ); done)
 | fail) : Blk w g l := h
theorem kBa {l : List Value} {i : Nat} (h : Blk w g l := by exact kB) (hv : l[i]? = some v := by exact rfl) : w.cell? ⟨g, i, none⟩ = some v := h.at hv
theorem kBr {l vs : List Value} (o n : Nat) (h : Blk w g l := by exact kB) (hv : (l.drop o).take n = vs := by exact rfl) : u_ w g o vs := h.row o n hv
theorem kRx {α : Type} {d : Dat α} {l : List α} (hb : Below w.heap.size w w') (h : e_ w B v l) : e_ w' B v l := h.ext hb
theorem kRy {α : Type} {d : Dat α} {l : List α} (hc : Cg M w w') (h : e_ w B v l) (hx : ∀ k, B k → k ∉ M) : e_ w' B v l := h.chg hc hx
theorem kR {α : Type} {d : Dat α} {l : List α} (h : e_ w B v l := by
 first
 | ((repeat' first
   | with_reducible assumption
   | ((with_reducible apply kRx); (· with_reducible assumption))
   | ((with_reducible apply kRy); (· with_reducible assumption))
   | exact sQ); done)
 | (dsimp only [Val.bytes_mk', Val.items_mk']; (repeat' first
   | with_reducible assumption
   | ((with_reducible apply kRx); (· with_reducible assumption))
   | ((with_reducible apply kRy); (· with_reducible assumption))
   | exact sQ); done)
 | fail) : e_ w B v l := h
theorem kOx {α : Type} {d : Dat α} {l : List α} (hb : Below w.heap.size w w') (h : a_ w S v l) : a_ w' S v l := h.ext hb
theorem kOy {α : Type} {d : Dat α} {l : List α} (hc : Cg M w w') (h : a_ w S v l) (hx : ∀ k ∈ S, k ∉ M) : a_ w' S v l := h.chg hc hx
theorem kO {α : Type} {d : Dat α} {l : List α} (h : a_ w S v l := by
 first
 | ((repeat' first
   | with_reducible assumption
   | ((with_reducible apply kOx); (· with_reducible assumption))
   | ((with_reducible apply kOy); (· with_reducible assumption))
   | exact sQ); done)
 | (dsimp only [Val.bytes_mk', Val.items_mk']; (repeat' first
   | with_reducible assumption
   | ((with_reducible apply kOx); (· with_reducible assumption))
   | ((with_reducible apply kOy); (· with_reducible assumption))
   | exact sQ); done)
 | fail) : a_ w S v l := h
theorem kEx {o : Option (Int × Int)} (hb : Below w.heap.size w w') (h : a_G g w S v o) : a_G g w' S v o := h.ext hb
theorem kEy {o : Option (Int × Int)} (hc : Cg M w w') (h : a_G g w S v o) (hx : ∀ k ∈ S, k ∉ M) : a_G g w' S v o := h.chg hc hx
theorem kE {o : Option (Int × Int)} (h : a_G g w S v o := by
 first
 | ((repeat' first
   | assumption
   | ((with_reducible apply kEx); (· with_reducible assumption))
   | ((with_reducible apply kEy); (· with_reducible assumption))
   | exact sQ); done)
 | fail) : a_G g w S v o := h
theorem kGx {D : World → Prop} (hb : Below w.heap.size w w') (h : GlW n D w B) : GlW n D w' B := h.ext hb
theorem kGy {D : World → Prop} (hc : Cg M w w') (h : GlW n D w B) (hx : ∀ k, B k → k ∉ M) : GlW n D w' B := h.chg hc hx
theorem kG {D : World → Prop} (h : GlW n D w B := by
 first
 | ((repeat' first
   | with_reducible assumption
   | ((with_reducible apply kGx); (· with_reducible assumption))
   | ((with_reducible apply kGy); (· with_reducible assumption))
   | exact sQ); done)
 | fail) : GlW n D w B := h
theorem kIx {x : Str} {q : Nat} (hb : Below w.heap.size w w') (h : b_f w g x q) : b_f w' g x q := h.ext hb
theorem kIy {x : Str} {q : Nat} (hc : Cg M w w') (h : b_f w g x q) (hx : ∀ k ∈ [g], k ∉ M) : b_f w' g x q := h.chg hc (hx g (List.mem_singleton.2 rfl))
theorem kI {x : Str} {q : Nat} (h : b_f w g x q := by
 first
 | ((repeat' first
   | with_reducible assumption
   | ((with_reducible apply kIx); (· with_reducible assumption))
   | ((with_reducible apply kIy); (· with_reducible assumption))
   | exact sQ); done)
 | fail) : b_f w g x q := h
theorem kCx {o : Nat} {l : List Value} (hb : Below w.heap.size w w') (h : u_ w g o l) : u_ w' g o l := h.ext hb
theorem kC {o : Nat} {l : List Value} (h : u_ w g o l := by
 first
 | ((repeat' first
   | with_reducible assumption
   | ((with_reducible apply kCx); (· with_reducible assumption))); done)
 | fail) : u_ w g o l := h
theorem kCa {o j : Nat} {l : List Value} (h : u_ w g o l := by exact kC) (hv : l[j]? = some v := by exact rfl) : w.cell? ⟨g, o + j, none⟩ = some v := h.at hv
theorem kCs {l vs : List Value} {o : Nat} (j n : Nat) (h : u_ w g o l := by exact kC) (hv : (l.drop j).take n = vs := by exact rfl) : u_ w g (o + j) vs := h.sub hv
theorem kC0 {o : Nat} {l : List Value} (h : u_ w g o l := by exact kC) (hv : l[0]? = some v := by exact rfl) : w.cell? ⟨g, o, none⟩ = some v := h.at (j := 0) hv
end
end Go.Vw
namespace Go.Vw
open Go.RowKit Dat
abbrev pq (b o:Nat):Value:=.pointer<|some ⟨b,o,none⟩
abbrev rp {α:Type}[Dat α](w:World)(B:Zone)(a:Option Addr)(n c:Nat)(l:List α):Prop:=e_ w B (.slice a n c) l
section
variable {P:Program}{N:Nat}{ops:Array Oper}{K:Act->World->Prop}{Q:Exit->Act->World->Prop}{e:Env}{w:World}{rest:List Oper}
variable {d:Nat}{op:Op}{ty:TypeId}{pos:String}{aft:Array Edge}{gd:Option (Nat×Bool)}{x y:Operand}{X:Nat->Prop}{T i:Nat}{p:a_E}{t g o n:Nat}{v:Value}{cur vs:List Value}
theorem EvX (cs:List Value)(hf:Nat.blt d N=true)(hx:ev e x=some v)(hc:v.cells.toList=cs)(k:∀w',Below w.heap.size w w'->Blk w' w.heap.size cs->WL P N ops K Q rest ((d,.pointer<|some ⟨w.heap.size,0,none⟩)::e) w'):WL P N ops K Q (⟨some d,.box t x,ty,pos,aft,none⟩::rest) e w :=
 E hf (e_q hx) λ_ w' q=>by
  obtain ⟨rfl,c⟩:=q;exact k w' c.below<|hc ▸ c.blk
theorem EvZ (cs:List Value)(hf:Nat.blt d N=true)(hz:∀w,(zeroValue t).run P w = .ok v w)(hc:v.cells.toList=cs)(k:∀w',Below w.heap.size w w'->Blk w' w.heap.size cs->WL P N ops K Q rest ((d,.pointer<|some ⟨w.heap.size,0,none⟩)::e) w'):WL P N ops K Q (⟨some d,.alloc t,ty,pos,aft,none⟩::rest) e w :=
 E hf (d_R hz) λ_ w' q=>by
  obtain ⟨rfl,c⟩:=q;exact k w' c.below<|hc ▸ c.blk
theorem dNb (cs:List Value)(ho:ops[i]? = some ⟨some d,.alloc t,ty,pos,aft,none⟩)(hf:Nat.blt d N=true)(hz:∀w,(zeroValue t).run P w = .ok v w)(hc:v.cells.toList=cs)(k:∀w',Below w.heap.size w w'->Blk w' w.heap.size cs->PR X P N ops T K p ((d,.pointer<|some ⟨w.heap.size,0,none⟩)::e) w'):PR X P N ops T K (.ef i p) e w :=
 dE ho hf (d_R hz) (.inr λ_ _ h=>a_f h.2.below) λ_ w' q=>by
  obtain ⟨rfl,c⟩:=q;exact k w' c.below<|hc ▸ c.blk
theorem fs9 (cs:List Value)(hs:∀w,(sizeOf t).run P w = .ok n w)(hp:ev e x=some (.pointer<|some ⟨g,o,none⟩))(hv:ev e y=some v)(hB:Blk w g cur)(h:(v.cells.size,Nat.ble (o+n) cur.length,v.cells.toList.all Value.oneCell',cur.take o++v.cells.toList++cur.drop (o+v.cells.toList.length))=(n,true,true,cs)) :
  Ef P N ⟨none,.store t x y,ty,pos,aft,gd⟩ e w (λ_ w'=>Blk w' g cs/\Chg (· = g) w w'):=by
 simp only [Prod.mk.injEq] at h
 exact fs0 hs hp hv hB h.1 h.2.1 h.2.2.1 h.2.2.2
theorem E0q (cs:List Value)(hs:∀w,(sizeOf t).run P w = .ok n w)(hp:ev e x=some (.pointer<|some ⟨g,o,none⟩))(hv:ev e y=some v)(hB:Blk w g cur)(h:(v.cells.size,Nat.ble (o+n) cur.length,v.cells.toList.all Value.oneCell',cur.take o++v.cells.toList++cur.drop (o+v.cells.toList.length))=(n,true,true,cs))(k:∀w',Blk w' g cs->Cg [g] w w'->WL P N ops K Q rest e w'):WL P N ops K Q (⟨none,.store t x y,ty,pos,aft,none⟩::rest) e w :=
 E0 (fs9 cs hs hp hv hB h) λ_ w' h=>k w' h.1 h.2.one
theorem dS {m:Nat}{M:List Nat}(cs:List Value)(ho:ops[i]? = some ⟨none,.store t x y,ty,pos,aft,none⟩)(hs:∀w,(sizeOf t).run P w = .ok n w)(hp:ev e x=some (.pointer<|some ⟨g,o,none⟩))(hv:ev e y=some v)(hB:Blk w g cur)(h:(v.cells.size,Nat.ble (o+n) cur.length,v.cells.toList.all Value.oneCell',cur.take o++v.cells.toList++cur.drop (o+v.cells.toList.length))=(n,true,true,cs))(hm:m<=g)(k:∀w',Blk w' g cs->Cg [g] w w'->PR (λk=>k∈M∨m<=k) P N ops T K p e w'):PR (λk=>k∈M∨m<=k) P N ops T K (.ef i p) e w :=
 dE0 ho (fs9 cs hs hp hv hB h) (.inr λ_ _ h=>chgNew hm h.2) λ_ w' q=>k w' q.1 q.2.one
theorem iB {R:Value->World->Prop}:T.testBit i=true∨∀v w',(Below w.heap.size w w'/\R v w')->Chg X w w':=.inr λ_ _ h=>a_f h.1
theorem lC (vs:List Value)(hT:∀w,(isAgg t).run P w = .ok true w)(hs:∀w,(sizeOf t).run P w = .ok n w)(h:ev e x=some (.pointer<|some ⟨g,0,none⟩))(hl:vs.length=n:=by exact rfl)(hc:Blk w g vs:=by exact kB):Rd noX P N ⟨some d,.load t x,ty,pos,aft,gd⟩ e w (.agg vs.toArray):=e_O hT hs h hl (λh=>h) hc.all
theorem bQ {zs:List Value}{places:List (Nat×Nat)}{us:List (Nat×Value)}(parts:List (Nat×Operand))(cs:List Value)(hB:c_F P t zs places)(hv:evp e parts=some us)(hf:Instr.fill (places.toArray[·]?) zs.toArray us=some cs.toArray):Rd X P N ⟨some d,.build t parts.toArray,ty,pos,aft,gd⟩ e w (.agg cs.toArray):=e_E hB hv hf
variable {ao:Option Addr}{B:Zone}{c sz':Nat}{l:Int}{kk:IntKind}{E:Nat}{α:Type}
theorem xA [Dat α]{u:List α}{v:α}(hf:Nat.blt d N=true)(hT:P.underlying t=some (.slice E))(hs:∀w,(sizeOf E).run P w = .ok sz' w)(hsz:sz'=sz α)(hx:ev e x=some (.slice ao n c))(hy:ev e y=some (.int kk l))(hr:e_ w B (.slice ao n c) u)(hi:idx u l=some v)
  (k:∀b o cs,u_ w b o cs->rep w B cs v->B b->WL P N ops K Q rest ((d,.pointer<|some ⟨b,o,none⟩)::e) w):WL P N ops K Q (⟨some d,.indexAddr t x y,ty,pos,aft,none⟩::rest) e w :=
 RX hf (d_h hT hs hsz hx hy hr hi) (by rintro _ ⟨b,o,cs,rfl,h1,h2,h3⟩;exact k b o cs h1 h2 h3)
theorem xI {u:List Int}{v:Int}(hf:Nat.blt d N=true)(hT:P.underlying t=some (.slice E))(hs:∀w,(sizeOf E).run P w = .ok sz' w)(hsz:sz'=sz Int)(hx:ev e x=some (.slice ao n c))(hy:ev e y=some (.int kk l))(hr:e_ w B (.slice ao n c) u)(hi:idx u l=some v)
  (k:∀b o,u_ w b o [vI v]->inI v->WL P N ops K Q rest ((d,.pointer<|some ⟨b,o,none⟩)::e) w):WL P N ops K Q (⟨some d,.indexAddr t x y,ty,pos,aft,none⟩::rest) e w :=
 xA hf hT hs hsz hx hy hr hi (by rintro b o _ h1 h2 _;obtain ⟨rfl,h3⟩:=S_ h2;exact k b o h1 h3)
theorem dxA [Dat α]{u:List α}{v:α}(ho:ops[i]? = some ⟨some d,.indexAddr t x y,ty,pos,aft,none⟩)(hf:Nat.blt d N=true)(hT:P.underlying t=some (.slice E))(hs:∀w,(sizeOf E).run P w = .ok sz' w)(hsz:sz'=sz α)(hx:ev e x=some (.slice ao n c))(hy:ev e y=some (.int kk l))(hr:e_ w B (.slice ao n c) u)(hi:idx u l=some v)
  (k:∀b o cs,u_ w b o cs->rep w B cs v->B b->PR X P N ops T K p ((d,.pointer<|some ⟨b,o,none⟩)::e) w):PR X P N ops T K (.rd i p) e w :=
 dRX ho hf (d_h hT hs hsz hx hy hr hi) (by rintro _ ⟨b,o,cs,rfl,h1,h2,h3⟩;exact k b o cs h1 h2 h3)
end
section
variable {P:Program}{N:Nat}{e:Env}{w:World}{fn:Func}{ρ:Type}{R:ρ->Value->World->Prop}{r s:ρ}{r1 r2 r3:ResultVar}{u v x:Value}
theorem rS1 (hq:some r=some s)(hr:fn.results = #[r1])(h1:c_1 P e w r1 u)(hR:R r u w):∀a,Sat N e a->c_i P fn (R s) a w:=by
 cases hq
 exact b_3 hr h1 hR
theorem rS2 (hq:some r=some s)(hr:fn.results = #[r1,r2])(h1:c_1 P e w r1 u)(h2:c_1 P e w r2 v)(hR:R r (.tuple #[u,v]) w):∀a,Sat N e a->c_i P fn (R s) a w:=by
 cases hq
 exact c_s hr h1 h2 hR
theorem rS3 (hq:some r=some s)(hr:fn.results = #[r1,r2,r3])(h1:c_1 P e w r1 u)(h2:c_1 P e w r2 v)(h3:c_1 P e w r3 x)(hR:R r (.tuple #[u,v,x]) w):∀a,Sat N e a->c_i P fn (R s) a w:=by
 cases hq
 exact e_K hr h1 h2 h3 hR
end
end Go.Vw
namespace Go.Vw
open Go.RowKit Dat
def zx (T:List Nat)(lo m G hi:Nat):Zone:=λk=>(lo<=k/\k<m∨G<=k/\k<hi)/\k∉T
theorem l_3 {T:List Nat}{lo m G a b:Nat}(h:a<=b):zx T lo m G a<=zx T lo m G b:=λ_ q=>⟨q.1.imp id λr=>⟨r.1,Nat.lt_of_lt_of_le r.2 h⟩,q.2⟩
theorem j_Y {T:List Nat}{lo m G a:Nat}:∀k∈T,¬zx T lo m G a k:=λk h q=>q.2 h
theorem l_4 {T M:List Nat}{lo m G a:Nat}(hl:lo<=G)(h:∀k∈M,k<lo):∀k∈M,¬zx T lo m G a k:=λk hk q=>q.1.elim (λr=>absurd (h k hk)<|Nat.not_lt.2 r.1) λr=>absurd (h k hk)<|Nat.not_lt.2<|Nat.le_trans hl r.1
theorem zx_mid {T M:List Nat}{lo m G a:Nat}(h1:∀k∈M,m<=k)(h2:∀k∈M,k<G):∀k∈M,¬zx T lo m G a k:=λk hk q=>q.1.elim (λr=>absurd r.2<|Nat.not_lt.2<|h1 k hk) λr=>absurd (h2 k hk)<|Nat.not_lt.2 r.1
theorem l_5 {T:List Nat}{lo m G a b:Nat}(h:a<=b):zx T lo m G a<=zx [] lo m G b:=λ_ q=>⟨q.1.imp id λr=>⟨r.1,Nat.lt_of_lt_of_le r.2 h⟩,List.not_mem_nil⟩
theorem zx_zn {B:Zone}{T:List Nat}{lo m I a G H:Nat}(J:G<=lo)(h2:G<=I)(hm:m<=H)(ha:a<=H):zx T lo m I a<=zn B G H:=λ_ q=>.inr<|q.1.elim (λr=>⟨Nat.le_trans J r.1,Nat.lt_of_lt_of_le r.2 hm⟩) λr=>⟨Nat.le_trans h2 r.1,Nat.lt_of_lt_of_le r.2 ha⟩
theorem a_l {T:List Nat}{lo m G a k:Nat}(h1:lo<=k)(h2:k<m)(h:k∉T):zx T lo m G a k:=⟨.inl ⟨h1,h2⟩,h⟩
theorem zx_b {T:List Nat}{lo m G a k:Nat}(h1:G<=k)(h2:k<a)(h:k∉T):zx T lo m G a k:=⟨.inr ⟨h1,h2⟩,h⟩
theorem j_Z {g:Nat}{Si A:List Nat}(h:g∉Si)(hs:∀k∈A,k∈Si):∀k∈A,k∉[g]:=λk hk hm=>h<|List.mem_singleton.1 hm ▸ hs k hk
def zy (B:Zone)(T:List Nat)(lo hi:Nat):Zone:=λk=>B k∨(lo<=k/\k<hi/\k∉T)
section
variable {B Z:Zone}{T T1 T2 M:List Nat}{lo a b i j m n k:Nat}
theorem zy_l:B<=zy B T lo a:=λ_ h=>.inl h
theorem b_z (h:a<=b)(hT:∀k∈T2,k∈T1∨a<=k):zy B T1 lo a<=zy B T2 lo b:=λk q=>q.imp id λr=>⟨r.1,Nat.lt_of_lt_of_le r.2.1 h,λhk=>(hT k hk).elim r.2.2 λq=>absurd r.2.1<|Nat.not_lt.2 q⟩
theorem zy_lw (G:lo<=i)(h:a<=b)(hT:∀k∈T2,k∈T1∨k<i∨a<=k):zy B T1 i a<=zy B T2 lo b:=λk q=>q.imp id λr=>⟨Nat.le_trans G r.1,Nat.lt_of_lt_of_le r.2.1 h,λhk=>(hT k hk).elim r.2.2 λq=>q.elim (λq=>absurd r.1<|Nat.not_le.2 q) λq=>absurd r.2.1<|Nat.not_lt.2 q⟩
theorem k_0 (hB:B<=bl n)(h:a<=n):zy B T lo a<=bl n:=λk q=>q.elim (hB k) λr=>Nat.lt_of_lt_of_le r.2.1 h
theorem zy_zn (G:i<=lo)(h1:a<=j):zy B T lo a<=zn B i j:=λ_ q=>q.imp id λr=>⟨Nat.le_trans G r.1,Nat.lt_of_lt_of_le r.2.1 h1⟩
theorem zy_iv (h:Z<=zy B T lo b)(G:lo<=i)(h1:j<=b)(hT:∀k∈T,k<i∨j<=k):zn Z i j<=zy B T lo b:=λk q=>q.elim (h k) λr=>.inr ⟨Nat.le_trans G r.1,Nat.lt_of_lt_of_le r.2 h1,λhk=>(hT k hk).elim (λq=>absurd q<|Nat.not_lt.2 r.1) λq=>absurd r.2<|Nat.not_lt.2 q⟩
theorem c_y (hB:∀k∈M,¬B k)(hT:∀k∈M,k∈T):∀k∈M,¬zy B T lo a k:=λk hk q=>q.elim (hB k hk) λr=>r.2.2<|hT k hk
theorem b_P (hB:∀k∈M,¬B k)(h:∀k∈M,k<lo):∀k∈M,¬zy B T lo a k:=λk hk q=>q.elim (hB k hk) λr=>absurd (h k hk)<|Nat.not_lt.2 r.1
theorem k_1 (hB:∀k∈M,¬B k)(h:∀k∈M,a<=k):∀k∈M,¬zy B T lo a k:=λk hk q=>q.elim (hB k hk) λr=>absurd r.2.1<|Nat.not_lt.2<|h k hk
theorem d_8 (h1:∀k∈M,lo<=k)(h2:∀k∈M,k<m)(h3:m<=a)(h4:∀k∈M,k∉T):∀k∈M,zy B T lo a k:=λk hk=>.inr ⟨h1 k hk,Nat.lt_of_lt_of_le (h2 k hk) h3,h4 k hk⟩
end
structure b_U {α:Type}[Dat α](w:World)(S Si:List Nat)(g n c:Nat)(l:List α)(i:Nat)(cs:List Value):Prop where
 gN:g∉Si
 gS:g∈S
 row:∃(rs:List (Raw α))(r:Raw α),a_ w [g] (.slice (some ⟨g,0,none⟩) n c) rs/\rs.length=l.length/\rs[i]? = some r/\r.cs=cs/\∀(j:Nat)(q:Raw α)(y:α),j ≠ i->rs[j]? = some q->l[j]? = some y->rep w (λk=>k∈S/\k ≠ g/\k∉Si) q.cs y
section
variable {α:Type}[Dat α]{w w':World}{S Si:List Nat}{g n c:Nat}{l:List α}{cs:List Value}
theorem r_y {ao:Option Addr}{i:Int}{x:α}(ha:ao=some ⟨g,0,none⟩)(ho:a_ w S (.slice ao n c) l)(hN:S.Nodup)(hx:idx l i=some x) :
  ∃cs Si,b_U w S Si g n c l i.toNat cs/\u_ w g (0+i.toNat * sz α) cs/\own w Si cs x/\Si.Nodup/\(∀k∈Si,k∈S):=by
 subst ha;obtain ⟨J,hx',hl⟩:=b_e hx;have hlt:=ho.lt
 rcases ho with ⟨h,_⟩ | ⟨g',c',cur,Ss,he,h1,h2,h3,h4,rfl,h6,G⟩
 .cases h
 simp only [Value.slice.injEq,Option.some.injEq,Addr.mk.injEq,and_true] at he
 obtain ⟨rfl,rfl,rfl⟩:=he;obtain ⟨hgn,hfn⟩:=List.nodup_cons.1 hN;obtain ⟨Si,hSi⟩:=e_L h6 hx';have hiS:i.toNat<Ss.length:=(List.getElem?_eq_some_iff.1 hSi).1
 rw [List.nodup_iff_pairwise_ne,List.pairwise_flatten] at hfn
 obtain ⟨I,H⟩:=hfn;have hSiN:Si.Nodup:=by rw [List.nodup_iff_pairwise_ne];exact I Si<|List.mem_of_getElem? hSi
 rw [List.pairwise_iff_getElem] at H
 have hSie:Ss[i.toNat]=Si:=by rw [List.getElem?_eq_getElem hiS] at hSi;exact Option.some.inj hSi
 have hdis:∀(j:Nat)(hj:j<Ss.length),j ≠ i.toNat->∀t∈Ss[j],t∉Si:=by
  intro j hj hji t ht ht'
  rw [← hSie] at ht'
  rcases Nat.lt_or_ge j i.toNat with h | h
  .exact H j i.toNat hj hiS h t ht t ht' rfl
  .exact H i.toNat j hiS hj (by omega) t ht' t ht rfl
 have hrep:∀j:Fin l.length,rep w (bl w.heap.size) (X_ (sz α) j.1 cur) l[j.1]:=by
  intro j;have hjx:l[j.1]? = some l[j.1]:=List.getElem?_eq_getElem j.2;obtain ⟨Sj,hSj⟩:=e_L h6 hjx;exact own_rep (G j.1 _ Sj hjx hSj) λk hk=>hlt k<|List.mem_cons_of_mem _<|c_3 hSj hk
 let rs:List (Raw α):=List.ofFn λj:Fin l.length=>⟨X_ (sz α) j.1 cur,rep_len<|hrep j,rep_one<|hrep j⟩
 have hrl:rs.length=l.length:=by simp [rs]
 have hrs:∀(j:Nat)(q:Raw α),rs[j]? = some q->j<l.length/\q.cs=X_ (sz α) j cur:=by
  intro j q hq;have hj:j<l.length:=by have:=(List.getElem?_eq_some_iff.1 hq).1;rwa [hrl] at this
  refine ⟨hj,?_⟩
  rw [List.getElem?_eq_getElem (by rw [hrl];exact hj)] at hq
  obtain rfl:=Option.some.inj hq
  simp [rs]
 have hil:i.toNat<l.length:=(List.getElem?_eq_some_iff.1 hx').1;have hri:rs[i.toNat]? = some rs[i.toNat]:=List.getElem?_eq_getElem (by rw [hrl];exact hil)
 have hro:a_ w [g] (.slice (some ⟨g,0,none⟩) l.length c) rs:=by
  refine .inr ⟨g,c,cur,List.replicate rs.length [],by rw [hrl],by rw [hrl];exact h1,by rw [hrl];exact h2,h3,h4,?_,by simp,?_⟩
  .congr 1
   symm
   rw [List.flatten_eq_nil_iff]
   intro t ht;exact List.eq_of_mem_replicate ht
  .intro j q Sj hq hSj;refine ⟨?_,((hrs j q hq).2).symm⟩;have:=List.mem_of_getElem? hSj;exact List.eq_of_mem_replicate this
 refine ⟨X_ (sz α) i.toNat cur,Si,⟨λhg=>hgn<|c_3 hSi hg,List.mem_cons_self,rs,rs[i.toNat]'(by rw [hrl];exact hil),hro,hrl,hri,(hrs _ _ hri).2,?_⟩,by rw [Nat.zero_add];exact h3.cells _ _,G _ x Si hx' hSi,hSiN,λk hk=>List.mem_cons_of_mem _<|c_3 hSi hk⟩;intro j q y hji hq hy;obtain ⟨hj,hqc⟩:=hrs j q hq;have hjS:j<Ss.length:=by omega
 obtain ⟨Sj,hSj⟩:=e_L h6 hy;have hje:Ss[j]=Sj:=by rw [List.getElem?_eq_getElem hjS] at hSj;exact Option.some.inj hSj
 rw [hqc]
 exact own_rep (G j y Sj hy hSj) λk hk=>⟨List.mem_cons_of_mem _<|c_3 hSj hk,λh=>hgn<|h ▸ c_3 hSj hk,hdis j hjS hji k<|hje ▸ hk⟩
variable {i:Nat}
theorem b_U.ext (h:b_U w S Si g n c l i cs)(hb:Below w.heap.size w w'):b_U w' S Si g n c l i cs:=by
 obtain ⟨rs,r,h1,h2,h3,h4,h5⟩:=h.row;exact ⟨h.gN,h.gS,rs,r,h1.ext hb,h2,h3,h4,λj q y a b d=>m_g (h5 j q y a b d) hb⟩
theorem b_U.chg {M:List Nat}(h:b_U w S Si g n c l i cs)(hc:Cg M w w')(hM:∀k∈M,k∈S->k∈Si):b_U w' S Si g n c l i cs:=by
 obtain ⟨rs,r,h1,h2,h3,h4,h5⟩:=h.row;exact ⟨h.gN,h.gS,rs,r,h1.chg hc<|λk hk hm=>h.gN (by rw [List.mem_singleton.1 hk] at hm;exact hM _ hm h.gS),h2,h3,h4,λj q y a b d=>k_z (h5 j q y a b d) hc λk hk hm=>hk.2.2<|hM k hm hk.1⟩
theorem b_U.len (h:b_U w S Si g n c l i cs):n=l.length:=by
 obtain ⟨rs,r,h1,h2,_⟩:=h.row;obtain ⟨_,_,he,_⟩:=h1.rep
 cases he
 exact h2
theorem b_U.shr {ao:Option Addr}(h:b_U w S Si g n c l i cs)(ha:ao=some ⟨g,0,none⟩){x':α}{Z:Zone}(hr:rep w Z cs x')(hZ:∀k∈S,k∉[g]->Z k):N_ w [g] Z (.slice ao n c) (l.set i x'):=by
 subst ha;obtain ⟨rs,r,h1,h2,h3,rfl,h5⟩:=h.row;refine ⟨.inr ⟨rs,h1,by simpa using h2,λj q y hq hy=>?_⟩⟩
 by_cases hji:j=i
 .subst hji
  rw [h3] at hq
  obtain rfl:=Option.some.inj hq
  rw [List.getElem?_set_self (by have:=(List.getElem?_eq_some_iff.1 h3).1;omega)] at hy
  obtain rfl:=Option.some.inj hy;exact hr
 .rw [List.getElem?_set_ne (Ne.symm hji)] at hy
  exact rep_mono (h5 j q y hji hq hy) λk hk=>hZ k hk.1 λhm=>hk.2.1<|List.mem_singleton.1 hm
theorem k_2 {x:α}{B:Zone}(hb:Blk w g cs)(hr:rep w B cs x):N_ w [g] B (.slice (some ⟨g,0,none⟩) 1 1) [x]:=by
 obtain ⟨r,rfl⟩:=l_6 hr;refine ⟨.inr ⟨[r],.inr ⟨g,1,r.cs,[[]],rfl,Nat.le_refl _,(by decide:1<=LEN),hb,by rw [r.len,Nat.one_mul];rfl,rfl,rfl,λj q Sj hq hS=>?_⟩,rfl,λj q z a b=>?_⟩⟩
 .cases j with
  | zero =>
   cases hq;cases hS
   refine ⟨rfl,?_⟩;have:=r.len
   rw [Nat.zero_mul,List.drop_zero]
   exact List.take_of_length_le<|Nat.le_of_eq this
  | succ j=>simp at hq
 .cases j with
  | zero=>cases a;cases b;exact hr
  | succ j=>simp at a
theorem raw_S {rs:List (Raw α)}{S':List Nat}(h:a_ w S' (.slice (some ⟨g,0,none⟩) n c) rs):S'=[g]:=by
 rcases h with ⟨h,_⟩ | ⟨g',c',cur,Ss,he,h1,h2,h3,h4,rfl,h6,G⟩
 .cases h
 simp only [Value.slice.injEq,Option.some.injEq,Addr.mk.injEq,and_true] at he
 obtain ⟨rfl,_,_⟩:=he
 congr 1
 rw [List.flatten_eq_nil_iff]
 intro t ht;obtain ⟨j,hj⟩:=List.mem_iff_getElem?.1 ht;have hj':j<rs.length:=by have:=(List.getElem?_eq_some_iff.1 hj).1;omega
 exact (G j _ t (List.getElem?_eq_getElem hj') hj).1
end
section
variable {P:Program}{N:Nat}{e:Env}{w:World}{dst:Option Tmp}{T E:Nat}{ty:TypeId}{pos:String}{aft:Array Edge}{gd:Option (Nat×Bool)}{x y:Operand}{X:Nat->Prop}
variable {S Si:List Nat}{g n c sz':Nat}{ao:Option Addr}{i:Int}{cs:List Value}{u:Value}{kk:IntKind}
theorem g_j {α:Type}{l:List α}{v:α}(hT:P.underlying T=some (.slice E))(hs:∀w,(sizeOf E).run P w = .ok sz' w)(hx:ev e x=some (.slice ao n c))(hy:ev e y=some (.int kk i))(ha:ao=some ⟨g,0,none⟩)(hi:idx l i=some v)(hn:n=l.length) :
  Rd X P N ⟨dst,.indexAddr T x y,ty,pos,aft,gd⟩ e w (.pointer<|some ⟨g,0+i.toNat * sz',none⟩):=by
 subst ha;obtain ⟨G,_,h1⟩:=b_e hi;exact i_8 (k:=kk) hT hs hx hy G (by omega)
theorem rd_atS {α:Type}[Dat α]{B:Zone}{l:List α}{v:α}(hT:P.underlying T=some (.slice E))(hs:∀w,(sizeOf E).run P w = .ok sz' w)(hsz:sz'=sz α)(hx:ev e x=some (.slice ao n c))(hy:ev e y=some (.int kk i))(hr:N_ w S B (.slice ao n c) l)(hi:idx l i=some v) :
  ∃u,Rd X P N ⟨dst,.indexAddr T x y,ty,pos,aft,gd⟩ e w u/\∃b o cs,u = .pointer (some ⟨b,o,none⟩)/\u_ w b o cs/\rep w B cs v/\b∈S:=by
 obtain ⟨G,hv,h1⟩:=b_e hi;obtain ⟨⟨_,_,rfl,_⟩ | ⟨rs,hr,h2⟩⟩:=hr
 .simp at hv
 have hl:=h2.1;obtain ⟨r,hr'⟩:∃r,rs[i.toNat]? = some r:=⟨_,List.getElem?_eq_getElem (by omega)⟩;have hi':idx rs i=some r:=by unfold idx;rw [if_pos G,hr']
 obtain ⟨u,k1,b,o,cs,k2,k3,k4,k5⟩:=d_h (α:=Raw α) (X:=X) (N:=N) (dst:=dst) (ty:=ty) (pos:=pos) (aft:=aft) (gd:=gd) hT hs hsz hx hy (d_c (B:=λk=>k∈S) hr λ_ h=>h) hi';obtain rfl:cs=r.cs:=k4;exact ⟨u,k1,b,o,r.cs,k2,k3,h2.2 _ r v hr' hv,k5⟩
theorem g_k {α:Type}[Dat α]{l:List α}{o:Nat}(hs:∀w,(sizeOf T).run P w = .ok 1 w)(hsz:sz'=sz α)(hx:ev e x=some (.pointer<|some ⟨g,0+i.toNat * sz'+o,none⟩))(hy:ev e y=some u)(hu:u.cells.toList=[u])(h1:u.oneCell'=true)(h:b_U w S Si g n c l i.toNat cs)(G:0<=i)(hlt:o<sz') :
  Ef P N ⟨none,.store T x y,ty,pos,aft,gd⟩ e w (λ_ w'=>b_U w' S Si g n c l i.toNat (cs.set o u)/\Cg [g] w w'):=by
 obtain ⟨rs,r,k1,k2,k3,rfl,k5⟩:=h.row;have hi:idx rs i=some r:=by unfold idx;rw [if_pos G,k3]
 let r':Raw α:=⟨r.cs.set o u,by simpa using r.len,λq hq=>(List.mem_or_eq_of_mem_set hq).elim (r.one q) λh=>h ▸ h1⟩
 have hm:upd rs i r'=some (rs.set i.toNat r'):=by unfold upd;rw [if_pos ⟨G,by have:=(List.getElem?_eq_some_iff.1 k3).1;omega⟩]
 have hE:=i_6 (α:=Raw α) (P:=P) (N:=N) (ty:=ty) (pos:=pos) (aft:=aft) (gd:=gd) (v':=r') hs hsz rfl hx hy hu h1 hi hm k1 (by simp) hlt (by rintro w S cs ⟨rfl,rfl⟩;exact ⟨rfl,rfl⟩)
 constructor
 intro a ha Q;refine Oper.wp_mono ?_<|hE.run a ha Q;rintro a' w' ⟨H,rfl,S',hc,k6,k7,k8⟩;obtain rfl:=raw_S k6;refine ⟨H,rfl,⟨h.gN,h.gS,rs.set i.toNat r',r',k6,by simpa using k2,by rw [List.getElem?_set_self (List.getElem?_eq_some_iff.1 k3).1],rfl,λj q y hji hq hy=>?_⟩,hc⟩
 rw [List.getElem?_set_ne (Ne.symm hji)] at hq
 exact k_z (k5 j q y hji hq hy) hc λk hk hm=>hk.2.1<|List.mem_singleton.1 hm
end
abbrev b_U.e:=@b_U.ext
abbrev b_U.c:=@b_U.chg
end Go.Vw
namespace Go.Vw
open Go.RowKit Dat Go.ChangeShapes Go.WideShapes Go.ChangeAt
structure IsT (P:Program)(t:TypeId)(α:Type)[Dat α](L:α->Prop):Prop where
 rd:∀{H:Type}(enc:TypeId×Value->H)(W:World)(fuel:Nat)(cs:List Value)(x:DataW H×List MemPlace),DataW.trod enc P W 0 (λ_=>true) true fuel t cs=some x->(x.1.weights P t).all (· <= reachBytes)=true->∃v:α,rep W W.heap.size cs v/\L v
section
variable {P:Program}{t:TypeId}
theorem p_8 (ht:P.underlying t=some (.int .u8)):IsT P t UInt8 (λ_=>True):=⟨λenc W fuel cs x h _=>by
 obtain ⟨n,rfl,_,hw⟩:=DataW.trod_int ht h;have hb:=bounds_u8 hw
 have e:n=byteI (UInt8.ofNat n.toNat):=by
  unfold byteI
  rw [UInt8.toNat_ofNat']
  omega
 refine ⟨UInt8.ofNat n.toNat,⟨_,rfl,?_⟩,trivial⟩
 show Value.int .u8 n=vU (byteI<|UInt8.ofNat n.toNat)
 rw [← e]⟩
theorem m_9 {H:Type}{e:TypeId}:∀{l:List (DataW H)}{d:DataW H},(DataW.weightsAll P e l).all (· <= reachBytes)=true->d∈l->(d.weights P e).all (· <= reachBytes)=true
 | [],_,_,h=>by cases h
 | y::l,d,hw,h=>by
  unfold DataW.weightsAll at hw
  rw [List.all_append,Bool.and_eq_true] at hw
  rcases List.mem_cons.1 h with rfl | h
  .exact hw.1
  .exact m_9 hw.2 h
theorem m_a {H:Type}:∀{ts:List TypeId}{l:List (DataW H)}{i:Nat}{t:TypeId}{d:DataW H},(DataW.weightsEach P ts l).all (· <= reachBytes)=true->ts[i]? = some t->l[i]? = some d->(d.weights P t).all (· <= reachBytes)=true
 | [],_,_,_,_,_,h,_=>by simp at h
 | _::_,[],_,_,_,_,_,h=>by simp at h
 | t::ts,y::l,i,t',d,hw,h1,h2=>by
  unfold DataW.weightsEach at hw
  rw [List.all_append,Bool.and_eq_true] at hw
  cases i with
  | zero=>simp at h1 h2;subst h1 h2;exact hw.1
  | succ i=>simp at h1 h2;exact m_a hw.2 h1 h2
theorem cells?_spec {w:World}{a:Addr}{n:Nat}{cs:List Value}(h:w.cells? 0 a n=some cs):cs.length=n/\∀j v,cs[j]? = some v->w.cell? (a.add j)=some v:=by
 unfold World.cells? at h
 rw [if_pos (Nat.zero_le _)] at h
 refine ⟨by simpa using mapM_some_length h,λj v hv=>?_⟩
 have hj:j<n:=by
  have h1:=(List.getElem?_eq_some_iff.1 hv).1;have h2:=mapM_some_length h
  simp at h2
  omega
 have:=mapM_some_get h j j (by rw [List.getElem?_range hj])
 rw [this];exact hv
theorem p_9 {w:World}{a:Addr}{v:Value}(h:w.cell? a=some v):a.spot=none:=by
 unfold World.cell? at h
 split at h
 .cases hs:a.spot with
  | none=>rfl
  | some x=>rw [hs] at h;simp at h
 .cases h
theorem k_x {α:Type}(Q:Nat->α->Prop):∀(len:Nat),(∀i,i<len->∃v,Q i v)->∃l:List α,l.length=len/\∀(i:Nat)(x:α),l[i]? = some x->Q i x
 | 0,_=>⟨[],rfl,λi x h=>by simp at h⟩
 | n+1,h=>by
  obtain ⟨l,hl,hq⟩:=k_x Q n<|λi hi=>h i (by omega);obtain ⟨v,hv⟩:=h n (by omega);refine ⟨l++[v],by simp [hl],λi x hx=>?_⟩
  by_cases hi:i<l.length
  .rw [List.getElem?_append_left hi] at hx;exact hq i x hx
  .rw [List.getElem?_append_right (by omega)] at hx
   have h1:=(List.getElem?_eq_some_iff.1 hx).1
   simp only [List.length_cons,List.length_nil] at h1
   have h2:i=n:=by omega
   subst h2
   rw [show i - l.length=0 by omega] at hx
   simp at hx
   exact hx ▸ hv
theorem p_a {α:Type}[Dat α]{L:α->Prop}{e:TypeId}(ht:P.underlying t=some (.slice e))(he:IsT P e α L)(hc:P.cellsOf e=sz α)(hb:1<=P.bytesOf e):IsT P t (List α) (λl=>l.length<=LEN/\∀x∈l,L x):=⟨λenc W fuel cs x h hw=>by
 have hr:reachBytes=140737488351232:=rfl;have hL:LEN=140737488355328:=rfl
 rcases DataW.trod_slice ht h with ⟨rfl,rfl⟩ | ⟨a,len,cap,elems,rest,n,_,rfl,rfl,_,hlc,_,hlen,hel,hsp,_⟩
 .exact ⟨[],⟨_,rfl,none,0,rfl,Nat.le_refl _,Nat.zero_le _,λ_=>rfl,λp hp=>by cases hp⟩,by simp,λx hx=>by cases hx⟩
 .obtain ⟨hrl,_⟩:=hsp rfl
  have hw':(elems.length+rest.length) * P.bytesOf e<=reachBytes/\(DataW.weightsAll P e<|elems.map (·.1)).all (· <= reachBytes)=true:=by
   unfold DataW.weights at hw
   rw [ht] at hw
   simp only [List.all_cons,List.all_append,Bool.and_eq_true,decide_eq_true_eq,List.length_map] at hw
   exact ⟨hw.1,hw.2.1⟩
  have hcap:cap<=LEN:=by
   have h1:elems.length+rest.length<=(elems.length+rest.length) * P.bytesOf e:=Nat.le_mul_of_pos_right _ hb
   omega
  have hone:∀i:Nat,i<len->∃v:α,a.spot=none/\a.block<W.heap.size/\(∃cs,u_ W a.block (a.off+i * sz α) cs/\rep W W.heap.size cs v)/\L v:=by
   intro i hi;have h1:=hel i hi;have hie:i<elems.length:=by omega
   rw [List.getElem?_eq_getElem hie] at h1
   cases hcs:W.cells? 0 (a.add<|i * P.cellsOf e) (P.cellsOf e) with
   | none=>rw [hcs] at h1;cases h1
   | some cs =>
    rw [hcs] at h1
    simp only [Option.bind_some] at h1
    obtain ⟨v,hv,hl⟩:=he.rd enc W n cs _ h1<|m_9 hw'.2<|List.mem_map_of_mem<|List.getElem_mem hie;obtain ⟨J,O⟩:=cells?_spec hcs;have hpos:0<cs.length:=by rw [J,hc];exact Dat.pos
    have hsp:a.spot=none:=by
     have G:=hel 0 (by omega)
     rw [List.getElem?_eq_getElem (show 0<elems.length by omega)] at G
     cases H:W.cells? 0 (a.add<|0 * P.cellsOf e) (P.cellsOf e) with
     | none=>rw [H] at G;cases G
     | some I =>
      obtain ⟨V,Y⟩:=cells?_spec H;have hpos0:0<I.length:=by rw [V,hc];exact Dat.pos
      have:=Y 0 I[0] (by rw [List.getElem?_eq_getElem hpos0]);have:=p_9 this
      simpa [Addr.add] using this
    have ha:a=⟨a.block,a.off,none⟩:=by cases a;simp only at hsp;rw [hsp]
    have hcells:u_ W a.block (a.off+i * sz α) cs:=by
     intro j u hu;have:=O j u hu
     rw [ha,Addr.add_lit,Addr.add_lit,hc] at this
     exact this
    exact ⟨v,hsp,hcells.lt (by intro h;rw [h] at hpos;cases hpos),⟨cs,hcells,hv⟩,hl⟩
  obtain ⟨l,hll,hq⟩:=k_x _ len hone;refine ⟨l,⟨_,rfl,some a,cap,by rw [hll],by omega,by omega,λh=>(by cases h),λp hp=>?_⟩,by omega,λx hx=>?_⟩
  .obtain rfl:=Option.some.inj hp;refine ⟨λhne=>?_,λhne=>?_,λi x hx=>(hq i x hx).2.2.1⟩
   .cases l with
    | nil=>exact absurd rfl hne
    | cons y l=>exact (hq 0 y rfl).1
   .cases l with
    | nil=>exact absurd rfl hne
    | cons y l=>exact (hq 0 y rfl).2.1
  .obtain ⟨i,hi⟩:=List.getElem?_of_mem hx
   exact (hq i x hi).2.2.2⟩
structure OkW (P:Program)(W:World)(base:Nat)(t:TypeId)(v:Value):Prop where
 h:Value.okWide P W .any base t v
structure OkWs (P:Program)(W:World)(base:Nat)(ts:Array TypeId)(vs:Array Value):Prop where
 h:∀(j:Nat) t v,ts[j]? = some t->vs[j]? = some v->Value.okWide P W .any base t v
theorem OkWs.at {W:World}{base:Nat}{ts:Array TypeId}{vs:Array Value}(h:OkWs P W base ts vs)(j:Nat)(t:TypeId)(v:Value)(h1:ts[j]? = some t)(h2:vs[j]? = some v):OkW P W base t v:=⟨h.h j t v h1 h2⟩
theorem p_b {W:World}{base:Nat}{t:TypeId}{v:Value}{e:TypeId}(ht:P.underlying t=some (.slice e))(h:OkW P W base t v):∃a n c,v = .slice a n c:=okWide_slice ht h.h
theorem m_b {H:Type}{enc:TypeId×Value->H}(hl:laidOutB P=true){W W':World}(hb:Below W.heap.size W W'):∀(ts:List TypeId)(vs:List Value)(ds:List (DataW H))(ps:List MemPlace),(∀t∈ts,P.readableRec t=true/\t<P.types.size) ->
  DataW.TrodAll enc P W 0 (λ_=>true) true ts vs ds ps->(∀x∈ps,x.block<W.heap.size)->∀(sp:Nat->Bool),(∀b,b<W.heap.size->sp b=true)->DataW.TrodAll enc P W' 0 sp true ts vs ds ps
 | [],[],[],_,_,h,_,_,_=>h
 | t::ts,v::vs,d::ds,ps,hr,h,hlt,sp,hsp=>by
  obtain ⟨p,q,h1,h2,rfl⟩:=h;refine ⟨p,q,?_,m_b hl hb ts vs ds q (λt ht=>hr t<|List.mem_cons_of_mem _ ht) h2 (λx hx=>hlt x<|List.mem_append_right _ hx) sp hsp,rfl⟩;have hlp:∀x∈p,x.block<W.heap.size:=λx hx=>hlt x<|List.mem_append_left _ hx
  exact WideElems.Trod_stays hl (hr t List.mem_cons_self).1 (hr t List.mem_cons_self).2 h1 (λx hx=>hb.same<|hlp x hx) (λx hx=>hsp _<|hlp x hx)
 | [],_::_,_,_,_,h,_,_,_=>by cases h
 | [],[],_::_,_,_,h,_,_,_=>by cases h
 | _::_,[],_,_,_,h,_,_,_=>by cases h
 | _::_,_::_,[],_,_,h,_,_,_=>by cases h
theorem p_c {H:Type}{enc:TypeId×Value->H}{f:Func}{s:ChangeSpec}{apart fresh handsOn again:Bool}{W W':World}{args:Array Value}{ds gs:List (DataW H)}{before:List MemPlace}{tb:TypeId}(hl:laidOutB P=true)(hread:∀t∈f.params.toList,P.readableRec t=true/\t<P.types.size)
  (hb:Below W.heap.size W W') (hW:DataW.Whole enc P f.params.toList s.vars apart W args.toList ds gs before) (hres:f.resultTypes = #[tb]) (htb:P.underlying tb=some .bool) (hvars:s.vars=[]) (hfn:s.fn H (ds++gs)={ results:=[.lit (.bool true)],args:=ds }) :
  s.post enc P f apart fresh handsOn again W args (.bool true) W':=by
 have hlt:∀x∈before,x.block<W.heap.size:=λp hp=>hW.lt p hp
 have hW':=hW;obtain ⟨p,q,hA,hV,rfl,hz,hn⟩:=hW
 rw [hvars] at hV
 obtain ⟨rfl,rfl⟩:=trodVars_none hV;have hA':=λsp hsp=>m_b hl hb _ _ _ _ hread hA (λx hx=>hlt x (by simpa using hx)) sp hsp
 have hr:∀(b:Nat)(sp:Nat->Bool)(hd:Bool),DataW.TrodAll enc P W' b sp hd f.resultTypes.toList ((Value.bool true).resultList f.resultTypes.size) (s.fn H<|ds++[]).results []:=λb sp hd=>by
  rw [hfn,hres];exact trodAll_cons_mk (shut_bool htb _) trodAll_mk0
 have hvs:∀sp:Nat->Bool,DataW.TrodVars enc P W' sp s.vars (s.fn H<|ds++[]).vars []:=λsp=>by rw [hfn,hvars];rfl
 refine ⟨ds,[],p++[],[],p,[],hW',hr _ _ _,by rw [hfn];exact hA' _ (λb hb=>by simpa using hb),hvs _,hb.frame _,λ_=>⟨?_,([.lit (.bool true)]:List (DataW H))++ds,[],([]++p)++[],⟨[]++p,[],?_,?_,rfl,?_,?_⟩,?_⟩⟩
 .exact ok_one hres rfl<|okWide_bool_mk htb _
 .have h1:=hr 0 (λ_=>true) true
  rw [hfn] at h1
  exact trodAll_append (hA' _<|λ_ _=>rfl) h1
 .rw [hvars];rfl
 .intro b off hp;have hp':MemPlace.cell b off∈p++[]:=by simpa using hp
  have:=hlt _ hp'
  rw [hb.frozen (p:=⟨b,off,none⟩) this]
  exact hz b off hp'
 .intro ha;have:=hn ha;simpa using this
 .intro x hx _;simpa using hx
end
end Go.Vw
namespace Go.Vw
open Go.RowKit Dat
theorem r_s {x y:Int}(h1 : -9223372036854775808<=x+y)(h2:x+y<=9223372036854775807):h_ x y=x+y:=by
 unfold h_;rw [IntKind.wrap_i64];omega
theorem a_C {x y:Int}(h1 : -9223372036854775808<=x - y)(h2:x - y<=9223372036854775807):j_ x y=x - y:=by
 unfold j_;rw [IntKind.wrap_i64];omega
theorem e_3 {x y:Int}(h1 : -9223372036854775808<=x * y)(h2:x * y<=9223372036854775807):a_5 x y=x * y:=by
 unfold a_5;rw [IntKind.wrap_i64];omega
theorem n_C {x y:Int}(G:0<=x)(hx:x<=9223372036854775807)(hy:0<y):c_l x y=x / y:=by
 unfold c_l
 rw [Int.tdiv_eq_ediv_of_nonneg G,IntKind.wrap_i64]
 have h1:=Int.ediv_nonneg G<|Int.le_of_lt hy;have h2:=Int.ediv_le_self y G
 omega
theorem j_V {x y:Int}(G:0<=x):b_q x y=x % y:=by
 unfold b_q;exact Int.tmod_eq_emod_of_nonneg G
theorem r_t {a b:UInt8}:byteI a=byteI b ↔ a=b:=by
 unfold byteI
 constructor
 .intro h;have:a.toNat=b.toNat:=by omega
  exact UInt8.toNat_inj.1 this
 .rintro rfl;rfl
section
variable {α:Type}
theorem l_2 {l:List α}{k:Nat}(h:k<l.length):idx l (k:Int)=some l[k]:=by rw [o_E];simp [h]
theorem f_2 {l:List α}{i:Int}(G:0<=i)(h:i.toNat<l.length):idx l i=some l[i.toNat]:=by
 unfold idx;rw [if_pos G];simp [h]
theorem a_h {l:List α}(h:0<l.length):idx l 0=some l[0]:=l_2 (k:=0) h
theorem e_4 {l:List α}(h:1<l.length):idx l 1=some l[1]:=l_2 (k:=1) h
theorem g_f {l:List α}{a b:Int}(G:0<=a)(h1:a<=b)(h2:b<=l.length):slc l a b=some ((l.take b.toNat).drop a.toNat):=by
 unfold slc;rw [if_pos ⟨G,h1,h2⟩]
theorem Y_ {l:List α}{x:α}(h:l.length<LIM):psh l x=some (l++[x]):=by unfold psh;rw [if_pos h]
theorem a_T {l m:List α}(h:l.length+m.length<=LIM):app l m=some (l++m):=by unfold app;rw [if_pos h]
theorem i_p {s t:Str}(h:s.b.length+t.b.length<=LIM):cat s t=some ⟨s.b++t.b⟩:=by unfold cat;rw [if_pos h]
theorem n_D {l:List α}{k:Nat}{x:α}(h:k<l.length):upd l (k:Int) x=some (l.set k x):=by
 unfold upd;rw [if_pos ⟨by omega,by omega⟩];rfl
theorem n_E {l:List α}{i:Int}{x:α}(G:0<=i)(h:i<l.length):upd l i x=some (l.set i.toNat x):=by
 unfold upd;rw [if_pos ⟨G,h⟩]
theorem n_F {z:α}{n:Nat}(h:n<=LIM):mk0 z (n:Int)=some (List.replicate n z):=by
 unfold mk0;rw [if_pos ⟨by omega,by omega⟩];simp
theorem j_W {z:α}{n:Int}(G:0<=n)(h:n<=LIM):mk0 z n=some (List.replicate n.toNat z):=by
 unfold mk0;rw [if_pos ⟨G,h⟩]
end
section
variable {σ ρ:Type}
theorem n_G {body:Nat->σ->Option (Out σ ρ)}(st:Nat->σ):∀n k,(∀j,k<=j->j<k+n->body j (st j)=some (.next<|st<|j+1))->y_ body n k (st k)=some (.inl<|st<|k+n)
 | 0,k,_=>rfl
 | n+1,k,h=>by
  have h1:=h k (Nat.le_refl _) (by omega);have h2:=n_G st n (k+1)<|λj a b=>h j (by omega) (by omega);unfold y_
  rw [h1]
  simp only
  rw [h2,show k+1+n=k+(n+1) by omega]
theorem d_w {body:Nat->σ->Option (Out σ ρ)}(st:Nat->σ){n:Nat}(h:∀j,j<n->body j (st j)=some (.next<|st<|j+1)):y_ body n 0 (st 0)=some (.inl<|st n):=by
 have:=n_G st n 0<|λj _ b=>h j (by omega)
 simpa using this
theorem forN_ret' {body:Nat->σ->Option (Out σ ρ)}(st:Nat->σ){r:ρ}:∀n k j0,k<=j0->j0<k+n->(∀j,k<=j->j<j0->body j (st j)=some (.next<|st<|j+1))->body j0 (st j0)=some (.ret r)->y_ body n k (st k)=some (.inr r)
 | 0,k,j0,a,b,_,_=>by omega
 | n+1,k,j0,a,b,h,hr=>by
  unfold y_
  by_cases hk:k=j0
  .subst hk;rw [hr]
  .rw [h k (Nat.le_refl _) (by omega)]
   exact forN_ret' st n (k+1) j0 (by omega) (by omega) (λj c d=>h j (by omega) d) hr
theorem n_H {body:Nat->σ->Option (Out σ ρ)}(st:Nat->σ){r:ρ}{n j0:Nat}(G:j0<n)(h:∀j,j<j0->body j (st j)=some (.next<|st<|j+1))(hr:body j0 (st j0)=some (.ret r)):y_ body n 0 (st 0)=some (.inr r) :=
 forN_ret' st n 0 j0 (by omega) (by omega) (λj _ b=>h j b) hr
theorem i_q {body:Nat->Unit->Option (Out Unit ρ)}{n:Nat}(p:Nat->Bool)(r:Nat->ρ)(h:∀k,k<n->(∀j,j<k->p j=false)->body k ()=some (if p k then .ret (r k) else .next ())) :
  y_ body n 0 ()=some (match (List.range n).find? p with | some k=>.inr (r k) | none=>.inl ()):=by
 cases hf:(List.range n).find? p with
 | none =>
  have hn:∀k,k<n->p k=false:=λk hk=>by
   have:=List.find?_eq_none.1 hf k<|List.mem_range.2 hk
   simpa using this
  exact d_w (λ_=>()) (λj hj=>by rw [h j hj (λi hi=>hn i (by omega)),hn j hj];rfl)
 | some k =>
  obtain ⟨hp,as,bs,hl,has⟩:=List.find?_eq_some_iff_append.1 hf
  have hk:as.length<n/\as.length=k:=by
   have h1:as.length<(List.range n).length:=by rw [hl];simp
   simp at h1
   refine ⟨h1,?_⟩;have h2:(List.range n)[as.length]? = some k:=by rw [hl];simp
   rw [List.getElem?_range h1] at h2
   exact Option.some.inj h2
  obtain ⟨h1,rfl⟩:=hk
  have hb:∀j,j<as.length->p j=false:=λj hj=>by
   have h2:(List.range n)[j]? = some (as[j]):=by rw [hl,List.getElem?_append_left hj];simp
   rw [List.getElem?_range (by omega)] at h2
   have h3:=has as[j] (List.getElem_mem hj)
   rw [← Option.some.inj h2] at h3
   simpa using h3
  exact n_H (λ_=>()) h1 (λj hj=>by rw [h j (by omega) (λi hi=>hb i (by omega)),hb j hj];rfl) (by rw [h _ h1 hb,if_pos hp])
theorem r_u {α:Type}(l:List α)(p:α->Bool)(q:Nat->Bool)(h:∀k (hk:k<l.length),q k=p l[k]):(List.range l.length).any q=l.any p:=by
 rw [Bool.eq_iff_iff]
 simp only [List.any_eq_true,List.mem_range]
 constructor
 .rintro ⟨k,hk,hq⟩;exact ⟨l[k],List.getElem_mem hk,by rw [← h k hk];exact hq⟩
 .rintro ⟨x,hx,hp⟩;obtain ⟨k,hk,rfl⟩:=List.getElem_of_mem hx;exact ⟨k,hk,by rw [h k hk];exact hp⟩
theorem f_3 {body:Nat->Unit->Option (Out Unit ρ)}{n:Nat}(p:Nat->Bool)(r:ρ)(h:∀k,k<n->(∀j,j<k->p j=false)->body k ()=some (if p k then .ret r else .next ())) :
  y_ body n 0 ()=some (if (List.range n).any p then .inr r else .inl ()):=by
 rw [i_q p (λ_=>r) h]
 cases hf:(List.range n).find? p with
 | none =>
  have:(List.range n).any p=false:=by
   rw [List.any_eq_false];exact λx hx=>by simpa using List.find?_eq_none.1 hf x hx
  rw [this];rfl
 | some k =>
  have:(List.range n).any p=true:=List.any_eq_true.2 ⟨k,List.mem_of_find?_eq_some hf,List.find?_some hf⟩
  rw [this];rfl
theorem f_4 {α:Type}{body:Nat->Unit->Option (Out Unit ρ)}{l:List α}(p:α->Bool)(r:ρ)(h:∀k (hk:k<l.length),body k ()=some (if p l[k] then .ret r else .next ())) :
  y_ body l.length 0 ()=some (if l.any p then .inr r else .inl ()):=by
 rw [f_3 (λk=>if hk:k<l.length then p l[k] else false) r (λk hk _=>by rw [dif_pos hk];exact h k hk)]
 rw [r_u l p _ (λk hk=>by rw [dif_pos hk])]
theorem iter_brk' {step:σ->Option (Out σ ρ)}(st:Nat->σ){s:σ}:∀m k j0,k<=j0->j0<k+m->(∀j,k<=j->j<j0->step (st j)=some (.next<|st<|j+1))->step (st j0)=some (.brk s)->M_ step m (st k)=some (.inl s)
 | 0,k,j0,a,b,_,_=>by omega
 | m+1,k,j0,a,b,h,hr=>by
  unfold M_
  by_cases hk:k=j0
  .subst hk;rw [hr]
  .rw [h k (Nat.le_refl _) (by omega)]
   exact iter_brk' st m (k+1) j0 (by omega) (by omega) (λj c d=>h j (by omega) d) hr
theorem r_v {step:σ->Option (Out σ ρ)}(st:Nat->σ){s:σ}{m j0:Nat}(G:j0<m)(h:∀j,j<j0->step (st j)=some (.next<|st<|j+1))(hr:step (st j0)=some (.brk s)):M_ step m (st 0)=some (.inl s) :=
 iter_brk' st m 0 j0 (by omega) (by omega) (λj _ b=>h j b) hr
theorem iter_ret' {step:σ->Option (Out σ ρ)}(st:Nat->σ){r:ρ}:∀m k j0,k<=j0->j0<k+m->(∀j,k<=j->j<j0->step (st j)=some (.next<|st<|j+1))->step (st j0)=some (.ret r)->M_ step m (st k)=some (.inr r)
 | 0,k,j0,a,b,_,_=>by omega
 | m+1,k,j0,a,b,h,hr=>by
  unfold M_
  by_cases hk:k=j0
  .subst hk;rw [hr]
  .rw [h k (Nat.le_refl _) (by omega)]
   exact iter_ret' st m (k+1) j0 (by omega) (by omega) (λj c d=>h j (by omega) d) hr
theorem r_w {step:σ->Option (Out σ ρ)}(st:Nat->σ){r:ρ}{m j0:Nat}(G:j0<m)(h:∀j,j<j0->step (st j)=some (.next<|st<|j+1))(hr:step (st j0)=some (.ret r)):M_ step m (st 0)=some (.inr r) :=
 iter_ret' st m 0 j0 (by omega) (by omega) (λj _ b=>h j b) hr
end
theorem n_I {s:Str}{p:Nat}(h:p<s.b.length)(ha:s.b[p].toNat<128):dec s p=((s.b[p].toNat:Int),1):=by
 have hq:p<(⟨s.b.toArray⟩:ByteArray).size:=by simpa [ByteArray.size] using h
 have hb:(⟨s.b.toArray⟩:ByteArray)[p]'hq=s.b[p]:=rfl;unfold dec
 rw [decode_ascii _ p hq (by rw [hb];exact ha),hb]
theorem r_x {s:Str}{p:Nat}(h:p<s.b.length)(ha:128<=s.b[p].toNat):128<=(dec s p).1:=by
 have hq:p<(⟨s.b.toArray⟩:ByteArray).size:=by simpa [ByteArray.size] using h
 have hb:(⟨s.b.toArray⟩:ByteArray)[p]'hq=s.b[p]:=rfl;unfold dec;have:=(decode_high _ p hq (by rw [hb];exact ha)).1
 simp only
 omega
abbrev bF_:=@Bool.false_eq_true
abbrev dT_:=@decide_eq_true
abbrev dF_:=@decide_eq_false
abbrev bQ_:=@beq_self_eq_true
abbrev mT_:=@List.mem_cons_of_mem
abbrev mS_:=@List.mem_cons_self
abbrev gE_:=@List.getElem_mem
abbrev oI_:=@Option.some.injEq
abbrev gG_:=@List.getElem?_eq_getElem
abbrev gD_:=@List.getD_eq_getElem?_getD
abbrev aE_:=@Bool.and_eq_true
abbrev dE_:=@decide_eq_true_eq
abbrev tN_:=@Int.toNat_natCast
abbrev gS_:=@List.getElem?_eq_some_iff
abbrev iP_:=@if_pos
abbrev iN_:=@if_neg
abbrev fF_:=@if_false
abbrev fT_:=@if_true
abbrev gN_:=@List.getElem?_eq_none
abbrev nT_:=@Bool.not_true
abbrev ix_:=@l_2
abbrev ia_:=@r_s
abbrev lC_:=@List.length_cons
abbrev bN_:=@bne_self_eq_false
abbrev dC_:=@List.drop_eq_getElem_cons
end Go.Vw
