import Derived.Test.YtjdphpimefbinaaGreatDoorV0
import Derived.Carry
import Derived.Deep.DeepHandedRow
import Derived.WalkKit
import Derived.ProofKit
import Derived.OpenShut
import Derived.Laws.RangeAny
set_option linter.unusedVariables false
namespace Go.Vw
def k_C (x1:Bt)(x2:Int):Option Int :=
 if (decide<|(W_ x2 (x1.length:Int))<0) then some (-1) else some (W_ x2 (x1.length:Int))
def h_O (x1:List Str)(x2:Int):Option Int :=
 if (decide<|(W_ x2 (x1.length:Int))<0) then some (-1) else bd (v_ (σ:=Int) (ρ:=Int) (λI=>(λG=>bd (idx x1 (I:Int)) λH=>if (decide<|(W_ G (H.b.length:Int))<0) then some (.ret (-1)) else some (.next<|W_ G (H.b.length:Int)))) x1.length 0<|W_ x2 (x1.length:Int)) (el (λG=>some G)<|λJ=>some J)
def h_P (x1:List Int)(x2:Int):Option Int :=
 if (decide<|(W_ x2 (x1.length:Int))<0) then some (-1) else some (W_ x2 (x1.length:Int))
def g_l (x1:b_)(x2:Int):Option Int :=
 if (decide<|(W_ x2 (x1.name.b.length:Int))<0) then some (-1) else bd (k_C x1.bytes<|W_ x2 (x1.name.b.length:Int)) λG=>if (decide<|G<0) then some (-1) else bd (h_O x1.names G) λH=>if (decide<|H<0) then some (-1) else bd (h_P x1.tags H) λI=>if (decide<|I<0) then some (-1) else bd (h_P x1.kids I) λJ=>if (decide<|J<0) then some (-1) else some J
def k_D (x1:List b_)(x2:Int):Option Int :=
 if (decide<|(W_ x2 (x1.length:Int))<0) then some (-1) else bd (v_ (σ:=Int) (ρ:=Int) (λI=>(λG=>bd (idx x1 (I:Int)) λJ=>bd (g_l J G) λH=>if (decide<|H<0) then some (.ret (-1)) else some (.next H))) x1.length 0<|W_ x2 (x1.length:Int)) (el (λG=>some G)<|λL=>some L)
def h_Q (x1:c_)(x2:Int):Option Int :=
 bd (k_D x1.rules x2) λG=>if (decide<|G<0) then some (-1) else some G
def e_b (x1:Bt):Option Bt :=
 bd (mk0 (0:UInt8) (x1.length:Int)) λI=>bd (v_ (σ:=Bt) (ρ:=Bt) (λH=>(λG=>bd (idx x1 (H:Int)) λJ=>bd (upd G (H:Int) J) λL=>some<|.next L)) x1.length 0 I)<|el (λG=>some G)<|λO=>some O
def h_R (x1:List Str):Option (List Str) :=
 bd (mk0 (⟨[]⟩:Str) (x1.length:Int)) λI=>bd (v_ (σ:=List Str) (ρ:=List Str) (λH=>(λG=>bd (idx x1 (H:Int)) λJ=>bd (upd G (H:Int) J) λL=>some<|.next L)) x1.length 0 I)<|el (λG=>some G)<|λO=>some O
def g_m (x1:List Int):Option (List Int) :=
 bd (mk0 0 (x1.length:Int)) λI=>bd (v_ (σ:=List Int) (ρ:=List Int) (λH=>(λG=>bd (idx x1 (H:Int)) λJ=>bd (upd G (H:Int) J) λL=>some<|.next L)) x1.length 0 I)<|el (λG=>some G)<|λO=>some O
def h_S (x1:b_):Option b_ :=
 bd (e_b x1.bytes) λG=>bd (h_R x1.names) λH=>bd (g_m x1.tags) λI=>bd (g_m x1.kids) λJ=>some (⟨x1.name,x1.kind,x1.size,x1.little,G,H,I,J⟩:b_)
def k_E (x1:List b_):Option (List b_) :=
 bd (mk0 (⟨(⟨[]⟩:Str),0,0,false,([]:Bt),([]:List Str),([]:List Int),([]:List Int)⟩:b_) (x1.length:Int)) λI=>bd (v_ (σ:=List b_) (ρ:=List b_) (λH=>(λG=>bd (idx x1 (H:Int)) λJ=>bd (h_S J) λL=>bd (upd G (H:Int) L) λO=>some<|.next O)) x1.length 0 I)<|el (λG=>some G)<|λV=>some V
def e_J (x1:c_):Option c_ :=
 bd (k_E x1.rules) λG=>some (⟨G⟩:c_)
def h_T (n:Nat)(x1:Str)(x2:UInt8):Option (List Str) :=
 bd (a_d (σ:=(List Str)×Int×Int) (ρ:=List Str) (un3 λH I G=>if (decide<|G<=(x1.b.length:Int)) then bd (α:=Bool) (if (G==(x1.b.length:Int)) then some true else bd (idx x1.b G) λJ=>some<|(byteI J)==(byteI x2)) (λL=>bd (α:=(List Str)×Int) (if L then bd (b_u x1 I G) λO=>bd (psh H O) λV=>some (V,h_ G 1) else some (H,I))<|un2 λW Y=>some<|.next (W,Y,h_ G 1)) else some (.brk (H,I,G))) n (([]:List Str),0,0)) (el (un3 λH I G=>some H)<|λa0=>some a0)
def a_U (x1:Int)(x2:Int)(x3:Int):Option Bool :=
 bd (α:=Bool) (if (decide<|x2<=x1) then some (decide<|x1<=x3) else some false) (λG=>some G)
def f_s (x1:Str):Option Bool :=
 bd (v_ (σ:=Unit) (ρ:=Bool) (λk10=>(λ(_:Unit)=>bd (α:=Bool) (bd (idx x1.b (k10:Int)) λG=>if (decide<|(byteI (97:UInt8))<=(byteI G)) then bd (idx x1.b (k10:Int)) λH=>some (decide<|(byteI H)<=(byteI (122:UInt8))) else some false) (λI=>bd (α:=Bool) (bd (idx x1.b (k10:Int)) λJ=>if (decide<|(byteI (48:UInt8))<=(byteI J)) then bd (idx x1.b (k10:Int)) λL=>some (decide<|(byteI L)<=(byteI (57:UInt8))) else some false) (λO=>bd (α:=Bool) (if (!I) then if (!O) then some true else some ((k10:Int)==0) else some false) (λV=>if V then some (.ret false) else some (.next ())))))) x1.b.length 0 ()) (el (λ(_:Unit)=>bd (a_U (x1.b.length:Int) 1 12) λW=>some W)<|λY=>some Y)
def c_0 (n:Nat)(x1:Int):Option Str :=
 if (x1==0) then some (⟨[48]⟩:Str) else bd (a_d (σ:=Str×Int) (ρ:=Str) (un2 λH G=>if (G != 0) then bd (α:=Int) (if (decide<|(a_S G 10)<0) then some (f_Y<|a_S G 10) else some (a_S G 10)) (λI=>bd (cat (⟨[mkB (h_ 48 I)]⟩:Str) H) λJ=>some<|.next (J,c_k G 10)) else some (.brk (H,G))) n ((⟨[]⟩:Str),x1)) (el (un2 λH G=>if (decide<|x1<0) then bd (cat (⟨[45]⟩:Str) H) λL=>some L else some H)<|λO=>some O)
def h_U (n:Nat)(x1:Str):Option (Int×Bool) :=
 bd (a_U (x1.b.length:Int) 1 13) λI=>if (!I) then some (0,false) else bd (v_ (σ:=Int) (ρ:=Int×Bool) (λH=>(λG=>bd (idx x1.b (H:Int)) λJ=>bd (a_U (byteI J) 48 57) λL=>if (!L) then some (.ret (0,false)) else bd (idx x1.b (H:Int)) λO=>some<|.next<|h_ (b_x 10 G)<|byteI<|mkB<|byteI O - byteI (48:UInt8))) x1.b.length 0 0) (el (λG=>bd (α:=Bool) (if (decide<|1000000000000<G) then some true else bd (c_0 n G) λV=>some<|V.b != x1.b) (λW=>if W then some (0,false) else some (G,true)))<|λY=>some Y)
def f_t (n:Nat)(x1:Str):Option Bool :=
 bd (α:=Bool) (bd (f_s x1) λG=>if G then some true else if (x1.b==(⟨[42]⟩:Str).b) then some true else if (x1.b==(⟨[63]⟩:Str).b) then some true else some (x1.b==(⟨[43]⟩:Str).b)) (λH=>if H then some true else bd2 (h_U n x1) λI J=>bd (α:=Bool) (if J then bd (c_0 n I) λL=>some (L.b==x1.b) else some false)<|λO=>some O)
def h_V (n:Nat)(x1:Str):Option ((List Str)×Bool) :=
 if (x1.b==(⟨[]⟩:Str).b) then some (([]:List Str),true) else bd (h_T n x1 (47:UInt8)) λG=>bd (idx G 0) λI=>if (I.b != (⟨[]⟩:Str).b) then some (([]:List Str),false) else bd (a_d (σ:=Int) (ρ:=(List Str)×Bool) (λH=>if (decide<|H<(G.length:Int)) then bd (idx G H) λJ=>bd (f_t n J) λL=>if (!L) then some (.ret (([]:List Str),false)) else some (.next<|h_ H 1) else some (.brk H)) n 1) (el (λH=>bd (slc G 1 (G.length:Int)) λO=>some (O,decide<|1<(G.length:Int)))<|λV=>some V)
def c_E (x1:b_)(x2:Bool)(x3:Bool)(x4:Bool)(x5:Bool)(x6:Int):Option Bool :=
 bd (α:=Bool) (bd (α:=Bool) (if x2 then some true else some (x1.size==0)) λG=>bd (α:=Bool) (if G then if x3 then some true else some ((x1.bytes.length:Int)==0) else some false) λH=>bd (α:=Bool) (if H then if x4 then some true else some ((x1.names.length:Int)==0) else some false) λI=>bd (α:=Bool) (if I then if x5 then some true else some ((x1.tags.length:Int)==0) else some false) λJ=>bd (α:=Bool) (if J then if (decide<|x6<0) then some true else some ((x1.kids.length:Int)==x6) else some false) λL=>if L then if (!x1.little) then some true else some (x1.kind==1) else some false) (λO=>some O)
def e_K (x1:Int):Option Int :=
 bd (nn<|b_x 8 x1) λG=>some<|b_V .i64 1<|b_x 8 x1
def e_c (x1:c_)(x2:Int):Option Int :=
 bd (α:=Bool) (bd (a_U x2 0<|W_ (x1.rules.length:Int) 1) λG=>if (!G) then some true else bd (idx x1.rules x2) λH=>if (H.kind != 1) then some true else bd (idx x1.rules x2) λI=>bd (a_U I.size 1 4) λJ=>some (!J)) (λL=>if L then some (-1) else bd (idx x1.rules x2) λO=>bd (e_K O.size) λV=>some<|W_ V 1)
def h_W (x1:List Str)(x2:Str):Option Bool :=
 bd (v_ (σ:=Unit) (ρ:=Bool) (λk10=>(λ(_:Unit)=>bd (idx x1 (k10:Int)) λG=>if (G.b==x2.b) then some (.ret true) else some (.next ()))) x1.length 0 ()) (el (λ(_:Unit)=>some false)<|λH=>some H)
def h_X (x1:List Str):Option Bool :=
 bd (v_ (σ:=Unit) (ρ:=Bool) (λk10=>(λ(_:Unit)=>bd (α:=Bool) (bd (idx x1 (k10:Int)) λG=>bd (f_s G) λH=>if (!H) then some true else bd (slc x1 0 (k10:Int)) λI=>bd (idx x1 (k10:Int)) λJ=>bd (h_W I J) λL=>some L) (λO=>if O then some (.ret false) else some (.next ())))) x1.length 0 ()) (el (λ(_:Unit)=>bd (a_U (x1.length:Int) 1 8) λV=>some V)<|λW=>some W)
def h_Y (x1:c_)(x2:b_):Option Bool :=
 bd (α:=Bool) (if ((x2.kids.length:Int) != (h_ (x2.tags.length:Int) 1)) then some true else bd (a_U (x2.tags.length:Int) 1 8) λG=>some (!G)) (λH=>if H then some false else bd (v_ (σ:=Unit) (ρ:=Bool) (λk10=>(λ(_:Unit)=>bd (α:=Bool) (bd (idx x2.tags (k10:Int)) λI=>bd (idx x2.kids 0) λJ=>bd (e_c x1 J) λL=>bd (a_U I 0 L) λO=>if (!O) then some true else if (decide<|0<(k10:Int)) then bd (idx x2.tags<|W_ (k10:Int) 1) λV=>bd (idx x2.tags (k10:Int)) λW=>some (decide<|W<=V) else some false) (λY=>if Y then some (.ret false) else some (.next ())))) x2.tags.length 0 ()) (el (λ(_:Unit)=>some true)<|λa0=>some a0))
def h_Z (x1:c_)(x2:b_):Option Bool :=
 if (x2.kind==1) then bd (α:=Bool) (bd (c_E x2 true false false false 0) λG=>if G then bd (a_U x2.size 1 4) λH=>if H then if (!x2.little) then some true else some (decide<|1<x2.size) else some false else some false) (λI=>some I) else if (x2.kind==2) then bd (α:=Bool) (bd (c_E x2 false true false false 0) λJ=>if J then bd (a_U (x2.bytes.length:Int) 1 16) λL=>some L else some false) (λO=>some O) else if (x2.kind==3) then bd (α:=Bool) (bd (c_E x2 true false false false 0) λV=>if V then bd (a_U x2.size 1 64) λW=>some W else some false) (λY=>some Y) else if (x2.kind==4) then bd (α:=Bool) (bd (c_E x2 false false false false 1) λa0=>if a0 then bd (idx x2.kids 0) λa1=>bd (e_c x1 a1) λa2=>some (decide<|0<a2) else some false) (λa3=>some a3) else if (x2.kind==5) then bd (α:=Bool) (bd (c_E x2 false false false false 2) λa4=>if a4 then bd (idx x2.kids 0) λa5=>bd (e_c x1 a5) λa6=>some (decide<|0<a6) else some false) (λa7=>some a7) else if (x2.kind==6) then bd (α:=Bool) (bd (c_E x2 false false true false (x2.names.length:Int)) λa8=>if a8 then bd (h_X x2.names) λa9=>some a9 else some false) (λaa=>some aa) else if (x2.kind==7) then bd (α:=Bool) (bd (c_E x2 false false false true (-1)) λab=>if ab then bd (h_Y x1 x2) λad=>some ad else some false) (λae=>some ae) else bd (α:=Bool) (if (x2.kind==8) then some (x2.kind==8) else some (x2.kind==9)) (λaf=>if af then bd (c_E x2 false false false false 1) λah=>some ah else if (x2.kind==10) then bd (α:=Bool) (bd (c_E x2 false true false false 0) λai=>if ai then if ((x2.bytes.length:Int)==1) then bd (idx x2.bytes 0) λaj=>some ((byteI aj) != (byteI (92:UInt8))) else some false else some false) (λak=>some ak) else some false)
def i_0 (x1:c_)(x2:Int):Option Bool :=
 bd (a_U x2 0<|W_ (x1.rules.length:Int) 1) λH=>if (!H) then some false else bd (idx x1.rules x2) λG=>bd (v_ (σ:=Unit) (ρ:=Bool) (λI=>(λ(_:Unit)=>bd (idx x1.rules (I:Int)) λJ=>if (J.name.b==G.name.b) then some (.ret false) else some (.next ()))) x2.toNat 0 ()) (el (λ(_:Unit)=>bd (v_ (σ:=Unit) (ρ:=Bool) (λL=>(λ(_:Unit)=>bd (idx G.kids (L:Int)) λO=>bd (a_U O 0<|W_ x2 1) λV=>if (!V) then some (.ret false) else some (.next ()))) G.kids.length 0 ()) (el (λ(_:Unit)=>bd (α:=Bool) (bd (f_s G.name) λW=>if W then bd (h_Z x1 G) λY=>some Y else some false)<|λa0=>some a0)<|λa1=>some a1))<|λa2=>some a2)
def g_n (x1:c_):Option Bool :=
 bd (v_ (σ:=Unit) (ρ:=Bool) (λk10=>(λ(_:Unit)=>bd (i_0 x1 (k10:Int)) λG=>if (!G) then some (.ret false) else some (.next ()))) x1.rules.length 0 ()) (el (λ(_:Unit)=>bd (a_U (x1.rules.length:Int) 1 24) λH=>some H)<|λI=>some I)
def e_d (x1:c_):Option Int :=
 some (W_ (x1.rules.length:Int) 1)
def i_1 (x1:Bt)(x2:Bool):Option Int :=
 if (decide<|4<(x1.length:Int)) then some 0 else bd (v_ (σ:=Int) (ρ:=Int) (λH=>(λG=>bd (α:=Int) (if x2 then some (W_ (W_ (x1.length:Int) 1) (H:Int)) else some (H:Int))<|λI=>bd (idx x1 I) λJ=>some<|.next<|h_ (b_x G 256)<|byteI J)) x1.length 0 0) (el (λG=>some G)<|λL=>some L)
def c_F (x1:c_)(x2:Int)(x3:Bt)(x4:Int):Option (Int×Int×Bool) :=
 bd (idx x1.rules x2) λG=>if (decide<|(W_ (x3.length:Int) x4)<G.size) then some (0,x4,false) else bd (slc x3 x4<|h_ x4 G.size) λH=>bd (i_1 H G.little) λI=>some (I,h_ x4 G.size,true)
def b_g (x1:b_)(x2:Int)(x3:Int):Option Int :=
 if (x1.kind==5) then bd (idx x1.kids 1) λG=>some G else bd (α:=Sum Unit Int) (if (x1.kind==6) then if (decide<|x3<(x1.kids.length:Int)) then bd (idx x1.kids x3) λH=>some (.inr H) else some (.inl ()) else bd (α:=Sum Unit<|Sum Unit Int) (if (x1.kind==7) then bd (v_ (σ:=Unit) (ρ:=Int) (λk10=>(λ(_:Unit)=>bd (idx x1.tags (k10:Int)) λI=>if (I==x2) then bd (idx x1.kids ((k10+1:Nat):Int)) λJ=>some (.ret J) else some (.next ()))) x1.tags.length 0 ()) (el (λ(_:Unit)=>some<|.inl ())<|λL=>some<|.inr<|.inr L) else bd (α:=Bool) (if (x1.kind==8) then some (x1.kind==8) else some (x1.kind==9)) (λO=>if O then bd (idx x1.kids 0) λV=>some (.inr<|.inr V) else some (.inl ()))) (el (λ(_:Unit)=>some<|.inl ()) some)) (el (λ(_:Unit)=>some (-1)) some)
def e_e (x1:c_)(x2:b_)(x3:Bt)(x4:Int):Option (Int×Int×Int) :=
 if (x2.kind==6) then some (x4,(x2.kids.length:Int),0) else if (x2.kind==9) then some (x4,1,0) else bd (α:=Sum Unit<|Int×Int×Int) (if (x2.kind==8) then bd (α:=Bool) (if (decide<|x4<(x3.length:Int)) then bd (idx x3 x4) λI=>some ((byteI I)==(byteI (1:UInt8))) else some false) (λJ=>if J then some (.inr (h_ x4 1,1,0)) else some (.inl ())) else bd (α:=Bool) (if (x2.kind==5) then some (x2.kind==5) else some (x2.kind==7)) (λL=>bd (α:=Sum Unit<|Sum Unit<|Int×Int×Int) (if L then bd (idx x2.kids 0) λO=>bd3 (c_F x1 O x3 x4) λG H V=>bd (α:=Sum Unit<|Sum Unit<|Sum Unit<|Int×Int×Int) (if (!V) then some (.inl ()) else bd (α:=Bool) (if (x2.kind==5) then some (decide<|G<=40) else some false) (λW=>if W then some (.inr<|.inr<|.inr (H,G,0)) else bd (α:=Bool) (if (x2.kind==7) then bd (b_g x2 G 0) λY=>some (decide<|0<=Y) else some false) (λa0=>if a0 then some (.inr<|.inr<|.inr (H,1,G)) else some (.inl ())))) (el (λ(_:Unit)=>some<|.inl ()) some) else some (.inl ()))<|el (λ(_:Unit)=>some<|.inl ()) some)) (el (λ(_:Unit)=>some (x4,(-1),0)) some)
def e_f (n:Nat)(x1:b_)(x2:Int):Option Str :=
 if (x1.kind==5) then bd (c_0 n x2) λG=>some G else bd (α:=Bool) (if (x1.kind==6) then some (decide<|x2<(x1.names.length:Int)) else some false) (λH=>if H then bd (idx x1.names x2) λI=>some I else bd (α:=Bool) (if (x1.kind==7) then some (x2==0) else some false) (λJ=>if J then some (⟨[42]⟩:Str) else bd (α:=Bool) (if (x1.kind==8) then some (x2==0) else some false) (λL=>if L then some (⟨[63]⟩:Str) else bd (α:=Bool) (if (x1.kind==9) then some (x2==0) else some false) (λO=>if O then some (⟨[43]⟩:Str) else some (⟨[]⟩:Str)))))
def i_2 (x1:b_)(x2:Bt)(x3:Int):Option (Val×Int×Int) :=
 bd (v_ (σ:=Unit) (ρ:=Val×Int×Int) (λk10=>(λ(_:Unit)=>if (decide<|(x2.length:Int)<=(h_ x3 (k10:Int))) then some (.ret ((⟨0,([]:Bt),([]:List Val)⟩:Val),x3,1)) else bd (idx x2<|h_ x3 (k10:Int)) λG=>bd (idx x1.bytes (k10:Int)) λH=>if ((byteI G) != (byteI H)) then some (.ret ((⟨0,([]:Bt),([]:List Val)⟩:Val),h_ x3 (k10:Int),2)) else some (.next ()))) x1.bytes.length 0 ()) (el (λ(_:Unit)=>some ((⟨0,([]:Bt),([]:List Val)⟩:Val),h_ x3 (x1.bytes.length:Int),0))<|λI=>some I)
def g_o (x1:Bt)(x2:Int)(x3:Int):Option (Val×Int×Int) :=
 if (decide<|(W_ (x1.length:Int) x2)<x3) then some ((⟨0,([]:Bt),([]:List Val)⟩:Val),x2,1) else bd (slc x1 x2<|h_ x2 x3) λG=>bd (app ([]:Bt) G) λH=>some ((⟨0,H,([]:List Val)⟩:Val),h_ x2 x3,0)
def i_3 (n:Nat)(x1:Bt)(x2:Int)(x3:UInt8):Option (Bt×Int×Bool) :=
 bd (a_d (σ:=Bt×Int) (ρ:=Bt×Int×Bool) (un2 λH G=>bd (α:=Bool) (bd (a_U x2 0 (x1.length:Int)) λJ=>if J then some (decide<|G<(x1.length:Int)) else some false) (λL=>if L then bd (idx x1 G) λO=>if ((byteI O)==(byteI x3)) then some (.ret (H,h_ G 1,true)) else bd (idx x1 G) λV=>bd (α:=Sum Int<|Out (Bt×Int)<|Bt×Int×Bool) (if ((byteI V)==(byteI (92:UInt8))) then if ((h_ G 1)==(x1.length:Int)) then some (.inr<|.brk (H,h_ G 1)) else some (.inl<|h_ G 1) else some (.inl G)) (el (λI=>bd (idx x1 I) λW=>bd (psh H W) λY=>some<|.next (Y,h_ I 1)) some) else some (.brk (H,G)))) n (([]:Bt),x2)) (el (un2 λH G=>some (([]:Bt),x2,false))<|λa0=>some a0)
def i_4 (x1:Bt):Option Int :=
 bd (v_ (σ:=Int) (ρ:=Int) (λH=>(λG=>bd (idx x1 (H:Int)) λI=>some<|.next<|a_S (h_ G<|byteI I) 256)) x1.length 0 0) (el (λG=>some G)<|λJ=>some J)
structure g_p where
 spec_l11Read:c_->Int->Bt->Int->Option (Val×Int×Int)
 spec_l11Items:c_->b_->Int->Int->Bt->Int->Option (Val×Int×Int)
 spec_l11Choice:c_->b_->Bt->Int->Option (Val×Int×Int)
 spec_l11Option:c_->b_->Bt->Int->Option (Val×Int×Int)
 spec_l11Checked:c_->b_->Bt->Int->Option (Val×Int×Int)
def i_5 (n:Nat)(rec:g_p)(x1:c_)(x2:Int)(x3:Bt)(x4:Int):Option (Val×Int×Int) :=
 bd (idx x1.rules x2) λG=>if (G.kind==1) then bd3 (c_F x1 x2 x3 x4) λJ L O=>if (!O) then some ((⟨0,([]:Bt),([]:List Val)⟩:Val),x4,1) else some ((⟨J,([]:Bt),([]:List Val)⟩:Val),L,0) else if (G.kind==2) then bd3 (i_2 G x3 x4) λV W Y=>some (V,W,Y) else if (G.kind==3) then bd3 (g_o x3 x4 G.size) λa0 a1 a2=>some (a0,a1,a2) else if (G.kind==10) then bd (idx G.bytes 0) λa3=>bd3 (i_3 n x3 x4 a3) λa4 a5 a6=>if (!a6) then some ((⟨0,([]:Bt),([]:List Val)⟩:Val),x4,1) else some ((⟨0,a4,([]:List Val)⟩:Val),a5,0) else if (G.kind==6) then bd3 (rec.spec_l11Items x1 G 0 (G.kids.length:Int) x3 x4) λa7 a8 a9=>some (a7,a8,a9) else if (G.kind==7) then bd3 (rec.spec_l11Choice x1 G x3 x4) λaa ab ad=>some (aa,ab,ad) else if (G.kind==8) then bd3 (rec.spec_l11Option x1 G x3 x4) λae af ah=>some (ae,af,ah) else if (G.kind==9) then bd3 (rec.spec_l11Checked x1 G x3 x4) λai aj ak=>some (ai,aj,ak) else bd (idx G.kids 0) λal=>bd3 (c_F x1 al x3 x4) λH I am=>if (!am) then some ((⟨0,([]:Bt),([]:List Val)⟩:Val),x4,1) else if (G.kind==4) then bd3 (g_o x3 I H) λan ao ap=>some (an,ao,ap) else if (decide<|40<H) then some ((⟨0,([]:Bt),([]:List Val)⟩:Val),x4,6) else bd3 (rec.spec_l11Items x1 G 0 H x3 I) λaq ar au=>some (aq,ar,au)
def i_6 (n:Nat)(rec:g_p)(x1:c_)(x2:b_)(x3:Int)(x4:Int)(x5:Bt)(x6:Int):Option (Val×Int×Int) :=
 bd (v_ (σ:=Int×(List Val)) (ρ:=Val×Int×Int) (λO=>un2 λG H=>bd (α:=Int×Bt×(List Val)×Int×Int) (bd (b_g x2 x3 (O:Int)) λV=>bd3 (rec.spec_l11Read x1 V x5 G) λI W Y=>some (I.number,I.bytes,I.items,W,Y)) (un5 λa0 a1 a2 J L=>if (L != 0) then some (.ret ((⟨0,([]:Bt),([]:List Val)⟩:Val),J,L)) else bd (psh H (⟨a0,a1,a2⟩:Val)) λa3=>some<|.next (J,a3))) x4.toNat 0 (x6,([]:List Val))) (el (un2 λG H=>some ((⟨0,([]:Bt),H⟩:Val),G,0))<|λa4=>some a4)
def i_7 (n:Nat)(rec:g_p)(x1:c_)(x2:b_)(x3:Bt)(x4:Int):Option (Val×Int×Int) :=
 bd (idx x2.kids 0) λJ=>bd3 (c_F x1 J x3 x4) λG L O=>if (!O) then some ((⟨0,([]:Bt),([]:List Val)⟩:Val),x4,1) else bd (b_g x2 G 0) λV=>if (decide<|V<0) then some ((⟨0,([]:Bt),([]:List Val)⟩:Val),x4,3) else bd3 (rec.spec_l11Items x1 x2 G 1 x3 L) λH W I=>bd (α:=Int) (if (I==0) then some G else some H.number)<|λY=>some ((⟨Y,H.bytes,H.items⟩:Val),W,I)
def i_8 (n:Nat)(rec:g_p)(x1:c_)(x2:b_)(x3:Bt)(x4:Int):Option (Val×Int×Int) :=
 if (decide<|(x3.length:Int)<=x4) then some ((⟨0,([]:Bt),([]:List Val)⟩:Val),x4,1) else bd (idx x3 x4) λG=>if (decide<|(byteI (1:UInt8))<(byteI G)) then some ((⟨0,([]:Bt),([]:List Val)⟩:Val),x4,4) else bd (idx x3 x4) λH=>bd3 (rec.spec_l11Items x1 x2 0 (byteI H) x3<|h_ x4 1) λI J L=>some (I,J,L)
def i_9 (n:Nat)(rec:g_p)(x1:c_)(x2:b_)(x3:Bt)(x4:Int):Option (Val×Int×Int) :=
 bd3 (rec.spec_l11Items x1 x2 0 1 x3 x4) λH G I=>if (I != 0) then some (H,G,I) else if (decide<|(x3.length:Int)<=G) then some ((⟨0,([]:Bt),([]:List Val)⟩:Val),G,1) else bd (idx x3 G) λJ=>bd (slc x3 x4 G) λL=>bd (i_4 L) λO=>if ((byteI J) != O) then some ((⟨0,([]:Bt),([]:List Val)⟩:Val),G,5) else some (H,h_ G 1,0)
def a_s:Nat->g_p
 | 0=>⟨λ_ _ _ _=>none,λ_ _ _ _ _ _=>none,λ_ _ _ _=>none,λ_ _ _ _=>none,λ_ _ _ _=>none⟩
 | n+1=>⟨i_5 n<|a_s n,i_6 n<|a_s n,i_7 n<|a_s n,i_8 n<|a_s n,i_9 n<|a_s n⟩
def c_Q (n:Nat):=(a_s n).spec_l11Read
def f_u (n:Nat):=(a_s n).spec_l11Items
def c_R (n:Nat)(x1:c_)(x2:Int)(x3:Bt)(x4:Int)(x5:Str):Option (Int×Int×Bool) :=
 bd (idx x1.rules x2) λG=>bd3 (e_e x1 G x3 x4) λL O V=>bd (v_ (σ:=Int) (ρ:=Int×Int×Bool) (λI=>(λH=>bd (b_g G V (I:Int)) λJ=>bd (e_f n G (I:Int)) λW=>if (W.b==x5.b) then some (.ret (J,H,true)) else bd3 (c_Q n x1 J x3 H) λa2 Y a0=>if (a0 != 0) then some (.ret (0,0,false)) else some (.next Y))) O.toNat 0 L)<|el (λH=>some (0,0,false))<|λa1=>some a1
def e_L (n:Nat)(x1:c_)(x2:Bt)(x3:Str):Option (k_×Bool) :=
 bd2 (h_V n x3) λI J=>bd (α:=Bool) (if (!J) then some true else bd (g_n x1) λL=>if (!L) then some true else some (decide<|400<(x2.length:Int))) (λO=>if O then some ((⟨(⟨[]⟩:Str),0,0,0⟩:k_),false) else bd (e_d x1) λV=>bd (v_ (σ:=Int×Int) (ρ:=k_×Bool) (λW=>un2 λG H=>bd (idx I (W:Int)) λY=>bd3 (c_R n x1 G x2 H Y) λa0 a1 a2=>if (!a2) then some (.ret ((⟨(⟨[]⟩:Str),0,0,0⟩:k_),false)) else some (.next (a0,a1))) I.length 0 (V,0)) (el (un2 λG H=>bd3 (c_Q n x1 G x2 H) λa6 a3 a4=>if (a4 != 0) then some ((⟨(⟨[]⟩:Str),0,0,0⟩:k_),false) else some ((⟨x3,G,H,a3⟩:k_),true))<|λa5=>some a5))
def g_q (x1:c_)(x2:Int):Option Bool :=
 bd (α:=Bool) (bd (a_U x2 0<|W_ (x1.rules.length:Int) 1) λG=>if G then bd (g_n x1) λH=>some H else some false) (λI=>some I)
def i_a (n:Nat)(x1:c_)(x2:Int)(x3:Bt)(x4:Int):Option (Val×Int×Int) :=
 bd (α:=Bool) (bd (g_q x1 x2) λG=>if (!G) then some true else bd (a_U x4 0 (x3.length:Int)) λH=>if (!H) then some true else some (decide<|400<(x3.length:Int))) (λI=>if I then some ((⟨0,([]:Bt),([]:List Val)⟩:Val),0,8) else bd3 (c_Q n x1 x2 x3 x4) λJ L O=>some (J,L,O))
def g_r (n:Nat)(x1:c_)(x2:Bt):Option (Val×Int×Int) :=
 bd (α:=Int×Bt×(List Val)×Int×Int) (bd (e_d x1) λJ=>bd3 (i_a n x1 J x2 0) λG L O=>some (G.number,G.bytes,G.items,L,O)) (un5 λV W Y H I=>bd (α:=Bool) (if (I==0) then some (decide<|H<(x2.length:Int)) else some false) (λa0=>if a0 then some ((⟨0,([]:Bt),([]:List Val)⟩:Val),H,7) else some ((⟨V,W,Y⟩:Val),H,I)))
def i_b (n:Nat)(x1:c_)(x2:Bt):Option Bool :=
 bd3 (g_r n x1 x2) λH I G=>some<|G==0
def g_s (x1:Str)(x2:UInt8):Option (List Str) :=
 bd (v_ (σ:=(List Str)×Int) (ρ:=List Str) (λI=>un2 λG H=>bd (idx x1.b (I:Int)) λJ=>bd (α:=(List Str)×Int) (if ((byteI J)==(byteI x2)) then bd (b_u x1 H (I:Int)) λL=>bd (psh G L) λO=>some (O,((I+1:Nat):Int)) else some (G,H))<|un2 λV W=>some<|.next (V,W)) x1.b.length 0 (([]:List Str),0)) (el (un2 λG H=>bd (b_u x1 H (x1.b.length:Int)) λY=>bd (psh G Y) λa0=>some a0)<|λa1=>some a1)
def e_M (n:Nat)(x1:Str):Option Bool :=
 bd (α:=Bool) (if (decide<|(x1.b.length:Int)<1) then some true else some (decide<|12<(x1.b.length:Int))) (λH=>if H then some false else bd (a_d (σ:=Nat) (ρ:=Bool) (λG=>if (decide<|G<x1.b.length) then bd (α:=Bool) (if (decide<|97<=((dec x1 G).1)) then some (decide<|((dec x1 G).1)<=122) else some false) (λI=>bd (α:=Bool) (if (decide<|48<=((dec x1 G).1)) then some (decide<|((dec x1 G).1)<=57) else some false) (λJ=>bd (α:=Bool) (if (!I) then if (!J) then some true else some ((G:Int)==0) else some false) (λL=>if L then some (.ret false) else some (.next<|G+(dec x1 G).2)))) else some (.brk G)) n 0) (el (λG=>some true)<|λO=>some O))
def g_t (x1:Str):Option (Int×Bool) :=
 bd (α:=Bool) (if (x1.b==(⟨[]⟩:Str).b) then some true else if (decide<|13<(x1.b.length:Int)) then some true else bd (idx x1.b 0) λI=>if ((byteI I)==(byteI (48:UInt8))) then some (decide<|1<(x1.b.length:Int)) else some false) (λJ=>if J then some (0,false) else bd (v_ (σ:=Int) (ρ:=Int×Bool) (λH=>(λG=>bd (α:=Bool) (bd (idx x1.b (H:Int)) λL=>if (decide<|(byteI L)<(byteI (48:UInt8))) then some true else bd (idx x1.b (H:Int)) λO=>some<|decide<|(byteI (57:UInt8))<(byteI O)) (λV=>if V then some (.ret (0,false)) else bd (idx x1.b (H:Int)) λW=>some<|.next<|h_ (b_x 10 G)<|byteI<|mkB<|byteI W - byteI (48:UInt8)))) x1.b.length 0 0) (el (λG=>if (decide<|1000000000000<G) then some (0,false) else some (G,true))<|λY=>some Y))
def f_v (n:Nat)(x1:Str):Option Bool :=
 bd (α:=Bool) (bd (e_M n x1) λG=>if G then some true else if (x1.b==(⟨[42]⟩:Str).b) then some true else if (x1.b==(⟨[63]⟩:Str).b) then some true else some (x1.b==(⟨[43]⟩:Str).b)) (λH=>if H then some true else bd2 (g_t x1) λJ I=>some I)
def k_F (n:Nat)(x1:Str):Option ((List Str)×Bool) :=
 if (x1.b==(⟨[]⟩:Str).b) then some ([],true) else bd (idx x1.b 0) λc=>if (byteI c != byteI (47:UInt8)) then some ([],false) else bd (g_s x1 (47:UInt8)) λl=>bd (slc l 1 (l.length:Int)) λparts=>bd (c_C (f_v n) parts) λoks=>if parts.length<LIM then some (if oks.all id then (parts,true) else ([],false)) else none
def i_c (n:Nat)(x1:Str):Option ((List Str)×Bool) :=
 bd2 (k_F n x1) λG H=>some (G,H)
def c_1 (x1:Int)(x2:Int)(x3:Int):Option Bool :=
 bd (α:=Bool) (if (decide<|x2<=x1) then some (decide<|x1<=x3) else some false) (λG=>some G)
def c_S (x1:c_)(x2:Int):Option Bool :=
 bd (α:=Bool) (if (decide<|0<=x2) then some (decide<|x2<(x1.rules.length:Int)) else some false) (λG=>some G)
def c_G (x1:b_)(x2:Bool)(x3:Bool)(x4:Bool)(x5:Bool)(x6:Int):Option Bool :=
 bd (α:=Bool) (bd (α:=Bool) (if x2 then some true else some (x1.size==0)) λG=>bd (α:=Bool) (if G then if x3 then some true else some ((x1.bytes.length:Int)==0) else some false) λH=>bd (α:=Bool) (if H then if x4 then some true else some ((x1.names.length:Int)==0) else some false) λI=>bd (α:=Bool) (if I then if x5 then some true else some ((x1.tags.length:Int)==0) else some false) λJ=>if J then if (decide<|x6<0) then some true else some ((x1.kids.length:Int)==x6) else some false) (λL=>some L)
def d_c (x1:c_)(x2:Int):Option Int :=
 bd (α:=Bool) (bd (c_S x1 x2) λH=>if (!H) then some true else bd (idx x1.rules x2) λI=>if (I.kind != 1) then some true else bd (idx x1.rules x2) λJ=>bd (c_1 J.size 1 4) λL=>some (!L)) (λO=>if O then some (-1) else bd (idx x1.rules x2) λG=>bd (nn<|b_x 8 G.size) λV=>some<|W_ (b_V .i64 1<|b_x 8 G.size) 1)
def f_w (x1:List Str)(x2:Str):Option Bool :=
 bd (v_ (σ:=Unit) (ρ:=Bool) (λk10=>(λ(_:Unit)=>bd (idx x1 (k10:Int)) λG=>if (G.b==x2.b) then some (.ret true) else some (.next ()))) x1.length 0 ()) (el (λ(_:Unit)=>some false)<|λH=>some H)
def i_d (n:Nat)(x1:b_):Option Bool :=
 bd (α:=Bool) (bd (c_G x1 false false true false (-1)) λH=>if (!H) then some true else if ((x1.kids.length:Int) != (x1.names.length:Int)) then some true else bd (c_1 (x1.kids.length:Int) 1 8) λI=>some (!I)) (λJ=>if J then some false else bd (v_ (σ:=Unit) (ρ:=Bool) (λk10=>(λ(_:Unit)=>bd (idx x1.names (k10:Int)) λG=>bd (α:=Bool) (bd (e_M n G) λL=>if (!L) then some true else bd (slc x1.names 0 (k10:Int)) λO=>bd (f_w O G) λV=>some V) (λW=>if W then some (.ret false) else some (.next ())))) x1.names.length 0 ()) (el (λ(_:Unit)=>some true)<|λY=>some Y))
def i_e (x1:c_)(x2:b_):Option Bool :=
 bd (α:=Bool) (bd (c_G x2 false false false true<|h_ (x2.tags.length:Int) 1) λI=>if (!I) then some true else bd (c_1 (x2.tags.length:Int) 1 8) λJ=>some (!J)) (λL=>if L then some false else bd (idx x2.kids 0) λO=>bd (d_c x1 O) λG=>bd (v_ (σ:=Unit) (ρ:=Bool) (λk10=>(λ(_:Unit)=>bd (idx x2.tags (k10:Int)) λH=>bd (α:=Bool) (bd (c_1 H 0 G) λV=>if (!V) then some true else if (decide<|0<(k10:Int)) then bd (idx x2.tags<|W_ (k10:Int) 1) λW=>some (decide<|H<=W) else some false) (λY=>if Y then some (.ret false) else some (.next ())))) x2.tags.length 0 ())<|el (λ(_:Unit)=>some<|decide<|0<G)<|λa0=>some a0)
def i_f (n:Nat)(x1:c_)(x2:b_):Option Bool :=
 if (x2.kind==1) then bd (α:=Bool) (bd (c_G x2 true false false false 0) λG=>if G then bd (c_1 x2.size 1 4) λH=>if H then if (!x2.little) then some true else some (decide<|1<x2.size) else some false else some false) (λI=>some I) else if (x2.kind==2) then bd (α:=Bool) (bd (c_G x2 false true false false 0) λJ=>if J then bd (c_1 (x2.bytes.length:Int) 1 16) λL=>some L else some false) (λO=>some O) else if (x2.kind==3) then bd (α:=Bool) (bd (c_G x2 true false false false 0) λV=>if V then bd (c_1 x2.size 1 64) λW=>some W else some false) (λY=>some Y) else if (x2.kind==4) then bd (α:=Bool) (bd (c_G x2 false false false false 1) λa0=>if a0 then bd (idx x2.kids 0) λa1=>bd (d_c x1 a1) λa2=>some (decide<|0<a2) else some false) (λa3=>some a3) else if (x2.kind==5) then bd (α:=Bool) (bd (c_G x2 false false false false 2) λa4=>if a4 then bd (idx x2.kids 0) λa5=>bd (d_c x1 a5) λa6=>some (decide<|0<a6) else some false) (λa7=>some a7) else if (x2.kind==6) then bd (i_d n x2) λa8=>some a8 else if (x2.kind==7) then bd (i_e x1 x2) λa9=>some a9 else bd (α:=Bool) (if (x2.kind==8) then some (x2.kind==8) else some (x2.kind==9)) (λaa=>if aa then bd (c_G x2 false false false false 1) λab=>some ab else if (x2.kind==10) then bd (α:=Bool) (bd (c_G x2 false true false false 0) λad=>if ad then if ((x2.bytes.length:Int)==1) then bd (idx x2.bytes 0) λae=>some ((byteI ae) != (byteI (92:UInt8))) else some false else some false) (λaf=>some af) else some false)
def i_g (n:Nat)(x1:c_)(x2:Int):Option Bool :=
 bd (c_S x1 x2) λJ=>if (!J) then some false else bd (idx x1.rules x2) λG=>bd (α:=Bool) (bd (e_M n G.name) λL=>if (!L) then some true else if G.little then some (G.kind != 1) else some false) (λO=>if O then some false else bd (slc x1.rules 0 x2) λH=>bd (v_ (σ:=Unit) (ρ:=Bool) (λV=>(λ(_:Unit)=>bd (idx H (V:Int)) λW=>if (W.name.b==G.name.b) then some (.ret false) else some (.next ()))) H.length 0 ()) (el (λ(_:Unit)=>bd (v_ (σ:=Unit) (ρ:=Bool) (λY=>(λ(_:Unit)=>bd (idx G.kids (Y:Int)) λI=>bd (α:=Bool) (if (decide<|I<0) then some true else some (decide<|x2<=I)) (λa0=>if a0 then some (.ret false) else some (.next ())))) G.kids.length 0 ())<|el (λ(_:Unit)=>bd (i_f n x1 G) λa1=>some a1)<|λa2=>some a2)<|λa3=>some a3))
def g_u (n:Nat)(x1:c_):Option Bool :=
 bd (c_1 (x1.rules.length:Int) 1 24) λG=>if (!G) then some false else bd (v_ (σ:=Unit) (ρ:=Bool) (λH=>(λ(_:Unit)=>bd (i_g n x1 (H:Int)) λI=>if (!I) then some (.ret false) else some (.next ()))) x1.rules.length 0 ()) (el (λ(_:Unit)=>some true)<|λJ=>some J)
def d_H (x1:c_):Option Int :=
 some (W_ (x1.rules.length:Int) 1)
def e_N (n:Nat)(x1:c_)(x2:Int):Option Bool :=
 bd (α:=Bool) (bd (g_u n x1) λG=>if G then bd (c_S x1 x2) λH=>some H else some false) (λI=>some I)
def e_g (x1:a_b)(x2:Int)(x3:Int):Option K_ :=
 if (decide<|(W_ (x1.b.length:Int) x2)<x3) then some (⟨x2,1⟩:K_) else some (⟨h_ x2 x3,0⟩:K_)
def e_h (x1:Bt)(x2:Bool):Option Int :=
 if (decide<|4<(x1.length:Int)) then some 0 else bd (v_ (σ:=Int) (ρ:=Int) (λH=>(λG=>bd (α:=Int) (if x2 then bd (idx x1<|W_ (W_ (x1.length:Int) 1) (H:Int)) λI=>some (c_7 .i64 (· ||| ·) (b_V .i64 G 8)<|byteI I) else bd (idx x1 (H:Int)) λJ=>some<|c_7 .i64 (· ||| ·) (b_V .i64 G 8)<|byteI J)<|λL=>some<|.next L)) x1.length 0 0) (el (λG=>some G)<|λO=>some O)
def e_O (x1:a_b)(x2:Int)(x3:Int):Option (Int×K_×Int) :=
 bd (idx x1.d.rules x2) λH=>bd (e_g (⟨(⟨x1.d.rules⟩:c_),x1.b,h_ x1.applied 1⟩:a_b) x3 H.size) λG=>if (G.code != 0) then some (0,G,h_ x1.applied 1) else bd (slc x1.b x3 G.at_) λI=>bd (e_h I H.little) λJ=>some (J,G,h_ x1.applied 1)
def i_h (x1:a_b)(x2:b_)(x3:Int):Option K_ :=
 bd (v_ (σ:=Unit) (ρ:=K_) (λk10=>(λ(_:Unit)=>bd (idx x2.bytes (k10:Int)) λG=>if ((h_ x3 (k10:Int))==(x1.b.length:Int)) then some (.ret (⟨x3,1⟩:K_)) else bd (idx x1.b<|h_ x3 (k10:Int)) λH=>if ((byteI H) != (byteI G)) then some (.ret (⟨h_ x3 (k10:Int),2⟩:K_)) else some (.next ()))) x2.bytes.length 0 ()) (el (λ(_:Unit)=>some (⟨h_ x3 (x2.bytes.length:Int),0⟩:K_))<|λI=>some I)
def g_v (x1:Bt):Option Int :=
 bd (v_ (σ:=Int) (ρ:=Int) (λH=>(λG=>bd (idx x1 (H:Int)) λI=>some<|.next<|h_ G<|byteI I)) x1.length 0 0) (el (λG=>some<|a_S G 256)<|λJ=>some J)
def g_w (n:Nat)(x1:Bt)(x2:Int)(x3:UInt8):Option (Bt×Int×Bool) :=
 bd (α:=Bool) (if (decide<|x2<0) then some true else some (decide<|(x1.length:Int)<x2)) (λJ=>if J then some (([]:Bt),x2,false) else bd (a_d (σ:=Bt×Int) (ρ:=Bt×Int×Bool) (un2 λH G=>if (decide<|G<(x1.length:Int)) then bd (idx x1 G) λL=>if ((byteI L)==(byteI x3)) then some (.ret (H,h_ G 1,true)) else bd (idx x1 G) λO=>bd (α:=Sum Int<|Out (Bt×Int)<|Bt×Int×Bool) (if ((byteI O)==(byteI (92:UInt8))) then if ((h_ G 1)==(x1.length:Int)) then some (.inr<|.brk (H,h_ G 1)) else some (.inl<|h_ G 1) else some (.inl G)) (el (λI=>bd (idx x1 I) λV=>bd (psh H V) λW=>some<|.next (W,h_ I 1)) some) else some (.brk (H,G))) n (([]:Bt),x2)) (el (un2 λH G=>some (([]:Bt),x2,false))<|λY=>some Y))
structure g_x where
 impl_checker_value:a_b->Int->Int->Option (K_×Int)
 impl_checker_array:a_b->b_->Int->Option (K_×Int)
 impl_checker_choice:a_b->b_->Int->Option (K_×Int)
 impl_checker_option:a_b->b_->Int->Option (K_×Int)
 impl_checker_checked:a_b->b_->Int->Option (K_×Int)
def i_i (n:Nat)(rec:g_x)(x1:a_b)(x2:Int)(x3:Int):Option (K_×Int) :=
 bd (idx x1.d.rules x2) λG=>if (G.kind==1) then bd3 (e_O x1 x2 x3) λam Y a0=>some (Y,a0) else if (G.kind==2) then bd (i_h (⟨(⟨x1.d.rules⟩:c_),x1.b,h_ x1.applied 1⟩:a_b) G x3) λa1=>some (a1,h_ x1.applied 1) else if (G.kind==3) then bd (e_g (⟨(⟨x1.d.rules⟩:c_),x1.b,h_ x1.applied 1⟩:a_b) x3 G.size) λa2=>some (a2,h_ x1.applied 1) else if (G.kind==4) then bd (idx G.kids 0) λa3=>bd3 (e_O (⟨(⟨x1.d.rules⟩:c_),x1.b,h_ x1.applied 1⟩:a_b) a3 x3) λa4 I J=>if (I.code != 0) then some (I,J) else bd (e_g (⟨(⟨x1.d.rules⟩:c_),x1.b,J⟩:a_b) I.at_ a4) λa5=>some (a5,J) else if (G.kind==5) then bd2 (rec.impl_checker_array (⟨(⟨x1.d.rules⟩:c_),x1.b,h_ x1.applied 1⟩:a_b) G x3) λa6 a7=>some (a6,a7) else if (G.kind==6) then bd (v_ (σ:=Int×Int×Int) (ρ:=K_×Int) (λa8=>un3 λL O V=>bd (idx G.kids (a8:Int)) λa9=>bd2 (rec.impl_checker_value (⟨(⟨x1.d.rules⟩:c_),x1.b,L⟩:a_b) a9 O) λH W=>if (H.code != 0) then some (.brk (W,H.at_,H.code)) else some (.next (W,H.at_,H.code))) G.kids.length 0 (h_ x1.applied 1,x3,0)) (el (un3 λL O V=>some ((⟨O,V⟩:K_),L))<|λaa=>some aa) else if (G.kind==7) then bd2 (rec.impl_checker_choice (⟨(⟨x1.d.rules⟩:c_),x1.b,h_ x1.applied 1⟩:a_b) G x3) λab ad=>some (ab,ad) else if (G.kind==8) then bd2 (rec.impl_checker_option (⟨(⟨x1.d.rules⟩:c_),x1.b,h_ x1.applied 1⟩:a_b) G x3) λae af=>some (ae,af) else if (G.kind==9) then bd2 (rec.impl_checker_checked (⟨(⟨x1.d.rules⟩:c_),x1.b,h_ x1.applied 1⟩:a_b) G x3) λah ai=>some (ah,ai) else bd (idx G.bytes 0) λaj=>bd3 (g_w n x1.b x3 aj) λan ak al=>if (!al) then some ((⟨x3,1⟩:K_),h_ x1.applied 1) else some ((⟨ak,0⟩:K_),h_ x1.applied 1)
def i_j (n:Nat)(rec:g_x)(x1:a_b)(x2:b_)(x3:Int):Option (K_×Int) :=
 bd (idx x2.kids 0) λY=>bd3 (e_O x1 Y x3) λO L V=>bd (α:=Bool) (if (L.code==0) then some (decide<|40<O) else some false) (λa0=>if a0 then some ((⟨x3,6⟩:K_),V) else bd (a_d (σ:=Int×Int×Int×Int) (ρ:=K_×Int) (un4 λG H I J=>bd (α:=Bool) (if (decide<|0<G) then some (J==0) else some false) (λa1=>if a1 then bd (idx x2.kids 1) λa2=>bd2 (rec.impl_checker_value (⟨(⟨x1.d.rules⟩:c_),x1.b,H⟩:a_b) a2 I) λW a3=>some (.next (W_ G 1,a3,W.at_,W.code)) else some (.brk (G,H,I,J)))) n (O,V,L.at_,L.code)) (el (un4 λG H I J=>some ((⟨I,J⟩:K_),H))<|λa4=>some a4))
def i_k (n:Nat)(rec:g_x)(x1:a_b)(x2:b_)(x3:Int):Option (K_×Int) :=
 bd (idx x2.kids 0) λJ=>bd3 (e_O x1 J x3) λL G H=>if (G.code != 0) then some (G,H) else bd (v_ (σ:=Unit) (ρ:=K_×Int) (λI=>(λ(_:Unit)=>bd (idx x2.tags (I:Int)) λO=>if (O==L) then bd (idx x2.kids ((I+1:Nat):Int)) λV=>bd2 (rec.impl_checker_value (⟨(⟨x1.d.rules⟩:c_),x1.b,H⟩:a_b) V G.at_) λW Y=>some (.ret (W,Y)) else some (.next ()))) x2.tags.length 0 ()) (el (λ(_:Unit)=>some ((⟨x3,3⟩:K_),H))<|λa0=>some a0)
def i_l (n:Nat)(rec:g_x)(x1:a_b)(x2:b_)(x3:Int):Option (K_×Int) :=
 bd (e_g x1 x3 1) λG=>bd (α:=Bool) (if (G.code != 0) then some true else bd (idx x1.b x3) λH=>some<|(byteI H)==(byteI (0:UInt8))) (λI=>if I then some (G,x1.applied) else bd (idx x1.b x3) λJ=>if (decide<|(byteI (1:UInt8))<(byteI J)) then some ((⟨x3,4⟩:K_),x1.applied) else bd (idx x2.kids 0) λL=>bd2 (rec.impl_checker_value x1 L G.at_) λO V=>some (O,V))
def i_m (n:Nat)(rec:g_x)(x1:a_b)(x2:b_)(x3:Int):Option (K_×Int) :=
 bd (idx x2.kids 0) λJ=>bd2 (rec.impl_checker_value x1 J x3) λG H=>if (G.code != 0) then some (G,H) else bd (e_g (⟨(⟨x1.d.rules⟩:c_),x1.b,H⟩:a_b) G.at_ 1) λI=>bd (α:=Bool) (if (I.code==0) then bd (idx x1.b G.at_) λL=>bd (slc x1.b x3 G.at_) λO=>bd (g_v O) λV=>some ((byteI L) != V) else some false) (λW=>if W then some ((⟨G.at_,5⟩:K_),H) else some (I,H))
def a_E:Nat->g_x
 | 0=>⟨λ_ _ _=>none,λ_ _ _=>none,λ_ _ _=>none,λ_ _ _=>none,λ_ _ _=>none⟩
 | n+1=>⟨i_i n<|a_E n,i_j n<|a_E n,i_k n<|a_E n,i_l n<|a_E n,i_m n<|a_E n⟩
def p_l (n:Nat):=(a_E n).impl_checker_value
def d_d (n:Nat)(x1:c_)(x2:Int)(x3:Bt)(x4:Int):Option (Int×Int) :=
 bd (α:=Bool) (bd (e_N n x1 x2) λH=>if (!H) then some true else if (decide<|x4<0) then some true else if (decide<|(x3.length:Int)<x4) then some true else some (decide<|400<(x3.length:Int))) (λI=>if I then some (0,8) else bd2 (p_l n (⟨(⟨x1.rules⟩:c_),x3,0⟩:a_b) x2 x4) λG J=>some (G.at_,G.code))
def d_e (n:Nat)(x1:b_7)(x2:Int):Option (Bool×Int) :=
 bd2 (d_d n (⟨x1.d.rules⟩:c_) x2 x1.b x1.at_) λG H=>some (H==0,G)
def g_y (n:Nat)(x1:b_7)(x2:Int):Option (Int×Bool×Int) :=
 bd2 (d_e n x1 x2) λH G=>if (!H) then some (0,false,G) else bd (slc x1.b x1.at_ G) λI=>bd (idx x1.d.rules x2) λJ=>bd (e_h I J.little) λL=>some (L,true,G)
def i_n (n:Nat)(x1:b_7)(x2:b_)(x3:Str):Option (Bool×Int×Int) :=
 bd2 (g_t x3) λG V=>bd (idx x2.kids 0) λW=>bd3 (g_y n x1 W) λH Y I=>bd (α:=Bool) (if (!V) then some true else if (!Y) then some true else if (decide<|40<H) then some true else some (decide<|H<=G)) (λa0=>if a0 then some (false,x1.rule,I) else bd (a_d (σ:=Int×Int) (ρ:=Bool×Int×Int) (un2 λJ L=>if (decide<|0<J) then bd (idx x2.kids 1) λa1=>bd2 (d_e n (⟨(⟨x1.d.rules⟩:c_),x1.b,x1.rule,L⟩:b_7) a1) λa2 O=>if (!a2) then some (.ret (false,x1.rule,O)) else some (.next (W_ J 1,O)) else bd (idx x2.kids 1) λa3=>some<|.ret (true,a3,L)) n (G,I)) (el (λ_=>none)<|λa4=>some a4))
def i_o (n:Nat)(x1:b_7)(x2:b_)(x3:Str):Option (Bool×Int×Int) :=
 bd (v_ (σ:=Int) (ρ:=Bool×Int×Int) (λH=>(λG=>bd (idx x2.names (H:Int)) λJ=>if (J.b==x3.b) then bd (idx x2.kids (H:Int)) λL=>some (.ret (true,L,G)) else bd (α:=Bool×Int) (bd (f_w x2.names x3) λO=>if (!O) then some (true,G) else bd (idx x2.kids (H:Int)) λV=>bd2 (d_e n (⟨(⟨x1.d.rules⟩:c_),x1.b,x1.rule,G⟩:b_7) V) λW Y=>some (!W,Y)) (un2 λa0 I=>if a0 then some (.ret (false,x1.rule,I)) else some (.next I)))) x2.names.length 0 x1.at_) (el (λG=>some (false,x1.rule,G))<|λa1=>some a1)
def k_G (x1:Int)(x2:Int):Option Bool :=
 some (x1==x2)
def i_p (x1:List Int)(G:Int):Option Int :=
 bd (v_ (σ:=Unit) (ρ:=Int) (λk10=>(λ(_:Unit)=>bd (idx x1 (k10:Int)) λH=>bd (k_G H G) λI=>if I then some (.ret (k10:Int)) else some (.next ()))) x1.length 0 ()) (el (λ(_:Unit)=>some (-1))<|λJ=>some J)
def i_q (n:Nat)(x1:b_7)(x2:b_):Option (Bool×Int×Int) :=
 bd (idx x2.kids 0) λI=>bd3 (g_y n x1 I) λJ L G=>bd (i_p x2.tags J) λH=>bd (α:=Bool) (if (!L) then some true else some (decide<|H<0)) (λO=>if O then some (false,x1.rule,G) else bd (idx x2.kids<|h_ H 1) λV=>some (true,V,G))
def g_z (n:Nat)(x1:b_7)(x2:Str):Option (Bool×Int×Int) :=
 bd (idx x1.d.rules x1.rule) λG=>if (G.kind==5) then bd3 (i_n n x1 G x2) λH I J=>some (H,I,J) else if (G.kind==6) then bd3 (i_o n x1 G x2) λL O V=>some (L,O,V) else bd (α:=Bool) (if (G.kind==7) then some (x2.b==(⟨[42]⟩:Str).b) else some false) (λW=>if W then bd3 (i_q n x1 G) λY a0 a1=>some (Y,a0,a1) else bd (α:=Bool) (if (G.kind==8) then some (x2.b==(⟨[63]⟩:Str).b) else some false) (λa2=>bd (α:=Sum Int<|Bool×Int×Int) (if a2 then bd (α:=Bool) (if (decide<|(x1.b.length:Int)<=x1.at_) then some true else bd (idx x1.b x1.at_) λa3=>some<|(byteI a3) != (byteI (1:UInt8))) (λa4=>if a4 then some (.inr (false,x1.rule,x1.at_)) else some (.inl<|h_ x1.at_ 1)) else bd (α:=Bool) (if (G.kind==9) then some (x2.b==(⟨[43]⟩:Str).b) else some false) (λa5=>if a5 then some (.inl x1.at_) else some (.inr (false,x1.rule,x1.at_))))<|el (λa6=>bd (idx G.kids 0) λa7=>some (true,a7,a6)) some))
def i_r (n:Nat)(x1:c_)(x2:Bt)(x3:Str):Option (k_×Bool) :=
 bd2 (i_c n x3) λI J=>bd (α:=Bool) (if (!J) then some true else bd (g_u n x1) λL=>if (!L) then some true else some (decide<|400<(x2.length:Int))) (λO=>if O then some ((⟨(⟨[]⟩:Str),0,0,0⟩:k_),false) else bd (d_H x1) λV=>bd (v_ (σ:=Int×Int) (ρ:=k_×Bool) (λW=>un2 λG H=>bd (idx I (W:Int)) λY=>bd3 (g_z n (⟨(⟨x1.rules⟩:c_),x2,G,H⟩:b_7) Y) λa0 a1 a2=>if (!a0) then some (.ret ((⟨(⟨[]⟩:Str),0,0,0⟩:k_),false)) else some (.next (a1,a2))) I.length 0 (V,0)) (el (un2 λG H=>bd2 (d_e n (⟨(⟨x1.rules⟩:c_),x2,G,H⟩:b_7) G) λa3 a4=>if (!a3) then some ((⟨(⟨[]⟩:Str),0,0,0⟩:k_),false) else some ((⟨x3,G,H,a4⟩:k_),true))<|λa5=>some a5))
def c_2 (x1:Int)(x2:Int):Option (Option<|Int×Int) :=
 some (some (x1,x2))
def e_P (x1:a_v)(x2:Int)(x3:Int):Option (Bt×(Option<|Int×Int)) :=
 if (decide<|(W_ (x1.b.length:Int) x2)<x3) then bd (c_2 x2 1) λG=>some (([]:Bt),G) else bd (slc x1.b x2<|h_ x2 x3) λH=>some (H,none)
def e_Q (x1:a_v)(x2:Int)(x3:Int):Option (Int×Int×(Option<|Int×Int)) :=
 bd (idx x1.d.rules x2) λG=>bd2 (e_P x1 x3 G.size) λI H=>if H.isSome then some (0,x3,H) else bd (e_h I G.little) λJ=>some (J,h_ x3 G.size,none)
def i_s (x1:a_v)(x2:b_)(x3:Int):Option (Int×(Option<|Int×Int)) :=
 bd (v_ (σ:=Unit) (ρ:=Int×(Option<|Int×Int)) (λk10=>(λ(_:Unit)=>bd (idx x2.bytes (k10:Int)) λG=>if (decide<|(x1.b.length:Int)<=(h_ x3 (k10:Int))) then bd (c_2 x3 1) λH=>some (.ret (x3,H)) else bd (idx x1.b<|h_ x3 (k10:Int)) λI=>if ((byteI I) != (byteI G)) then bd (c_2 (h_ x3 (k10:Int)) 2) λJ=>some (.ret (x3,J)) else some (.next ()))) x2.bytes.length 0 ()) (el (λ(_:Unit)=>some (h_ x3 (x2.bytes.length:Int),none))<|λL=>some L)
def g_A (x1:a_v)(x2:Int)(x3:Int):Option (Val×Int×(Option<|Int×Int)) :=
 bd2 (e_P x1 x2 x3) λH G=>if G.isSome then some ((⟨0,([]:Bt),([]:List Val)⟩:Val),x2,G) else bd (app ([]:Bt) H) λI=>some ((⟨0,I,([]:List Val)⟩:Val),h_ x2 x3,none)
structure f_x where
 impl_fileReader_value:a_v->Int->Int->Option (Val×Int×(Option<|Int×Int))
 impl_fileReader_array:a_v->b_->Int->Option (Val×Int×(Option<|Int×Int))
 impl_fileReader_items:a_v->Val->(List Int)->Int->Option (Val×Int×(Option<|Int×Int))
 impl_fileReader_choice:a_v->b_->Int->Option (Val×Int×(Option<|Int×Int))
 impl_fileReader_option:a_v->b_->Int->Option (Val×Int×(Option<|Int×Int))
 impl_fileReader_checked:a_v->b_->Int->Option (Val×Int×(Option<|Int×Int))
def i_t (n:Nat)(rec:f_x)(x1:a_v)(x2:Int)(x3:Int):Option (Val×Int×(Option<|Int×Int)) :=
 bd (idx x1.d.rules x2) λG=>if (G.kind==1) then bd3 (e_Q x1 x2 x3) λI J L=>some ((⟨I,([]:Bt),([]:List Val)⟩:Val),J,L) else if (G.kind==2) then bd2 (i_s x1 G x3) λO V=>some ((⟨0,([]:Bt),([]:List Val)⟩:Val),O,V) else if (G.kind==3) then bd3 (g_A x1 x3 G.size) λW Y a0=>some (W,Y,a0) else if (G.kind==4) then bd (idx G.kids 0) λa1=>bd3 (e_Q x1 a1 x3) λa2 a3 H=>if H.isSome then some ((⟨0,([]:Bt),([]:List Val)⟩:Val),x3,H) else bd3 (g_A x1 a3 a2) λa4 a5 a6=>some (a4,a5,a6) else if (G.kind==5) then bd3 (rec.impl_fileReader_array x1 G x3) λa7 a8 a9=>some (a7,a8,a9) else if (G.kind==6) then bd3 (rec.impl_fileReader_items x1 (⟨0,([]:Bt),([]:List Val)⟩:Val) G.kids x3) λaa ab ad=>some (aa,ab,ad) else if (G.kind==7) then bd3 (rec.impl_fileReader_choice x1 G x3) λae af ah=>some (ae,af,ah) else if (G.kind==8) then bd3 (rec.impl_fileReader_option x1 G x3) λai aj ak=>some (ai,aj,ak) else if (G.kind==9) then bd3 (rec.impl_fileReader_checked x1 G x3) λal am an=>some (al,am,an) else bd (idx G.bytes 0) λao=>bd3 (g_w n x1.b x3 ao) λap aq ar=>if (!ar) then bd (c_2 x3 1) λau=>some ((⟨0,([]:Bt),([]:List Val)⟩:Val),x3,au) else some ((⟨0,ap,([]:List Val)⟩:Val),aq,none)
def i_u (n:Nat)(rec:f_x)(x1:a_v)(x2:b_)(x3:Int):Option (Val×Int×(Option<|Int×Int)) :=
 bd (idx x2.kids 0) λL=>bd3 (e_Q x1 L x3) λH O I=>if I.isSome then some ((⟨0,([]:Bt),([]:List Val)⟩:Val),x3,I) else if (decide<|40<H) then bd (c_2 x3 6) λV=>some ((⟨0,([]:Bt),([]:List Val)⟩:Val),x3,V) else bd (mk0 0 H) λJ=>bd (v_ (σ:=List Int) (ρ:=Val×Int×(Option<|Int×Int)) (λW=>(λG=>bd (idx x2.kids 1) λY=>bd (upd G (W:Int) Y) λa0=>some<|.next a0)) J.length 0 J)<|el (λG=>bd3 (rec.impl_fileReader_items x1 (⟨0,([]:Bt),([]:List Val)⟩:Val) G O) λa1 a2 a3=>some (a1,a2,a3))<|λa4=>some a4
def i_v (n:Nat)(rec:f_x)(x1:a_v)(x2:Val)(x3:List Int)(x4:Int):Option (Val×Int×(Option<|Int×Int)) :=
 bd (v_ (σ:=Int×(List Val)) (ρ:=Val×Int×(Option<|Int×Int)) (λJ=>un2 λG H=>bd (idx x3 (J:Int)) λL=>bd3 (rec.impl_fileReader_value x1 L G) λO V I=>if I.isSome then some (.ret ((⟨0,([]:Bt),([]:List Val)⟩:Val),G,I)) else bd (psh H O) λW=>some<|.next (V,W)) x3.length 0 (x4,x2.items)) (el (un2 λG H=>some ((⟨x2.number,x2.bytes,H⟩:Val),G,none))<|λY=>some Y)
def i_w (n:Nat)(rec:f_x)(x1:a_v)(x2:b_)(x3:Int):Option (Val×Int×(Option<|Int×Int)) :=
 bd (idx x2.kids 0) λI=>bd3 (e_Q x1 I x3) λG J H=>if H.isSome then some ((⟨0,([]:Bt),([]:List Val)⟩:Val),x3,H) else bd (v_ (σ:=Unit) (ρ:=Val×Int×(Option<|Int×Int)) (λk10=>(λ(_:Unit)=>bd (idx x2.tags (k10:Int)) λL=>if (L==G) then bd (slc x2.kids ((k10+1:Nat):Int)<|h_ (k10:Int) 2) λO=>bd3 (rec.impl_fileReader_items x1 (⟨G,([]:Bt),([]:List Val)⟩:Val) O J) λV W Y=>some (.ret (V,W,Y)) else some (.next ()))) x2.tags.length 0 ()) (el (λ(_:Unit)=>bd (c_2 x3 3) λa0=>some ((⟨0,([]:Bt),([]:List Val)⟩:Val),x3,a0))<|λa1=>some a1)
def i_x (n:Nat)(rec:f_x)(x1:a_v)(x2:b_)(x3:Int):Option (Val×Int×(Option<|Int×Int)) :=
 bd2 (e_P x1 x3 1) λG H=>if H.isSome then some ((⟨0,([]:Bt),([]:List Val)⟩:Val),x3,H) else bd (idx G 0) λI=>if (decide<|(byteI (1:UInt8))<(byteI I)) then bd (c_2 x3 4) λJ=>some ((⟨0,([]:Bt),([]:List Val)⟩:Val),x3,J) else bd (idx G 0) λL=>if ((byteI L)==(byteI (0:UInt8))) then some ((⟨0,([]:Bt),([]:List Val)⟩:Val),h_ x3 1,none) else bd3 (rec.impl_fileReader_items x1 (⟨0,([]:Bt),([]:List Val)⟩:Val) x2.kids<|h_ x3 1) λO V W=>some (O,V,W)
def i_y (n:Nat)(rec:f_x)(x1:a_v)(x2:b_)(x3:Int):Option (Val×Int×(Option<|Int×Int)) :=
 bd3 (rec.impl_fileReader_items x1 (⟨0,([]:Bt),([]:List Val)⟩:Val) x2.kids x3) λJ G H=>if H.isSome then some ((⟨0,([]:Bt),([]:List Val)⟩:Val),x3,H) else bd2 (e_P x1 G 1) λL I=>if I.isSome then some ((⟨0,([]:Bt),([]:List Val)⟩:Val),x3,I) else bd (idx L 0) λO=>bd (slc x1.b x3 G) λV=>bd (g_v V) λW=>if ((byteI O) != W) then bd (c_2 G 5) λY=>some ((⟨0,([]:Bt),([]:List Val)⟩:Val),x3,Y) else some (J,h_ G 1,none)
def a_g:Nat->f_x
 | 0=>⟨λ_ _ _=>none,λ_ _ _=>none,λ_ _ _ _=>none,λ_ _ _=>none,λ_ _ _=>none,λ_ _ _=>none⟩
 | n+1=>⟨i_t n<|a_g n,i_u n<|a_g n,i_v n<|a_g n,i_w n<|a_g n,i_x n<|a_g n,i_y n<|a_g n⟩
def k_H (n:Nat):=(a_g n).impl_fileReader_value
def f_y (n:Nat):=(a_g n).impl_fileReader_items
def g_B (n:Nat)(x1:c_)(x2:Int)(x3:Bt)(x4:Int):Option (Val×Int×Int) :=
 bd (α:=Bool) (bd (e_N n x1 x2) λH=>if (!H) then some true else if (decide<|x4<0) then some true else if (decide<|(x3.length:Int)<x4) then some true else some (decide<|400<(x3.length:Int))) (λI=>if I then some ((⟨0,([]:Bt),([]:List Val)⟩:Val),0,8) else bd3 (k_H n (⟨(⟨x1.rules⟩:c_),x3⟩:a_v) x2 x4) λJ L G=>if G.isSome then (bd2 G λO V=>some ((⟨0,([]:Bt),([]:List Val)⟩:Val),O,V)) else some (J,L,0))
def i_z (n:Nat)(x1:c_)(x2:Bt):Option (Val×Int×Int) :=
 bd (α:=Int×Bt×(List Val)×Int×Int) (bd (d_H x1) λJ=>bd3 (g_B n x1 J x2 0) λG L O=>some (G.number,G.bytes,G.items,L,O)) (un5 λV W Y H I=>bd (α:=Bool) (if (I==0) then some (decide<|H<(x2.length:Int)) else some false) (λa0=>if a0 then some ((⟨0,([]:Bt),([]:List Val)⟩:Val),H,7) else some ((⟨V,W,Y⟩:Val),H,I)))
def g_C (x1:Bt)(x2:Bt):Option Bool :=
 if ((x1.length:Int) != (x2.length:Int)) then some false else bd (v_ (σ:=Unit) (ρ:=Bool) (λk10=>(λ(_:Unit)=>bd (idx x1 (k10:Int)) λG=>bd (idx x2 (k10:Int)) λH=>if ((byteI G) != (byteI H)) then some (.ret false) else some (.next ()))) x1.length 0 ()) (el (λ(_:Unit)=>some true)<|λI=>some I)
def e_R (x1:List Str)(x2:List Str):Option Bool :=
 if ((x1.length:Int) != (x2.length:Int)) then some false else bd (v_ (σ:=Unit) (ρ:=Bool) (λk10=>(λ(_:Unit)=>bd (idx x1 (k10:Int)) λG=>bd (idx x2 (k10:Int)) λH=>if (G.b != H.b) then some (.ret false) else some (.next ()))) x1.length 0 ()) (el (λ(_:Unit)=>some true)<|λI=>some I)
def g_D (x1:List Int)(x2:List Int):Option Bool :=
 if ((x1.length:Int) != (x2.length:Int)) then some false else bd (v_ (σ:=Unit) (ρ:=Bool) (λk10=>(λ(_:Unit)=>bd (idx x1 (k10:Int)) λG=>bd (idx x2 (k10:Int)) λH=>if (G != H) then some (.ret false) else some (.next ()))) x1.length 0 ()) (el (λ(_:Unit)=>some true)<|λI=>some I)
def i_A (x1:b_)(x2:b_):Option Bool :=
 if (x1.name.b != x2.name.b) then some false else if (x1.kind != x2.kind) then some false else if (x1.size != x2.size) then some false else if (x1.little != x2.little) then some false else bd (g_C x1.bytes x2.bytes) λG=>if (!G) then some false else bd (e_R x1.names x2.names) λH=>if (!H) then some false else bd (g_D x1.tags x2.tags) λI=>if (!I) then some false else bd (g_D x1.kids x2.kids) λJ=>if (!J) then some false else some true
def k_I (x1:List b_)(x2:List b_):Option Bool :=
 if ((x1.length:Int) != (x2.length:Int)) then some false else bd (v_ (σ:=Unit) (ρ:=Bool) (λk10=>(λ(_:Unit)=>bd (idx x1 (k10:Int)) λG=>bd (idx x2 (k10:Int)) λH=>bd (i_A G H) λI=>if (!I) then some (.ret false) else some (.next ()))) x1.length 0 ()) (el (λ(_:Unit)=>some true)<|λJ=>some J)
def i_B (x1:c_)(x2:c_):Option Bool :=
 bd (k_I x1.rules x2.rules) λG=>if (!G) then some false else some true
def d_f (n:Nat)(x1:Int):Option Str :=
 if (decide<|x1<=0) then some (⟨[109,48]⟩:Str) else bd (a_d (σ:=Int×Str) (ρ:=Str) (un2 λG H=>if (decide<|0<G) then bd (cat (⟨[mkB (h_ 48<|a_S G 10)]⟩:Str) H) λI=>some (.next (c_k G 10,I)) else some (.brk (G,H))) n (x1,(⟨[]⟩:Str))) (el (un2 λG H=>bd (cat (⟨[109]⟩:Str) H) λJ=>some J)<|λL=>some L)
def e_S (n:Nat)(x1:Bt)(x2:Int):Option (Int×Bt) :=
 bd (a_d (σ:=Bt×Int×Int) (ρ:=Int×Bt) (un3 λG H I=>if (decide<|I<(G.length:Int)) then bd (upd G I<|mkB H) λJ=>some (.next (J,h_ H 1,h_ I 1)) else some (.brk (G,H,I))) n (x1,x2,0)) (el (un3 λG H I=>some (H,G))<|λL=>some L)
def e_T (n:Nat)(x1:List Str)(x2:Int):Option (Int×(List Str)) :=
 bd (a_d (σ:=(List Str)×Int×Int) (ρ:=Int×(List Str)) (un3 λG H I=>if (decide<|I<(G.length:Int)) then bd (d_f n H) λJ=>bd (upd G I J) λL=>some (.next (L,h_ H 1,h_ I 1)) else some (.brk (G,H,I))) n (x1,x2,0)) (el (un3 λG H I=>some (H,G))<|λO=>some O)
def d_I (n:Nat)(x1:List Int)(x2:Int):Option (Int×(List Int)) :=
 bd (a_d (σ:=(List Int)×Int×Int) (ρ:=Int×(List Int)) (un3 λG H I=>if (decide<|I<(G.length:Int)) then bd (upd G I H) λJ=>some (.next (J,h_ H 1,h_ I 1)) else some (.brk (G,H,I))) n (x1,x2,0)) (el (un3 λG H I=>some (H,G))<|λL=>some L)
def i_C (n:Nat)(x1:List b_)(x2:Int):Option (Int×(List b_)) :=
 bd (a_d (σ:=(List b_)×Int×Int) (ρ:=Int×(List b_)) (un3 λa1 L H=>if (decide<|H<(a1.length:Int)) then bd (d_f n L) λa9=>bd (idx a1 H) λV=>bd (upd a1 H (⟨a9,V.kind,V.size,V.little,V.bytes,V.names,V.tags,V.kids⟩:b_)) λa5=>bd (idx a5 H) λW=>bd (upd a5 H (⟨W.name,h_ L 1,W.size,W.little,W.bytes,W.names,W.tags,W.kids⟩:b_)) λa6=>bd (idx a6 H) λY=>bd (upd a6 H (⟨Y.name,Y.kind,h_ (h_ L 1) 1,Y.little,Y.bytes,Y.names,Y.tags,Y.kids⟩:b_)) λa7=>bd (idx a7 H) λa0=>bd (upd a7 H (⟨a0.name,a0.kind,a0.size,(a_S (h_ (h_ (h_ L 1) 1) 1) 3)==0,a0.bytes,a0.names,a0.tags,a0.kids⟩:b_)) λa2=>bd (idx a2 H) λG=>bd2 (e_S n G.bytes<|h_ (h_ (h_ (h_ L 1) 1) 1) 1) λaa a3=>bd (idx (a2.set (H).toNat (⟨G.name,G.kind,G.size,G.little,a3,G.names,G.tags,G.kids⟩:b_)) H) λI=>bd2 (e_T n I.names aa) λab a4=>bd (idx ((a2.set (H).toNat (⟨G.name,G.kind,G.size,G.little,a3,G.names,G.tags,G.kids⟩:b_)).set (H).toNat (⟨I.name,I.kind,I.size,I.little,I.bytes,a4,I.tags,I.kids⟩:b_)) H) λJ=>bd2 (d_I n J.tags ab) λad a8=>bd (idx (((a2.set (H).toNat (⟨G.name,G.kind,G.size,G.little,a3,G.names,G.tags,G.kids⟩:b_)).set (H).toNat (⟨I.name,I.kind,I.size,I.little,I.bytes,a4,I.tags,I.kids⟩:b_)).set (H).toNat (⟨J.name,J.kind,J.size,J.little,J.bytes,J.names,a8,J.kids⟩:b_)) H) λO=>bd2 (d_I n O.kids ad) λae af=>some (.next ((((a2.set (H).toNat (⟨G.name,G.kind,G.size,G.little,a3,G.names,G.tags,G.kids⟩:b_)).set (H).toNat (⟨I.name,I.kind,I.size,I.little,I.bytes,a4,I.tags,I.kids⟩:b_)).set (H).toNat (⟨J.name,J.kind,J.size,J.little,J.bytes,J.names,a8,J.kids⟩:b_)).set (H).toNat (⟨O.name,O.kind,O.size,O.little,O.bytes,O.names,O.tags,af⟩:b_),ae,h_ H 1)) else some (.brk (a1,L,H))) n (x1,x2,0)) (el (un3 λa1 L H=>some (L,a1))<|λah=>some ah)
def i_D (n:Nat)(x1:c_)(x2:Int):Option (Int×(List b_)) :=
 bd2 (i_C n x1.rules x2) λG H=>some (G,H)
def i_E (n:Nat)(x1:c_)(x2:Bt)(x3:Str):Option (Val×Bool) :=
 bd2 (e_L n x1 x2 x3) λG H=>if (!H) then some ((⟨0,([]:Bt),([]:List Val)⟩:Val),false) else bd3 (c_Q n x1 G.rule x2 G.start) λI J L=>some (I,true)
def i_F (n:Nat)(x1:c_)(x2:Bt)(x3:Str):Option (Val×Int×Bool) :=
 bd2 (i_r n x1 x2 x3) λG H=>if (!H) then some ((⟨0,([]:Bt),([]:List Val)⟩:Val),(-1),false) else bd3 (g_B n x1 G.rule x2 G.start) λI J L=>some (I,G.rule,true)
structure p_m where
 spec_l19Build:c_->Int->Bt->Int->Str->Option ((List k_)×Int)
def i_G (n:Nat)(rec:p_m)(x1:c_)(x2:Int)(x3:Bt)(x4:Int)(x5:Str):Option ((List k_)×Int) :=
 bd (idx x1.rules x2) λG=>bd3 (c_Q n x1 x2 x3 x4) λI J aa=>bd (α:=Bool) (if (G.kind==5) then some (G.kind==5) else some (G.kind==7)) (λV=>bd (α:=Int) (if V then bd (idx G.kids 0) λW=>bd3 (c_F x1 W x3 x4) λab Y ad=>some Y else bd (α:=Int) (if (G.kind==8) then some (h_ x4 1) else some x4) (λa0=>some a0))<|λa1=>bd (v_ (σ:=(List k_)×Int) (ρ:=(List k_)×Int) (λL=>un2 λH O=>bd (cat x5 (⟨[47]⟩:Str)) λa2=>bd (b_g G I.number (L:Int)) λa3=>bd (e_f n G (L:Int)) λa4=>bd (cat a2 a4) λa5=>bd2 (rec.spec_l19Build x1 a3 x3 O a5) λa6 a7=>bd (app H a6) λa8=>some<|.next (a8,a7)) I.items.length 0 ([(⟨x5,x2,x4,J⟩:k_)],a1))<|el (un2 λH O=>some (H,J))<|λa9=>some a9)
def e_U:Nat->p_m
 | 0=>⟨λ_ _ _ _ _=>none⟩
 | n+1=>⟨i_G n<|e_U n⟩
def k_J (n:Nat):=(e_U n).spec_l19Build
def i_H (n:Nat)(x1:c_)(x2:Bt):Option ((List k_)×Bool) :=
 bd (i_b n x1 x2) λG=>if (!G) then some (([]:List k_),false) else bd (e_d x1) λH=>bd2 (k_J n x1 H x2 0 (⟨[]⟩:Str)) λI J=>some (I,true)
def c_T (x1:Int):Option Str :=
 bd (f_W x1) λG=>some G
def e_i (n:Nat)(x1:c_)(x2:Int)(x3:Int):Option Str :=
 bd (α:=Bool) (bd (e_N n x1 x2) λH=>if (!H) then some true else some (decide<|x3<0)) (λI=>if I then some (⟨[]⟩:Str) else bd (idx x1.rules x2) λG=>if (G.kind==5) then bd (c_T x3) λJ=>some J else bd (α:=Bool) (if (G.kind==6) then some (decide<|x3<(G.names.length:Int)) else some false) (λL=>if L then bd (idx G.names x3) λO=>some O else if (decide<|0<x3) then some (⟨[]⟩:Str) else if (G.kind==7) then some (⟨[42]⟩:Str) else if (G.kind==8) then some (⟨[63]⟩:Str) else if (G.kind==9) then some (⟨[43]⟩:Str) else some (⟨[]⟩:Str)))
def e_j (x1:c_)(x2:Int)(x3:Val)(x4:Int):Option Int :=
 bd (idx x1.rules x2) λG=>if (G.kind==5) then bd (idx G.kids 1) λI=>some I else bd (α:=Sum Unit Int) (if (G.kind==6) then if (decide<|x4<(G.kids.length:Int)) then bd (idx G.kids x4) λJ=>some (.inr J) else some (.inl ()) else bd (α:=Sum Unit<|Sum Unit Int) (if (G.kind==7) then bd (v_ (σ:=Unit) (ρ:=Int) (λH=>(λ(_:Unit)=>bd (idx G.tags (H:Int)) λL=>if (L==x3.number) then bd (idx G.kids ((H+1:Nat):Int)) λO=>some (.ret O) else some (.next ()))) G.tags.length 0 ()) (el (λ(_:Unit)=>some<|.inl ())<|λV=>some<|.inr<|.inr V) else bd (α:=Bool) (if (G.kind==8) then some (G.kind==8) else some (G.kind==9)) (λW=>if W then bd (idx G.kids 0) λY=>some (.inr<|.inr Y) else some (.inl ()))) (el (λ(_:Unit)=>some<|.inl ()) some)) (el (λ(_:Unit)=>some (-1)) some)
structure p_n where
 impl_indexer_part:d_l->Str->Int->Val->Int->Option (Int×(List k_))
def i_I (n:Nat)(rec:p_n)(x1:d_l)(x2:Str)(x3:Int)(x4:Val)(x5:Int):Option (Int×(List k_)) :=
 bd (psh x1.list_ (⟨x2,x3,x5,0⟩:k_)) λV=>bd2 (d_d n (⟨x1.d.rules⟩:c_) x3 x1.b x5) λL ad=>bd (idx x1.d.rules x3) λG=>bd (α:=Bool) (if (G.kind==5) then some (G.kind==5) else some (G.kind==7)) (λW=>bd (α:=Int) (if W then bd (idx G.kids 0) λY=>bd (idx x1.d.rules Y) λa0=>some (h_ x5 a0.size) else bd (α:=Int) (if (G.kind==8) then some (h_ x5 1) else some x5) (λa1=>some a1))<|λa2=>bd (v_ (σ:=Int×(List k_)) (ρ:=Int×(List k_)) (λI=>un2 λO H=>bd (cat x2 (⟨[47]⟩:Str)) λa3=>bd (idx x4.items (I:Int)) λa4=>bd (e_i n (⟨x1.d.rules⟩:c_) x3 (I:Int)) λa5=>bd (cat a3 a5) λa6=>bd (e_j (⟨x1.d.rules⟩:c_) x3 x4 (I:Int)) λa7=>bd2 (rec.impl_indexer_part (⟨(⟨x1.d.rules⟩:c_),x1.b,H⟩:d_l) a6 a7 a4 O) λa8 a9=>some<|.next (a8,a9)) x4.items.length 0 (a2,V))<|el (un2 λO H=>bd (idx H (x1.list_.length:Int)) λJ=>bd (upd H (x1.list_.length:Int) (⟨J.path,J.rule,J.start,L⟩:k_)) λaa=>some (L,aa))<|λab=>some ab)
def e_V:Nat->p_n
 | 0=>⟨λ_ _ _ _ _=>none⟩
 | n+1=>⟨i_I n<|e_V n⟩
def i_J (n:Nat):=(e_V n).impl_indexer_part
def i_K (n:Nat)(x1:c_)(x2:Bt):Option ((List k_)×Bool) :=
 bd3 (i_z n x1 x2) λG L H=>if (H != 0) then some (([]:List k_),false) else bd (d_H x1) λI=>bd2 (i_J n (⟨(⟨x1.rules⟩:c_),x2,([]:List k_)⟩:d_l) (⟨[]⟩:Str) I G 0) λO J=>some (J,true)
def g_E (n:Nat)(x1:List Str)(x2:Int):Option Int :=
 bd (v_ (σ:=Int) (ρ:=Int) (λH=>(λG=>bd (idx x1 (H:Int)) λI=>bd (d_f n G) λJ=>if (I.b != J.b) then some (.ret (-1)) else some (.next<|h_ G 1))) x1.length 0 x2) (el (λG=>some G)<|λL=>some L)
def g_F (x1:Int)(x2:Int):Option Int :=
 if (decide<|x2<x1) then some x2 else some x1
def i_L (x1:Int)(x2:Int):Option Bool :=
 some (decide<|x1<x2)
def k_K (x2:Int)(x3:List Int):Option Int :=
 bd (v_ (σ:=Int) (ρ:=Int) (λI=>(λG=>bd (idx x3 (I:Int)) λH=>bd (i_L H G) λJ=>bd (α:=Int) (if J then some H else some G)<|λL=>some<|.next L)) x3.length 0 x2) (el (λG=>some G)<|λO=>some O)
def g_G (x1:Int)(x2:Int):Option Int :=
 bd (k_K x1 [x2]) λG=>some G
end Go.Vw
namespace Go.Vw
def h_L (x1:c_)(x2:b_)(x3:Val):Option Bool :=
 if (x2.kind==1) then bd (α:=Bool) (bd (e_K x2.size) λG=>bd (a_U x3.number 0<|W_ G 1) λH=>if H then if ((x3.bytes.length:Int)==0) then some ((x3.items.length:Int)==0) else some false else some false) (λI=>some I) else if (x2.kind==2) then bd (α:=Bool) (if (x3.number==0) then if ((x3.bytes.length:Int)==0) then some ((x3.items.length:Int)==0) else some false else some false) (λJ=>some J) else if (x2.kind==3) then bd (α:=Bool) (if (x3.number==0) then if ((x3.bytes.length:Int)==x2.size) then some ((x3.items.length:Int)==0) else some false else some false) (λL=>some L) else if (x2.kind==4) then bd (α:=Bool) (if (x3.number==0) then bd (idx x2.kids 0) λO=>bd (e_c x1 O) λV=>bd (g_F 400 V) λW=>if (decide<|(x3.bytes.length:Int)<=W) then some ((x3.items.length:Int)==0) else some false else some false) (λY=>some Y) else if (x2.kind==10) then bd (α:=Bool) (if (x3.number==0) then if (decide<|(x3.bytes.length:Int)<=400) then some ((x3.items.length:Int)==0) else some false else some false) (λa0=>some a0) else if (x2.kind==5) then bd (α:=Bool) (if (x3.number==0) then if ((x3.bytes.length:Int)==0) then bd (idx x2.kids 0) λa1=>bd (e_c x1 a1) λa2=>bd (g_F 40 a2) λa3=>some (decide<|(x3.items.length:Int)<=a3) else some false else some false) (λa4=>some a4) else if (x2.kind==6) then bd (α:=Bool) (if (x3.number==0) then if ((x3.bytes.length:Int)==0) then some ((x3.items.length:Int)==(x2.kids.length:Int)) else some false else some false) (λa5=>some a5) else if (x2.kind==7) then bd (α:=Bool) (if ((x3.bytes.length:Int)==0) then if ((x3.items.length:Int)==1) then bd (b_g x2 x3.number 0) λa6=>some (decide<|0<=a6) else some false else some false) (λa7=>some a7) else if (x2.kind==8) then bd (α:=Bool) (if (x3.number==0) then if ((x3.bytes.length:Int)==0) then some (decide<|(x3.items.length:Int)<=1) else some false else some false) (λa8=>some a8) else bd (α:=Bool) (if (x3.number==0) then if ((x3.bytes.length:Int)==0) then some ((x3.items.length:Int)==1) else some false else some false) (λa9=>some a9)
structure p_9 where
 spec_l9Valid:c_->Int->Val->Option Bool
def h_M (n:Nat)(rec:p_9)(x1:c_)(x2:Int)(x3:Val):Option Bool :=
 bd (idx x1.rules x2) λG=>bd (h_L x1 G x3) λI=>if (!I) then some false else bd (v_ (σ:=Unit) (ρ:=Bool) (λH=>(λ(_:Unit)=>bd (idx x3.items (H:Int)) λJ=>bd (b_g G x3.number (H:Int)) λL=>bd (rec.spec_l9Valid x1 L J) λO=>if (!O) then some (.ret false) else some (.next ()))) x3.items.length 0 ()) (el (λ(_:Unit)=>some true)<|λV=>some V)
def f_r:Nat->p_9
 | 0=>⟨λ_ _ _=>none⟩
 | n+1=>⟨h_M n<|f_r n⟩
def p_a (n:Nat):=(f_r n).spec_l9Valid
def h_N (n:Nat)(x1:c_)(x2:Int)(x3:Val):Option Bool :=
 bd (α:=Bool) (bd (g_q x1 x2) λG=>if G then bd (p_a n x1 x2 x3) λH=>some H else some false) (λI=>some I)
end Go.Vw
namespace Go.Vw
def k_L (n:Nat)(x1:Int)(x2:Str)(x3:Str)(x4:Str):Option Str :=
 bd (c_0 n x1) λG=>bd (cat G x2) λH=>bd (cat H x3) λI=>bd (cat I x4) λJ=>some J
def i_N (x1:Bt):Option Str :=
 bd (v_ (σ:=Str) (ρ:=Str) (λH=>(λG=>bd (idx x1 (H:Int)) λI=>bd (idx x1 (H:Int)) λJ=>bd (b_u (⟨[48,49,50,51,52,53,54,55,56,57,97,98,99,100,101,102]⟩:Str) (c_k (byteI I) 16)<|h_ (c_k (byteI I) 16) 1) λL=>bd (cat G L) λO=>bd (b_u (⟨[48,49,50,51,52,53,54,55,56,57,97,98,99,100,101,102]⟩:Str) (a_S (byteI J) 16)<|h_ (a_S (byteI J) 16) 1) λV=>bd (cat O V) λW=>some<|.next W)) x1.length 0 (⟨[]⟩:Str)) (el (λG=>some G)<|λY=>some Y)
structure k_M where
 spec_l10Text:c_->Int->Val->Option Str
 spec_l10List:c_->b_->Val->Option Str
def b_5 (n:Nat)(rec:k_M)(x1:c_)(x2:Int)(x3:Val):Option Str :=
 bd (idx x1.rules x2) λG=>bd (rec.spec_l10List x1 G x3) λH=>if (G.kind==1) then bd (c_0 n x3.number) λI=>some I else if (G.kind==2) then some (⟨[33]⟩:Str) else if (G.kind==5) then bd (cat (⟨[91]⟩:Str) H) λJ=>bd (cat J (⟨[93]⟩:Str)) λL=>some L else if (G.kind==6) then bd (cat (⟨[123]⟩:Str) H) λO=>bd (cat O (⟨[125]⟩:Str)) λV=>some V else if (G.kind==7) then bd (k_L n x3.number (⟨[60]⟩:Str) H (⟨[62]⟩:Str)) λW=>some W else if (G.kind==8) then if ((x3.items.length:Int)==0) then some (⟨[45]⟩:Str) else bd (cat (⟨[63]⟩:Str) H) λY=>some Y else if (G.kind==9) then bd (cat (⟨[40]⟩:Str) H) λa0=>bd (cat a0 (⟨[41]⟩:Str)) λa1=>some a1 else bd (i_N x3.bytes) λa2=>bd (cat (⟨[120]⟩:Str) a2) λa3=>some a3
def i_O (n:Nat)(rec:k_M)(x1:c_)(x2:b_)(x3:Val):Option Str :=
 bd (v_ (σ:=Str) (ρ:=Str) (λk10=>(λG=>bd (α:=Str) (if (decide<|0<(k10:Int)) then bd (cat G (⟨[44]⟩:Str)) λI=>some I else some G) (λH=>bd (α:=Str) (if (x2.kind==6) then bd (idx x2.names (k10:Int)) λJ=>bd (cat H J) λL=>bd (cat L (⟨[58]⟩:Str)) λO=>some O else some H)<|λV=>bd (idx x3.items (k10:Int)) λW=>bd (b_g x2 x3.number (k10:Int)) λY=>bd (rec.spec_l10Text x1 Y W) λa0=>bd (cat V a0) λa1=>some<|.next a1))) x3.items.length 0 (⟨[]⟩:Str)) (el (λG=>some G)<|λa2=>some a2)
def b_q:Nat->k_M
 | 0=>⟨λ_ _ _=>none,λ_ _ _=>none⟩
 | n+1=>⟨b_5 n<|b_q n,i_O n<|b_q n⟩
def m_B (n:Nat):=(b_q n).spec_l10Text
def k_N (n:Nat)(x1:c_)(x2:Int)(x3:Val):Option Str :=
 bd (h_N n x1 x2 x3) λG=>if (!G) then some (⟨[]⟩:Str) else bd (m_B n x1 x2 x3) λH=>some H
def g_J (n:Nat)(x1:c_)(x2:Bt)(x3:Str):Option Str :=
 bd2 (e_L n x1 x2 x3) λG H=>if (!H) then some (⟨[]⟩:Str) else bd2 (i_E n x1 x2 x3) λI L=>bd (k_N n x1 G.rule I) λJ=>some J
def i_P (x1:c_)(x2:Int)(x3:Val):Option Bool :=
 bd (idx x1.rules x2) λG=>bd (α:=Sum (Int×Int×Int) Bool) (if (G.kind==1) then bd (d_c x1 x2) λI=>some (.inl (I,0,0)) else bd (α:=Sum (Int×Int×Int)<|Sum (Int×Int×Int) Bool) (if (G.kind==3) then if ((x3.bytes.length:Int) != G.size) then some (.inr<|.inr false) else some (.inl (0,G.size,0)) else bd (α:=Int×Int×Int) (if (G.kind==4) then bd (idx G.kids 0) λJ=>bd (d_c x1 J) λL=>bd (g_G 400 L) λO=>some (0,O,0) else bd (α:=Int×Int×Int) (if (G.kind==10) then some (0,400,0) else bd (α:=Int×Int) (if (G.kind==5) then bd (idx G.kids 0) λV=>bd (d_c x1 V) λW=>bd (g_G 40 W) λY=>some (0,Y) else bd (α:=Int×Int) (if (G.kind==6) then some (0,(G.kids.length:Int)) else bd (α:=Int×Int) (if (G.kind==7) then bd (idx G.kids 0) λa0=>bd (d_c x1 a0) λa1=>some (a1,1) else bd (α:=Bool) (if (G.kind==8) then some (G.kind==8) else some (G.kind==9)) (λa2=>bd (α:=Int) (if a2 then some 1 else some 0)<|λa3=>some (0,a3))) (un2 λa4 a5=>some (a4,a5))) (un2 λa6 a7=>some (a6,a7))) (un2 λa8 a9=>some (a8,0,a9))) (un3 λaa ab ad=>some (aa,ab,ad))) (un3 λae af ah=>some<|.inl (ae,af,ah))) (el (un3 λai aj ak=>some<|.inl (ai,aj,ak)) some)) (el (un3 λal am H=>bd (α:=Bool) (if (G.kind==6) then some ((x3.items.length:Int) != H) else bd (α:=Bool) (if (G.kind==7) then some true else some (G.kind==9)) λan=>if an then some ((x3.items.length:Int) != H) else some false) (λao=>if ao then some false else bd (α:=Bool) (bd (c_1 x3.number 0 al) λap=>if ap then if (decide<|(x3.bytes.length:Int)<=am) then some (decide<|(x3.items.length:Int)<=H) else some false else some false) (λaq=>some aq))) some)
structure p_q where
 impl_validValue:c_->Int->Val->Option Bool
def i_Q (n:Nat)(rec:p_q)(x1:c_)(x2:Int)(x3:Val):Option Bool :=
 bd (i_P x1 x2 x3) λH=>if (!H) then some false else bd (v_ (σ:=Unit) (ρ:=Bool) (λk10=>(λ(_:Unit)=>bd (e_j x1 x2 x3 (k10:Int)) λG=>bd (α:=Bool) (if (decide<|G<0) then some true else bd (idx x3.items (k10:Int)) λI=>bd (rec.impl_validValue x1 G I) λJ=>some (!J)) (λL=>if L then some (.ret false) else some (.next ())))) x3.items.length 0 ()) (el (λ(_:Unit)=>some true)<|λO=>some O)
def f_z:Nat->p_q
 | 0=>⟨λ_ _ _=>none⟩
 | n+1=>⟨i_Q n<|f_z n⟩
def p_r (n:Nat):=(f_z n).impl_validValue
def i_R (n:Nat)(x1:c_)(x2:Int)(x3:Val):Option Bool :=
 bd (α:=Bool) (bd (e_N n x1 x2) λG=>if G then bd (p_r n x1 x2 x3) λH=>some H else some false) (λI=>some I)
def c_s (x1:b_):Option c_X :=
 if (x1.kind==1) then some ((1,([]:List Str)):c_X) else if (x1.kind==2) then some ((2,([]:List Str)):c_X) else if (x1.kind==5) then some ((5,([]:List Str)):c_X) else if (x1.kind==6) then some ((6,x1.names):c_X) else if (x1.kind==7) then some ((7,([]:List Str)):c_X) else if (x1.kind==8) then some ((8,([]:List Str)):c_X) else if (x1.kind==9) then some ((9,([]:List Str)):c_X) else some ((0,([]:List Str)):c_X)
def g_K (x1:List Str)(x2:Str):Option Str :=
 bd (j_K x1 x2) λG=>some G
def k_O (x1:Int)(x2:Str)(x3:Str)(x4:Str):Option Str :=
 bd (c_T x1) λG=>bd (cat G x2) λH=>bd (cat H x3) λI=>bd (cat I x4) λJ=>some J
def i_S (x1:Bt):Option Str :=
 bd (mk0 ()<|b_x 2 (x1.length:Int)) λW=>bd (v_ (σ:=Bt) (ρ:=Str) (λI=>(λG=>bd (idx x1 (I:Int)) λH=>bd (idx (⟨[48,49,50,51,52,53,54,55,56,57,97,98,99,100,101,102]⟩:Str).b (byteI<|shU H 4)) λJ=>bd (idx (⟨[48,49,50,51,52,53,54,55,56,57,97,98,99,100,101,102]⟩:Str).b (byteI<|H &&& (15:UInt8))) λL=>bd (app G [J,L]) λO=>some<|.next O)) x1.length 0 ([]:Bt))<|el (λG=>some (⟨G⟩:Str))<|λV=>some V
structure m_C where
 impl_valueText:c_->Int->Val->Option Str
 impl_valueText_1:Int->c_->Int->Val->Option Str
def b_6 (n:Nat)(rec:m_C)(x1:c_)(x2:Int)(x3:Val):Option Str :=
 bd (idx x1.rules x2) λL=>bd (c_s L) λG=>if (G.1==1) then bd (c_T x3.number) λO=>some O else if (G.1==2) then some (⟨[33]⟩:Str) else if (G.1==5) then bd (v_ (σ:=List Str) (ρ:=Str) (λV=>(λH=>bd (rec.impl_valueText_1 (V:Int) x1 x2 x3) λW=>bd (psh H W) λY=>some<|.next Y)) x3.items.length 0 ([]:List Str)) (el (λH=>bd (g_K H (⟨[44]⟩:Str)) λa0=>bd (cat (⟨[91]⟩:Str) a0) λa1=>bd (cat a1 (⟨[93]⟩:Str)) λa2=>some a2)<|λa3=>some a3) else if (G.1==6) then bd (v_ (σ:=List Str) (ρ:=Str) (λJ=>(λI=>bd (idx G.2 (J:Int)) λa4=>bd (cat a4 (⟨[58]⟩:Str)) λa5=>bd (rec.impl_valueText_1 (J:Int) x1 x2 x3) λa6=>bd (cat a5 a6) λa7=>bd (psh I a7) λa8=>some<|.next a8)) G.2.length 0 ([]:List Str)) (el (λI=>bd (g_K I (⟨[44]⟩:Str)) λa9=>bd (cat (⟨[123]⟩:Str) a9) λaa=>bd (cat aa (⟨[125]⟩:Str)) λab=>some ab)<|λad=>some ad) else if (G.1==7) then bd (rec.impl_valueText_1 0 x1 x2 x3) λae=>bd (k_O x3.number (⟨[60]⟩:Str) ae (⟨[62]⟩:Str)) λaf=>some af else if (G.1==8) then if ((x3.items.length:Int)==0) then some (⟨[45]⟩:Str) else bd (rec.impl_valueText_1 0 x1 x2 x3) λah=>bd (cat (⟨[63]⟩:Str) ah) λai=>some ai else if (G.1==9) then bd (rec.impl_valueText_1 0 x1 x2 x3) λaj=>bd (cat (⟨[40]⟩:Str) aj) λak=>bd (cat ak (⟨[41]⟩:Str)) λal=>some al else bd (i_S x3.bytes) λam=>bd (cat (⟨[120]⟩:Str) am) λan=>some an
def i_T (n:Nat)(rec:m_C)(x1:Int)(x2:c_)(x3:Int)(x4:Val):Option Str :=
 bd (idx x4.items x1) λG=>bd (e_j x2 x3 x4 x1) λH=>bd (rec.impl_valueText x2 H G) λI=>some I
def b_0:Nat->m_C
 | 0=>⟨λ_ _ _=>none,λ_ _ _ _=>none⟩
 | n+1=>⟨b_6 n<|b_0 n,i_T n<|b_0 n⟩
def m_D (n:Nat):=(b_0 n).impl_valueText
def k_P (n:Nat)(x1:c_)(x2:Int)(x3:Val):Option Str :=
 bd (i_R n x1 x2 x3) λG=>if (!G) then some (⟨[]⟩:Str) else bd (m_D n x1 x2 x3) λH=>some H
def i_U (n:Nat)(x1:c_)(x2:Bt)(x3:Str):Option Str :=
 bd3 (i_F n x1 x2 x3) λG H I=>if (!I) then some (⟨[]⟩:Str) else bd (k_P n x1 H G) λJ=>some J
end Go.Vw
namespace Go.Vw
def h_h (n:Nat)(x1:c_)(x2:Bt):Option (Int×Int) :=
 bd3 (g_r n x1 x2) λI G H=>some (G,H)
def h_i (n:Nat)(x1:c_)(x2:Bt):Option (Int×Int) :=
 bd (d_H x1) λI=>bd2 (d_d n x1 I x2 0) λG H=>bd (α:=Bool) (if (!decide (((⟨G,H⟩:K_):K_)=((⟨(x2.length:Int),0⟩:K_):K_))) then some (H==0) else some false) (λJ=>if J then some (G,7) else some (G,H))
def j_T (x1:Int)(x2:Int):Option Bool :=
 some (x1==x2)
def h_j (x1:List Int)(G:Int):Option Int :=
 bd (v_ (σ:=Unit) (ρ:=Int) (λk10=>(λ(_:Unit)=>bd (idx x1 (k10:Int)) λH=>bd (j_T H G) λI=>if I then some (.ret (k10:Int)) else some (.next ()))) x1.length 0 ()) (el (λ(_:Unit)=>some (-1))<|λJ=>some J)
structure h_k where
 impl_tracer_part:b_N->Str->Int->Int->Option (Str×Int)
 impl_tracer_kids:b_N->Str->Int->(List Int)->Int->Option (Int×Bool×Str×Int)
def f_e (n:Nat)(rec:h_k)(x1:b_N)(x2:Str)(x3:Int)(x4:Int):Option (Str×Int) :=
 bd (idx x1.d.rules x3) λG=>bd (α:=Bool) (if (G.kind==6) then some (G.kind==6) else some (G.kind==9)) (λV=>bd (α:=Sum (Str×Int)<|Str×Int) (if V then bd4 (rec.impl_tracer_kids (⟨(⟨x1.d.rules⟩:c_),x1.b,x2,x3⟩:b_N) x2 x3 G.kids x4) λaA aB W Y=>some (.inl (W,Y)) else bd (α:=Sum (Str×Int)<|Sum (Str×Int)<|Str×Int) (if (G.kind==8) then bd (α:=Bool) (if (decide<|x4<(x1.b.length:Int)) then bd (idx x1.b x4) λa0=>some ((byteI a0)==(byteI (1:UInt8))) else some false) (λa1=>bd (α:=Str×Int) (if a1 then bd4 (rec.impl_tracer_kids (⟨(⟨x1.d.rules⟩:c_),x1.b,x2,x3⟩:b_N) x2 x3 G.kids<|h_ x4 1) λaC aD a2 a3=>some (a2,a3) else some (x2,x3))<|un2 λa4 a5=>some<|.inl (a4,a5)) else bd (α:=Bool) (if (G.kind==5) then some (G.kind==5) else some (G.kind==7)) (λa6=>bd (α:=Sum (Str×Int)<|Sum (Str×Int)<|Sum (Str×Int)<|Str×Int) (if a6 then bd (idx G.kids 0) λa7=>bd2 (d_d n (⟨x1.d.rules⟩:c_) a7 x1.b x4) λH a8=>if (a8 != 0) then some (.inr<|.inr<|.inr (x2,x3)) else bd (α:=Int) (bd (slc x1.b x4 H) λa9=>bd (idx G.kids 0) λaa=>bd (idx x1.d.rules aa) λab=>bd (e_h a9 ab.little) λad=>some ad) (λI=>if (G.kind==7) then bd (h_j G.tags I) λJ=>bd (α:=Str×Int) (if (decide<|0<=J) then bd (slc G.kids (h_ J 1)<|h_ J 2) λae=>bd4 (rec.impl_tracer_kids (⟨(⟨x1.d.rules⟩:c_),x1.b,x2,x3⟩:b_N) x2 x3 ae H) λaE aF af ah=>some (af,ah) else some (x2,x3)) (un2 λai aj=>some<|.inr<|.inr<|.inr (ai,aj)) else bd (α:=Sum (Str×Int)<|Sum (Str×Int)<|Sum (Str×Int)<|Sum (Str×Int)<|Str×Int) (if (decide<|I<=40) then bd (mk0 0 I) λO=>bd (v_ (σ:=List Int) (ρ:=Str×Int) (λak=>(λL=>bd (idx G.kids 1) λal=>bd (upd L (ak:Int) al) λam=>some<|.next am)) O.length 0 O) (el (λL=>bd4 (rec.impl_tracer_kids (⟨(⟨x1.d.rules⟩:c_),x1.b,x2,x3⟩:b_N) x2 x3 L H) λaG aH an ao=>some<|.inl (an,ao))<|λap=>some<|.inr<|.inr<|.inr<|.inr ap) else some (.inl (x2,x3))) (el (un2 λaq ar=>some<|.inl (aq,ar)) some)) else some (.inl (x2,x3)))<|el (un2 λau av=>some<|.inl (au,av)) some)) (el (un2 λaw ax=>some<|.inl (aw,ax)) some))<|el (un2 λay az=>some (ay,az)) some)
def f_f (n:Nat)(rec:h_k)(x1:b_N)(x2:Str)(x3:Int)(x4:List Int)(x5:Int):Option (Int×Bool×Str×Int) :=
 bd (v_ (σ:=Int) (ρ:=Int×Bool×Str×Int) (λH=>(λG=>bd (idx x4 (H:Int)) λI=>bd2 (d_d n (⟨x1.d.rules⟩:c_) I x1.b G) λJ L=>if (L != 0) then bd (cat x2 (⟨[47]⟩:Str)) λO=>bd (e_i n (⟨x1.d.rules⟩:c_) x3 (H:Int)) λV=>bd (cat O V) λW=>bd2 (rec.impl_tracer_part x1 W I G) λY a0=>some (.ret (G,false,Y,a0)) else some (.next J))) x4.length 0 x5) (el (λG=>some (G,true,x1.path,x1.rule))<|λa1=>some a1)
def b_w:Nat->h_k
 | 0=>⟨λ_ _ _ _=>none,λ_ _ _ _ _=>none⟩
 | n+1=>⟨f_e n<|b_w n,f_f n<|b_w n⟩
def n_x (n:Nat):=(b_w n).impl_tracer_part
def h_l (n:Nat)(x1:c_)(x2:Bt):Option c_3 :=
 bd2 (h_i n x1 x2) λH G=>bd (d_H x1) λI=>bd (α:=Str×Int) (if (G==8) then some ((⟨[]⟩:Str),(-1)) else bd (α:=Bool) (if (G==0) then some (G==0) else some (G==7)) (λJ=>bd (α:=Str×Int) (if J then some ((⟨[]⟩:Str),I) else bd (d_H x1) λL=>bd2 (n_x n (⟨(⟨x1.rules⟩:c_),x2,(⟨[]⟩:Str),0⟩:b_N) (⟨[]⟩:Str) L 0) λO V=>some (O,V))<|un2 λW Y=>some (W,Y)))<|un2 λa0 a1=>some (⟨G,H,a0,a1⟩:c_3)
end Go.Vw
namespace Go.Vw
structure m_S where
 spec_l28Find:c_->Int->Bt->Int->Str->Option (Str×Int)
def d_N (n:Nat)(rec:m_S)(x1:c_)(x2:Int)(x3:Bt)(x4:Int)(x5:Str):Option (Str×Int) :=
 bd (idx x1.rules x2) λG=>bd3 (e_e x1 G x3 x4) λL O V=>bd (v_ (σ:=Int) (ρ:=Str×Int) (λI=>(λH=>bd (b_g G V (I:Int)) λJ=>bd3 (c_Q n x1 J x3 H) λa6 W Y=>if (Y != 0) then bd (cat x5 (⟨[47]⟩:Str)) λa0=>bd (e_f n G (I:Int)) λa1=>bd (cat a0 a1) λa2=>bd2 (rec.spec_l28Find x1 J x3 H a2) λa3 a4=>some (.ret (a3,a4)) else some (.next W))) O.toNat 0 L)<|el (λH=>some (x5,x2))<|λa5=>some a5
def c_H:Nat->m_S
 | 0=>⟨λ_ _ _ _ _=>none⟩
 | n+1=>⟨d_N n<|c_H n⟩
def m_T (n:Nat):=(c_H n).spec_l28Find
def g_O (n:Nat)(x1:c_)(x2:Bt):Option c_3 :=
 bd2 (h_h n x1 x2) λH G=>bd (e_d x1) λI=>bd (α:=Str×Int) (if (G==8) then some ((⟨[]⟩:Str),(-1)) else bd (α:=Bool) (if (G==0) then some (G==0) else some (G==7)) (λJ=>bd (α:=Str×Int) (if J then some ((⟨[]⟩:Str),I) else bd (e_d x1) λL=>bd2 (m_T n x1 L x2 0 (⟨[]⟩:Str)) λO V=>some (O,V))<|un2 λW Y=>some (W,Y)))<|un2 λa0 a1=>some (⟨G,H,a0,a1⟩:c_3)
def g_P (x1:Int):Option Str :=
 bd (a_U x1 0<|W_ ([(⟨[111,107]⟩:Str),(⟨[115,104,111,114,116]⟩:Str),(⟨[99,111,110,115,116]⟩:Str),(⟨[116,97,103]⟩:Str),(⟨[102,108,97,103]⟩:Str),(⟨[115,117,109]⟩:Str),(⟨[99,111,117,110,116]⟩:Str),(⟨[116,114,97,105,108,105,110,103]⟩:Str),(⟨[114,117,108,101]⟩:Str)].length:Int) 1) λG=>if (!G) then some (⟨[]⟩:Str) else bd (idx [(⟨[111,107]⟩:Str),(⟨[115,104,111,114,116]⟩:Str),(⟨[99,111,110,115,116]⟩:Str),(⟨[116,97,103]⟩:Str),(⟨[102,108,97,103]⟩:Str),(⟨[115,117,109]⟩:Str),(⟨[99,111,117,110,116]⟩:Str),(⟨[116,114,97,105,108,105,110,103]⟩:Str),(⟨[114,117,108,101]⟩:Str)] x1) λH=>some H
def i_X (n:Nat)(x1:Int)(x2:Int):Option Str :=
 if (x2==0) then some (⟨[111,107]⟩:Str) else bd (g_P x2) λG=>bd (cat G (⟨[32,97,116,32]⟩:Str)) λH=>bd (c_0 n x1) λI=>bd (cat H I) λJ=>some J
def g_Q (n:Nat)(x1:c_)(x2:c_3):Option Str :=
 bd (i_X n x2.position x2.code) λG=>if (x2.code==0) then some G else bd (α:=Str) (if (x2.path.b != (⟨[]⟩:Str).b) then bd (cat G (⟨[32,105,110,32]⟩:Str)) λI=>bd (cat I x2.path) λJ=>some J else some G) (λH=>bd (a_U x2.rule 0<|W_ (x1.rules.length:Int) 1) λL=>bd (α:=Str) (if L then bd (cat H (⟨[32,40]⟩:Str)) λO=>bd (idx x1.rules x2.rule) λV=>bd (cat O V.name) λW=>bd (cat W (⟨[41]⟩:Str)) λY=>some Y else some H)<|λa0=>some a0)
def f_B (n:Nat)(x1:k_):Option Str :=
 bd (α:=Str) (if (x1.path.b==(⟨[]⟩:Str).b) then some (⟨[46]⟩:Str) else some x1.path) (λG=>bd (cat G (⟨[32]⟩:Str)) λH=>bd (c_0 n x1.start) λI=>bd (cat H I) λJ=>bd (cat J (⟨[45]⟩:Str)) λL=>bd (c_0 n x1.end_) λO=>bd (cat L O) λV=>some V)
def g_R (n:Nat)(x1:c_)(x2:Bt):Option (List Str) :=
 bd2 (i_H n x1 x2) λH O=>if (!O) then bd (g_O n x1 x2) λV=>bd (g_Q n x1 V) λW=>bd (psh ([]:List Str) W) λY=>some Y else bd (v_ (σ:=List Str) (ρ:=List Str) (λI=>(λJ=>bd (idx H (I:Int)) λa0=>bd (idx x1.rules a0.rule) λG=>bd (idx H (I:Int)) λa1=>bd (f_B n a1) λa2=>bd (cat a2 (⟨[32]⟩:Str)) λa3=>bd (cat a3 G.name) λL=>bd (α:=Bool) (if (G.kind==5) then some (G.kind==5) else bd (α:=Bool) (if (G.kind==6) then some (G.kind==6) else bd (α:=Bool) (if (G.kind==7) then some (G.kind==7) else bd (α:=Bool) (if (G.kind==8) then some (G.kind==8) else some (G.kind==9)) (λa4=>some a4)) (λa5=>some a5)) (λa6=>some a6)) (λa7=>bd (α:=Str) (if a7 then some L else bd (cat L (⟨[32]⟩:Str)) λa8=>bd (idx H (I:Int)) λa9=>bd (g_J n x1 x2 a9.path) λaa=>bd (cat a8 aa) λab=>some ab)<|λad=>bd (psh J ad) λae=>some<|.next ae))) H.length 0 ([]:List Str)) (el (λJ=>some J)<|λaf=>some af)
def f_C (x1:Int):Option Str :=
 bd (c_1 x1 0 8) λG=>if (!G) then some (⟨[]⟩:Str) else bd (idx [(⟨[111,107]⟩:Str),(⟨[115,104,111,114,116]⟩:Str),(⟨[99,111,110,115,116]⟩:Str),(⟨[116,97,103]⟩:Str),(⟨[102,108,97,103]⟩:Str),(⟨[115,117,109]⟩:Str),(⟨[99,111,117,110,116]⟩:Str),(⟨[116,114,97,105,108,105,110,103]⟩:Str),(⟨[114,117,108,101]⟩:Str)] x1) λH=>some H
def i_Y (x1:Int)(x2:Int):Option Str :=
 if (x2==0) then bd (f_C x2) λG=>some G else bd (f_C x2) λH=>bd (cat H (⟨[32,97,116,32]⟩:Str)) λI=>bd (c_T x1) λJ=>bd (cat I J) λL=>some L
def g_S (x1:c_)(x2:c_3):Option Str :=
 if (x2.code==0) then some (⟨[111,107]⟩:Str) else bd (i_Y x2.position x2.code) λG=>bd (α:=Str) (if (x2.path.b != (⟨[]⟩:Str).b) then bd (cat (⟨[32,105,110,32]⟩:Str) x2.path) λI=>bd (cat G I) λJ=>some J else some G) (λH=>bd (c_S x1 x2.rule) λL=>bd (α:=Str) (if L then bd (idx x1.rules x2.rule) λO=>bd (cat (⟨[32,40]⟩:Str) O.name) λV=>bd (cat V (⟨[41]⟩:Str)) λW=>bd (cat H W) λY=>some Y else some H)<|λa0=>some a0)
def i_Z (x1:Str):Option Str :=
 if (x1.b==(⟨[]⟩:Str).b) then some (⟨[46]⟩:Str) else some x1
def g_T (x1:k_):Option Str :=
 bd (i_Z x1.path) λG=>bd (cat G (⟨[32]⟩:Str)) λH=>bd (c_T x1.start) λI=>bd (cat H I) λJ=>bd (cat J (⟨[45]⟩:Str)) λL=>bd (c_T x1.end_) λO=>bd (cat L O) λV=>some V
def g_U (x1:k_)(x2:c_):Option Bool :=
 bd (c_S x2 x1.rule) λH=>if (!H) then some false else bd (idx x2.rules x1.rule) λG=>bd (α:=Bool) (if (G.kind==1) then some (G.kind==1) else bd (α:=Bool) (if (G.kind==2) then some (G.kind==2) else bd (α:=Bool) (if (G.kind==3) then some (G.kind==3) else bd (α:=Bool) (if (G.kind==4) then some (G.kind==4) else some (G.kind==10)) (λI=>some I)) (λJ=>some J)) (λL=>some L)) (λO=>if O then some true else some false)
def j_0 (x1:List k_)(I:c_):Option (List k_) :=
 bd (v_ (σ:=List k_) (ρ:=List k_) (λJ=>(λG=>bd (idx x1 (J:Int)) λH=>bd (g_U H I) λL=>bd (α:=List k_) (if L then bd (psh G H) λO=>some O else some G)<|λV=>some<|.next V)) x1.length 0 ([]:List k_)) (el (λG=>some G)<|λW=>some W)
def g_V (x1:c_)(x2:List k_):Option (List k_) :=
 bd (j_0 x2 x1) λG=>some G
def e_n (n:Nat)(x1:List k_)(x2:Int)(x3:c_)(x4:Bt):Option Str :=
 bd (idx x1 x2) λG=>bd (idx x3.rules G.rule) λI=>bd (g_T G) λJ=>bd (cat J (⟨[32]⟩:Str)) λL=>bd (cat L I.name) λH=>bd (g_V x3 [G]) λO=>bd (α:=Str) (if ((O.length:Int)==1) then bd (i_U n x3 x4 G.path) λV=>bd (cat (⟨[32]⟩:Str) V) λW=>bd (cat H W) λY=>some Y else some H)<|λa0=>some a0
def j_1 (n:Nat)(x1:List k_)(x3:c_)(x4:Bt):Option (List Str) :=
 bd (c_C (λ(k:Nat)=>e_n n x1 (k:Int) x3 x4)<|List.range x1.length) λr=>if r.length<LIM then some r else none
def f_D (n:Nat)(x1:c_)(x2:Bt):Option (List Str) :=
 bd2 (i_K n x1 x2) λG H=>if (!H) then bd (h_l n x1 x2) λI=>bd (g_S x1 I) λJ=>some [J] else bd (j_1 n G x1 x2) λL=>some L
def g_W (n:Nat)(x1:c_)(x2:Bt):Option Bool :=
 if (decide<|1048576<(x2.length:Int)) then some true else bd (h_Q x1 1048576) λY=>if (decide<|Y<0) then some true else bd (e_J x1) λa0=>bd (e_b x2) λa1=>bd (g_R n a0 a1) λG=>bd (e_J x1) λH=>bd (e_b x2) λI=>bd (f_D n H I) λJ=>bd (e_R J G) λa2=>if (!a2) then some false else bd (e_J x1) λa3=>bd (i_B H a3) λa4=>if (!a4) then some false else bd (e_b x2) λa5=>bd (g_C I a5) λa6=>if (!a6) then some false else bd2 (i_D n H 1) λa7 ah=>bd2 (e_S n I a7) λa8 ai=>bd (α:=Bool) (if (decide<|a8<0) then some true else bd (e_R J G) λa9=>some (!a9)) (λaa=>if aa then some false else bd2 (e_T n J 1) λL O=>bd (g_E n O 1) λV=>if (decide<|V<0) then some false else if (V != L) then some false else bd (e_J x1) λab=>bd (e_b x2) λad=>bd (f_D n ab ad) λae=>bd (e_R ae G) λaf=>if (!af) then some false else bd (g_E n O 1) λW=>if (decide<|W<0) then some false else if (W != L) then some false else some true)
end Go.Vw
namespace Go.Vw
open Go.RowKit Dat
theorem p_L {P:Program}{o:Oper}{a:Act}{w:World}{K K' K1 K2:Act->World->Prop}{Q:Exit->Act->World->Prop}(h:∀a w,K a w->K' a w)(hh:o.wp P a w K (Exit.then K1 Q)):o.wp P a w K' (Exit.then K2 Q):=by
 unfold Oper.wp at *
 generalize (execOp a.eval o).run P w=r at *
 cases r with
 | ok n w' =>
  cases n <;> simp only [Oper.upon] at hh ⊢ <;>
   first
    | exact h _ _ hh
    | exact Calls.mono hh (λe w'' he=>by cases e <;> first | exact h _ _ he | exact he)
    | exact Rows.mono hh<|λ_ _ he=>h _ _ he
 | halt x w'=>cases x <;> simp only [Oper.upon] at hh ⊢ <;> exact hh
theorem k_T {P:Program}{ops:Array Oper}{K K1:Act->World->Prop}{Q:Exit->Act->World->Prop}{G:List Oper}(hk:∀a w,K1 a w->wpList P ops (Exit.then K Q) G a w):∀(l1:List Oper)(a:Act)(w:World),wpList P ops (Exit.then K1 Q) l1 a w->wpList P ops (Exit.then K Q) (l1++G) a w
 | [],a,w,h=>hk a w h
 | o::l1,a,w,h=>by
  rw [List.cons_append]
  unfold wpList at h ⊢
  split at h
  .rename_i hw
   rw [if_pos hw]
   rcases h with h | ⟨h1,h2⟩
   .exact .inl<|p_L (k_T hk l1) h
   .exact .inr ⟨h1,h2⟩
  .rename_i hw
   rw [if_neg hw]
   exact k_T hk l1 _ _ h
section
variable {P:Program}{N:Nat}{ops:Array Oper}{K:Act->World->Prop}{Q:Exit->Act->World->Prop}{e:Env}{w:World}{l:List Oper}
theorem p_M (k:Nat)(l:List Oper):l.take k++l.drop k=l:=List.take_append_drop k l
theorem d_j (d:Nat)(u:Bool)(k:Nat)(h1:WL P N ops (λa w'=>w'=w/\Sat N ((d,vB u)::e) a) Q (l.take k) e w)(h2:WL P N ops K Q (l.drop k) ((d,vB u)::e) w):WL P N ops K Q l e w:=λa ha=>by
 rw [← p_M k l]
 exact k_T (λa w' ⟨hw,hs⟩=>by subst hw;exact h2 a hs) _ a w<|h1 a ha
variable {d:Nat}{u c:Bool}
def k_U (n:Nat)(e:Env):Bool:=(e.take n).all λp=>(e.drop n).all λq=>!Nat.beq p.1 q.1
theorem m_M:∀{e:Env}{t:Nat},(∀q∈e,Nat.beq t q.1=false)->A_ e t=none
 | [],_,_=>rfl
 | (k,v)::e,t,h=>by
  have h1:=h (k,v) List.mem_cons_self;have h2:Nat.beq k t=false:=by rw [← Bool.not_eq_true,Nat.beq_eq] at *;exact λh=>h1 h.symm
  rw [A_,h2]
  exact m_M λq hq=>h q<|List.mem_cons_of_mem _ hq
theorem m_N:∀{G H:Env}{t:Nat},(∀p∈G,Nat.beq p.1 t=false)->A_ (G++H) t=A_ H t
 | [],_,_,_=>rfl
 | (k,v)::G,H,t,h=>by
  rw [List.cons_append,A_,h (k,v) List.mem_cons_self]
  exact m_N λp hp=>h p<|List.mem_cons_of_mem _ hp
theorem p_N {n:Nat}{e:Env}(h:k_U n e=true){t:Nat}{v:Value}(hl:A_ (e.drop n) t=some v):A_ e t=some v:=by
 have:A_ (e.take n++e.drop n) t=A_ (e.drop n) t:=by
  refine m_N λp hp=>?_
  cases hb:Nat.beq p.1 t with
  | false=>rfl
  | true =>
   exfalso
   have hpt:p.1=t:=Nat.eq_of_beq_eq_true hb;have h1:=List.all_eq_true.1 h p hp
   rw [List.all_eq_true] at h1
   have:=m_M (e:=e.drop n) (t:=t) λq hq=>by
    have:=h1 q hq
    rw [Bool.not_eq_true'] at this
    rw [← hpt];exact this
   rw [this] at hl;cases hl
 rw [List.take_append_drop] at this
 rw [this];exact hl
theorem p_O (n:Nat){e':Env}{a:Act}(hu:c=u)(G:A_ e' d=some (vB c))(hf:k_U n e'=true)(he:e'.drop n=e)(ha:Sat N e' a):Sat N ((d,vB u)::e) a:=by
 subst hu;subst he;refine ⟨ha.defers,ha.size,λt v ht=>?_⟩
 simp only [A_] at ht
 by_cases hk:d=t
 .subst hk;have hb:Nat.beq d d=true:=by simp
  rw [hb] at ht
  simp only [cond_true,Option.some.injEq] at ht
  subst ht;exact ha.at_ d _ G
 .have hb:Nat.beq d t=false:=by rw [← Bool.not_eq_true,Nat.beq_eq];exact hk
  rw [hb] at ht
  simp only [cond_false] at ht
  exact ha.at_ t v<|p_N hf ht
theorem WLq (n:Nat){e':Env}(hu:some c=some u)(G:A_ e' d=some (vB c))(hf:k_U n e'=true)(he:e'.drop n=e):WL P N ops (λa w'=>w'=w/\Sat N ((d,vB u)::e) a) Q [] e' w :=
 a_t λ_ ha=>⟨rfl,p_O n (Option.some.inj hu) G hf he ha⟩
end
end Go.Vw
universe u
namespace Go.Vw
open Go.RowKit Dat
section
variable {P:Program}{N:Nat}{ops:Array Oper}{K:Act->World->Prop}{Q:Exit->Act->World->Prop}{e:Env}{w:World}{rest:List Oper}
variable {d:Nat}{op:Op}{ty:TypeId}{pos:String}{aft:Array Edge}{x:Operand}
theorem Wn {y:Code}{Q':Exit->Act->World->Prop}(h:WC P N y K Q e w):WL P N ops (KC P y K Q) Q' [] e w:=a_t<|WC.of_KC h
theorem Ws {id:Nat}{l:List Oper}{y:Code}(h:WL P N l.toArray (KC P y K Q) Q l e w):WC P N (.seq (.region id l.toArray false) y) K Q e w:=a_p<|a_P h
theorem Wk {y:Code}{Q':Exit->Act->World->Prop}(h:WC P N y K Q e w):WC P N .skip (KC P y K Q) Q' e w:=Q_<|WC.of_KC h
theorem d_G {b:Bool}{o:Option Value}{v:Value}(h:(bif b then o else none)=some v):b=true/\o=some v:=by
 cases b
 .cases h
 .exact ⟨rfl,h⟩
theorem Rm {v:Value}(h:(bif Nat.blt d N then ev e x else none)=some v)(k:WL P N ops K Q rest ((d,v)::e) w):WL P N ops K Q (⟨some d,.move x,ty,pos,aft,none⟩::rest) e w:=R (d_G h).1 (b_i (d_G h).2) k
theorem Ra {v:Value}(h:(bif Nat.blt d N then ev e x else none)=some v)(k:WL P N ops K Q rest ((d,v)::e) w):WL P N ops K Q (⟨some d,.assign x,ty,pos,aft,none⟩::rest) e w:=R (d_G h).1 (c_8 (d_G h).2) k
section
variable {j:Nat}{want b:Bool}
theorem bind_some {o:Option Nat}{v:Value}(h:o.bind (A_ e)=some v):∃gd,o=some gd/\A_ e gd=some v:=by
 cases o with
 | none=>cases h
 | some g=>exact ⟨g,rfl,h⟩
theorem Rh {v:Value}(h:(bif Nat.blt d N then ((ops[j]?).bind (·.dst)).bind (A_ e) else none)=some (.bool b))(hw:b=want)(hr:Rd noX P N ⟨some d,op,ty,pos,aft,some (j,want)⟩ e w v)(k:WL P N ops K Q rest ((d,v)::e) w):WL P N ops K Q (⟨some d,op,ty,pos,aft,some (j,want)⟩::rest) e w:=by
 obtain ⟨gd,h1,h2⟩:=bind_some (d_G h).2;exact Rg h1 h2 hw (d_G h).1 hr k
theorem Nh (h:(bif Nat.blt d N then ((ops[j]?).bind (·.dst)).bind (A_ e) else none)=some (.bool b))(hw:b = !want)(k:WL P N ops K Q rest ((d,undef)::e) w):WL P N ops K Q (⟨some d,op,ty,pos,aft,some (j,want)⟩::rest) e w:=by
 obtain ⟨gd,h1,h2⟩:=bind_some (d_G h).2;exact Ng h1 h2 hw (d_G h).1 k
theorem Nv (h:(bif Nat.blt d N then ((ops[j]?).bind (·.dst)).bind (A_ e) else none)=some undef)(k:WL P N ops K Q rest ((d,undef)::e) w):WL P N ops K Q (⟨some d,op,ty,pos,aft,some (j,want)⟩::rest) e w:=by
 obtain ⟨gd,h1,h2⟩:=bind_some (d_G h).2;exact Nu h1 h2 (d_G h).1 k
end
end
theorem goF {P:Program}{f:FuncId}{G:Func}{c:Code}{N:Nat}{args:List Value}{w:World}{R:Value->World->Prop}(hf:P.funcs[f]? = some G)(hb:G.body=some c)(hN:G.ntmps=N)(hle:args.length<=N)(h:∀fn:Func,fn.results=G.results->WC P N c (b_U P fn R) (QR P fn R) (e_x 0 args) w):j_ P f args w R:=h_f hf hb hN hle<|h G rfl
theorem goG {P:Program}{f:FuncId}{G:Func}{c:Code}{N:Nat}{args:List Value}{w:World}{R:Value->World->Prop}(hf:P.funcs[f]? = some G)(hb:G.body=some c)(hN:G.ntmps=N)(hle:Nat.ble args.length N=true)(h:∀fn:Func,fn.results=G.results->WC P N c (b_U P fn R) (QR P fn R) (e_x 0 args) w):j_ P f args w R:=goF hf hb hN (Nat.le_of_ble_eq_true hle) h
section
variable {P:Program}{N:Nat}{e:Env}{w:World}{ty:TypeId}{pos:String}{aft:Array Edge}{gd:Option (Nat×Bool)}{x y:Operand}
theorem fs0 {T n g o:Nat}{v:Value}{cur cur':List Value}(hs:∀w,(sizeOf T).run P w = .ok n w)(hp:ev e x=some (.pointer<|some ⟨g,o,none⟩))(hv:ev e y=some v)(hB:Blk w g cur)(hn:v.cells.size=n)
  (ho:Nat.ble (o+n) cur.length=true) (h1:v.cells.toList.all Value.oneCell'=true) (hcur:cur.take o++v.cells.toList++cur.drop (o+v.cells.toList.length)=cur') :
  Ef P N ⟨none,.store T x y,ty,pos,aft,gd⟩ e w (λ_ w'=>Blk w' g cur'/\Chg (· = g) w w'):=b_r hs hp hv hB hn (Nat.le_of_ble_eq_true ho) (b_H h1) hcur
end
abbrev rQ {ρ:Type}(P:Program)(fn:Func)(Q:ρ->Value->World->Prop)(r:ρ)(ex:Exit)(a:Act)(w:World):Prop:=ex = .ret/\b_U P fn (Q r) a w
abbrev _root_.Go.World.z (w:World):Nat:=w.heap.size
abbrev sl (a:Option Addr)(n c:Nat):Value:=.slice a n c
abbrev sN:Value:=sl none 0 0
abbrev pt (g:Nat):Value:=.pointer<|some ⟨g,0,none⟩
abbrev Bw (a b:World):Prop:=Below a.heap.size a b
abbrev vR (x:b_)(G:Option Addr)(H I:Nat)(a2:Option Addr)(J L:Nat)(O:Option Addr)(V W:Nat)(Y:Option Addr)(n4 c4:Nat):List Value:=[x.name.v,vI x.kind,vI x.size,vB x.little,.slice G H I,.slice a2 J L,.slice O V W,.slice Y n4 c4]
theorem z {α:Sort u}{a:α}:a=a:=rfl
theorem Sat.k {N:Nat}{e e':Env}{a:Act}(h:Sat N e a)(hs:sub e e'):Sat N e' a:=h.weaken hs
theorem fid {a:Prop}(h:a):a:=h
theorem lt_ {a b c:Nat}(h:a<=b)(h':b<=c):a<=c:=Nat.le_trans h h'
theorem lr {a:Nat}:a<=a:=Nat.le_refl a
theorem lb {a b:Nat}(h:Nat.ble a b=true):a<=b:=Nat.le_of_ble_eq_true h
theorem ii {x:Int}(h:(decide (-9223372036854775808<=x) && decide (x<=9223372036854775807))=true):inI x:=inI_of x h
section
variable {S T A M:List Nat}{m n g k:Nat}
theorem k_B (h:m<=n):∀k∈[n],m<=k:=f_ h
theorem mno (h:∀ k∈T,k<m)(h':m<=n):∀k∈[n],k∉T:=f_<|λht=>absurd (h n ht)<|Nat.not_lt.2 h'
theorem mnr (h:∀ k∈T,k<m):∀k∈[m],k∉T:=mno h lr
theorem mm1 (h:g<m)(h':m<=n):∀k∈[n],k∉[g]:=mno (f_ h) h'
theorem mmr (h:g<m):∀k∈[m],k∉[g]:=mno (f_ h) lr
theorem mor (h:m<=n):∀k∈[n],k∈M∨m<=k:=f_<|.inr h
theorem q_ (hs:∀k∈S,n<=k)(h:m<=n):∀k∈S,m<=k:=or0 hs<|b_T h
theorem x_ (hs:∀k∈S,n<=k)(h:g<m)(h':m<=n):∀k∈S,k∉[g]:=or0 hs<|a_V (f_ h) h'
theorem a_Z (hs:∀k∈S,n<=k)(h:∀ k∈T,k<m)(h':m<=n):∀k∈S,k∉T:=or0 hs<|a_V h h'
theorem c_r (hs:∀k∈S,k∈A∨n<=k)(ha:∀k∈A,m<=k)(h:m<=n):∀k∈S,m<=k:=or1 hs ha<|b_T h
theorem c_D (hs:∀k∈S,k∈A∨n<=k)(ha:∀k∈A,k∉T)(h:∀ k∈T,k<m)(h':m<=n):∀k∈S,k∉T:=or1 hs ha<|a_V h h'
theorem djs (h:∀k∈S,k∉[g]):g∉S:=λhg=>h g hg<|List.mem_singleton.2 rfl
theorem atp {p:Nat->Prop}(h:∀k∈[g],p k):p g:=h g<|List.mem_singleton.2 rfl
theorem nd0:([]++[]:List Nat).Nodup:=h_b a_l a_l all_nil
theorem al0 {p:Nat->Prop}:∀k∈([]++[]:List Nat),p k:=h_a all_nil all_nil
end
section
variable {e e':Env}{v1 v2 v3 v4 v5 v6 v7 v8 v9:Value}{k1 k2 k3 k4 k5 k6 k7 k8 k9:Nat}
theorem s1 (h1:A_ e k1=some v1):sub e [(k1,v1)]:=⟨h1,trivial⟩
theorem s2 (h1:A_ e k1=some v1)(h2:A_ e k2=some v2):sub e [(k1,v1),(k2,v2)]:=⟨h1,s1 h2⟩
theorem s3 (h1:A_ e k1=some v1)(h2:A_ e k2=some v2)(h3:A_ e k3=some v3):sub e [(k1,v1),(k2,v2),(k3,v3)]:=⟨h1,s2 h2 h3⟩
theorem s4 (h1:A_ e k1=some v1)(h2:A_ e k2=some v2)(h3:A_ e k3=some v3)(h4:A_ e k4=some v4):sub e [(k1,v1),(k2,v2),(k3,v3),(k4,v4)]:=⟨h1,s3 h2 h3 h4⟩
theorem s5 (h1:A_ e k1=some v1)(h2:A_ e k2=some v2)(h3:A_ e k3=some v3)(h4:A_ e k4=some v4)(h5:A_ e k5=some v5):sub e [(k1,v1),(k2,v2),(k3,v3),(k4,v4),(k5,v5)]:=⟨h1,s4 h2 h3 h4 h5⟩
theorem s6 (h1:A_ e k1=some v1)(h2:A_ e k2=some v2)(h3:A_ e k3=some v3)(h4:A_ e k4=some v4)(h5:A_ e k5=some v5)(h6:A_ e k6=some v6):sub e [(k1,v1),(k2,v2),(k3,v3),(k4,v4),(k5,v5),(k6,v6)]:=⟨h1,s5 h2 h3 h4 h5 h6⟩
theorem s7 (h1:A_ e k1=some v1)(h2:A_ e k2=some v2)(h3:A_ e k3=some v3)(h4:A_ e k4=some v4)(h5:A_ e k5=some v5)(h6:A_ e k6=some v6)(G:A_ e k7=some v7):sub e [(k1,v1),(k2,v2),(k3,v3),(k4,v4),(k5,v5),(k6,v6),(k7,v7)]:=⟨h1,s6 h2 h3 h4 h5 h6 G⟩
theorem s8 (h1:A_ e k1=some v1)(h2:A_ e k2=some v2)(h3:A_ e k3=some v3)(h4:A_ e k4=some v4)(h5:A_ e k5=some v5)(h6:A_ e k6=some v6)(G:A_ e k7=some v7)(H:A_ e k8=some v8):sub e [(k1,v1),(k2,v2),(k3,v3),(k4,v4),(k5,v5),(k6,v6),(k7,v7),(k8,v8)]:=⟨h1,s7 h2 h3 h4 h5 h6 G H⟩
theorem s9 (h1:A_ e k1=some v1)(h2:A_ e k2=some v2)(h3:A_ e k3=some v3)(h4:A_ e k4=some v4)(h5:A_ e k5=some v5)(h6:A_ e k6=some v6)(G:A_ e k7=some v7)(H:A_ e k8=some v8)(I:A_ e k9=some v9):sub e [(k1,v1),(k2,v2),(k3,v3),(k4,v4),(k5,v5),(k6,v6),(k7,v7),(k8,v8),(k9,v9)]:=⟨h1,s8 h2 h3 h4 h5 h6 G H I⟩
end
theorem onL {α:Type}[Dat α]{w:World}:a_ w [] (.slice none 0 0) ([]:List α):=r_g w
theorem _root_.Go.RowKit.Below.s {b:Nat}{w w':World}(h:Below b w w'):w.heap.size<=w'.heap.size:=h.size
theorem Chg.s {X:Nat->Prop}{w w':World}(h:Chg X w w'):w.heap.size<=w'.heap.size:=h.size
abbrev Chg.e:=@Chg.ext
abbrev repS.e:=@repS.ext
abbrev repS.c:=@repS.chg
abbrev a_.e:=@a_.ext
abbrev a_.c:=@a_.chg
abbrev M_.e:=@M_.ext
abbrev M_.c:=@M_.chg
abbrev a_R.e:=@a_R.ext
abbrev a_R.c:=@a_R.chg
abbrev b_C.e:=@b_C.ext
abbrev b_C.c:=@b_C.chg
abbrev GlW.e:=@GlW.ext
abbrev GlW.c:=@GlW.chg
abbrev Blk.e:=@Blk.ext
abbrev Blk.c:=@Blk.chg
section
variable {P:Program}{N:Nat}{ops:Array Oper}{K:Act->World->Prop}{Q:Exit->Act->World->Prop}{e:Env}{w:World}{rest:List Oper}{X:Nat->Prop}{T:Nat}{p:a_z}
variable {d d':Nat}{ty ty':TypeId}{pos pos':String}{aft aft':Array Edge}{x x':Operand}{v v':Value}
theorem Rw {c:Code}{Q':Exit->Act->World->Prop}(h:(bif Nat.blt d N then ev e x else none)=some v)(k:WC P N c K Q ((d,v)::e) w):WL P N ops (KC P c K Q) Q' [⟨some d,.assign x,ty,pos,aft,none⟩] e w:=Ra h<|Wn k
theorem Wm {id:Nat}{l:List Oper}{c:Code}(h:(bif Nat.blt d N then ev e x else none)=some v)(k:WL P N (⟨some d,.move x,ty,pos,aft,none⟩::l).toArray (KC P c K Q) Q l ((d,v)::e) w):WC P N (.seq (.region id (⟨some d,.move x,ty,pos,aft,none⟩::l).toArray false) c) K Q e w:=Ws<|Rm h k
theorem RM (h:(bif Nat.blt d N then ev e x else none)=some v)(h':(bif Nat.blt d' N then ev ((d,v)::e) x' else none)=some v')(k:WL P N ops K Q rest ((d',v')::(d,v)::e) w):WL P N ops K Q (⟨some d,.move x,ty,pos,aft,none⟩::⟨some d',.move x',ty',pos',aft',none⟩::rest) e w:=Rm h<|Rm h' k
theorem RA (h:(bif Nat.blt d N then ev e x else none)=some v)(h':(bif Nat.blt d' N then ev ((d,v)::e) x' else none)=some v')(k:WL P N ops K Q rest ((d',v')::(d,v)::e) w):WL P N ops K Q (⟨some d,.assign x,ty,pos,aft,none⟩::⟨some d',.assign x',ty',pos',aft',none⟩::rest) e w:=Ra h<|Ra h' k
theorem dM {i:Nat}(ho:ops[i]? = some ⟨some d,.move x,ty,pos,aft,none⟩)(hf:Nat.blt d N=true)(h:ev e x=some v)(k:PR X P N ops T K p ((d,v)::e) w):PR X P N ops T K (.rd i p) e w:=dR ho hf (b_i h) k
theorem dQ {i:Nat}(ho:ops[i]? = some ⟨some d,.assign x,ty,pos,aft,none⟩)(hf:Nat.blt d N=true)(h:ev e x=some v)(k:PR X P N ops T K p ((d,v)::e) w):PR X P N ops T K (.rd i p) e w:=dR ho hf (c_8 h) k
theorem Wx {y y':Code}{b:Bool}{Q':Exit->Act->World->Prop}(hc:ev e x=some (.bool b))(ht:b=true->WC P N y K Q e w)(hf:b=false->WC P N y' K Q e w):WL P N ops (KC P (.cond x y y') K Q) Q' [] e w:=Wn<|c_d hc ht hf
section
variable {t u i:Nat}{k:IntKind}{a b:Int}
theorem Rl (hf:Nat.blt d N=true)(h1:ev e x=some (.int k a))(h2:ev e x'=some (.int k b))(h:WL P N ops K Q rest ((d,vB<|decide<|a<b)::e) w):WL P N ops K Q (⟨some d,.binOp .lss t x x' u,ty,pos,aft,none⟩::rest) e w:=R hf (f_g h1 h2) h
theorem Rq (hf:Nat.blt d N=true)(h1:ev e x=some (.int k a))(h2:ev e x'=some (.int k b))(h:WL P N ops K Q rest ((d,vB<|a==b)::e) w):WL P N ops K Q (⟨some d,.binOp .eql t x x' u,ty,pos,aft,none⟩::rest) e w:=R hf (g_1 h1 h2) h
theorem Rf {g o j:Nat}(hf:Nat.blt d N=true)(h1:Fld P t i j)(h2:ev e x=some (.pointer<|some ⟨g,o,none⟩))(h:WL P N ops K Q rest ((d,.pointer<|some ⟨g,o+j,none⟩)::e) w):WL P N ops K Q (⟨some d,.fieldAddr t x i,ty,pos,aft,none⟩::rest) e w:=R hf (d_Y h1 h2) h
theorem Re {vs:Array Value}(hf:Nat.blt d N=true)(h1:ev e x=some (.tuple vs))(h2:vs[i]? = some v)(h:WL P N ops K Q rest ((d,v)::e) w):WL P N ops K Q (⟨some d,.extract x i,ty,pos,aft,none⟩::rest) e w:=R hf (h_m h1 h2) h
end
theorem l0 {t g o:Nat}{dst:Option Tmp}{gd:Option (Nat×Bool)}(hT:∀w,(isAgg t).run P w = .ok false w)(h:ev e x=some (.pointer<|some ⟨g,o,none⟩))(hc:w.cell? ⟨g,o,none⟩=some v):Rd noX P N ⟨dst,.load t x,ty,pos,aft,gd⟩ e w v:=b_y hT h (λh=>h) hc
def plA:Nat->Nat->List Nat->a_z
 | _,0,_=>.done
 | i,n+1,l=>bif l.elem i then .ef i (plA (i+1) n l) else .rd i (plA (i+1) n l)
abbrev pl_ (n:Nat)(l:List Nat):a_z:=plA 0 n l
end
end Go.Vw
namespace Go.Vw
open Go.RowKit Dat Go.ChangeShapes Go.WideShapes Go.ChangeAt
structure IsT (P:Program)(t:TypeId)(α:Type)[Dat α](L:α->Prop):Prop where
 rd:∀{H:Type}(enc:TypeId×Value->H)(W:World)(fuel:Nat)(cs:List Value)(x:DataW H×List MemPlace),DataW.trod enc P W 0 (λ_=>true) true fuel t cs=some x->(x.1.weights P t).all (· <= reachBytes)=true->∃v:α,rep W W.heap.size cs v/\L v
section
variable {P:Program}{t:TypeId}
theorem r_M (ht:P.underlying t=some (.int .i64)):IsT P t Int (λ_=>True):=⟨λenc W fuel cs x h _=>by
 obtain ⟨n,rfl,_,hw⟩:=DataW.trod_int ht h;have:=bounds_i64 hw
 exact ⟨n,⟨_,rfl,rfl,by unfold inI;omega⟩,trivial⟩⟩
theorem r_N (ht:P.underlying t=some (.int .u8)):IsT P t UInt8 (λ_=>True):=⟨λenc W fuel cs x h _=>by
 obtain ⟨n,rfl,_,hw⟩:=DataW.trod_int ht h;have hb:=bounds_u8 hw
 have e:n=byteI (UInt8.ofNat n.toNat):=by
  unfold byteI
  rw [UInt8.toNat_ofNat']
  omega
 refine ⟨UInt8.ofNat n.toNat,⟨_,rfl,?_⟩,trivial⟩
 show Value.int .u8 n=vU (byteI<|UInt8.ofNat n.toNat)
 rw [← e]⟩
theorem r_O (ht:P.underlying t=some .bool):IsT P t Bool (λ_=>True):=⟨λenc W fuel cs x h _=>by
 obtain ⟨b,rfl,_⟩:=DataW.trod_bool ht h
 exact ⟨b,⟨_,rfl,rfl⟩,trivial⟩⟩
theorem r_P (ht:P.underlying t=some .string):IsT P t Str (λs=>s.b.length<=LEN):=⟨λenc W fuel cs x h hw=>by
 obtain ⟨s,rfl,rfl,_⟩:=DataW.trod_string ht h
 simp only [DataW.weights,List.all_cons,List.all_nil,Bool.and_true,decide_eq_true_eq] at hw
 have hr:reachBytes=140737488351232:=rfl;have hL:LEN=140737488355328:=rfl;have hl:s.data.toList.length<=LEN:=by omega
 exact ⟨⟨s.data.toList⟩,⟨_,rfl,by simp [Str.v],hl⟩,hl⟩⟩
theorem n_q {H:Type}{e:TypeId}:∀{l:List (DataW H)}{d:DataW H},(DataW.weightsAll P e l).all (· <= reachBytes)=true->d∈l->(d.weights P e).all (· <= reachBytes)=true
 | [],_,_,h=>by cases h
 | y::l,d,hw,h=>by
  unfold DataW.weightsAll at hw
  rw [List.all_append,Bool.and_eq_true] at hw
  rcases List.mem_cons.1 h with rfl | h
  .exact hw.1
  .exact n_q hw.2 h
theorem j_L {H:Type}:∀{ts:List TypeId}{l:List (DataW H)}{i:Nat}{t:TypeId}{d:DataW H},(DataW.weightsEach P ts l).all (· <= reachBytes)=true->ts[i]? = some t->l[i]? = some d->(d.weights P t).all (· <= reachBytes)=true
 | [],_,_,_,_,_,h,_=>by simp at h
 | _::_,[],_,_,_,_,_,h=>by simp at h
 | t::ts,y::l,i,t',d,hw,h1,h2=>by
  unfold DataW.weightsEach at hw
  rw [List.all_append,Bool.and_eq_true] at hw
  cases i with
  | zero=>simp at h1 h2;subst h1 h2;exact hw.1
  | succ i=>simp at h1 h2;exact j_L hw.2 h1 h2
theorem cells?_spec {w:World}{a:Addr}{n:Nat}{cs:List Value}(h:w.cells? 0 a n=some cs):cs.length=n/\∀j v,cs[j]? = some v->w.cell? (a.add j)=some v:=by
 unfold World.cells? at h
 rw [if_pos (Nat.zero_le _)] at h
 refine ⟨by simpa using mapM_some_length h,λj v hv=>?_⟩
 have hj:j<n:=by
  have h1:=(List.getElem?_eq_some_iff.1 hv).1;have h2:=mapM_some_length h
  simp at h2
  omega
 have:=mapM_some_get h j j (by rw [List.getElem?_range hj])
 rw [this];exact hv
theorem r_Q {w:World}{a:Addr}{v:Value}(h:w.cell? a=some v):a.spot=none:=by
 unfold World.cell? at h
 split at h
 .cases hs:a.spot with
  | none=>rfl
  | some x=>rw [hs] at h;simp at h
 .cases h
theorem n_r {α:Type}(Q:Nat->α->Prop):∀(len:Nat),(∀i,i<len->∃v,Q i v)->∃l:List α,l.length=len/\∀(i:Nat)(x:α),l[i]? = some x->Q i x
 | 0,_=>⟨[],rfl,λi x h=>by simp at h⟩
 | n+1,h=>by
  obtain ⟨l,hl,hq⟩:=n_r Q n<|λi hi=>h i (by omega);obtain ⟨v,hv⟩:=h n (by omega);refine ⟨l++[v],by simp [hl],λi x hx=>?_⟩
  by_cases hi:i<l.length
  .rw [List.getElem?_append_left hi] at hx;exact hq i x hx
  .rw [List.getElem?_append_right (by omega)] at hx
   have h1:=(List.getElem?_eq_some_iff.1 hx).1
   simp only [List.length_cons,List.length_nil] at h1
   have h2:i=n:=by omega
   subst h2
   rw [show i - l.length=0 by omega] at hx
   simp at hx
   exact hx ▸ hv
theorem j_M {α:Type}[Dat α]{L:α->Prop}{e:TypeId}(ht:P.underlying t=some (.slice e))(he:IsT P e α L)(hc:P.cellsOf e=sz α)(hb:1<=P.bytesOf e):IsT P t (List α) (λl=>l.length<=LEN/\∀x∈l,L x):=⟨λenc W fuel cs x h hw=>by
 have hr:reachBytes=140737488351232:=rfl;have hL:LEN=140737488355328:=rfl
 rcases DataW.trod_slice ht h with ⟨rfl,rfl⟩ | ⟨a,len,cap,elems,rest,n,_,rfl,rfl,_,hlc,_,hlen,hel,hsp,_⟩
 .exact ⟨[],⟨_,rfl,none,0,rfl,Nat.le_refl _,Nat.zero_le _,λ_=>rfl,λp hp=>by cases hp⟩,by simp,λx hx=>by cases hx⟩
 .obtain ⟨hrl,_⟩:=hsp rfl
  have hw':(elems.length+rest.length) * P.bytesOf e<=reachBytes/\(DataW.weightsAll P e<|elems.map (·.1)).all (· <= reachBytes)=true:=by
   unfold DataW.weights at hw
   rw [ht] at hw
   simp only [List.all_cons,List.all_append,Bool.and_eq_true,decide_eq_true_eq,List.length_map] at hw
   exact ⟨hw.1,hw.2.1⟩
  have hcap:cap<=LEN:=by
   have h1:elems.length+rest.length<=(elems.length+rest.length) * P.bytesOf e:=Nat.le_mul_of_pos_right _ hb
   omega
  have hone:∀i:Nat,i<len->∃v:α,a.spot=none/\a.block<W.heap.size/\(∃cs,M_ W a.block (a.off+i * sz α) cs/\rep W W.heap.size cs v)/\L v:=by
   intro i hi;have h1:=hel i hi;have hie:i<elems.length:=by omega
   rw [List.getElem?_eq_getElem hie] at h1
   cases hcs:W.cells? 0 (a.add<|i * P.cellsOf e) (P.cellsOf e) with
   | none=>rw [hcs] at h1;cases h1
   | some cs =>
    rw [hcs] at h1
    simp only [Option.bind_some] at h1
    obtain ⟨v,hv,hl⟩:=he.rd enc W n cs _ h1<|n_q hw'.2<|List.mem_map_of_mem<|List.getElem_mem hie;obtain ⟨J,O⟩:=cells?_spec hcs;have hpos:0<cs.length:=by rw [J,hc];exact Dat.pos
    have hsp:a.spot=none:=by
     have G:=hel 0 (by omega)
     rw [List.getElem?_eq_getElem (show 0<elems.length by omega)] at G
     cases H:W.cells? 0 (a.add<|0 * P.cellsOf e) (P.cellsOf e) with
     | none=>rw [H] at G;cases G
     | some I =>
      obtain ⟨V,Y⟩:=cells?_spec H;have hpos0:0<I.length:=by rw [V,hc];exact Dat.pos
      have:=Y 0 I[0] (by rw [List.getElem?_eq_getElem hpos0]);have:=r_Q this
      simpa [Addr.add] using this
    have ha:a=⟨a.block,a.off,none⟩:=by cases a;simp only at hsp;rw [hsp]
    have hcells:M_ W a.block (a.off+i * sz α) cs:=by
     intro j u hu;have:=O j u hu
     rw [ha,Addr.add_lit,Addr.add_lit,hc] at this
     exact this
    exact ⟨v,hsp,hcells.lt (by intro h;rw [h] at hpos;cases hpos),⟨cs,hcells,hv⟩,hl⟩
  obtain ⟨l,hll,hq⟩:=n_r _ len hone;refine ⟨l,⟨_,rfl,some a,cap,by rw [hll],by omega,by omega,λh=>(by cases h),λp hp=>?_⟩,by omega,λx hx=>?_⟩
  .obtain rfl:=Option.some.inj hp;refine ⟨λhne=>?_,λhne=>?_,λi x hx=>(hq i x hx).2.2.1⟩
   .cases l with
    | nil=>exact absurd rfl hne
    | cons y l=>exact (hq 0 y rfl).1
   .cases l with
    | nil=>exact absurd rfl hne
    | cons y l=>exact (hq 0 y rfl).2.1
  .obtain ⟨i,hi⟩:=List.getElem?_of_mem hx
   exact (hq i x hi).2.2.2⟩
def cutC:Nat->List Nat->List Value->List (List Value)
 | _,[],_=>[]
 | o,n::r,cs=>(cs.drop o).take n::cutC (o+n) r cs
def l_H:List (List Value)->List Value
 | []=>[]
 | [p]=>p
 | p::q::r=>p++l_H (q::r)
theorem l_I:∀(ns:List Nat)(o:Nat)(cs:List Value),ns ≠ []->cs.length=o+ns.sum->l_H (cutC o ns cs)=cs.drop o
 | [],_,_,h,_=>absurd rfl h
 | [n],o,cs,_,h=>by
  show (cs.drop o).take n=_
  rw [List.take_of_length_le]
  simp at h ⊢;omega
 | n::m::r,o,cs,_,h=>by
  show (cs.drop o).take n++l_H (cutC (o+n) (m::r) cs)=_
  rw [l_I (m::r) (o+n) cs (by simp) (by simp at h ⊢;omega),← List.drop_drop,List.take_append_drop]
theorem n_s {H:Type}{enc:TypeId×Value->H}{W:World}{fuel:Nat}{cs:List Value}{x:DataW H×List MemPlace}{fs:Array Field}(ht:P.underlying t=some (.struct fs))(h:DataW.trod enc P W 0 (λ_=>true) true fuel t cs=some x)(hw:(x.1.weights P t).all (· <= reachBytes)=true) :
  cs.length=P.cellsOf t/\∀(i:Nat)(f:Field),fs[i]? = some f->∀(α:Type)(_:Dat α)(L:α->Prop),IsT P f.type α L->∃v:α,rep W W.heap.size ((cs.drop f.offset).take (P.cellsOf f.type)) v/\L v:=by
 obtain ⟨xs,n,rfl,rfl,hl,hxl,hf⟩:=DataW.trod_struct ht h;refine ⟨hl,λi f hi α _ L hα=>?_⟩;have h1:=hf i f hi;have hlt:=(Array.getElem?_eq_some_iff.1 hi).1
 rw [List.getElem?_eq_getElem (by omega)] at h1
 refine hα.rd enc W n _ _ h1 ?_;unfold DataW.weights at hw
 rw [ht] at hw
 refine j_L (i:=i) hw ?_ (by rw [List.getElem?_map,List.getElem?_eq_getElem (by omega)];rfl)
 rw [List.getElem?_map,Array.getElem?_toList,hi];rfl
structure OkW (P:Program)(W:World)(base:Nat)(t:TypeId)(v:Value):Prop where
 h:Value.okWide P W .any base t v
structure OkWs (P:Program)(W:World)(base:Nat)(ts:Array TypeId)(vs:Array Value):Prop where
 h:∀(j:Nat) t v,ts[j]? = some t->vs[j]? = some v->Value.okWide P W .any base t v
theorem OkWs.at {W:World}{base:Nat}{ts:Array TypeId}{vs:Array Value}(h:OkWs P W base ts vs)(j:Nat)(t:TypeId)(v:Value)(h1:ts[j]? = some t)(h2:vs[j]? = some v):OkW P W base t v:=⟨h.h j t v h1 h2⟩
theorem r_R {W:World}{base:Nat}{t:TypeId}{v:Value}{fs:Array Field}(ht:P.underlying t=some (.struct fs))(h:OkW P W base t v):∃cs,v = .agg cs/\cs.size=P.cellsOf t:=okWide_struct ht h.h
theorem r_S {W:World}{base:Nat}{t:TypeId}{v:Value}{e:TypeId}(ht:P.underlying t=some (.slice e))(h:OkW P W base t v):∃a n c,v = .slice a n c:=okWide_slice ht h.h
theorem n_t {H:Type}{enc:TypeId×Value->H}(hl:laidOutB P=true){W W':World}(hb:Below W.heap.size W W'):∀(ts:List TypeId)(vs:List Value)(ds:List (DataW H))(ps:List MemPlace),(∀t∈ts,P.readableRec t=true/\t<P.types.size) ->
  DataW.TrodAll enc P W 0 (λ_=>true) true ts vs ds ps->(∀x∈ps,x.block<W.heap.size)->∀(sp:Nat->Bool),(∀b,b<W.heap.size->sp b=true)->DataW.TrodAll enc P W' 0 sp true ts vs ds ps
 | [],[],[],_,_,h,_,_,_=>h
 | t::ts,v::vs,d::ds,ps,hr,h,hlt,sp,hsp=>by
  obtain ⟨p,q,h1,h2,rfl⟩:=h;refine ⟨p,q,?_,n_t hl hb ts vs ds q (λt ht=>hr t<|List.mem_cons_of_mem _ ht) h2 (λx hx=>hlt x<|List.mem_append_right _ hx) sp hsp,rfl⟩;have hlp:∀x∈p,x.block<W.heap.size:=λx hx=>hlt x<|List.mem_append_left _ hx
  exact WideElems.Trod_stays hl (hr t List.mem_cons_self).1 (hr t List.mem_cons_self).2 h1 (λx hx=>hb.same<|hlp x hx) (λx hx=>hsp _<|hlp x hx)
 | [],_::_,_,_,_,h,_,_,_=>by cases h
 | [],[],_::_,_,_,h,_,_,_=>by cases h
 | _::_,[],_,_,_,h,_,_,_=>by cases h
 | _::_,_::_,[],_,_,h,_,_,_=>by cases h
theorem r_T {H:Type}{enc:TypeId×Value->H}{f:Func}{s:ChangeSpec}{apart fresh handsOn again:Bool}{W W':World}{args:Array Value}{ds gs:List (DataW H)}{before:List MemPlace}{tb:TypeId}(hl:laidOutB P=true)(hread:∀t∈f.params.toList,P.readableRec t=true/\t<P.types.size)
  (hb:Below W.heap.size W W') (hW:DataW.Whole enc P f.params.toList s.vars apart W args.toList ds gs before) (hres:f.resultTypes = #[tb]) (htb:P.underlying tb=some .bool) (hvars:s.vars=[]) (hfn:s.fn H (ds++gs)={ results:=[.lit (.bool true)],args:=ds }) :
  s.post enc P f apart fresh handsOn again W args (.bool true) W':=by
 have hlt:∀x∈before,x.block<W.heap.size:=λp hp=>hW.lt p hp
 have hW':=hW;obtain ⟨p,q,hA,hV,rfl,hz,hn⟩:=hW
 rw [hvars] at hV
 obtain ⟨rfl,rfl⟩:=trodVars_none hV;have hA':=λsp hsp=>n_t hl hb _ _ _ _ hread hA (λx hx=>hlt x (by simpa using hx)) sp hsp
 have hr:∀(b:Nat)(sp:Nat->Bool)(hd:Bool),DataW.TrodAll enc P W' b sp hd f.resultTypes.toList ((Value.bool true).resultList f.resultTypes.size) (s.fn H<|ds++[]).results []:=λb sp hd=>by
  rw [hfn,hres];exact trodAll_cons_mk (shut_bool htb _) trodAll_mk0
 have hvs:∀sp:Nat->Bool,DataW.TrodVars enc P W' sp s.vars (s.fn H<|ds++[]).vars []:=λsp=>by rw [hfn,hvars];rfl
 refine ⟨ds,[],p++[],[],p,[],hW',hr _ _ _,by rw [hfn];exact hA' _ (λb hb=>by simpa using hb),hvs _,hb.frame _,λ_=>⟨?_,([.lit (.bool true)]:List (DataW H))++ds,[],([]++p)++[],⟨[]++p,[],?_,?_,rfl,?_,?_⟩,?_⟩⟩
 .exact ok_one hres rfl<|okWide_bool_mk htb _
 .have h1:=hr 0 (λ_=>true) true
  rw [hfn] at h1
  exact trodAll_append (hA' _<|λ_ _=>rfl) h1
 .rw [hvars];rfl
 .intro b off hp;have hp':MemPlace.cell b off∈p++[]:=by simpa using hp
  have:=hlt _ hp'
  rw [hb.frozen (p:=⟨b,off,none⟩) this]
  exact hz b off hp'
 .intro ha;have:=hn ha;simpa using this
 .intro x hx _;simpa using hx
end
end Go.Vw
namespace Go.Vw
open Go.RowKit Dat
theorem u_d {x y:Int}(h1 : -9223372036854775808<=x+y)(h2:x+y<=9223372036854775807):h_ x y=x+y:=by
 unfold h_;rw [IntKind.wrap_i64];omega
theorem b_p {x y:Int}(h1 : -9223372036854775808<=x - y)(h2:x - y<=9223372036854775807):W_ x y=x - y:=by
 unfold W_;rw [IntKind.wrap_i64];omega
theorem g_i {x y:Int}(h1 : -9223372036854775808<=x * y)(h2:x * y<=9223372036854775807):b_x x y=x * y:=by
 unfold b_x;rw [IntKind.wrap_i64];omega
theorem m_s {x y:Int}(G:0<=x)(hx:x<=9223372036854775807)(hy:0<y):c_k x y=x / y:=by
 unfold c_k
 rw [Int.tdiv_eq_ediv_of_nonneg G,IntKind.wrap_i64]
 have h1:=Int.ediv_nonneg G<|Int.le_of_lt hy;have h2:=Int.ediv_le_self y G
 omega
theorem k_u {x y:Int}(G:0<=x):a_S x y=x % y:=by
 unfold a_S;exact Int.tmod_eq_emod_of_nonneg G
theorem u_e {a b:UInt8}:byteI a=byteI b ↔ a=b:=by
 unfold byteI
 constructor
 .intro h;have:a.toNat=b.toNat:=by omega
  exact UInt8.toNat_inj.1 this
 .rintro rfl;rfl
section
variable {α:Type}
theorem m_t {l:List α}{k:Nat}(h:k<l.length):idx l (k:Int)=some l[k]:=by rw [n_h];simp [h]
theorem k_v {l:List α}{i:Int}(G:0<=i)(h:i.toNat<l.length):idx l i=some l[i.toNat]:=by
 unfold idx;rw [if_pos G];simp [h]
theorem b_m {l:List α}(h:0<l.length):idx l 0=some l[0]:=m_t (k:=0) h
theorem h_I {l:List α}(h:1<l.length):idx l 1=some l[1]:=m_t (k:=1) h
theorem h_J {l:List α}{a b:Int}(G:0<=a)(h1:a<=b)(h2:b<=l.length):slc l a b=some ((l.take b.toNat).drop a.toNat):=by
 unfold slc;rw [if_pos ⟨G,h1,h2⟩]
theorem c_c {l:List α}{x:α}(h:l.length<LIM):psh l x=some (l++[x]):=by unfold psh;rw [if_pos h]
theorem k_w {l m:List α}(h:l.length+m.length<=LIM):app l m=some (l++m):=by unfold app;rw [if_pos h]
theorem P_ {s t:Str}(h:s.b.length+t.b.length<=LIM):cat s t=some ⟨s.b++t.b⟩:=by unfold cat;rw [if_pos h]
theorem d_a {l:List α}{k:Nat}{x:α}(h:k<l.length):upd l (k:Int) x=some (l.set k x):=by
 unfold upd;rw [if_pos ⟨by omega,by omega⟩];rfl
theorem h_K {z:α}{n:Nat}(h:n<=LIM):mk0 z (n:Int)=some (List.replicate n z):=by
 unfold mk0;rw [if_pos ⟨by omega,by omega⟩];simp
theorem p_5 {z:α}{n:Int}(G:0<=n)(h:n<=LIM):mk0 z n=some (List.replicate n.toNat z):=by
 unfold mk0;rw [if_pos ⟨G,h⟩]
end
section
variable {σ ρ:Type}
theorem p_6 {body:Nat->σ->Option (Out σ ρ)}(st:Nat->σ):∀n k,(∀j,k<=j->j<k+n->body j (st j)=some (.next<|st<|j+1))->v_ body n k (st k)=some (.inl<|st<|k+n)
 | 0,k,_=>rfl
 | n+1,k,h=>by
  have h1:=h k (Nat.le_refl _) (by omega);have h2:=p_6 st n (k+1)<|λj a b=>h j (by omega) (by omega);unfold v_
  rw [h1]
  simp only
  rw [h2,show k+1+n=k+(n+1) by omega]
theorem b_A {body:Nat->σ->Option (Out σ ρ)}(st:Nat->σ){n:Nat}(h:∀j,j<n->body j (st j)=some (.next<|st<|j+1)):v_ body n 0 (st 0)=some (.inl<|st n):=by
 have:=p_6 st n 0<|λj _ b=>h j (by omega)
 simpa using this
theorem forN_ret' {body:Nat->σ->Option (Out σ ρ)}(st:Nat->σ){r:ρ}:∀n k j0,k<=j0->j0<k+n->(∀j,k<=j->j<j0->body j (st j)=some (.next<|st<|j+1))->body j0 (st j0)=some (.ret r)->v_ body n k (st k)=some (.inr r)
 | 0,k,j0,a,b,_,_=>by omega
 | n+1,k,j0,a,b,h,hr=>by
  unfold v_
  by_cases hk:k=j0
  .subst hk;rw [hr]
  .rw [h k (Nat.le_refl _) (by omega)]
   exact forN_ret' st n (k+1) j0 (by omega) (by omega) (λj c d=>h j (by omega) d) hr
theorem g_j {body:Nat->σ->Option (Out σ ρ)}(st:Nat->σ){r:ρ}{n j0:Nat}(G:j0<n)(h:∀j,j<j0->body j (st j)=some (.next<|st<|j+1))(hr:body j0 (st j0)=some (.ret r)):v_ body n 0 (st 0)=some (.inr r) :=
 forN_ret' st n 0 j0 (by omega) (by omega) (λj _ b=>h j b) hr
theorem f_q {body:Nat->Unit->Option (Out Unit ρ)}{n:Nat}(p:Nat->Bool)(r:Nat->ρ)(h:∀k,k<n->(∀j,j<k->p j=false)->body k ()=some (if p k then .ret (r k) else .next ())) :
  v_ body n 0 ()=some (match (List.range n).find? p with | some k=>.inr (r k) | none=>.inl ()):=by
 cases hf:(List.range n).find? p with
 | none =>
  have hn:∀k,k<n->p k=false:=λk hk=>by
   have:=List.find?_eq_none.1 hf k<|List.mem_range.2 hk
   simpa using this
  exact b_A (λ_=>()) (λj hj=>by rw [h j hj (λi hi=>hn i (by omega)),hn j hj];rfl)
 | some k =>
  obtain ⟨hp,as,bs,hl,has⟩:=List.find?_eq_some_iff_append.1 hf
  have hk:as.length<n/\as.length=k:=by
   have h1:as.length<(List.range n).length:=by rw [hl];simp
   simp at h1
   refine ⟨h1,?_⟩;have h2:(List.range n)[as.length]? = some k:=by rw [hl];simp
   rw [List.getElem?_range h1] at h2
   exact Option.some.inj h2
  obtain ⟨h1,rfl⟩:=hk
  have hb:∀j,j<as.length->p j=false:=λj hj=>by
   have h2:(List.range n)[j]? = some (as[j]):=by rw [hl,List.getElem?_append_left hj];simp
   rw [List.getElem?_range (by omega)] at h2
   have h3:=has as[j] (List.getElem_mem hj)
   rw [← Option.some.inj h2] at h3
   simpa using h3
  exact g_j (λ_=>()) h1 (λj hj=>by rw [h j (by omega) (λi hi=>hb i (by omega)),hb j hj];rfl) (by rw [h _ h1 hb,if_pos hp])
theorem u_f {α:Type}(l:List α)(p:α->Bool)(q:Nat->Bool)(h:∀k (hk:k<l.length),q k=p l[k]):(List.range l.length).any q=l.any p:=by
 rw [Bool.eq_iff_iff]
 simp only [List.any_eq_true,List.mem_range]
 constructor
 .rintro ⟨k,hk,hq⟩;exact ⟨l[k],List.getElem_mem hk,by rw [← h k hk];exact hq⟩
 .rintro ⟨x,hx,hp⟩;obtain ⟨k,hk,rfl⟩:=List.getElem_of_mem hx;exact ⟨k,hk,by rw [h k hk];exact hp⟩
theorem e_G {body:Nat->Unit->Option (Out Unit ρ)}{n:Nat}(p:Nat->Bool)(r:ρ)(h:∀k,k<n->(∀j,j<k->p j=false)->body k ()=some (if p k then .ret r else .next ())) :
  v_ body n 0 ()=some (if (List.range n).any p then .inr r else .inl ()):=by
 rw [f_q p (λ_=>r) h]
 cases hf:(List.range n).find? p with
 | none =>
  have:(List.range n).any p=false:=by
   rw [List.any_eq_false];exact λx hx=>by simpa using List.find?_eq_none.1 hf x hx
  rw [this];rfl
 | some k =>
  have:(List.range n).any p=true:=List.any_eq_true.2 ⟨k,List.mem_of_find?_eq_some hf,List.find?_some hf⟩
  rw [this];rfl
theorem g_k {α:Type}{body:Nat->Unit->Option (Out Unit ρ)}{l:List α}(p:α->Bool)(r:ρ)(h:∀k (hk:k<l.length),body k ()=some (if p l[k] then .ret r else .next ())) :
  v_ body l.length 0 ()=some (if l.any p then .inr r else .inl ()):=by
 rw [e_G (λk=>if hk:k<l.length then p l[k] else false) r (λk hk _=>by rw [dif_pos hk];exact h k hk)]
 rw [u_f l p _ (λk hk=>by rw [dif_pos hk])]
theorem iter_brk' {step:σ->Option (Out σ ρ)}(st:Nat->σ){s:σ}:∀m k j0,k<=j0->j0<k+m->(∀j,k<=j->j<j0->step (st j)=some (.next<|st<|j+1))->step (st j0)=some (.brk s)->a_d step m (st k)=some (.inl s)
 | 0,k,j0,a,b,_,_=>by omega
 | m+1,k,j0,a,b,h,hr=>by
  unfold a_d
  by_cases hk:k=j0
  .subst hk;rw [hr]
  .rw [h k (Nat.le_refl _) (by omega)]
   exact iter_brk' st m (k+1) j0 (by omega) (by omega) (λj c d=>h j (by omega) d) hr
theorem m_u {step:σ->Option (Out σ ρ)}(st:Nat->σ){s:σ}{m j0:Nat}(G:j0<m)(h:∀j,j<j0->step (st j)=some (.next<|st<|j+1))(hr:step (st j0)=some (.brk s)):a_d step m (st 0)=some (.inl s) :=
 iter_brk' st m 0 j0 (by omega) (by omega) (λj _ b=>h j b) hr
theorem iter_ret' {step:σ->Option (Out σ ρ)}(st:Nat->σ){r:ρ}:∀m k j0,k<=j0->j0<k+m->(∀j,k<=j->j<j0->step (st j)=some (.next<|st<|j+1))->step (st j0)=some (.ret r)->a_d step m (st k)=some (.inr r)
 | 0,k,j0,a,b,_,_=>by omega
 | m+1,k,j0,a,b,h,hr=>by
  unfold a_d
  by_cases hk:k=j0
  .subst hk;rw [hr]
  .rw [h k (Nat.le_refl _) (by omega)]
   exact iter_ret' st m (k+1) j0 (by omega) (by omega) (λj c d=>h j (by omega) d) hr
theorem p_7 {step:σ->Option (Out σ ρ)}(st:Nat->σ){r:ρ}{m j0:Nat}(G:j0<m)(h:∀j,j<j0->step (st j)=some (.next<|st<|j+1))(hr:step (st j0)=some (.ret r)):a_d step m (st 0)=some (.inr r) :=
 iter_ret' st m 0 j0 (by omega) (by omega) (λj _ b=>h j b) hr
end
theorem p_8 {s:Str}{p:Nat}(h:p<s.b.length)(ha:s.b[p].toNat<128):dec s p=((s.b[p].toNat:Int),1):=by
 have hq:p<(⟨s.b.toArray⟩:ByteArray).size:=by simpa [ByteArray.size] using h
 have hb:(⟨s.b.toArray⟩:ByteArray)[p]'hq=s.b[p]:=rfl;unfold dec
 rw [decode_ascii _ p hq (by rw [hb];exact ha),hb]
theorem u_g {s:Str}{p:Nat}(h:p<s.b.length)(ha:128<=s.b[p].toNat):128<=(dec s p).1:=by
 have hq:p<(⟨s.b.toArray⟩:ByteArray).size:=by simpa [ByteArray.size] using h
 have hb:(⟨s.b.toArray⟩:ByteArray)[p]'hq=s.b[p]:=rfl;unfold dec;have:=(decode_high _ p hq (by rw [hb];exact ha)).1
 simp only
 omega
abbrev bF_:=@Bool.false_eq_true
abbrev dT_:=@decide_eq_true
abbrev dF_:=@decide_eq_false
abbrev bQ_:=@beq_self_eq_true
abbrev mT_:=@List.mem_cons_of_mem
abbrev mS_:=@List.mem_cons_self
abbrev gE_:=@List.getElem_mem
abbrev oI_:=@Option.some.injEq
abbrev gG_:=@List.getElem?_eq_getElem
abbrev gD_:=@List.getD_eq_getElem?_getD
abbrev aE_:=@Bool.and_eq_true
abbrev dE_:=@decide_eq_true_eq
abbrev tN_:=@Int.toNat_natCast
abbrev gS_:=@List.getElem?_eq_some_iff
abbrev iP_:=@if_pos
abbrev iN_:=@if_neg
abbrev fF_:=@if_false
abbrev fT_:=@if_true
abbrev gN_:=@List.getElem?_eq_none
abbrev nT_:=@Bool.not_true
abbrev ix_:=@m_t
abbrev ia_:=@u_d
abbrev lC_:=@List.length_cons
abbrev bN_:=@bne_self_eq_false
abbrev dC_:=@List.drop_eq_getElem_cons
end Go.Vw
