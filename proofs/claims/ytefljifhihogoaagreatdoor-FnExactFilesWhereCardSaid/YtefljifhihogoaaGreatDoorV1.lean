import Derived.Test.YtefljifhihogoaaGreatDoorV0
import Derived.Carry
import Derived.Deep.DeepHandedRow
import Derived.WalkKit
import Derived.ProofKit
import Derived.OpenShut
import Derived.Laws.RangeAny
set_option linter.unusedVariables false
namespace Go.Vw
def j_J (x1:Bt)(x2:Int):Option Int :=
 if (decide<|(w_ x2 (x1.length:Int))<0) then some (-1) else some (w_ x2 (x1.length:Int))
def j_K (x1:List Str)(x2:Int):Option Int :=
 if (decide<|(w_ x2 (x1.length:Int))<0) then some (-1) else bd (k_ (σ:=Int) (ρ:=Int) (λI=>(λG=>bd (idx x1 (I:Int)) λH=>if (decide<|(w_ G (H.b.length:Int))<0) then some (.ret (-1)) else some (.next<|w_ G (H.b.length:Int)))) x1.length 0<|w_ x2 (x1.length:Int)) (el (λG=>some G)<|λJ=>some J)
def j_L (x1:List Int)(x2:Int):Option Int :=
 if (decide<|(w_ x2 (x1.length:Int))<0) then some (-1) else some (w_ x2 (x1.length:Int))
def i_n (x1:f_)(x2:Int):Option Int :=
 if (decide<|(w_ x2 (x1.name.b.length:Int))<0) then some (-1) else bd (j_J x1.bytes<|w_ x2 (x1.name.b.length:Int)) λG=>if (decide<|G<0) then some (-1) else bd (j_K x1.names G) λH=>if (decide<|H<0) then some (-1) else bd (j_L x1.tags H) λI=>if (decide<|I<0) then some (-1) else bd (j_L x1.kids I) λJ=>if (decide<|J<0) then some (-1) else some J
def m_j (x1:List f_)(x2:Int):Option Int :=
 if (decide<|(w_ x2 (x1.length:Int))<0) then some (-1) else bd (k_ (σ:=Int) (ρ:=Int) (λI=>(λG=>bd (idx x1 (I:Int)) λJ=>bd (i_n J G) λH=>if (decide<|H<0) then some (.ret (-1)) else some (.next H))) x1.length 0<|w_ x2 (x1.length:Int)) (el (λG=>some G)<|λL=>some L)
def i_o (x1:d_)(x2:Int):Option Int :=
 bd (m_j x1.rules x2) λG=>if (decide<|G<0) then some (-1) else some G
def i_p (x1:Bt):Option Bt :=
 bd (mk0 (0:UInt8) (x1.length:Int)) λI=>bd (k_ (σ:=Bt) (ρ:=Bt) (λH=>(λG=>bd (idx x1 (H:Int)) λJ=>bd (upd G (H:Int) J) λL=>some<|.next L)) x1.length 0 I)<|el (λG=>some G)<|λO=>some O
def j_M (x1:List Str):Option (List Str) :=
 bd (mk0 (⟨[]⟩:Str) (x1.length:Int)) λI=>bd (k_ (σ:=List Str) (ρ:=List Str) (λH=>(λG=>bd (idx x1 (H:Int)) λJ=>bd (upd G (H:Int) J) λL=>some<|.next L)) x1.length 0 I)<|el (λG=>some G)<|λO=>some O
def i_q (x1:List Int):Option (List Int) :=
 bd (mk0 0 (x1.length:Int)) λI=>bd (k_ (σ:=List Int) (ρ:=List Int) (λH=>(λG=>bd (idx x1 (H:Int)) λJ=>bd (upd G (H:Int) J) λL=>some<|.next L)) x1.length 0 I)<|el (λG=>some G)<|λO=>some O
def j_N (x1:f_):Option f_ :=
 bd (i_p x1.bytes) λG=>bd (j_M x1.names) λH=>bd (i_q x1.tags) λI=>bd (i_q x1.kids) λJ=>some (⟨x1.name,x1.kind,x1.size,x1.little,G,H,I,J⟩:f_)
def m_k (x1:List f_):Option (List f_) :=
 bd (mk0 (⟨(⟨[]⟩:Str),0,0,false,([]:Bt),([]:List Str),([]:List Int),([]:List Int)⟩:f_) (x1.length:Int)) λI=>bd (k_ (σ:=List f_) (ρ:=List f_) (λH=>(λG=>bd (idx x1 (H:Int)) λJ=>bd (j_N J) λL=>bd (upd G (H:Int) L) λO=>some<|.next O)) x1.length 0 I)<|el (λG=>some G)<|λV=>some V
def j_O (x1:d_):Option d_ :=
 bd (m_k x1.rules) λG=>some (⟨G⟩:d_)
def i_r (n:Nat)(x1:Str)(x2:UInt8):Option (List Str) :=
 bd (F_ (σ:=(List Str)×Int×Int) (ρ:=List Str) (un3 λH I G=>if (decide<|G<=(x1.b.length:Int)) then bd (α:=Bool) (if (G==(x1.b.length:Int)) then some true else bd (idx x1.b G) λJ=>some<|(b_ J)==(b_ x2)) (λL=>bd (α:=(List Str)×Int) (if L then bd (c_2 x1 I G) λO=>bd (psh H O) λV=>some (V,e_ G 1) else some (H,I))<|un2 λW Y=>some<|.next (W,Y,e_ G 1)) else some (.brk (H,I,G))) n (([]:List Str),0,0)) (el (un3 λH I G=>some H)<|λa0=>some a0)
def a_M (x1:Int)(x2:Int)(x3:Int):Option Bool :=
 bd (α:=Bool) (if (decide<|x2<=x1) then some (decide<|x1<=x3) else some false) (λG=>some G)
def g_o (x1:Str):Option Bool :=
 bd (k_ (σ:=Unit) (ρ:=Bool) (λk10=>(λ(_:Unit)=>bd (α:=Bool) (bd (idx x1.b (k10:Int)) λG=>if (decide<|(b_ (97:UInt8))<=(b_ G)) then bd (idx x1.b (k10:Int)) λH=>some (decide<|(b_ H)<=(b_ (122:UInt8))) else some false) (λI=>bd (α:=Bool) (bd (idx x1.b (k10:Int)) λJ=>if (decide<|(b_ (48:UInt8))<=(b_ J)) then bd (idx x1.b (k10:Int)) λL=>some (decide<|(b_ L)<=(b_ (57:UInt8))) else some false) (λO=>bd (α:=Bool) (if (!I) then if (!O) then some true else some ((k10:Int)==0) else some false) (λV=>if V then some (.ret false) else some (.next ())))))) x1.b.length 0 ()) (el (λ(_:Unit)=>bd (a_M (x1.b.length:Int) 1 12) λW=>some W)<|λY=>some Y)
def d_p (n:Nat)(x1:Int):Option Str :=
 if (x1==0) then some (⟨[48]⟩:Str) else bd (F_ (σ:=Str×Int) (ρ:=Str) (un2 λH G=>if (G != 0) then bd (α:=Int) (if (decide<|(b_7 G 10)<0) then some (i_1<|b_7 G 10) else some (b_7 G 10)) (λI=>bd (cat (⟨[mkB (e_ 48 I)]⟩:Str) H) λJ=>some<|.next (J,c_V G 10)) else some (.brk (H,G))) n ((⟨[]⟩:Str),x1)) (el (un2 λH G=>if (decide<|x1<0) then bd (cat (⟨[45]⟩:Str) H) λL=>some L else some H)<|λO=>some O)
def i_s (n:Nat)(x1:Str):Option (Int×Bool) :=
 bd (a_M (x1.b.length:Int) 1 13) λI=>if (!I) then some (0,false) else bd (k_ (σ:=Int) (ρ:=Int×Bool) (λH=>(λG=>bd (idx x1.b (H:Int)) λJ=>bd (a_M (b_ J) 48 57) λL=>if (!L) then some (.ret (0,false)) else bd (idx x1.b (H:Int)) λO=>some<|.next<|e_ (b_t 10 G)<|b_<|mkB<|b_ O - b_ (48:UInt8))) x1.b.length 0 0) (el (λG=>bd (α:=Bool) (if (decide<|1000000000000<G) then some true else bd (d_p n G) λV=>some<|V.b != x1.b) (λW=>if W then some (0,false) else some (G,true)))<|λY=>some Y)
def f_k (n:Nat)(x1:Str):Option Bool :=
 bd (α:=Bool) (bd (g_o x1) λG=>if G then some true else if (x1.b==(⟨[42]⟩:Str).b) then some true else if (x1.b==(⟨[63]⟩:Str).b) then some true else some (x1.b==(⟨[43]⟩:Str).b)) (λH=>if H then some true else bd2 (i_s n x1) λI J=>bd (α:=Bool) (if J then bd (d_p n I) λL=>some (L.b==x1.b) else some false)<|λO=>some O)
def i_t (n:Nat)(x1:Str):Option ((List Str)×Bool) :=
 if (x1.b==(⟨[]⟩:Str).b) then some (([]:List Str),true) else bd (i_r n x1 (47:UInt8)) λG=>bd (idx G 0) λI=>if (I.b != (⟨[]⟩:Str).b) then some (([]:List Str),false) else bd (F_ (σ:=Int) (ρ:=(List Str)×Bool) (λH=>if (decide<|H<(G.length:Int)) then bd (idx G H) λJ=>bd (f_k n J) λL=>if (!L) then some (.ret (([]:List Str),false)) else some (.next<|e_ H 1) else some (.brk H)) n 1) (el (λH=>bd (slc G 1 (G.length:Int)) λO=>some (O,decide<|1<(G.length:Int)))<|λV=>some V)
def d_q (x1:f_)(x2:Bool)(x3:Bool)(x4:Bool)(x5:Bool)(x6:Int):Option Bool :=
 bd (α:=Bool) (bd (α:=Bool) (if x2 then some true else some (x1.size==0)) λG=>bd (α:=Bool) (if G then if x3 then some true else some ((x1.bytes.length:Int)==0) else some false) λH=>bd (α:=Bool) (if H then if x4 then some true else some ((x1.names.length:Int)==0) else some false) λI=>bd (α:=Bool) (if I then if x5 then some true else some ((x1.tags.length:Int)==0) else some false) λJ=>bd (α:=Bool) (if J then if (decide<|x6<0) then some true else some ((x1.kids.length:Int)==x6) else some false) λL=>if L then if (!x1.little) then some true else some (x1.kind==1) else some false) (λO=>some O)
def e_K (x1:Int):Option Int :=
 bd (nn<|b_t 8 x1) λG=>some<|b_I .i64 1<|b_t 8 x1
def f_l (x1:d_)(x2:Int):Option Int :=
 bd (α:=Bool) (bd (a_M x2 0<|w_ (x1.rules.length:Int) 1) λG=>if (!G) then some true else bd (idx x1.rules x2) λH=>if (H.kind != 1) then some true else bd (idx x1.rules x2) λI=>bd (a_M I.size 1 4) λJ=>some (!J)) (λL=>if L then some (-1) else bd (idx x1.rules x2) λO=>bd (e_K O.size) λV=>some<|w_ V 1)
def j_P (x1:List Str)(x2:Str):Option Bool :=
 bd (k_ (σ:=Unit) (ρ:=Bool) (λk10=>(λ(_:Unit)=>bd (idx x1 (k10:Int)) λG=>if (G.b==x2.b) then some (.ret true) else some (.next ()))) x1.length 0 ()) (el (λ(_:Unit)=>some false)<|λH=>some H)
def j_Q (x1:List Str):Option Bool :=
 bd (k_ (σ:=Unit) (ρ:=Bool) (λk10=>(λ(_:Unit)=>bd (α:=Bool) (bd (idx x1 (k10:Int)) λG=>bd (g_o G) λH=>if (!H) then some true else bd (slc x1 0 (k10:Int)) λI=>bd (idx x1 (k10:Int)) λJ=>bd (j_P I J) λL=>some L) (λO=>if O then some (.ret false) else some (.next ())))) x1.length 0 ()) (el (λ(_:Unit)=>bd (a_M (x1.length:Int) 1 8) λV=>some V)<|λW=>some W)
def j_R (x1:d_)(x2:f_):Option Bool :=
 bd (α:=Bool) (if ((x2.kids.length:Int) != (e_ (x2.tags.length:Int) 1)) then some true else bd (a_M (x2.tags.length:Int) 1 8) λG=>some (!G)) (λH=>if H then some false else bd (k_ (σ:=Unit) (ρ:=Bool) (λk10=>(λ(_:Unit)=>bd (α:=Bool) (bd (idx x2.tags (k10:Int)) λI=>bd (idx x2.kids 0) λJ=>bd (f_l x1 J) λL=>bd (a_M I 0 L) λO=>if (!O) then some true else if (decide<|0<(k10:Int)) then bd (idx x2.tags<|w_ (k10:Int) 1) λV=>bd (idx x2.tags (k10:Int)) λW=>some (decide<|W<=V) else some false) (λY=>if Y then some (.ret false) else some (.next ())))) x2.tags.length 0 ()) (el (λ(_:Unit)=>some true)<|λa0=>some a0))
def j_S (x1:d_)(x2:f_):Option Bool :=
 if (x2.kind==1) then bd (α:=Bool) (bd (d_q x2 true false false false 0) λG=>if G then bd (a_M x2.size 1 4) λH=>if H then if (!x2.little) then some true else some (decide<|1<x2.size) else some false else some false) (λI=>some I) else if (x2.kind==2) then bd (α:=Bool) (bd (d_q x2 false true false false 0) λJ=>if J then bd (a_M (x2.bytes.length:Int) 1 16) λL=>some L else some false) (λO=>some O) else if (x2.kind==3) then bd (α:=Bool) (bd (d_q x2 true false false false 0) λV=>if V then bd (a_M x2.size 1 64) λW=>some W else some false) (λY=>some Y) else if (x2.kind==4) then bd (α:=Bool) (bd (d_q x2 false false false false 1) λa0=>if a0 then bd (idx x2.kids 0) λa1=>bd (f_l x1 a1) λa2=>some (decide<|0<a2) else some false) (λa3=>some a3) else if (x2.kind==5) then bd (α:=Bool) (bd (d_q x2 false false false false 2) λa4=>if a4 then bd (idx x2.kids 0) λa5=>bd (f_l x1 a5) λa6=>some (decide<|0<a6) else some false) (λa7=>some a7) else if (x2.kind==6) then bd (α:=Bool) (bd (d_q x2 false false true false (x2.names.length:Int)) λa8=>if a8 then bd (j_Q x2.names) λa9=>some a9 else some false) (λaa=>some aa) else if (x2.kind==7) then bd (α:=Bool) (bd (d_q x2 false false false true (-1)) λab=>if ab then bd (j_R x1 x2) λad=>some ad else some false) (λae=>some ae) else bd (α:=Bool) (if (x2.kind==8) then some (x2.kind==8) else some (x2.kind==9)) (λaf=>if af then bd (d_q x2 false false false false 1) λah=>some ah else if (x2.kind==10) then bd (α:=Bool) (bd (d_q x2 false true false false 0) λai=>if ai then if ((x2.bytes.length:Int)==1) then bd (idx x2.bytes 0) λaj=>some ((b_ aj) != (b_ (92:UInt8))) else some false else some false) (λak=>some ak) else some false)
def j_T (x1:d_)(x2:Int):Option Bool :=
 bd (a_M x2 0<|w_ (x1.rules.length:Int) 1) λH=>if (!H) then some false else bd (idx x1.rules x2) λG=>bd (k_ (σ:=Unit) (ρ:=Bool) (λI=>(λ(_:Unit)=>bd (idx x1.rules (I:Int)) λJ=>if (J.name.b==G.name.b) then some (.ret false) else some (.next ()))) x2.toNat 0 ()) (el (λ(_:Unit)=>bd (k_ (σ:=Unit) (ρ:=Bool) (λL=>(λ(_:Unit)=>bd (idx G.kids (L:Int)) λO=>bd (a_M O 0<|w_ x2 1) λV=>if (!V) then some (.ret false) else some (.next ()))) G.kids.length 0 ()) (el (λ(_:Unit)=>bd (α:=Bool) (bd (g_o G.name) λW=>if W then bd (j_S x1 G) λY=>some Y else some false)<|λa0=>some a0)<|λa1=>some a1))<|λa2=>some a2)
def h_w (x1:d_):Option Bool :=
 bd (k_ (σ:=Unit) (ρ:=Bool) (λk10=>(λ(_:Unit)=>bd (j_T x1 (k10:Int)) λG=>if (!G) then some (.ret false) else some (.next ()))) x1.rules.length 0 ()) (el (λ(_:Unit)=>bd (a_M (x1.rules.length:Int) 1 24) λH=>some H)<|λI=>some I)
def h_x (x1:d_):Option Int :=
 some (w_ (x1.rules.length:Int) 1)
def i_u (x1:Bt)(x2:Bool):Option Int :=
 if (decide<|4<(x1.length:Int)) then some 0 else bd (k_ (σ:=Int) (ρ:=Int) (λH=>(λG=>bd (α:=Int) (if x2 then some (w_ (w_ (x1.length:Int) 1) (H:Int)) else some (H:Int))<|λI=>bd (idx x1 I) λJ=>some<|.next<|e_ (b_t G 256)<|b_ J)) x1.length 0 0) (el (λG=>some G)<|λL=>some L)
def d_r (x1:d_)(x2:Int)(x3:Bt)(x4:Int):Option (Int×Int×Bool) :=
 bd (idx x1.rules x2) λG=>if (decide<|(w_ (x3.length:Int) x4)<G.size) then some (0,x4,false) else bd (slc x3 x4<|e_ x4 G.size) λH=>bd (i_u H G.little) λI=>some (I,e_ x4 G.size,true)
def b_S (x1:f_)(x2:Int)(x3:Int):Option Int :=
 if (x1.kind==5) then bd (idx x1.kids 1) λG=>some G else bd (α:=Sum Unit Int) (if (x1.kind==6) then if (decide<|x3<(x1.kids.length:Int)) then bd (idx x1.kids x3) λH=>some (.inr H) else some (.inl ()) else bd (α:=Sum Unit<|Sum Unit Int) (if (x1.kind==7) then bd (k_ (σ:=Unit) (ρ:=Int) (λk10=>(λ(_:Unit)=>bd (idx x1.tags (k10:Int)) λI=>if (I==x2) then bd (idx x1.kids ((k10+1:Nat):Int)) λJ=>some (.ret J) else some (.next ()))) x1.tags.length 0 ()) (el (λ(_:Unit)=>some<|.inl ())<|λL=>some<|.inr<|.inr L) else bd (α:=Bool) (if (x1.kind==8) then some (x1.kind==8) else some (x1.kind==9)) (λO=>if O then bd (idx x1.kids 0) λV=>some (.inr<|.inr V) else some (.inl ()))) (el (λ(_:Unit)=>some<|.inl ()) some)) (el (λ(_:Unit)=>some (-1)) some)
def g_p (x1:d_)(x2:f_)(x3:Bt)(x4:Int):Option (Int×Int×Int) :=
 if (x2.kind==6) then some (x4,(x2.kids.length:Int),0) else if (x2.kind==9) then some (x4,1,0) else bd (α:=Sum Unit<|Int×Int×Int) (if (x2.kind==8) then bd (α:=Bool) (if (decide<|x4<(x3.length:Int)) then bd (idx x3 x4) λI=>some ((b_ I)==(b_ (1:UInt8))) else some false) (λJ=>if J then some (.inr (e_ x4 1,1,0)) else some (.inl ())) else bd (α:=Bool) (if (x2.kind==5) then some (x2.kind==5) else some (x2.kind==7)) (λL=>bd (α:=Sum Unit<|Sum Unit<|Int×Int×Int) (if L then bd (idx x2.kids 0) λO=>bd3 (d_r x1 O x3 x4) λG H V=>bd (α:=Sum Unit<|Sum Unit<|Sum Unit<|Int×Int×Int) (if (!V) then some (.inl ()) else bd (α:=Bool) (if (x2.kind==5) then some (decide<|G<=40) else some false) (λW=>if W then some (.inr<|.inr<|.inr (H,G,0)) else bd (α:=Bool) (if (x2.kind==7) then bd (b_S x2 G 0) λY=>some (decide<|0<=Y) else some false) (λa0=>if a0 then some (.inr<|.inr<|.inr (H,1,G)) else some (.inl ())))) (el (λ(_:Unit)=>some<|.inl ()) some) else some (.inl ()))<|el (λ(_:Unit)=>some<|.inl ()) some)) (el (λ(_:Unit)=>some (x4,(-1),0)) some)
def g_q (n:Nat)(x1:f_)(x2:Int):Option Str :=
 if (x1.kind==5) then bd (d_p n x2) λG=>some G else bd (α:=Bool) (if (x1.kind==6) then some (decide<|x2<(x1.names.length:Int)) else some false) (λH=>if H then bd (idx x1.names x2) λI=>some I else bd (α:=Bool) (if (x1.kind==7) then some (x2==0) else some false) (λJ=>if J then some (⟨[42]⟩:Str) else bd (α:=Bool) (if (x1.kind==8) then some (x2==0) else some false) (λL=>if L then some (⟨[63]⟩:Str) else bd (α:=Bool) (if (x1.kind==9) then some (x2==0) else some false) (λO=>if O then some (⟨[43]⟩:Str) else some (⟨[]⟩:Str)))))
def j_U (x1:f_)(x2:Bt)(x3:Int):Option (Val×Int×Int) :=
 bd (k_ (σ:=Unit) (ρ:=Val×Int×Int) (λk10=>(λ(_:Unit)=>if (decide<|(x2.length:Int)<=(e_ x3 (k10:Int))) then some (.ret ((⟨0,([]:Bt),([]:List Val)⟩:Val),x3,1)) else bd (idx x2<|e_ x3 (k10:Int)) λG=>bd (idx x1.bytes (k10:Int)) λH=>if ((b_ G) != (b_ H)) then some (.ret ((⟨0,([]:Bt),([]:List Val)⟩:Val),e_ x3 (k10:Int),2)) else some (.next ()))) x1.bytes.length 0 ()) (el (λ(_:Unit)=>some ((⟨0,([]:Bt),([]:List Val)⟩:Val),e_ x3 (x1.bytes.length:Int),0))<|λI=>some I)
def i_v (x1:Bt)(x2:Int)(x3:Int):Option (Val×Int×Int) :=
 if (decide<|(w_ (x1.length:Int) x2)<x3) then some ((⟨0,([]:Bt),([]:List Val)⟩:Val),x2,1) else bd (slc x1 x2<|e_ x2 x3) λG=>bd (app ([]:Bt) G) λH=>some ((⟨0,H,([]:List Val)⟩:Val),e_ x2 x3,0)
def j_V (n:Nat)(x1:Bt)(x2:Int)(x3:UInt8):Option (Bt×Int×Bool) :=
 bd (F_ (σ:=Bt×Int) (ρ:=Bt×Int×Bool) (un2 λH G=>bd (α:=Bool) (bd (a_M x2 0 (x1.length:Int)) λJ=>if J then some (decide<|G<(x1.length:Int)) else some false) (λL=>if L then bd (idx x1 G) λO=>if ((b_ O)==(b_ x3)) then some (.ret (H,e_ G 1,true)) else bd (idx x1 G) λV=>bd (α:=Sum Int<|Out (Bt×Int)<|Bt×Int×Bool) (if ((b_ V)==(b_ (92:UInt8))) then if ((e_ G 1)==(x1.length:Int)) then some (.inr<|.brk (H,e_ G 1)) else some (.inl<|e_ G 1) else some (.inl G)) (el (λI=>bd (idx x1 I) λW=>bd (psh H W) λY=>some<|.next (Y,e_ I 1)) some) else some (.brk (H,G)))) n (([]:Bt),x2)) (el (un2 λH G=>some (([]:Bt),x2,false))<|λa0=>some a0)
def i_w (x1:Bt):Option Int :=
 bd (k_ (σ:=Int) (ρ:=Int) (λH=>(λG=>bd (idx x1 (H:Int)) λI=>some<|.next<|b_7 (e_ G<|b_ I) 256)) x1.length 0 0) (el (λG=>some G)<|λJ=>some J)
structure i_x where
 spec_l11Read:d_->Int->Bt->Int->Option (Val×Int×Int)
 spec_l11Items:d_->f_->Int->Int->Bt->Int->Option (Val×Int×Int)
 spec_l11Choice:d_->f_->Bt->Int->Option (Val×Int×Int)
 spec_l11Option:d_->f_->Bt->Int->Option (Val×Int×Int)
 spec_l11Checked:d_->f_->Bt->Int->Option (Val×Int×Int)
def j_W (n:Nat)(rec:i_x)(x1:d_)(x2:Int)(x3:Bt)(x4:Int):Option (Val×Int×Int) :=
 bd (idx x1.rules x2) λG=>if (G.kind==1) then bd3 (d_r x1 x2 x3 x4) λJ L O=>if (!O) then some ((⟨0,([]:Bt),([]:List Val)⟩:Val),x4,1) else some ((⟨J,([]:Bt),([]:List Val)⟩:Val),L,0) else if (G.kind==2) then bd3 (j_U G x3 x4) λV W Y=>some (V,W,Y) else if (G.kind==3) then bd3 (i_v x3 x4 G.size) λa0 a1 a2=>some (a0,a1,a2) else if (G.kind==10) then bd (idx G.bytes 0) λa3=>bd3 (j_V n x3 x4 a3) λa4 a5 a6=>if (!a6) then some ((⟨0,([]:Bt),([]:List Val)⟩:Val),x4,1) else some ((⟨0,a4,([]:List Val)⟩:Val),a5,0) else if (G.kind==6) then bd3 (rec.spec_l11Items x1 G 0 (G.kids.length:Int) x3 x4) λa7 a8 a9=>some (a7,a8,a9) else if (G.kind==7) then bd3 (rec.spec_l11Choice x1 G x3 x4) λaa ab ad=>some (aa,ab,ad) else if (G.kind==8) then bd3 (rec.spec_l11Option x1 G x3 x4) λae af ah=>some (ae,af,ah) else if (G.kind==9) then bd3 (rec.spec_l11Checked x1 G x3 x4) λai aj ak=>some (ai,aj,ak) else bd (idx G.kids 0) λal=>bd3 (d_r x1 al x3 x4) λH I am=>if (!am) then some ((⟨0,([]:Bt),([]:List Val)⟩:Val),x4,1) else if (G.kind==4) then bd3 (i_v x3 I H) λan ap aq=>some (an,ap,aq) else if (decide<|40<H) then some ((⟨0,([]:Bt),([]:List Val)⟩:Val),x4,6) else bd3 (rec.spec_l11Items x1 G 0 H x3 I) λar au av=>some (ar,au,av)
def j_X (n:Nat)(rec:i_x)(x1:d_)(x2:f_)(x3:Int)(x4:Int)(x5:Bt)(x6:Int):Option (Val×Int×Int) :=
 bd (k_ (σ:=Int×(List Val)) (ρ:=Val×Int×Int) (λO=>un2 λG H=>bd (α:=Int×Bt×(List Val)×Int×Int) (bd (b_S x2 x3 (O:Int)) λV=>bd3 (rec.spec_l11Read x1 V x5 G) λI W Y=>some (I.number,I.bytes,I.items,W,Y)) (un5 λa0 a1 a2 J L=>if (L != 0) then some (.ret ((⟨0,([]:Bt),([]:List Val)⟩:Val),J,L)) else bd (psh H (⟨a0,a1,a2⟩:Val)) λa3=>some<|.next (J,a3))) x4.toNat 0 (x6,([]:List Val))) (el (un2 λG H=>some ((⟨0,([]:Bt),H⟩:Val),G,0))<|λa4=>some a4)
def j_Y (n:Nat)(rec:i_x)(x1:d_)(x2:f_)(x3:Bt)(x4:Int):Option (Val×Int×Int) :=
 bd (idx x2.kids 0) λJ=>bd3 (d_r x1 J x3 x4) λG L O=>if (!O) then some ((⟨0,([]:Bt),([]:List Val)⟩:Val),x4,1) else bd (b_S x2 G 0) λV=>if (decide<|V<0) then some ((⟨0,([]:Bt),([]:List Val)⟩:Val),x4,3) else bd3 (rec.spec_l11Items x1 x2 G 1 x3 L) λH W I=>bd (α:=Int) (if (I==0) then some G else some H.number)<|λY=>some ((⟨Y,H.bytes,H.items⟩:Val),W,I)
def j_Z (n:Nat)(rec:i_x)(x1:d_)(x2:f_)(x3:Bt)(x4:Int):Option (Val×Int×Int) :=
 if (decide<|(x3.length:Int)<=x4) then some ((⟨0,([]:Bt),([]:List Val)⟩:Val),x4,1) else bd (idx x3 x4) λG=>if (decide<|(b_ (1:UInt8))<(b_ G)) then some ((⟨0,([]:Bt),([]:List Val)⟩:Val),x4,4) else bd (idx x3 x4) λH=>bd3 (rec.spec_l11Items x1 x2 0 (b_ H) x3<|e_ x4 1) λI J L=>some (I,J,L)
def k_0 (n:Nat)(rec:i_x)(x1:d_)(x2:f_)(x3:Bt)(x4:Int):Option (Val×Int×Int) :=
 bd3 (rec.spec_l11Items x1 x2 0 1 x3 x4) λH G I=>if (I != 0) then some (H,G,I) else if (decide<|(x3.length:Int)<=G) then some ((⟨0,([]:Bt),([]:List Val)⟩:Val),G,1) else bd (idx x3 G) λJ=>bd (slc x3 x4 G) λL=>bd (i_w L) λO=>if ((b_ J) != O) then some ((⟨0,([]:Bt),([]:List Val)⟩:Val),G,5) else some (H,e_ G 1,0)
def a_w:Nat->i_x
 | 0=>⟨λ_ _ _ _=>none,λ_ _ _ _ _ _=>none,λ_ _ _ _=>none,λ_ _ _ _=>none,λ_ _ _ _=>none⟩
 | n+1=>⟨j_W n<|a_w n,j_X n<|a_w n,j_Y n<|a_w n,j_Z n<|a_w n,k_0 n<|a_w n⟩
def e_L (n:Nat):=(a_w n).spec_l11Read
def h_y (n:Nat):=(a_w n).spec_l11Items
def d_P (n:Nat)(x1:d_)(x2:Int)(x3:Bt)(x4:Int)(x5:Str):Option (Int×Int×Bool) :=
 bd (idx x1.rules x2) λG=>bd3 (g_p x1 G x3 x4) λL O V=>bd (k_ (σ:=Int) (ρ:=Int×Int×Bool) (λI=>(λH=>bd (b_S G V (I:Int)) λJ=>bd (g_q n G (I:Int)) λW=>if (W.b==x5.b) then some (.ret (J,H,true)) else bd3 (e_L n x1 J x3 H) λa2 Y a0=>if (a0 != 0) then some (.ret (0,0,false)) else some (.next Y))) O.toNat 0 L)<|el (λH=>some (0,0,false))<|λa1=>some a1
def g_r (n:Nat)(x1:d_)(x2:Bt)(x3:Str):Option (j_×Bool) :=
 bd2 (i_t n x3) λI J=>bd (α:=Bool) (if (!J) then some true else bd (h_w x1) λL=>if (!L) then some true else some (decide<|400<(x2.length:Int))) (λO=>if O then some ((⟨(⟨[]⟩:Str),0,0,0⟩:j_),false) else bd (h_x x1) λV=>bd (k_ (σ:=Int×Int) (ρ:=j_×Bool) (λW=>un2 λG H=>bd (idx I (W:Int)) λY=>bd3 (d_P n x1 G x2 H Y) λa0 a1 a2=>if (!a2) then some (.ret ((⟨(⟨[]⟩:Str),0,0,0⟩:j_),false)) else some (.next (a0,a1))) I.length 0 (V,0)) (el (un2 λG H=>bd3 (e_L n x1 G x2 H) λa6 a3 a4=>if (a4 != 0) then some ((⟨(⟨[]⟩:Str),0,0,0⟩:j_),false) else some ((⟨x3,G,H,a3⟩:j_),true))<|λa5=>some a5))
def i_y (x1:d_)(x2:Int):Option Bool :=
 bd (α:=Bool) (bd (a_M x2 0<|w_ (x1.rules.length:Int) 1) λG=>if G then bd (h_w x1) λH=>some H else some false) (λI=>some I)
def k_1 (n:Nat)(x1:d_)(x2:Int)(x3:Bt)(x4:Int):Option (Val×Int×Int) :=
 bd (α:=Bool) (bd (i_y x1 x2) λG=>if (!G) then some true else bd (a_M x4 0 (x3.length:Int)) λH=>if (!H) then some true else some (decide<|400<(x3.length:Int))) (λI=>if I then some ((⟨0,([]:Bt),([]:List Val)⟩:Val),0,8) else bd3 (e_L n x1 x2 x3 x4) λJ L O=>some (J,L,O))
def k_2 (n:Nat)(x1:d_)(x2:Bt):Option (Val×Int×Int) :=
 bd (α:=Int×Bt×(List Val)×Int×Int) (bd (h_x x1) λJ=>bd3 (k_1 n x1 J x2 0) λG L O=>some (G.number,G.bytes,G.items,L,O)) (un5 λV W Y H I=>bd (α:=Bool) (if (I==0) then some (decide<|H<(x2.length:Int)) else some false) (λa0=>if a0 then some ((⟨0,([]:Bt),([]:List Val)⟩:Val),H,7) else some ((⟨V,W,Y⟩:Val),H,I)))
def i_z (n:Nat)(x1:d_)(x2:Bt):Option Bool :=
 bd3 (k_2 n x1 x2) λH I G=>some<|G==0
def g_s (x1:Str)(x2:UInt8):Option (List Str) :=
 bd (k_ (σ:=(List Str)×Int) (ρ:=List Str) (λI=>un2 λG H=>bd (idx x1.b (I:Int)) λJ=>bd (α:=(List Str)×Int) (if ((b_ J)==(b_ x2)) then bd (c_2 x1 H (I:Int)) λL=>bd (psh G L) λO=>some (O,((I+1:Nat):Int)) else some (G,H))<|un2 λV W=>some<|.next (V,W)) x1.b.length 0 (([]:List Str),0)) (el (un2 λG H=>bd (c_2 x1 H (x1.b.length:Int)) λY=>bd (psh G Y) λa0=>some a0)<|λa1=>some a1)
def f_m (n:Nat)(x1:Str):Option Bool :=
 bd (α:=Bool) (if (decide<|(x1.b.length:Int)<1) then some true else some (decide<|12<(x1.b.length:Int))) (λH=>if H then some false else bd (F_ (σ:=Nat) (ρ:=Bool) (λG=>if (decide<|G<x1.b.length) then bd (α:=Bool) (if (decide<|97<=((dec x1 G).1)) then some (decide<|((dec x1 G).1)<=122) else some false) (λI=>bd (α:=Bool) (if (decide<|48<=((dec x1 G).1)) then some (decide<|((dec x1 G).1)<=57) else some false) (λJ=>bd (α:=Bool) (if (!I) then if (!J) then some true else some ((G:Int)==0) else some false) (λL=>if L then some (.ret false) else some (.next<|G+(dec x1 G).2)))) else some (.brk G)) n 0) (el (λG=>some true)<|λO=>some O))
def h_z (x1:Str):Option (Int×Bool) :=
 bd (α:=Bool) (if (x1.b==(⟨[]⟩:Str).b) then some true else if (decide<|13<(x1.b.length:Int)) then some true else bd (idx x1.b 0) λI=>if ((b_ I)==(b_ (48:UInt8))) then some (decide<|1<(x1.b.length:Int)) else some false) (λJ=>if J then some (0,false) else bd (k_ (σ:=Int) (ρ:=Int×Bool) (λH=>(λG=>bd (α:=Bool) (bd (idx x1.b (H:Int)) λL=>if (decide<|(b_ L)<(b_ (48:UInt8))) then some true else bd (idx x1.b (H:Int)) λO=>some<|decide<|(b_ (57:UInt8))<(b_ O)) (λV=>if V then some (.ret (0,false)) else bd (idx x1.b (H:Int)) λW=>some<|.next<|e_ (b_t 10 G)<|b_<|mkB<|b_ W - b_ (48:UInt8)))) x1.b.length 0 0) (el (λG=>if (decide<|1000000000000<G) then some (0,false) else some (G,true))<|λY=>some Y))
def g_t (n:Nat)(x1:Str):Option Bool :=
 bd (α:=Bool) (bd (f_m n x1) λG=>if G then some true else if (x1.b==(⟨[42]⟩:Str).b) then some true else if (x1.b==(⟨[63]⟩:Str).b) then some true else some (x1.b==(⟨[43]⟩:Str).b)) (λH=>if H then some true else bd2 (h_z x1) λJ I=>some I)
def m_l (n:Nat)(x1:Str):Option ((List Str)×Bool) :=
 if (x1.b==(⟨[]⟩:Str).b) then some ([],true) else bd (idx x1.b 0) λc=>if (b_ c != b_ (47:UInt8)) then some ([],false) else bd (g_s x1 (47:UInt8)) λl=>bd (slc l 1 (l.length:Int)) λparts=>bd (h_u (g_t n) parts) λoks=>if parts.length<LIM then some (if oks.all id then (parts,true) else ([],false)) else none
def i_A (n:Nat)(x1:Str):Option ((List Str)×Bool) :=
 bd2 (m_l n x1) λG H=>some (G,H)
def c_B (x1:Int)(x2:Int)(x3:Int):Option Bool :=
 bd (α:=Bool) (if (decide<|x2<=x1) then some (decide<|x1<=x3) else some false) (λG=>some G)
def g_u (x1:d_)(x2:Int):Option Bool :=
 bd (α:=Bool) (if (decide<|0<=x2) then some (decide<|x2<(x1.rules.length:Int)) else some false) (λG=>some G)
def d_s (x1:f_)(x2:Bool)(x3:Bool)(x4:Bool)(x5:Bool)(x6:Int):Option Bool :=
 bd (α:=Bool) (bd (α:=Bool) (if x2 then some true else some (x1.size==0)) λG=>bd (α:=Bool) (if G then if x3 then some true else some ((x1.bytes.length:Int)==0) else some false) λH=>bd (α:=Bool) (if H then if x4 then some true else some ((x1.names.length:Int)==0) else some false) λI=>bd (α:=Bool) (if I then if x5 then some true else some ((x1.tags.length:Int)==0) else some false) λJ=>if J then if (decide<|x6<0) then some true else some ((x1.kids.length:Int)==x6) else some false) (λL=>some L)
def e_j (x1:d_)(x2:Int):Option Int :=
 bd (α:=Bool) (bd (g_u x1 x2) λH=>if (!H) then some true else bd (idx x1.rules x2) λI=>if (I.kind != 1) then some true else bd (idx x1.rules x2) λJ=>bd (c_B J.size 1 4) λL=>some (!L)) (λO=>if O then some (-1) else bd (idx x1.rules x2) λG=>bd (nn<|b_t 8 G.size) λV=>some<|w_ (b_I .i64 1<|b_t 8 G.size) 1)
def h_A (x1:List Str)(x2:Str):Option Bool :=
 bd (k_ (σ:=Unit) (ρ:=Bool) (λk10=>(λ(_:Unit)=>bd (idx x1 (k10:Int)) λG=>if (G.b==x2.b) then some (.ret true) else some (.next ()))) x1.length 0 ()) (el (λ(_:Unit)=>some false)<|λH=>some H)
def k_3 (n:Nat)(x1:f_):Option Bool :=
 bd (α:=Bool) (bd (d_s x1 false false true false (-1)) λH=>if (!H) then some true else if ((x1.kids.length:Int) != (x1.names.length:Int)) then some true else bd (c_B (x1.kids.length:Int) 1 8) λI=>some (!I)) (λJ=>if J then some false else bd (k_ (σ:=Unit) (ρ:=Bool) (λk10=>(λ(_:Unit)=>bd (idx x1.names (k10:Int)) λG=>bd (α:=Bool) (bd (f_m n G) λL=>if (!L) then some true else bd (slc x1.names 0 (k10:Int)) λO=>bd (h_A O G) λV=>some V) (λW=>if W then some (.ret false) else some (.next ())))) x1.names.length 0 ()) (el (λ(_:Unit)=>some true)<|λY=>some Y))
def k_4 (x1:d_)(x2:f_):Option Bool :=
 bd (α:=Bool) (bd (d_s x2 false false false true<|e_ (x2.tags.length:Int) 1) λI=>if (!I) then some true else bd (c_B (x2.tags.length:Int) 1 8) λJ=>some (!J)) (λL=>if L then some false else bd (idx x2.kids 0) λO=>bd (e_j x1 O) λG=>bd (k_ (σ:=Unit) (ρ:=Bool) (λk10=>(λ(_:Unit)=>bd (idx x2.tags (k10:Int)) λH=>bd (α:=Bool) (bd (c_B H 0 G) λV=>if (!V) then some true else if (decide<|0<(k10:Int)) then bd (idx x2.tags<|w_ (k10:Int) 1) λW=>some (decide<|H<=W) else some false) (λY=>if Y then some (.ret false) else some (.next ())))) x2.tags.length 0 ())<|el (λ(_:Unit)=>some<|decide<|0<G)<|λa0=>some a0)
def k_5 (n:Nat)(x1:d_)(x2:f_):Option Bool :=
 if (x2.kind==1) then bd (α:=Bool) (bd (d_s x2 true false false false 0) λG=>if G then bd (c_B x2.size 1 4) λH=>if H then if (!x2.little) then some true else some (decide<|1<x2.size) else some false else some false) (λI=>some I) else if (x2.kind==2) then bd (α:=Bool) (bd (d_s x2 false true false false 0) λJ=>if J then bd (c_B (x2.bytes.length:Int) 1 16) λL=>some L else some false) (λO=>some O) else if (x2.kind==3) then bd (α:=Bool) (bd (d_s x2 true false false false 0) λV=>if V then bd (c_B x2.size 1 64) λW=>some W else some false) (λY=>some Y) else if (x2.kind==4) then bd (α:=Bool) (bd (d_s x2 false false false false 1) λa0=>if a0 then bd (idx x2.kids 0) λa1=>bd (e_j x1 a1) λa2=>some (decide<|0<a2) else some false) (λa3=>some a3) else if (x2.kind==5) then bd (α:=Bool) (bd (d_s x2 false false false false 2) λa4=>if a4 then bd (idx x2.kids 0) λa5=>bd (e_j x1 a5) λa6=>some (decide<|0<a6) else some false) (λa7=>some a7) else if (x2.kind==6) then bd (k_3 n x2) λa8=>some a8 else if (x2.kind==7) then bd (k_4 x1 x2) λa9=>some a9 else bd (α:=Bool) (if (x2.kind==8) then some (x2.kind==8) else some (x2.kind==9)) (λaa=>if aa then bd (d_s x2 false false false false 1) λab=>some ab else if (x2.kind==10) then bd (α:=Bool) (bd (d_s x2 false true false false 0) λad=>if ad then if ((x2.bytes.length:Int)==1) then bd (idx x2.bytes 0) λae=>some ((b_ ae) != (b_ (92:UInt8))) else some false else some false) (λaf=>some af) else some false)
def k_6 (n:Nat)(x1:d_)(x2:Int):Option Bool :=
 bd (g_u x1 x2) λJ=>if (!J) then some false else bd (idx x1.rules x2) λG=>bd (α:=Bool) (bd (f_m n G.name) λL=>if (!L) then some true else if G.little then some (G.kind != 1) else some false) (λO=>if O then some false else bd (slc x1.rules 0 x2) λH=>bd (k_ (σ:=Unit) (ρ:=Bool) (λV=>(λ(_:Unit)=>bd (idx H (V:Int)) λW=>if (W.name.b==G.name.b) then some (.ret false) else some (.next ()))) H.length 0 ()) (el (λ(_:Unit)=>bd (k_ (σ:=Unit) (ρ:=Bool) (λY=>(λ(_:Unit)=>bd (idx G.kids (Y:Int)) λI=>bd (α:=Bool) (if (decide<|I<0) then some true else some (decide<|x2<=I)) (λa0=>if a0 then some (.ret false) else some (.next ())))) G.kids.length 0 ())<|el (λ(_:Unit)=>bd (k_5 n x1 G) λa1=>some a1)<|λa2=>some a2)<|λa3=>some a3))
def h_B (n:Nat)(x1:d_):Option Bool :=
 bd (c_B (x1.rules.length:Int) 1 24) λG=>if (!G) then some false else bd (k_ (σ:=Unit) (ρ:=Bool) (λH=>(λ(_:Unit)=>bd (k_6 n x1 (H:Int)) λI=>if (!I) then some (.ret false) else some (.next ()))) x1.rules.length 0 ()) (el (λ(_:Unit)=>some true)<|λJ=>some J)
def h_C (x1:d_):Option Int :=
 some (w_ (x1.rules.length:Int) 1)
def g_v (n:Nat)(x1:d_)(x2:Int):Option Bool :=
 bd (α:=Bool) (bd (h_B n x1) λG=>if G then bd (g_u x1 x2) λH=>some H else some false) (λI=>some I)
def f_n (x1:a_3)(x2:Int)(x3:Int):Option R_ :=
 if (decide<|(w_ (x1.b.length:Int) x2)<x3) then some (⟨x2,1⟩:R_) else some (⟨e_ x2 x3,0⟩:R_)
def h_D (x1:Bt)(x2:Bool):Option Int :=
 if (decide<|4<(x1.length:Int)) then some 0 else bd (k_ (σ:=Int) (ρ:=Int) (λH=>(λG=>bd (α:=Int) (if x2 then bd (idx x1<|w_ (w_ (x1.length:Int) 1) (H:Int)) λI=>some (b_P .i64 (· ||| ·) (b_I .i64 G 8)<|b_ I) else bd (idx x1 (H:Int)) λJ=>some<|b_P .i64 (· ||| ·) (b_I .i64 G 8)<|b_ J)<|λL=>some<|.next L)) x1.length 0 0) (el (λG=>some G)<|λO=>some O)
def g_w (x1:a_3)(x2:Int)(x3:Int):Option (Int×R_×Int) :=
 bd (idx x1.d.rules x2) λH=>bd (f_n (⟨(⟨x1.d.rules⟩:d_),x1.b,e_ x1.applied 1⟩:a_3) x3 H.size) λG=>if (G.code != 0) then some (0,G,e_ x1.applied 1) else bd (slc x1.b x3 G.at_) λI=>bd (h_D I H.little) λJ=>some (J,G,e_ x1.applied 1)
def k_7 (x1:a_3)(x2:f_)(x3:Int):Option R_ :=
 bd (k_ (σ:=Unit) (ρ:=R_) (λk10=>(λ(_:Unit)=>bd (idx x2.bytes (k10:Int)) λG=>if ((e_ x3 (k10:Int))==(x1.b.length:Int)) then some (.ret (⟨x3,1⟩:R_)) else bd (idx x1.b<|e_ x3 (k10:Int)) λH=>if ((b_ H) != (b_ G)) then some (.ret (⟨e_ x3 (k10:Int),2⟩:R_)) else some (.next ()))) x2.bytes.length 0 ()) (el (λ(_:Unit)=>some (⟨e_ x3 (x2.bytes.length:Int),0⟩:R_))<|λI=>some I)
def h_E (x1:Bt):Option Int :=
 bd (k_ (σ:=Int) (ρ:=Int) (λH=>(λG=>bd (idx x1 (H:Int)) λI=>some<|.next<|e_ G<|b_ I)) x1.length 0 0) (el (λG=>some<|b_7 G 256)<|λJ=>some J)
def i_B (n:Nat)(x1:Bt)(x2:Int)(x3:UInt8):Option (Bt×Int×Bool) :=
 bd (α:=Bool) (if (decide<|x2<0) then some true else some (decide<|(x1.length:Int)<x2)) (λJ=>if J then some (([]:Bt),x2,false) else bd (F_ (σ:=Bt×Int) (ρ:=Bt×Int×Bool) (un2 λH G=>if (decide<|G<(x1.length:Int)) then bd (idx x1 G) λL=>if ((b_ L)==(b_ x3)) then some (.ret (H,e_ G 1,true)) else bd (idx x1 G) λO=>bd (α:=Sum Int<|Out (Bt×Int)<|Bt×Int×Bool) (if ((b_ O)==(b_ (92:UInt8))) then if ((e_ G 1)==(x1.length:Int)) then some (.inr<|.brk (H,e_ G 1)) else some (.inl<|e_ G 1) else some (.inl G)) (el (λI=>bd (idx x1 I) λV=>bd (psh H V) λW=>some<|.next (W,e_ I 1)) some) else some (.brk (H,G))) n (([]:Bt),x2)) (el (un2 λH G=>some (([]:Bt),x2,false))<|λY=>some Y))
structure i_C where
 impl_checker_value:a_3->Int->Int->Option (R_×Int)
 impl_checker_array:a_3->f_->Int->Option (R_×Int)
 impl_checker_choice:a_3->f_->Int->Option (R_×Int)
 impl_checker_option:a_3->f_->Int->Option (R_×Int)
 impl_checker_checked:a_3->f_->Int->Option (R_×Int)
def k_8 (n:Nat)(rec:i_C)(x1:a_3)(x2:Int)(x3:Int):Option (R_×Int) :=
 bd (idx x1.d.rules x2) λG=>if (G.kind==1) then bd3 (g_w x1 x2 x3) λam Y a0=>some (Y,a0) else if (G.kind==2) then bd (k_7 (⟨(⟨x1.d.rules⟩:d_),x1.b,e_ x1.applied 1⟩:a_3) G x3) λa1=>some (a1,e_ x1.applied 1) else if (G.kind==3) then bd (f_n (⟨(⟨x1.d.rules⟩:d_),x1.b,e_ x1.applied 1⟩:a_3) x3 G.size) λa2=>some (a2,e_ x1.applied 1) else if (G.kind==4) then bd (idx G.kids 0) λa3=>bd3 (g_w (⟨(⟨x1.d.rules⟩:d_),x1.b,e_ x1.applied 1⟩:a_3) a3 x3) λa4 I J=>if (I.code != 0) then some (I,J) else bd (f_n (⟨(⟨x1.d.rules⟩:d_),x1.b,J⟩:a_3) I.at_ a4) λa5=>some (a5,J) else if (G.kind==5) then bd2 (rec.impl_checker_array (⟨(⟨x1.d.rules⟩:d_),x1.b,e_ x1.applied 1⟩:a_3) G x3) λa6 a7=>some (a6,a7) else if (G.kind==6) then bd (k_ (σ:=Int×Int×Int) (ρ:=R_×Int) (λa8=>un3 λL O V=>bd (idx G.kids (a8:Int)) λa9=>bd2 (rec.impl_checker_value (⟨(⟨x1.d.rules⟩:d_),x1.b,L⟩:a_3) a9 O) λH W=>if (H.code != 0) then some (.brk (W,H.at_,H.code)) else some (.next (W,H.at_,H.code))) G.kids.length 0 (e_ x1.applied 1,x3,0)) (el (un3 λL O V=>some ((⟨O,V⟩:R_),L))<|λaa=>some aa) else if (G.kind==7) then bd2 (rec.impl_checker_choice (⟨(⟨x1.d.rules⟩:d_),x1.b,e_ x1.applied 1⟩:a_3) G x3) λab ad=>some (ab,ad) else if (G.kind==8) then bd2 (rec.impl_checker_option (⟨(⟨x1.d.rules⟩:d_),x1.b,e_ x1.applied 1⟩:a_3) G x3) λae af=>some (ae,af) else if (G.kind==9) then bd2 (rec.impl_checker_checked (⟨(⟨x1.d.rules⟩:d_),x1.b,e_ x1.applied 1⟩:a_3) G x3) λah ai=>some (ah,ai) else bd (idx G.bytes 0) λaj=>bd3 (i_B n x1.b x3 aj) λan ak al=>if (!al) then some ((⟨x3,1⟩:R_),e_ x1.applied 1) else some ((⟨ak,0⟩:R_),e_ x1.applied 1)
def k_9 (n:Nat)(rec:i_C)(x1:a_3)(x2:f_)(x3:Int):Option (R_×Int) :=
 bd (idx x2.kids 0) λY=>bd3 (g_w x1 Y x3) λO L V=>bd (α:=Bool) (if (L.code==0) then some (decide<|40<O) else some false) (λa0=>if a0 then some ((⟨x3,6⟩:R_),V) else bd (F_ (σ:=Int×Int×Int×Int) (ρ:=R_×Int) (un4 λG H I J=>bd (α:=Bool) (if (decide<|0<G) then some (J==0) else some false) (λa1=>if a1 then bd (idx x2.kids 1) λa2=>bd2 (rec.impl_checker_value (⟨(⟨x1.d.rules⟩:d_),x1.b,H⟩:a_3) a2 I) λW a3=>some (.next (w_ G 1,a3,W.at_,W.code)) else some (.brk (G,H,I,J)))) n (O,V,L.at_,L.code)) (el (un4 λG H I J=>some ((⟨I,J⟩:R_),H))<|λa4=>some a4))
def k_a (n:Nat)(rec:i_C)(x1:a_3)(x2:f_)(x3:Int):Option (R_×Int) :=
 bd (idx x2.kids 0) λJ=>bd3 (g_w x1 J x3) λL G H=>if (G.code != 0) then some (G,H) else bd (k_ (σ:=Unit) (ρ:=R_×Int) (λI=>(λ(_:Unit)=>bd (idx x2.tags (I:Int)) λO=>if (O==L) then bd (idx x2.kids ((I+1:Nat):Int)) λV=>bd2 (rec.impl_checker_value (⟨(⟨x1.d.rules⟩:d_),x1.b,H⟩:a_3) V G.at_) λW Y=>some (.ret (W,Y)) else some (.next ()))) x2.tags.length 0 ()) (el (λ(_:Unit)=>some ((⟨x3,3⟩:R_),H))<|λa0=>some a0)
def k_b (n:Nat)(rec:i_C)(x1:a_3)(x2:f_)(x3:Int):Option (R_×Int) :=
 bd (f_n x1 x3 1) λG=>bd (α:=Bool) (if (G.code != 0) then some true else bd (idx x1.b x3) λH=>some<|(b_ H)==(b_ (0:UInt8))) (λI=>if I then some (G,x1.applied) else bd (idx x1.b x3) λJ=>if (decide<|(b_ (1:UInt8))<(b_ J)) then some ((⟨x3,4⟩:R_),x1.applied) else bd (idx x2.kids 0) λL=>bd2 (rec.impl_checker_value x1 L G.at_) λO V=>some (O,V))
def k_c (n:Nat)(rec:i_C)(x1:a_3)(x2:f_)(x3:Int):Option (R_×Int) :=
 bd (idx x2.kids 0) λJ=>bd2 (rec.impl_checker_value x1 J x3) λG H=>if (G.code != 0) then some (G,H) else bd (f_n (⟨(⟨x1.d.rules⟩:d_),x1.b,H⟩:a_3) G.at_ 1) λI=>bd (α:=Bool) (if (I.code==0) then bd (idx x1.b G.at_) λL=>bd (slc x1.b x3 G.at_) λO=>bd (h_E O) λV=>some ((b_ L) != V) else some false) (λW=>if W then some ((⟨G.at_,5⟩:R_),H) else some (I,H))
def a_N:Nat->i_C
 | 0=>⟨λ_ _ _=>none,λ_ _ _=>none,λ_ _ _=>none,λ_ _ _=>none,λ_ _ _=>none⟩
 | n+1=>⟨k_8 n<|a_N n,k_9 n<|a_N n,k_a n<|a_N n,k_b n<|a_N n,k_c n<|a_N n⟩
def t_e (n:Nat):=(a_N n).impl_checker_value
def i_D (n:Nat)(x1:d_)(x2:Int)(x3:Bt)(x4:Int):Option (Int×Int) :=
 bd (α:=Bool) (bd (g_v n x1 x2) λH=>if (!H) then some true else if (decide<|x4<0) then some true else if (decide<|(x3.length:Int)<x4) then some true else some (decide<|400<(x3.length:Int))) (λI=>if I then some (0,8) else bd2 (t_e n (⟨(⟨x1.rules⟩:d_),x3,0⟩:a_3) x2 x4) λG J=>some (G.at_,G.code))
def f_o (n:Nat)(x1:c_G)(x2:Int):Option (Bool×Int) :=
 bd2 (i_D n (⟨x1.d.rules⟩:d_) x2 x1.b x1.at_) λG H=>some (H==0,G)
def m_m (n:Nat)(x1:c_G)(x2:Int):Option (Int×Bool×Int) :=
 bd2 (f_o n x1 x2) λH G=>if (!H) then some (0,false,G) else bd (slc x1.b x1.at_ G) λI=>bd (idx x1.d.rules x2) λJ=>bd (h_D I J.little) λL=>some (L,true,G)
def o_F (n:Nat)(x1:c_G)(x2:f_)(x3:Str):Option (Bool×Int×Int) :=
 bd2 (h_z x3) λG V=>bd (idx x2.kids 0) λW=>bd3 (m_m n x1 W) λH Y I=>bd (α:=Bool) (if (!V) then some true else if (!Y) then some true else if (decide<|40<H) then some true else some (decide<|H<=G)) (λa0=>if a0 then some (false,x1.rule,I) else bd (F_ (σ:=Int×Int) (ρ:=Bool×Int×Int) (un2 λJ L=>if (decide<|0<J) then bd (idx x2.kids 1) λa1=>bd2 (f_o n (⟨(⟨x1.d.rules⟩:d_),x1.b,x1.rule,L⟩:c_G) a1) λa2 O=>if (!a2) then some (.ret (false,x1.rule,O)) else some (.next (w_ J 1,O)) else bd (idx x2.kids 1) λa3=>some<|.ret (true,a3,L)) n (G,I)) (el (λ_=>none)<|λa4=>some a4))
def o_G (n:Nat)(x1:c_G)(x2:f_)(x3:Str):Option (Bool×Int×Int) :=
 bd (k_ (σ:=Int) (ρ:=Bool×Int×Int) (λH=>(λG=>bd (idx x2.names (H:Int)) λJ=>if (J.b==x3.b) then bd (idx x2.kids (H:Int)) λL=>some (.ret (true,L,G)) else bd (α:=Bool×Int) (bd (h_A x2.names x3) λO=>if (!O) then some (true,G) else bd (idx x2.kids (H:Int)) λV=>bd2 (f_o n (⟨(⟨x1.d.rules⟩:d_),x1.b,x1.rule,G⟩:c_G) V) λW Y=>some (!W,Y)) (un2 λa0 I=>if a0 then some (.ret (false,x1.rule,I)) else some (.next I)))) x2.names.length 0 x1.at_) (el (λG=>some (false,x1.rule,G))<|λa1=>some a1)
def t_f (x1:Int)(x2:Int):Option Bool :=
 some (x1==x2)
def o_H (x1:List Int)(G:Int):Option Int :=
 bd (k_ (σ:=Unit) (ρ:=Int) (λk10=>(λ(_:Unit)=>bd (idx x1 (k10:Int)) λH=>bd (t_f H G) λI=>if I then some (.ret (k10:Int)) else some (.next ()))) x1.length 0 ()) (el (λ(_:Unit)=>some (-1))<|λJ=>some J)
def o_I (n:Nat)(x1:c_G)(x2:f_):Option (Bool×Int×Int) :=
 bd (idx x2.kids 0) λI=>bd3 (m_m n x1 I) λJ L G=>bd (o_H x2.tags J) λH=>bd (α:=Bool) (if (!L) then some true else some (decide<|H<0)) (λO=>if O then some (false,x1.rule,G) else bd (idx x2.kids<|e_ H 1) λV=>some (true,V,G))
def m_n (n:Nat)(x1:c_G)(x2:Str):Option (Bool×Int×Int) :=
 bd (idx x1.d.rules x1.rule) λG=>if (G.kind==5) then bd3 (o_F n x1 G x2) λH I J=>some (H,I,J) else if (G.kind==6) then bd3 (o_G n x1 G x2) λL O V=>some (L,O,V) else bd (α:=Bool) (if (G.kind==7) then some (x2.b==(⟨[42]⟩:Str).b) else some false) (λW=>if W then bd3 (o_I n x1 G) λY a0 a1=>some (Y,a0,a1) else bd (α:=Bool) (if (G.kind==8) then some (x2.b==(⟨[63]⟩:Str).b) else some false) (λa2=>bd (α:=Sum Int<|Bool×Int×Int) (if a2 then bd (α:=Bool) (if (decide<|(x1.b.length:Int)<=x1.at_) then some true else bd (idx x1.b x1.at_) λa3=>some<|(b_ a3) != (b_ (1:UInt8))) (λa4=>if a4 then some (.inr (false,x1.rule,x1.at_)) else some (.inl<|e_ x1.at_ 1)) else bd (α:=Bool) (if (G.kind==9) then some (x2.b==(⟨[43]⟩:Str).b) else some false) (λa5=>if a5 then some (.inl x1.at_) else some (.inr (false,x1.rule,x1.at_))))<|el (λa6=>bd (idx G.kids 0) λa7=>some (true,a7,a6)) some))
def o_J (n:Nat)(x1:d_)(x2:Bt)(x3:Str):Option (j_×Bool) :=
 bd2 (i_A n x3) λI J=>bd (α:=Bool) (if (!J) then some true else bd (h_B n x1) λL=>if (!L) then some true else some (decide<|400<(x2.length:Int))) (λO=>if O then some ((⟨(⟨[]⟩:Str),0,0,0⟩:j_),false) else bd (h_C x1) λV=>bd (k_ (σ:=Int×Int) (ρ:=j_×Bool) (λW=>un2 λG H=>bd (idx I (W:Int)) λY=>bd3 (m_n n (⟨(⟨x1.rules⟩:d_),x2,G,H⟩:c_G) Y) λa0 a1 a2=>if (!a0) then some (.ret ((⟨(⟨[]⟩:Str),0,0,0⟩:j_),false)) else some (.next (a1,a2))) I.length 0 (V,0)) (el (un2 λG H=>bd2 (f_o n (⟨(⟨x1.rules⟩:d_),x2,G,H⟩:c_G) G) λa3 a4=>if (!a3) then some ((⟨(⟨[]⟩:Str),0,0,0⟩:j_),false) else some ((⟨x3,G,H,a4⟩:j_),true))<|λa5=>some a5))
def c_C (x1:Int)(x2:Int):Option (Option<|Int×Int) :=
 some (some (x1,x2))
def g_x (x1:a_D)(x2:Int)(x3:Int):Option (Bt×(Option<|Int×Int)) :=
 if (decide<|(w_ (x1.b.length:Int) x2)<x3) then bd (c_C x2 1) λG=>some (([]:Bt),G) else bd (slc x1.b x2<|e_ x2 x3) λH=>some (H,none)
def g_y (x1:a_D)(x2:Int)(x3:Int):Option (Int×Int×(Option<|Int×Int)) :=
 bd (idx x1.d.rules x2) λG=>bd2 (g_x x1 x3 G.size) λI H=>if H.isSome then some (0,x3,H) else bd (h_D I G.little) λJ=>some (J,e_ x3 G.size,none)
def k_d (x1:a_D)(x2:f_)(x3:Int):Option (Int×(Option<|Int×Int)) :=
 bd (k_ (σ:=Unit) (ρ:=Int×(Option<|Int×Int)) (λk10=>(λ(_:Unit)=>bd (idx x2.bytes (k10:Int)) λG=>if (decide<|(x1.b.length:Int)<=(e_ x3 (k10:Int))) then bd (c_C x3 1) λH=>some (.ret (x3,H)) else bd (idx x1.b<|e_ x3 (k10:Int)) λI=>if ((b_ I) != (b_ G)) then bd (c_C (e_ x3 (k10:Int)) 2) λJ=>some (.ret (x3,J)) else some (.next ()))) x2.bytes.length 0 ()) (el (λ(_:Unit)=>some (e_ x3 (x2.bytes.length:Int),none))<|λL=>some L)
def i_E (x1:a_D)(x2:Int)(x3:Int):Option (Val×Int×(Option<|Int×Int)) :=
 bd2 (g_x x1 x2 x3) λH G=>if G.isSome then some ((⟨0,([]:Bt),([]:List Val)⟩:Val),x2,G) else bd (app ([]:Bt) H) λI=>some ((⟨0,I,([]:List Val)⟩:Val),e_ x2 x3,none)
structure h_F where
 impl_fileReader_value:a_D->Int->Int->Option (Val×Int×(Option<|Int×Int))
 impl_fileReader_array:a_D->f_->Int->Option (Val×Int×(Option<|Int×Int))
 impl_fileReader_items:a_D->Val->(List Int)->Int->Option (Val×Int×(Option<|Int×Int))
 impl_fileReader_choice:a_D->f_->Int->Option (Val×Int×(Option<|Int×Int))
 impl_fileReader_option:a_D->f_->Int->Option (Val×Int×(Option<|Int×Int))
 impl_fileReader_checked:a_D->f_->Int->Option (Val×Int×(Option<|Int×Int))
def k_e (n:Nat)(rec:h_F)(x1:a_D)(x2:Int)(x3:Int):Option (Val×Int×(Option<|Int×Int)) :=
 bd (idx x1.d.rules x2) λG=>if (G.kind==1) then bd3 (g_y x1 x2 x3) λI J L=>some ((⟨I,([]:Bt),([]:List Val)⟩:Val),J,L) else if (G.kind==2) then bd2 (k_d x1 G x3) λO V=>some ((⟨0,([]:Bt),([]:List Val)⟩:Val),O,V) else if (G.kind==3) then bd3 (i_E x1 x3 G.size) λW Y a0=>some (W,Y,a0) else if (G.kind==4) then bd (idx G.kids 0) λa1=>bd3 (g_y x1 a1 x3) λa2 a3 H=>if H.isSome then some ((⟨0,([]:Bt),([]:List Val)⟩:Val),x3,H) else bd3 (i_E x1 a3 a2) λa4 a5 a6=>some (a4,a5,a6) else if (G.kind==5) then bd3 (rec.impl_fileReader_array x1 G x3) λa7 a8 a9=>some (a7,a8,a9) else if (G.kind==6) then bd3 (rec.impl_fileReader_items x1 (⟨0,([]:Bt),([]:List Val)⟩:Val) G.kids x3) λaa ab ad=>some (aa,ab,ad) else if (G.kind==7) then bd3 (rec.impl_fileReader_choice x1 G x3) λae af ah=>some (ae,af,ah) else if (G.kind==8) then bd3 (rec.impl_fileReader_option x1 G x3) λai aj ak=>some (ai,aj,ak) else if (G.kind==9) then bd3 (rec.impl_fileReader_checked x1 G x3) λal am an=>some (al,am,an) else bd (idx G.bytes 0) λap=>bd3 (i_B n x1.b x3 ap) λaq ar au=>if (!au) then bd (c_C x3 1) λav=>some ((⟨0,([]:Bt),([]:List Val)⟩:Val),x3,av) else some ((⟨0,aq,([]:List Val)⟩:Val),ar,none)
def k_f (n:Nat)(rec:h_F)(x1:a_D)(x2:f_)(x3:Int):Option (Val×Int×(Option<|Int×Int)) :=
 bd (idx x2.kids 0) λL=>bd3 (g_y x1 L x3) λH O I=>if I.isSome then some ((⟨0,([]:Bt),([]:List Val)⟩:Val),x3,I) else if (decide<|40<H) then bd (c_C x3 6) λV=>some ((⟨0,([]:Bt),([]:List Val)⟩:Val),x3,V) else bd (mk0 0 H) λJ=>bd (k_ (σ:=List Int) (ρ:=Val×Int×(Option<|Int×Int)) (λW=>(λG=>bd (idx x2.kids 1) λY=>bd (upd G (W:Int) Y) λa0=>some<|.next a0)) J.length 0 J)<|el (λG=>bd3 (rec.impl_fileReader_items x1 (⟨0,([]:Bt),([]:List Val)⟩:Val) G O) λa1 a2 a3=>some (a1,a2,a3))<|λa4=>some a4
def k_g (n:Nat)(rec:h_F)(x1:a_D)(x2:Val)(x3:List Int)(x4:Int):Option (Val×Int×(Option<|Int×Int)) :=
 bd (k_ (σ:=Int×(List Val)) (ρ:=Val×Int×(Option<|Int×Int)) (λJ=>un2 λG H=>bd (idx x3 (J:Int)) λL=>bd3 (rec.impl_fileReader_value x1 L G) λO V I=>if I.isSome then some (.ret ((⟨0,([]:Bt),([]:List Val)⟩:Val),G,I)) else bd (psh H O) λW=>some<|.next (V,W)) x3.length 0 (x4,x2.items)) (el (un2 λG H=>some ((⟨x2.number,x2.bytes,H⟩:Val),G,none))<|λY=>some Y)
def k_h (n:Nat)(rec:h_F)(x1:a_D)(x2:f_)(x3:Int):Option (Val×Int×(Option<|Int×Int)) :=
 bd (idx x2.kids 0) λI=>bd3 (g_y x1 I x3) λG J H=>if H.isSome then some ((⟨0,([]:Bt),([]:List Val)⟩:Val),x3,H) else bd (k_ (σ:=Unit) (ρ:=Val×Int×(Option<|Int×Int)) (λk10=>(λ(_:Unit)=>bd (idx x2.tags (k10:Int)) λL=>if (L==G) then bd (slc x2.kids ((k10+1:Nat):Int)<|e_ (k10:Int) 2) λO=>bd3 (rec.impl_fileReader_items x1 (⟨G,([]:Bt),([]:List Val)⟩:Val) O J) λV W Y=>some (.ret (V,W,Y)) else some (.next ()))) x2.tags.length 0 ()) (el (λ(_:Unit)=>bd (c_C x3 3) λa0=>some ((⟨0,([]:Bt),([]:List Val)⟩:Val),x3,a0))<|λa1=>some a1)
def k_i (n:Nat)(rec:h_F)(x1:a_D)(x2:f_)(x3:Int):Option (Val×Int×(Option<|Int×Int)) :=
 bd2 (g_x x1 x3 1) λG H=>if H.isSome then some ((⟨0,([]:Bt),([]:List Val)⟩:Val),x3,H) else bd (idx G 0) λI=>if (decide<|(b_ (1:UInt8))<(b_ I)) then bd (c_C x3 4) λJ=>some ((⟨0,([]:Bt),([]:List Val)⟩:Val),x3,J) else bd (idx G 0) λL=>if ((b_ L)==(b_ (0:UInt8))) then some ((⟨0,([]:Bt),([]:List Val)⟩:Val),e_ x3 1,none) else bd3 (rec.impl_fileReader_items x1 (⟨0,([]:Bt),([]:List Val)⟩:Val) x2.kids<|e_ x3 1) λO V W=>some (O,V,W)
def k_j (n:Nat)(rec:h_F)(x1:a_D)(x2:f_)(x3:Int):Option (Val×Int×(Option<|Int×Int)) :=
 bd3 (rec.impl_fileReader_items x1 (⟨0,([]:Bt),([]:List Val)⟩:Val) x2.kids x3) λJ G H=>if H.isSome then some ((⟨0,([]:Bt),([]:List Val)⟩:Val),x3,H) else bd2 (g_x x1 G 1) λL I=>if I.isSome then some ((⟨0,([]:Bt),([]:List Val)⟩:Val),x3,I) else bd (idx L 0) λO=>bd (slc x1.b x3 G) λV=>bd (h_E V) λW=>if ((b_ O) != W) then bd (c_C G 5) λY=>some ((⟨0,([]:Bt),([]:List Val)⟩:Val),x3,Y) else some (J,e_ G 1,none)
def a_g:Nat->h_F
 | 0=>⟨λ_ _ _=>none,λ_ _ _=>none,λ_ _ _ _=>none,λ_ _ _=>none,λ_ _ _=>none,λ_ _ _=>none⟩
 | n+1=>⟨k_e n<|a_g n,k_f n<|a_g n,k_g n<|a_g n,k_h n<|a_g n,k_i n<|a_g n,k_j n<|a_g n⟩
def m_o (n:Nat):=(a_g n).impl_fileReader_value
def h_G (n:Nat):=(a_g n).impl_fileReader_items
def f_p (n:Nat)(x1:d_)(x2:Int)(x3:Bt)(x4:Int):Option (Val×Int×Int) :=
 bd (α:=Bool) (bd (g_v n x1 x2) λH=>if (!H) then some true else if (decide<|x4<0) then some true else if (decide<|(x3.length:Int)<x4) then some true else some (decide<|400<(x3.length:Int))) (λI=>if I then some ((⟨0,([]:Bt),([]:List Val)⟩:Val),0,8) else bd3 (m_o n (⟨(⟨x1.rules⟩:d_),x3⟩:a_D) x2 x4) λJ L G=>if G.isSome then (bd2 G λO V=>some ((⟨0,([]:Bt),([]:List Val)⟩:Val),O,V)) else some (J,L,0))
def i_F (n:Nat)(x1:d_)(x2:Bt):Option (Val×Int×Int) :=
 bd (α:=Int×Bt×(List Val)×Int×Int) (bd (h_C x1) λJ=>bd3 (f_p n x1 J x2 0) λG L O=>some (G.number,G.bytes,G.items,L,O)) (un5 λV W Y H I=>bd (α:=Bool) (if (I==0) then some (decide<|H<(x2.length:Int)) else some false) (λa0=>if a0 then some ((⟨0,([]:Bt),([]:List Val)⟩:Val),H,7) else some ((⟨V,W,Y⟩:Val),H,I)))
def k_k (n:Nat)(x1:d_)(x2:Bt):Option Bool :=
 bd3 (i_F n x1 x2) λH I G=>some<|G==0
def o_K (x1:Bt)(x2:Bt):Option Bool :=
 some ((⟨x1⟩:Str).b==(⟨x2⟩:Str).b)
def m_p (x1:Bt)(x2:Bt):Option Bool :=
 bd (o_K x1 x2) λG=>some G
def i_G (x1:Bt)(x2:Bt):Option Bool :=
 if ((x1.length:Int) != (x2.length:Int)) then some false else bd (k_ (σ:=Unit) (ρ:=Bool) (λk10=>(λ(_:Unit)=>bd (idx x1 (k10:Int)) λG=>bd (idx x2 (k10:Int)) λH=>if ((b_ G) != (b_ H)) then some (.ret false) else some (.next ()))) x1.length 0 ()) (el (λ(_:Unit)=>some true)<|λI=>some I)
def g_z (x1:List Str)(x2:List Str):Option Bool :=
 if ((x1.length:Int) != (x2.length:Int)) then some false else bd (k_ (σ:=Unit) (ρ:=Bool) (λk10=>(λ(_:Unit)=>bd (idx x1 (k10:Int)) λG=>bd (idx x2 (k10:Int)) λH=>if (G.b != H.b) then some (.ret false) else some (.next ()))) x1.length 0 ()) (el (λ(_:Unit)=>some true)<|λI=>some I)
def i_H (x1:List Int)(x2:List Int):Option Bool :=
 if ((x1.length:Int) != (x2.length:Int)) then some false else bd (k_ (σ:=Unit) (ρ:=Bool) (λk10=>(λ(_:Unit)=>bd (idx x1 (k10:Int)) λG=>bd (idx x2 (k10:Int)) λH=>if (G != H) then some (.ret false) else some (.next ()))) x1.length 0 ()) (el (λ(_:Unit)=>some true)<|λI=>some I)
def k_l (x1:f_)(x2:f_):Option Bool :=
 if (x1.name.b != x2.name.b) then some false else if (x1.kind != x2.kind) then some false else if (x1.size != x2.size) then some false else if (x1.little != x2.little) then some false else bd (i_G x1.bytes x2.bytes) λG=>if (!G) then some false else bd (g_z x1.names x2.names) λH=>if (!H) then some false else bd (i_H x1.tags x2.tags) λI=>if (!I) then some false else bd (i_H x1.kids x2.kids) λJ=>if (!J) then some false else some true
def m_q (x1:List f_)(x2:List f_):Option Bool :=
 if ((x1.length:Int) != (x2.length:Int)) then some false else bd (k_ (σ:=Unit) (ρ:=Bool) (λk10=>(λ(_:Unit)=>bd (idx x1 (k10:Int)) λG=>bd (idx x2 (k10:Int)) λH=>bd (k_l G H) λI=>if (!I) then some (.ret false) else some (.next ()))) x1.length 0 ()) (el (λ(_:Unit)=>some true)<|λJ=>some J)
def k_m (x1:d_)(x2:d_):Option Bool :=
 bd (m_q x1.rules x2.rules) λG=>if (!G) then some false else some true
def f_q (n:Nat)(x1:Int):Option Str :=
 if (decide<|x1<=0) then some (⟨[109,48]⟩:Str) else bd (F_ (σ:=Int×Str) (ρ:=Str) (un2 λG H=>if (decide<|0<G) then bd (cat (⟨[mkB (e_ 48<|b_7 G 10)]⟩:Str) H) λI=>some (.next (c_V G 10,I)) else some (.brk (G,H))) n (x1,(⟨[]⟩:Str))) (el (un2 λG H=>bd (cat (⟨[109]⟩:Str) H) λJ=>some J)<|λL=>some L)
def i_I (n:Nat)(x1:Bt)(x2:Int):Option (Int×Bt) :=
 bd (F_ (σ:=Bt×Int×Int) (ρ:=Int×Bt) (un3 λG H I=>if (decide<|I<(G.length:Int)) then bd (upd G I<|mkB H) λJ=>some (.next (J,e_ H 1,e_ I 1)) else some (.brk (G,H,I))) n (x1,x2,0)) (el (un3 λG H I=>some (H,G))<|λL=>some L)
def i_J (n:Nat)(x1:List Str)(x2:Int):Option (Int×(List Str)) :=
 bd (F_ (σ:=(List Str)×Int×Int) (ρ:=Int×(List Str)) (un3 λG H I=>if (decide<|I<(G.length:Int)) then bd (f_q n H) λJ=>bd (upd G I J) λL=>some (.next (L,e_ H 1,e_ I 1)) else some (.brk (G,H,I))) n (x1,x2,0)) (el (un3 λG H I=>some (H,G))<|λO=>some O)
def i_K (n:Nat)(x1:List Int)(x2:Int):Option (Int×(List Int)) :=
 bd (F_ (σ:=(List Int)×Int×Int) (ρ:=Int×(List Int)) (un3 λG H I=>if (decide<|I<(G.length:Int)) then bd (upd G I H) λJ=>some (.next (J,e_ H 1,e_ I 1)) else some (.brk (G,H,I))) n (x1,x2,0)) (el (un3 λG H I=>some (H,G))<|λL=>some L)
def k_n (n:Nat)(x1:List f_)(x2:Int):Option (Int×(List f_)) :=
 bd (F_ (σ:=(List f_)×Int×Int) (ρ:=Int×(List f_)) (un3 λa1 L H=>if (decide<|H<(a1.length:Int)) then bd (f_q n L) λa9=>bd (idx a1 H) λV=>bd (upd a1 H (⟨a9,V.kind,V.size,V.little,V.bytes,V.names,V.tags,V.kids⟩:f_)) λa5=>bd (idx a5 H) λW=>bd (upd a5 H (⟨W.name,e_ L 1,W.size,W.little,W.bytes,W.names,W.tags,W.kids⟩:f_)) λa6=>bd (idx a6 H) λY=>bd (upd a6 H (⟨Y.name,Y.kind,e_ (e_ L 1) 1,Y.little,Y.bytes,Y.names,Y.tags,Y.kids⟩:f_)) λa7=>bd (idx a7 H) λa0=>bd (upd a7 H (⟨a0.name,a0.kind,a0.size,(b_7 (e_ (e_ (e_ L 1) 1) 1) 3)==0,a0.bytes,a0.names,a0.tags,a0.kids⟩:f_)) λa2=>bd (idx a2 H) λG=>bd2 (i_I n G.bytes<|e_ (e_ (e_ (e_ L 1) 1) 1) 1) λaa a3=>bd (idx (a2.set (H).toNat (⟨G.name,G.kind,G.size,G.little,a3,G.names,G.tags,G.kids⟩:f_)) H) λI=>bd2 (i_J n I.names aa) λab a4=>bd (idx ((a2.set (H).toNat (⟨G.name,G.kind,G.size,G.little,a3,G.names,G.tags,G.kids⟩:f_)).set (H).toNat (⟨I.name,I.kind,I.size,I.little,I.bytes,a4,I.tags,I.kids⟩:f_)) H) λJ=>bd2 (i_K n J.tags ab) λad a8=>bd (idx (((a2.set (H).toNat (⟨G.name,G.kind,G.size,G.little,a3,G.names,G.tags,G.kids⟩:f_)).set (H).toNat (⟨I.name,I.kind,I.size,I.little,I.bytes,a4,I.tags,I.kids⟩:f_)).set (H).toNat (⟨J.name,J.kind,J.size,J.little,J.bytes,J.names,a8,J.kids⟩:f_)) H) λO=>bd2 (i_K n O.kids ad) λae af=>some (.next ((((a2.set (H).toNat (⟨G.name,G.kind,G.size,G.little,a3,G.names,G.tags,G.kids⟩:f_)).set (H).toNat (⟨I.name,I.kind,I.size,I.little,I.bytes,a4,I.tags,I.kids⟩:f_)).set (H).toNat (⟨J.name,J.kind,J.size,J.little,J.bytes,J.names,a8,J.kids⟩:f_)).set (H).toNat (⟨O.name,O.kind,O.size,O.little,O.bytes,O.names,O.tags,af⟩:f_),ae,e_ H 1)) else some (.brk (a1,L,H))) n (x1,x2,0)) (el (un3 λa1 L H=>some (L,a1))<|λah=>some ah)
def k_o (n:Nat)(x1:d_)(x2:Bt)(x3:Str):Option (Val×Bool) :=
 bd2 (g_r n x1 x2 x3) λG H=>if (!H) then some ((⟨0,([]:Bt),([]:List Val)⟩:Val),false) else bd3 (e_L n x1 G.rule x2 G.start) λI J L=>some (I,true)
def o_L (n:Nat)(x1:d_)(x2:Bt)(x3:Str):Option (Val×Int×Bool) :=
 bd2 (o_J n x1 x2 x3) λG H=>if (!H) then some ((⟨0,([]:Bt),([]:List Val)⟩:Val),(-1),false) else bd3 (f_p n x1 G.rule x2 G.start) λI J L=>some (I,G.rule,true)
structure t_g where
 spec_l19Build:d_->Int->Bt->Int->Str->Option ((List j_)×Int)
def k_p (n:Nat)(rec:t_g)(x1:d_)(x2:Int)(x3:Bt)(x4:Int)(x5:Str):Option ((List j_)×Int) :=
 bd (idx x1.rules x2) λG=>bd3 (e_L n x1 x2 x3 x4) λI J aa=>bd (α:=Bool) (if (G.kind==5) then some (G.kind==5) else some (G.kind==7)) (λV=>bd (α:=Int) (if V then bd (idx G.kids 0) λW=>bd3 (d_r x1 W x3 x4) λab Y ad=>some Y else bd (α:=Int) (if (G.kind==8) then some (e_ x4 1) else some x4) (λa0=>some a0))<|λa1=>bd (k_ (σ:=(List j_)×Int) (ρ:=(List j_)×Int) (λL=>un2 λH O=>bd (cat x5 (⟨[47]⟩:Str)) λa2=>bd (b_S G I.number (L:Int)) λa3=>bd (g_q n G (L:Int)) λa4=>bd (cat a2 a4) λa5=>bd2 (rec.spec_l19Build x1 a3 x3 O a5) λa6 a7=>bd (app H a6) λa8=>some<|.next (a8,a7)) I.items.length 0 ([(⟨x5,x2,x4,J⟩:j_)],a1))<|el (un2 λH O=>some (H,J))<|λa9=>some a9)
def g_A:Nat->t_g
 | 0=>⟨λ_ _ _ _ _=>none⟩
 | n+1=>⟨k_p n<|g_A n⟩
def m_r (n:Nat):=(g_A n).spec_l19Build
def k_q (n:Nat)(x1:d_)(x2:Bt):Option ((List j_)×Bool) :=
 bd (i_z n x1 x2) λG=>if (!G) then some (([]:List j_),false) else bd (h_x x1) λH=>bd2 (m_r n x1 H x2 0 (⟨[]⟩:Str)) λI J=>some (I,true)
def h_H (x1:Int):Option Str :=
 bd (l_p x1) λG=>some G
def h_I (n:Nat)(x1:d_)(x2:Int)(x3:Int):Option Str :=
 bd (α:=Bool) (bd (g_v n x1 x2) λH=>if (!H) then some true else some (decide<|x3<0)) (λI=>if I then some (⟨[]⟩:Str) else bd (idx x1.rules x2) λG=>if (G.kind==5) then bd (h_H x3) λJ=>some J else bd (α:=Bool) (if (G.kind==6) then some (decide<|x3<(G.names.length:Int)) else some false) (λL=>if L then bd (idx G.names x3) λO=>some O else if (decide<|0<x3) then some (⟨[]⟩:Str) else if (G.kind==7) then some (⟨[42]⟩:Str) else if (G.kind==8) then some (⟨[63]⟩:Str) else if (G.kind==9) then some (⟨[43]⟩:Str) else some (⟨[]⟩:Str)))
def f_r (x1:d_)(x2:Int)(x3:Val)(x4:Int):Option Int :=
 bd (idx x1.rules x2) λG=>if (G.kind==5) then bd (idx G.kids 1) λI=>some I else bd (α:=Sum Unit Int) (if (G.kind==6) then if (decide<|x4<(G.kids.length:Int)) then bd (idx G.kids x4) λJ=>some (.inr J) else some (.inl ()) else bd (α:=Sum Unit<|Sum Unit Int) (if (G.kind==7) then bd (k_ (σ:=Unit) (ρ:=Int) (λH=>(λ(_:Unit)=>bd (idx G.tags (H:Int)) λL=>if (L==x3.number) then bd (idx G.kids ((H+1:Nat):Int)) λO=>some (.ret O) else some (.next ()))) G.tags.length 0 ()) (el (λ(_:Unit)=>some<|.inl ())<|λV=>some<|.inr<|.inr V) else bd (α:=Bool) (if (G.kind==8) then some (G.kind==8) else some (G.kind==9)) (λW=>if W then bd (idx G.kids 0) λY=>some (.inr<|.inr Y) else some (.inl ()))) (el (λ(_:Unit)=>some<|.inl ()) some)) (el (λ(_:Unit)=>some (-1)) some)
structure t_h where
 impl_indexer_part:e_t->Str->Int->Val->Int->Option (Int×(List j_))
def k_r (n:Nat)(rec:t_h)(x1:e_t)(x2:Str)(x3:Int)(x4:Val)(x5:Int):Option (Int×(List j_)) :=
 bd (psh x1.list_ (⟨x2,x3,x5,0⟩:j_)) λV=>bd2 (i_D n (⟨x1.d.rules⟩:d_) x3 x1.b x5) λL ad=>bd (idx x1.d.rules x3) λG=>bd (α:=Bool) (if (G.kind==5) then some (G.kind==5) else some (G.kind==7)) (λW=>bd (α:=Int) (if W then bd (idx G.kids 0) λY=>bd (idx x1.d.rules Y) λa0=>some (e_ x5 a0.size) else bd (α:=Int) (if (G.kind==8) then some (e_ x5 1) else some x5) (λa1=>some a1))<|λa2=>bd (k_ (σ:=Int×(List j_)) (ρ:=Int×(List j_)) (λI=>un2 λO H=>bd (cat x2 (⟨[47]⟩:Str)) λa3=>bd (idx x4.items (I:Int)) λa4=>bd (h_I n (⟨x1.d.rules⟩:d_) x3 (I:Int)) λa5=>bd (cat a3 a5) λa6=>bd (f_r (⟨x1.d.rules⟩:d_) x3 x4 (I:Int)) λa7=>bd2 (rec.impl_indexer_part (⟨(⟨x1.d.rules⟩:d_),x1.b,H⟩:e_t) a6 a7 a4 O) λa8 a9=>some<|.next (a8,a9)) x4.items.length 0 (a2,V))<|el (un2 λO H=>bd (idx H (x1.list_.length:Int)) λJ=>bd (upd H (x1.list_.length:Int) (⟨J.path,J.rule,J.start,L⟩:j_)) λaa=>some (L,aa))<|λab=>some ab)
def g_B:Nat->t_h
 | 0=>⟨λ_ _ _ _ _=>none⟩
 | n+1=>⟨k_r n<|g_B n⟩
def m_s (n:Nat):=(g_B n).impl_indexer_part
def k_s (n:Nat)(x1:d_)(x2:Bt):Option ((List j_)×Bool) :=
 bd3 (i_F n x1 x2) λG L H=>if (H != 0) then some (([]:List j_),false) else bd (h_C x1) λI=>bd2 (m_s n (⟨(⟨x1.rules⟩:d_),x2,([]:List j_)⟩:e_t) (⟨[]⟩:Str) I G 0) λO J=>some (J,true)
def i_L (n:Nat)(x1:List Str)(x2:Int):Option Int :=
 bd (k_ (σ:=Int) (ρ:=Int) (λH=>(λG=>bd (idx x1 (H:Int)) λI=>bd (f_q n G) λJ=>if (I.b != J.b) then some (.ret (-1)) else some (.next<|e_ G 1))) x1.length 0 x2) (el (λG=>some G)<|λL=>some L)
def k_t (n:Nat)(x1:Str):Option ((List Str)×Bool) :=
 if (x1.b==(⟨[]⟩:Str).b) then some (([]:List Str),true) else bd (i_r n x1 (47:UInt8)) λG=>bd (F_ (σ:=Int) (ρ:=(List Str)×Bool) (λH=>if (decide<|H<(G.length:Int)) then bd (α:=Bool) (bd (idx G H) λJ=>bd (f_k n J) λL=>if (!L) then bd (idx G H) λO=>if (O.b != (⟨[35]⟩:Str).b) then bd (idx G H) λV=>some (V.b != (⟨[46,46]⟩:Str).b) else some false else some false) (λW=>if W then some (.ret (([]:List Str),false)) else some (.next<|e_ H 1)) else some (.brk H)) n 1) (el (λH=>bd (α:=(List Str)×Bool) (bd (slc G 1 (G.length:Int)) λI=>bd (idx G 0) λY=>if (Y.b==(⟨[]⟩:Str).b) then some (I,decide<|1<(G.length:Int)) else some (I,false))<|un2 λa0 a1=>some (a0,a1))<|λa2=>some a2)
def k_u (n:Nat)(x1:List Str)(x2:List Str):Option Bool :=
 bd (mk0 false<|e_ (x2.length:Int) 1) λL=>bd (upd L 0 true) λO=>bd (k_ (σ:=List Bool) (ρ:=Bool) (λI=>(λJ=>bd (mk0 false<|e_ (x2.length:Int) 1) λV=>bd (F_ (σ:=(List Bool)×Int) (ρ:=Bool) (un2 λH G=>if (decide<|G<=(x2.length:Int)) then bd (α:=List Bool) (bd (idx x1 (I:Int)) λW=>if (W.b==(⟨[46,46]⟩:Str).b) then bd (α:=List Bool) (bd (idx J G) λY=>if Y then bd (upd H G true) λa0=>some a0 else if (decide<|0<G) then bd (idx H<|w_ G 1) λa1=>bd (upd H G a1) λa2=>some a2 else bd (upd H G false) λa3=>some a3) (λa4=>some a4) else bd (α:=Bool) (if (G==0) then some true else bd (idx J<|w_ G 1) λa5=>some (!a5)) (λa6=>if a6 then some H else bd (idx x2<|w_ G 1) λa7=>bd2 (i_s n a7) λav a8=>bd (α:=List Bool) (bd (idx x1 (I:Int)) λa9=>if (a9.b==(⟨[35]⟩:Str).b) then if a8 then bd (upd H G true) λaa=>some aa else bd (idx x1 (I:Int)) λab=>bd (idx x2<|w_ G 1) λad=>if (ab.b==ad.b) then bd (idx x1 (I:Int)) λae=>bd (upd H G<|ae.b != (⟨[35]⟩:Str).b) λaf=>some af else bd (upd H G false) λah=>some ah else bd (idx x1 (I:Int)) λai=>bd (idx x2<|w_ G 1) λaj=>if (ai.b==aj.b) then bd (idx x1 (I:Int)) λak=>bd (upd H G<|ak.b != (⟨[35]⟩:Str).b) λal=>some al else bd (upd H G false) λam=>some am)<|λan=>some an)) (λap=>some<|.next (ap,e_ G 1)) else some (.brk (H,G))) n (V,0))<|el (un2 λH G=>some<|.next H)<|λaq=>some<|.ret aq)) x1.length 0 O)<|el (λJ=>bd (idx J (x2.length:Int)) λar=>some ar)<|λau=>some au
def k_v (n:Nat)(x1:Str)(x2:Str):Option Bool :=
 bd2 (k_t n x1) λG H=>bd2 (i_t n x2) λI J=>bd (α:=Bool) (if H then if J then bd (k_u n G I) λL=>some L else some false else some false)<|λO=>some O
def k_w (n:Nat)(x1:d_)(x2:Bt)(x3:Str):Option (List j_) :=
 bd2 (k_q n x1 x2) λH a0=>bd (k_ (σ:=List j_) (ρ:=List j_) (λI=>(λG=>bd (idx H (I:Int)) λJ=>bd (k_v n x3 J.path) λL=>bd (α:=List j_) (if L then bd (idx H (I:Int)) λO=>bd (psh G O) λV=>some V else some G)<|λW=>some<|.next W)) H.length 0 ([]:List j_))<|el (λG=>some G)<|λY=>some Y
def h_J (n:Nat)(x1:Str):Option Bool :=
 bd (α:=Bool) (bd (g_t n x1) λG=>if G then some true else if (x1.b==(⟨[35]⟩:Str).b) then some true else some (x1.b==(⟨[46,46]⟩:Str).b)) (λH=>some H)
def m_t (n:Nat)(x1:Str):Option ((List Str)×Bool) :=
 if (x1.b==(⟨[]⟩:Str).b) then some ([],true) else bd (idx x1.b 0) λc=>if (b_ c != b_ (47:UInt8)) then some ([],false) else bd (g_s x1 (47:UInt8)) λl=>bd (slc l 1 (l.length:Int)) λparts=>bd (h_u (h_J n) parts) λoks=>if parts.length<LIM then some (if oks.all id then (parts,true) else ([],false)) else none
def k_x (n:Nat)(x1:Str):Option ((List Str)×Bool) :=
 bd2 (m_t n x1) λG H=>some (G,H)
def k_y (x1:List Str)(x2:Int)(x3:Str):Option Bool :=
 bd (idx x1 x2) λG=>if (G.b==(⟨[35]⟩:Str).b) then bd2 (h_z x3) λJ H=>some H else bd (idx x1 x2) λI=>some<|I.b==x3.b
def m_u (x1:List Str)(x2:List Str):Option Bool :=
 bd (mk0 false<|e_ (x2.length:Int) 1) λJ=>bd (upd J 0 true) λL=>bd (k_ (σ:=List Bool) (ρ:=Bool) (λI=>(λH=>bd (mk0 false<|e_ (x2.length:Int) 1) λO=>bd (k_ (σ:=List Bool) (ρ:=Bool) (λk10=>(λG=>bd (idx x1 (I:Int)) λV=>bd (α:=List Bool) (if (V.b==(⟨[46,46]⟩:Str).b) then bd (α:=List Bool) (bd (idx H (k10:Int)) λW=>if W then bd (upd G (k10:Int) true) λY=>some Y else if (decide<|0<(k10:Int)) then bd (idx G<|w_ (k10:Int) 1) λa0=>bd (upd G (k10:Int) a0) λa1=>some a1 else bd (upd G (k10:Int) false) λa2=>some a2) (λa3=>some a3) else bd (α:=List Bool) (if (decide<|0<(k10:Int)) then bd (α:=List Bool) (bd (idx H<|w_ (k10:Int) 1) λa4=>if a4 then bd (idx x2<|w_ (k10:Int) 1) λa5=>bd (k_y x1 (I:Int) a5) λa6=>bd (upd G (k10:Int) a6) λa7=>some a7 else bd (upd G (k10:Int) false) λa8=>some a8) (λa9=>some a9) else some G) (λaa=>some aa))<|λab=>some<|.next ab)) H.length 0 O)<|el (λG=>some<|.next G)<|λad=>some<|.ret ad)) x1.length 0 L)<|el (λH=>bd (idx H (x2.length:Int)) λae=>some ae)<|λaf=>some af
def k_z (x1:List Str)(x2:List Str):Option Bool :=
 bd (m_u x1 x2) λG=>some G
def k_A (n:Nat)(x1:Str)(x2:Str):Option Bool :=
 bd2 (k_x n x1) λG H=>bd2 (i_A n x2) λI J=>bd (α:=Bool) (if H then if J then bd (k_z G I) λL=>some L else some false else some false)<|λO=>some O
def m_v (n:Nat)(x1:j_)(x2:Str):Option Bool :=
 bd (k_A n x2 x1.path) λG=>some G
def m_w (n:Nat)(x1:List j_)(I:Str):Option (List j_) :=
 bd (k_ (σ:=List j_) (ρ:=List j_) (λJ=>(λG=>bd (idx x1 (J:Int)) λH=>bd (m_v n H I) λL=>bd (α:=List j_) (if L then bd (psh G H) λO=>some O else some G)<|λV=>some<|.next V)) x1.length 0 ([]:List j_)) (el (λG=>some G)<|λW=>some W)
def k_B (n:Nat)(x1:d_)(x2:Bt)(x3:Str):Option (List j_) :=
 bd2 (k_s n x1 x2) λG H=>if (!H) then some ([]:List j_) else bd (m_w n G x3) λI=>some I
def k_C (x1:List d_)(x2:Int):Option Int :=
 if (decide<|(w_ x2 (x1.length:Int))<0) then some (-1) else bd (k_ (σ:=Int) (ρ:=Int) (λI=>(λG=>bd (idx x1 (I:Int)) λJ=>bd (i_o J G) λH=>if (decide<|H<0) then some (.ret (-1)) else some (.next H))) x1.length 0<|w_ x2 (x1.length:Int)) (el (λG=>some G)<|λL=>some L)
def m_x (x1:a_9)(x2:Int):Option Int :=
 bd (k_C x1.versions x2) λG=>if (decide<|G<0) then some (-1) else some G
def m_y (x1:Log)(x2:Int):Option Int :=
 bd (j_J x1.bytes x2) λG=>if (decide<|G<0) then some (-1) else some G
def k_D (x1:H_)(x2:Int):Option Int :=
 bd (m_x (⟨x1.registry.versions⟩:a_9) x2) λG=>if (decide<|G<0) then some (-1) else bd (m_y (⟨x1.log.bytes,x1.log.stored⟩:Log) G) λH=>if (decide<|H<0) then some (-1) else some H
def k_E (x1:List d_):Option (List d_) :=
 bd (mk0 (⟨([]:List f_)⟩:d_) (x1.length:Int)) λI=>bd (k_ (σ:=List d_) (ρ:=List d_) (λH=>(λG=>bd (idx x1 (H:Int)) λJ=>bd (j_O J) λL=>bd (upd G (H:Int) L) λO=>some<|.next O)) x1.length 0 I)<|el (λG=>some G)<|λV=>some V
def m_z (x1:a_9):Option a_9 :=
 bd (k_E x1.versions) λG=>some (⟨G⟩:a_9)
def m_A (x1:Log):Option Log :=
 bd (i_p x1.bytes) λG=>some (⟨G,x1.stored⟩:Log)
def g_C (x1:H_):Option H_ :=
 bd (m_z (⟨x1.registry.versions⟩:a_9)) λH=>bd (m_A (⟨x1.log.bytes,x1.log.stored⟩:Log)) λG=>some (⟨(⟨H.versions⟩:a_9),(⟨G.bytes,G.stored⟩:Log)⟩:H_)
def k_F (n:Nat)(x1:Bt):Option (Bt×Bool) :=
 bd (F_ (σ:=Bt×Int) (ρ:=Bt×Bool) (un2 λI G=>if (decide<|G<(x1.length:Int)) then bd (idx x1 G) λH=>bd (α:=Bool) (if ((b_ H)==0) then some true else if ((b_ H)==128) then some true else some (decide<|(x1.length:Int)<=(e_ G 1))) (λO=>if O then some (.ret (([]:Bt),false)) else bd (α:=Sum (Bt×Int)<|Out (Bt×Int)<|Bt×Bool) (if (decide<|128<(b_ H)) then bd (k_ (σ:=Bt) (ρ:=Bt×Bool) (λa4=>(λJ=>bd (idx x1<|e_ G 1) λV=>bd (psh J V) λW=>some<|.next W)) ((w_ (b_ H) 128).toNat) 0 I) (el (λJ=>some<|.inl (J,e_ G 2))<|λY=>some<|.inr<|.ret Y) else if (decide<|(x1.length:Int)<(e_ (e_ G 1)<|b_ H)) then some (.inr<|.ret (([]:Bt),false)) else bd (slc x1 (e_ G 1)<|e_ (e_ G 1)<|b_ H) λa0=>bd (app I a0) λa1=>some<|.inl (a1,e_ (e_ G 1)<|b_ H)) (el (un2 λL a2=>if (decide<|1000<(L.length:Int)) then some (.ret (([]:Bt),false)) else some (.next (L,a2))) some)) else some (.brk (I,G))) n (([]:Bt),0)) (el (un2 λI G=>some (I,true))<|λa3=>some a3)
def k_G (x1:q_):Option Bool :=
 bd (α:=Bool) (bd (a_M x1.kind 1 2) λG=>if G then bd (g_o x1.name) λH=>if H then bd (a_M x1.version 0 7) λI=>if I then if (decide<|(x1.data.length:Int)<=400) then if (x1.kind==1) then some true else if (x1.version==0) then some ((x1.data.length:Int)==0) else some false else some false else some false else some false else some false) (λJ=>some J)
def h_K (n:Nat)(x1:Bt)(x2:Int):Option Int :=
 bd (a_M x2 0<|w_ (x1.length:Int) 1) λH=>if (!H) then some 0 else bd (F_ (σ:=Int) (ρ:=Int) (λG=>bd (α:=Bool) (if (decide<|(e_ x2 G)<(x1.length:Int)) then bd (idx x1<|e_ x2 G) λI=>bd (idx x1 x2) λJ=>some ((b_ I)==(b_ J)) else some false) (λL=>if L then some (.next<|e_ G 1) else some (.brk G))) n 0) (el (λG=>some G)<|λO=>some O)
def f_s (x1:Int)(x2:Int):Option Int :=
 if (decide<|x2<x1) then some x2 else some x1
def k_H (n:Nat)(x1:Bt):Option Bt :=
 bd (F_ (σ:=Bt×Int) (ρ:=Bt) (un2 λI G=>if (decide<|G<(x1.length:Int)) then bd (α:=Sum (Bt×Int)<|Out (Bt×Int)<|Bt) (bd (h_K n x1 G) λL=>bd (f_s L 127) λJ=>if (decide<|3<=J) then bd (idx x1 G) λO=>bd (app I [mkB (e_ 128 J),O]) λV=>some (.inl (V,e_ G J)) else bd (F_ (σ:=Int) (ρ:=Bt) (λH=>bd (α:=Bool) (if (decide<|H<(x1.length:Int)) then if (decide<|(w_ H G)<127) then bd (h_K n x1 H) λW=>some (decide<|W<3) else some false else some false) (λY=>if Y then some (.next<|e_ H 1) else some (.brk H))) n G) (el (λH=>bd (slc x1 G H) λa0=>bd (psh I<|mkB<|w_ H G) λa1=>bd (app a1 a0) λa2=>some<|.inl (a2,H))<|λa3=>some<|.inr<|.ret a3)) (el (un2 λa4 a5=>some<|.next (a4,a5)) some) else some (.brk (I,G))) n (([]:Bt),0)) (el (un2 λI G=>some I)<|λa6=>some a6)
def k_I (n:Nat)(x1:Int)(x2:Int):Option Bt :=
 bd (α:=Bool) (bd (a_M x2 1 4) λI=>if (!I) then some true else bd (e_K x2) λJ=>bd (a_M x1 0<|w_ J 1) λL=>some (!L)) (λO=>if O then some ([]:Bt) else bd (F_ (σ:=Bt×Int) (ρ:=Bt) (un2 λH G=>if (decide<|0<=G) then bd (nn<|b_t 8 G) λY=>bd (psh H<|mkB<|c_W .i64 x1<|b_t 8 G) λV=>some (.next (V,w_ G 1)) else some (.brk (H,G))) n (([]:Bt),w_ x2 1)) (el (un2 λH G=>some H)<|λW=>some W))
def k_J (n:Nat)(x1:q_):Option Bt :=
 bd (k_G x1) λI=>if (!I) then some ([]:Bt) else bd (k_H n x1.data) λG=>bd (app [mkB x1.kind,mkB (x1.name.b.length:Int)] x1.name.b) λJ=>bd (psh J<|mkB x1.version) λL=>bd (k_I n (G.length:Int) 2) λO=>bd (app L O) λV=>bd (app V G) λH=>bd (i_w H) λW=>bd (psh H<|mkB W) λY=>some Y
def i_M (x1:Bt)(x2:Bt):Option Bool :=
 if ((x1.length:Int) != (x2.length:Int)) then some false else bd (k_ (σ:=Unit) (ρ:=Bool) (λk10=>(λ(_:Unit)=>bd (idx x1 (k10:Int)) λG=>bd (idx x2 (k10:Int)) λH=>if ((b_ G) != (b_ H)) then some (.ret false) else some (.next ()))) x1.length 0 ()) (el (λ(_:Unit)=>some true)<|λI=>some I)
def i_N (n:Nat)(x1:Bt)(x2:Int):Option (q_×Int×Bool) :=
 bd (a_M x2 0<|w_ (x1.length:Int) 2) λW=>if (!W) then some ((⟨0,(⟨[]⟩:Str),0,([]:Bt)⟩:q_),x2,false) else bd (idx x1<|e_ x2 1) λG=>if (decide<|(x1.length:Int)<(e_ (e_ (e_ x2 2)<|b_ G) 3)) then some ((⟨0,(⟨[]⟩:Str),0,([]:Bt)⟩:q_),x2,false) else bd (slc x1 (e_ (e_ (e_ x2 2)<|b_ G) 1)<|e_ (e_ (e_ x2 2)<|b_ G) 3) λY=>bd (i_u Y false) λH=>if (decide<|(x1.length:Int)<=(e_ (e_ (e_ (e_ x2 2)<|b_ G) 3) H)) then some ((⟨0,(⟨[]⟩:Str),0,([]:Bt)⟩:q_),x2,false) else bd (slc x1 (e_ (e_ (e_ x2 2)<|b_ G) 3)<|e_ (e_ (e_ (e_ x2 2)<|b_ G) 3) H) λa0=>bd2 (k_F n a0) λI a4=>bd (idx x1 x2) λJ=>bd (slc x1 (e_ x2 2)<|e_ (e_ x2 2)<|b_ G) λL=>bd (idx x1<|e_ (e_ x2 2)<|b_ G) λO=>bd (k_J n (⟨b_ J,(⟨L⟩:Str),b_ O,I⟩:q_)) λV=>bd (α:=Bool) (if ((V.length:Int)==0) then some true else bd (slc x1 x2<|e_ (e_ (e_ (e_ (e_ x2 2)<|b_ G) 3) H) 1) λa1=>bd (i_M V a1) λa2=>some (!a2)) (λa3=>if a3 then some ((⟨0,(⟨[]⟩:Str),0,([]:Bt)⟩:q_),x2,false) else some ((⟨b_ J,(⟨L⟩:Str),b_ O,I⟩:q_),e_ (e_ (e_ (e_ (e_ x2 2)<|b_ G) 3) H) 1,true))
def g_D (n:Nat)(x1:Bt):Option ((List q_)×Int) :=
 bd (F_ (σ:=(List q_)×Int) (ρ:=(List q_)×Int) (un2 λG H=>bd3 (i_N n x1 H) λI J L=>if (!L) then some (.ret (G,H)) else bd (psh G I) λO=>some<|.next (O,J)) n (([]:List q_),0)) (el (un2 λG H=>none)<|λV=>some V)
def i_O (n:Nat)(x1:Log):Option Bool :=
 bd (a_M x1.stored 0 (x1.bytes.length:Int)) λG=>if (!G) then some false else bd2 (g_D n x1.bytes) λO H=>bd (slc x1.bytes 0 x1.stored) λI=>bd2 (g_D n I) λV J=>bd (α:=Bool) (if (H==(x1.bytes.length:Int)) then some (J==x1.stored) else some false)<|λL=>some L
def k_K (x1:List o_)(x2:q_):Option (List o_) :=
 bd (α:=Str×Int×Bt) (bd (app ([]:Bt) x2.data) λV=>some (x2.name,x2.version,V)) (un3 λI J L=>bd (k_ (σ:=(List o_)×Bool) (ρ:=List o_) (λO=>un2 λG H=>bd (idx x1 (O:Int)) λW=>bd (α:=(List o_)×Bool) (if (W.name.b != x2.name.b) then bd (idx x1 (O:Int)) λY=>bd (psh G Y) λa0=>some (a0,H) else bd (α:=(List o_)×Bool) (if (x2.kind==1) then bd (psh G (⟨I,J,L⟩:o_)) λa1=>some (a1,true) else some (G,H)) (un2 λa2 a3=>some (a2,a3)))<|un2 λa4 a5=>some<|.next (a4,a5)) x1.length 0 (([]:List o_),false)) (el (un2 λG H=>bd (α:=Bool) (if (x2.kind==1) then some (!H) else some false) (λa6=>bd (α:=List o_) (if a6 then bd (psh G (⟨I,J,L⟩:o_)) λa7=>some a7 else some G)<|λa8=>some a8))<|λa9=>some a9))
def i_P (n:Nat)(x1:Bt):Option (List o_) :=
 bd2 (g_D n x1) λH V=>bd (k_ (σ:=List o_) (ρ:=List o_) (λI=>(λG=>bd (idx H (I:Int)) λJ=>bd (k_K G J) λL=>some<|.next L)) H.length 0 ([]:List o_))<|el (λG=>some G)<|λO=>some O
def k_L (n:Nat)(x1:H_):Option (List o_) :=
 bd (i_O n (⟨x1.log.bytes,x1.log.stored⟩:Log)) λG=>if (!G) then some ([]:List o_) else bd (i_P n x1.log.bytes) λH=>some H
def k_M (x1:a_9):Option Bool :=
 bd (k_ (σ:=Unit) (ρ:=Bool) (λk10=>(λ(_:Unit)=>bd (idx x1.versions (k10:Int)) λG=>bd (h_w G) λH=>if (!H) then some (.ret false) else some (.next ()))) x1.versions.length 0 ()) (el (λ(_:Unit)=>some<|decide<|(x1.versions.length:Int)<=8)<|λI=>some I)
def k_N (n:Nat)(x1:H_):Option Bool :=
 bd (α:=Bool) (bd (k_M (⟨x1.registry.versions⟩:a_9)) λI=>if (!I) then some true else bd (i_O n (⟨x1.log.bytes,x1.log.stored⟩:Log)) λJ=>if (!J) then some true else bd (i_P n x1.log.bytes) λL=>some<|decide<|20<(L.length:Int)) (λO=>if O then some false else bd2 (g_D n x1.log.bytes) λG a5=>bd (k_ (σ:=Unit) (ρ:=Bool) (λH=>(λ(_:Unit)=>bd (α:=Bool) (bd (idx G (H:Int)) λV=>if (V.kind==1) then bd (idx G (H:Int)) λW=>if (decide<|(x1.registry.versions.length:Int)<=W.version) then some true else bd (idx G (H:Int)) λY=>bd (idx x1.registry.versions Y.version) λa0=>bd (idx G (H:Int)) λa1=>bd (i_z n a0 a1.data) λa2=>some (!a2) else some false) (λa3=>if a3 then some (.ret false) else some (.next ())))) G.length 0 ())<|el (λ(_:Unit)=>some true)<|λa4=>some a4)
def k_O (n:Nat)(x1:a_9):Option Bool :=
 if (decide<|8<(x1.versions.length:Int)) then some false else bd (k_ (σ:=Unit) (ρ:=Bool) (λk10=>(λ(_:Unit)=>bd (idx x1.versions (k10:Int)) λG=>bd (h_B n G) λH=>if (!H) then some (.ret false) else some (.next ()))) x1.versions.length 0 ()) (el (λ(_:Unit)=>some true)<|λI=>some I)
def k_P (n:Nat)(x1:Bt):Option (Bt×Bool) :=
 bd (F_ (σ:=Bt×Int) (ρ:=Bt×Bool) (un2 λI G=>if (decide<|G<(x1.length:Int)) then bd (idx x1 G) λH=>bd (α:=Bool) (if ((b_ H)==0) then some true else if ((b_ H)==128) then some true else some ((e_ G 1)==(x1.length:Int))) (λO=>if O then some (.ret (([]:Bt),false)) else bd (α:=Sum (Bt×Int)<|Out (Bt×Int)<|Bt×Bool) (if (decide<|(b_ H)<128) then if (decide<|(w_ (x1.length:Int)<|e_ G 1)<(b_ H)) then some (.inr<|.ret (([]:Bt),false)) else bd (slc x1 (e_ G 1)<|e_ (e_ G 1)<|b_ H) λV=>bd (app I V) λW=>some (.inl (W,e_ (e_ G 1)<|b_ H)) else bd (k_ (σ:=Bt) (ρ:=Bt×Bool) (λa4=>(λJ=>bd (idx x1<|e_ G 1) λY=>bd (psh J Y) λa0=>some<|.next a0)) ((w_ (b_ H) 128).toNat) 0 I) (el (λJ=>some<|.inl (J,e_ (e_ G 1) 1))<|λa1=>some<|.inr<|.ret a1)) (el (un2 λL a2=>if (decide<|1000<(L.length:Int)) then some (.ret (([]:Bt),false)) else some (.next (L,a2))) some)) else some (.brk (I,G))) n (([]:Bt),0)) (el (un2 λI G=>some (I,true))<|λa3=>some a3)
def i_Q (n:Nat)(x1:q_):Option Bool :=
 bd (α:=Bool) (bd (f_m n x1.name) λG=>if (!G) then some true else bd (c_B x1.version 0 7) λH=>if (!H) then some true else some (decide<|400<(x1.data.length:Int))) (λI=>if I then some false else bd (α:=Bool) (if (x1.kind==1) then some true else if (x1.kind==2) then if (x1.version==0) then some ((x1.data.length:Int)==0) else some false else some false) (λJ=>some J))
def h_L (x1:Bt)(x2:Int):Option Bool :=
 bd (α:=Bool) (if (decide<|(e_ x2 2)<(x1.length:Int)) then bd (idx x1 x2) λG=>bd (idx x1<|e_ x2 1) λH=>if ((b_ G)==(b_ H)) then bd (idx x1 x2) λI=>bd (idx x1<|e_ x2 2) λJ=>some ((b_ I)==(b_ J)) else some false else some false) (λL=>some L)
def k_Q (n:Nat)(x1:Bt)(x2:Int):Option Int :=
 bd (α:=Bool) (if (decide<|x2<0) then some true else some (decide<|(x1.length:Int)<=x2)) (λH=>if H then some 0 else bd (F_ (σ:=Int) (ρ:=Int) (λG=>bd (α:=Bool) (if (decide<|(e_ x2 G)<(x1.length:Int)) then bd (idx x1<|e_ x2 G) λI=>bd (idx x1 x2) λJ=>some ((b_ I)==(b_ J)) else some false) (λL=>if L then some (.next<|e_ G 1) else some (.brk G))) n 1) (el (λG=>some G)<|λO=>some O))
def h_M (x1:Int)(x2:Int):Option Bool :=
 some (decide<|x1<x2)
def k_R (x2:Int)(x3:List Int):Option Int :=
 bd (k_ (σ:=Int) (ρ:=Int) (λI=>(λG=>bd (idx x3 (I:Int)) λH=>bd (h_M H G) λJ=>bd (α:=Int) (if J then some H else some G)<|λL=>some<|.next L)) x3.length 0 x2) (el (λG=>some G)<|λO=>some O)
def f_t (x1:Int)(x2:Int):Option Int :=
 bd (k_R x1 [x2]) λG=>some G
def k_S (n:Nat)(x1:Bt):Option Bt :=
 bd (F_ (σ:=Bt×Int) (ρ:=Bt) (un2 λI G=>if (decide<|G<(x1.length:Int)) then bd (α:=Sum (Bt×Int)<|Out (Bt×Int)<|Bt) (bd (h_L x1 G) λL=>if L then bd (k_Q n x1 G) λO=>bd (f_t O 127) λJ=>bd (idx x1 G) λV=>bd (app I [mkB (e_ 128 J),V]) λW=>some (.inl (W,e_ G J)) else bd (F_ (σ:=Int) (ρ:=Bt) (λH=>bd (α:=Bool) (if (decide<|H<(x1.length:Int)) then if (decide<|(w_ H G)<127) then bd (h_L x1 H) λY=>some (!Y) else some false else some false) (λa0=>if a0 then some (.next<|e_ H 1) else some (.brk H))) n<|e_ G 1) (el (λH=>bd (psh I<|mkB<|w_ H G) λa1=>bd (slc x1 G H) λa2=>bd (app a1 a2) λa3=>some<|.inl (a3,H))<|λa4=>some<|.inr<|.ret a4)) (el (un2 λa5 a6=>some<|.next (a5,a6)) some) else some (.brk (I,G))) n (([]:Bt),0)) (el (un2 λI G=>some I)<|λa7=>some a7)
def k_T (n:Nat)(x1:q_):Option Bt :=
 bd (i_Q n x1) λI=>if (!I) then some ([]:Bt) else bd (k_S n x1.data) λG=>bd (app [mkB x1.kind,mkB (x1.name.b.length:Int)] x1.name.b) λJ=>bd (app J [mkB x1.version,mkB<|c_W .i64 (G.length:Int) 8,mkB (G.length:Int)]) λL=>bd (app L G) λH=>bd (h_E H) λO=>bd (psh H<|mkB O) λV=>some V
def g_E (n:Nat)(x1:Bt)(x2:Int):Option (q_×Int×Bool) :=
 bd (α:=Bool) (if (decide<|x2<0) then some true else if (decide<|(x1.length:Int)<x2) then some true else some (decide<|(w_ (x1.length:Int) x2)<2)) (λY=>if Y then some ((⟨0,(⟨[]⟩:Str),0,([]:Bt)⟩:q_),x2,false) else bd (slc x1 x2 (x1.length:Int)) λG=>bd (idx G 1) λH=>if (decide<|(G.length:Int)<(e_ (b_ H) 6)) then some ((⟨0,(⟨[]⟩:Str),0,([]:Bt)⟩:q_),x2,false) else bd (idx G<|e_ (b_ H) 3) λI=>bd (idx G<|e_ (b_ H) 4) λJ=>if (decide<|(G.length:Int)<(e_ (e_ (b_ H) 6)<|b_P .i64 (· ||| ·) (b_I .i64 (b_ I) 8)<|b_ J)) then some ((⟨0,(⟨[]⟩:Str),0,([]:Bt)⟩:q_),x2,false) else bd (mk0 (0:UInt8)<|b_P .i64 (· ||| ·) (b_I .i64 (b_ I) 8)<|b_ J) λa0=>bd (slc G (e_ (b_ H) 5) (G.length:Int)) λa1=>bd2 (k_P n<|cpy a0 a1) λL a2=>bd (idx G 0) λO=>bd (slc G 2<|e_ 2<|b_ H) λV=>bd (idx G<|e_ (b_ H) 2) λW=>bd (α:=Bool) (if (!a2) then some true else bd (i_Q n (⟨b_ O,(⟨V⟩:Str),b_ W,L⟩:q_)) λa3=>if (!a3) then some true else bd (slc G 0<|e_ (e_ (b_ H) 6)<|b_P .i64 (· ||| ·) (b_I .i64 (b_ I) 8)<|b_ J) λa4=>bd (k_T n (⟨b_ O,(⟨V⟩:Str),b_ W,L⟩:q_)) λa5=>bd (m_p a5 a4) λa6=>some (!a6)) (λa7=>if a7 then some ((⟨0,(⟨[]⟩:Str),0,([]:Bt)⟩:q_),x2,false) else some ((⟨b_ O,(⟨V⟩:Str),b_ W,L⟩:q_),e_ (e_ (e_ x2<|b_ H) 6)<|b_P .i64 (· ||| ·) (b_I .i64 (b_ I) 8)<|b_ J,true)))
def m_B (n:Nat)(x1:Log):Option Bool :=
 bd (c_B x1.stored 0 (x1.bytes.length:Int)) λJ=>if (!J) then some false else bd (F_ (σ:=Bool×Int) (ρ:=Bool) (un2 λG H=>if (decide<|H<(x1.bytes.length:Int)) then bd3 (g_E n x1.bytes H) λW I L=>if (!L) then some (.ret false) else bd (α:=Bool) (if G then some true else some (I==x1.stored)) (λO=>some<|.next (O,I)) else some (.brk (G,H))) n (x1.stored==0,0)) (el (un2 λG H=>if (!G) then some false else some true)<|λV=>some V)
def k_U (n:Nat)(x1:Log):Option Bool :=
 m_B n x1
def i_R (n:Nat)(x1:Bt):Option ((List q_)×Int) :=
 bd (F_ (σ:=(List q_)×Int) (ρ:=(List q_)×Int) (un2 λG H=>bd3 (g_E n x1 H) λI J L=>if (!L) then some (.ret (G,H)) else bd (psh G I) λO=>some<|.next (O,J)) n (([]:List q_),0)) (el (un2 λG H=>none)<|λV=>some V)
def m_C (x1:o_)(x2:q_):Option Bool :=
 some (x1.name.b==x2.name.b)
def k_V (x1:List o_)(G:q_):Option Int :=
 bd (k_ (σ:=Unit) (ρ:=Int) (λk10=>(λ(_:Unit)=>bd (idx x1 (k10:Int)) λH=>bd (m_C H G) λI=>if I then some (.ret (k10:Int)) else some (.next ()))) x1.length 0 ()) (el (λ(_:Unit)=>some (-1))<|λJ=>some J)
def i_S (n:Nat)(x1:H_):Option (List o_) :=
 bd2 (i_R n x1.log.bytes) λJ a6=>bd (k_ (σ:=List o_) (ρ:=List o_) (λL=>(λG=>bd (idx J (L:Int)) λH=>bd (k_V G H) λI=>bd (α:=Bool) (if (H.kind==1) then some (decide<|0<=I) else some false) (λO=>bd (α:=List o_) (if O then bd (upd G I (⟨H.name,H.version,H.data⟩:o_)) λV=>some V else bd (α:=List o_) (if (H.kind==1) then bd (psh G (⟨H.name,H.version,H.data⟩:o_)) λW=>some W else bd (α:=List o_) (if (decide<|0<=I) then bd (slc G 0 I) λY=>bd (slc G (e_ I 1) (G.length:Int)) λa0=>bd (app Y a0) λa1=>some a1 else some G) (λa2=>some a2)) (λa3=>some a3))<|λa4=>some<|.next a4))) J.length 0 ([]:List o_))<|el (λG=>some G)<|λa5=>some a5
def m_D (x1:a_9)(x2:Int):Option Bool :=
 bd (α:=Bool) (if (decide<|0<=x2) then some (decide<|x2<(x1.versions.length:Int)) else some false) (λG=>some G)
def k_W (n:Nat)(x1:H_):Option Bool :=
 bd (α:=Bool) (bd (k_O n (⟨x1.registry.versions⟩:a_9)) λI=>if (!I) then some true else bd (k_U n (⟨x1.log.bytes,x1.log.stored⟩:Log)) λJ=>if (!J) then some true else bd (i_S n x1) λL=>some<|decide<|20<(L.length:Int)) (λO=>if O then some false else bd2 (i_R n x1.log.bytes) λH a3=>bd (k_ (σ:=Unit) (ρ:=Bool) (λV=>(λ(_:Unit)=>bd (idx H (V:Int)) λG=>bd (α:=Bool) (if (G.kind==1) then bd (m_D (⟨x1.registry.versions⟩:a_9) G.version) λW=>if (!W) then some true else bd (idx x1.registry.versions G.version) λY=>bd (k_k n Y G.data) λa0=>some (!a0) else some false) (λa1=>if a1 then some (.ret false) else some (.next ())))) H.length 0 ())<|el (λ(_:Unit)=>some true)<|λa2=>some a2)
def m_E (n:Nat)(x1:H_):Option (List o_) :=
 bd (k_U n (⟨x1.log.bytes,x1.log.stored⟩:Log)) λG=>if (!G) then some ([]:List o_) else bd (i_S n x1) λH=>some H
def k_X (n:Nat)(x1:H_):Option (List o_) :=
 bd (k_W n x1) λG=>if (!G) then some ([]:List o_) else bd (m_E n x1) λH=>some H
def k_Y (x1:List d_)(x2:List d_):Option Bool :=
 if ((x1.length:Int) != (x2.length:Int)) then some false else bd (k_ (σ:=Unit) (ρ:=Bool) (λk10=>(λ(_:Unit)=>bd (idx x1 (k10:Int)) λG=>bd (idx x2 (k10:Int)) λH=>bd (k_m G H) λI=>if (!I) then some (.ret false) else some (.next ()))) x1.length 0 ()) (el (λ(_:Unit)=>some true)<|λJ=>some J)
def m_F (x1:a_9)(x2:a_9):Option Bool :=
 bd (k_Y x1.versions x2.versions) λG=>if (!G) then some false else some true
def m_G (x1:Log)(x2:Log):Option Bool :=
 bd (i_G x1.bytes x2.bytes) λG=>if (!G) then some false else if (x1.stored != x2.stored) then some false else some true
def k_Z (x1:H_)(x2:H_):Option Bool :=
 bd (m_F (⟨x1.registry.versions⟩:a_9) (⟨x2.registry.versions⟩:a_9)) λG=>if (!G) then some false else bd (m_G (⟨x1.log.bytes,x1.log.stored⟩:Log) (⟨x2.log.bytes,x2.log.stored⟩:Log)) λH=>if (!H) then some false else some true
def m_H (x1:o_):Option Str :=
 some x1.name
def m_I (n:Nat)(x1:Log)(x2:Int):Option (Int×Bt) :=
 bd2 (i_I n x1.bytes x2) λG H=>some (G,H)
def l_0 (n:Nat)(x1:List d_)(x2:Int):Option (Int×(List d_)) :=
 bd (F_ (σ:=(List d_)×Int×Int) (ρ:=Int×(List d_)) (un3 λG I H=>if (decide<|H<(G.length:Int)) then bd (idx G H) λJ=>bd2 (k_n n J.rules I) λL O=>some (.next (G.set (H).toNat (⟨O⟩:d_),L,e_ H 1)) else some (.brk (G,I,H))) n (x1,x2,0)) (el (un3 λG I H=>some (I,G))<|λV=>some V)
def m_J (n:Nat)(x1:a_9)(x2:Int):Option (Int×(List d_)) :=
 bd2 (l_0 n x1.versions x2) λG H=>some (G,H)
def l_1 (n:Nat)(x1:H_)(x2:Int):Option (Int×(List d_)×Bt) :=
 bd2 (m_J n (⟨x1.registry.versions⟩:a_9) x2) λG H=>bd2 (m_I n (⟨x1.log.bytes,x1.log.stored⟩:Log) G) λI J=>some (I,H,J)
end Go.Vw
namespace Go.Vw
open Go.RowKit Dat
structure Change where
 path:Str
 part:Val
deriving Inhabited
instance:Dat Change:=Dat.via<|λr=>(r.path,r.part)
end Go.Vw
namespace Go.Vw
def j_E (x1:d_)(x2:f_)(x3:Val):Option Bool :=
 if (x2.kind==1) then bd (α:=Bool) (bd (e_K x2.size) λG=>bd (a_M x3.number 0<|w_ G 1) λH=>if H then if ((x3.bytes.length:Int)==0) then some ((x3.items.length:Int)==0) else some false else some false) (λI=>some I) else if (x2.kind==2) then bd (α:=Bool) (if (x3.number==0) then if ((x3.bytes.length:Int)==0) then some ((x3.items.length:Int)==0) else some false else some false) (λJ=>some J) else if (x2.kind==3) then bd (α:=Bool) (if (x3.number==0) then if ((x3.bytes.length:Int)==x2.size) then some ((x3.items.length:Int)==0) else some false else some false) (λL=>some L) else if (x2.kind==4) then bd (α:=Bool) (if (x3.number==0) then bd (idx x2.kids 0) λO=>bd (f_l x1 O) λV=>bd (f_s 400 V) λW=>if (decide<|(x3.bytes.length:Int)<=W) then some ((x3.items.length:Int)==0) else some false else some false) (λY=>some Y) else if (x2.kind==10) then bd (α:=Bool) (if (x3.number==0) then if (decide<|(x3.bytes.length:Int)<=400) then some ((x3.items.length:Int)==0) else some false else some false) (λa0=>some a0) else if (x2.kind==5) then bd (α:=Bool) (if (x3.number==0) then if ((x3.bytes.length:Int)==0) then bd (idx x2.kids 0) λa1=>bd (f_l x1 a1) λa2=>bd (f_s 40 a2) λa3=>some (decide<|(x3.items.length:Int)<=a3) else some false else some false) (λa4=>some a4) else if (x2.kind==6) then bd (α:=Bool) (if (x3.number==0) then if ((x3.bytes.length:Int)==0) then some ((x3.items.length:Int)==(x2.kids.length:Int)) else some false else some false) (λa5=>some a5) else if (x2.kind==7) then bd (α:=Bool) (if ((x3.bytes.length:Int)==0) then if ((x3.items.length:Int)==1) then bd (b_S x2 x3.number 0) λa6=>some (decide<|0<=a6) else some false else some false) (λa7=>some a7) else if (x2.kind==8) then bd (α:=Bool) (if (x3.number==0) then if ((x3.bytes.length:Int)==0) then some (decide<|(x3.items.length:Int)<=1) else some false else some false) (λa8=>some a8) else bd (α:=Bool) (if (x3.number==0) then if ((x3.bytes.length:Int)==0) then some ((x3.items.length:Int)==1) else some false else some false) (λa9=>some a9)
structure s_V where
 spec_l9Valid:d_->Int->Val->Option Bool
def j_F (n:Nat)(rec:s_V)(x1:d_)(x2:Int)(x3:Val):Option Bool :=
 bd (idx x1.rules x2) λG=>bd (j_E x1 G x3) λI=>if (!I) then some false else bd (k_ (σ:=Unit) (ρ:=Bool) (λH=>(λ(_:Unit)=>bd (idx x3.items (H:Int)) λJ=>bd (b_S G x3.number (H:Int)) λL=>bd (rec.spec_l9Valid x1 L J) λO=>if (!O) then some (.ret false) else some (.next ()))) x3.items.length 0 ()) (el (λ(_:Unit)=>some true)<|λV=>some V)
def h_t:Nat->s_V
 | 0=>⟨λ_ _ _=>none⟩
 | n+1=>⟨j_F n<|h_t n⟩
def s_W (n:Nat):=(h_t n).spec_l9Valid
def j_G (n:Nat)(x1:d_)(x2:Int)(x3:Val):Option Bool :=
 bd (α:=Bool) (bd (i_y x1 x2) λG=>if G then bd (s_W n x1 x2 x3) λH=>some H else some false) (λI=>some I)
end Go.Vw
namespace Go.Vw
def n_a (n:Nat)(x1:Int)(x2:Str)(x3:Str)(x4:Str):Option Str :=
 bd (d_p n x1) λG=>bd (cat G x2) λH=>bd (cat H x3) λI=>bd (cat I x4) λJ=>some J
def l_e (x1:Bt):Option Str :=
 bd (k_ (σ:=Str) (ρ:=Str) (λH=>(λG=>bd (idx x1 (H:Int)) λI=>bd (idx x1 (H:Int)) λJ=>bd (c_2 (⟨[48,49,50,51,52,53,54,55,56,57,97,98,99,100,101,102]⟩:Str) (c_V (b_ I) 16)<|e_ (c_V (b_ I) 16) 1) λL=>bd (cat G L) λO=>bd (c_2 (⟨[48,49,50,51,52,53,54,55,56,57,97,98,99,100,101,102]⟩:Str) (b_7 (b_ J) 16)<|e_ (b_7 (b_ J) 16) 1) λV=>bd (cat O V) λW=>some<|.next W)) x1.length 0 (⟨[]⟩:Str)) (el (λG=>some G)<|λY=>some Y)
structure n_b where
 spec_l10Text:d_->Int->Val->Option Str
 spec_l10List:d_->f_->Val->Option Str
def b_l (n:Nat)(rec:n_b)(x1:d_)(x2:Int)(x3:Val):Option Str :=
 bd (idx x1.rules x2) λG=>bd (rec.spec_l10List x1 G x3) λH=>if (G.kind==1) then bd (d_p n x3.number) λI=>some I else if (G.kind==2) then some (⟨[33]⟩:Str) else if (G.kind==5) then bd (cat (⟨[91]⟩:Str) H) λJ=>bd (cat J (⟨[93]⟩:Str)) λL=>some L else if (G.kind==6) then bd (cat (⟨[123]⟩:Str) H) λO=>bd (cat O (⟨[125]⟩:Str)) λV=>some V else if (G.kind==7) then bd (n_a n x3.number (⟨[60]⟩:Str) H (⟨[62]⟩:Str)) λW=>some W else if (G.kind==8) then if ((x3.items.length:Int)==0) then some (⟨[45]⟩:Str) else bd (cat (⟨[63]⟩:Str) H) λY=>some Y else if (G.kind==9) then bd (cat (⟨[40]⟩:Str) H) λa0=>bd (cat a0 (⟨[41]⟩:Str)) λa1=>some a1 else bd (l_e x3.bytes) λa2=>bd (cat (⟨[120]⟩:Str) a2) λa3=>some a3
def l_f (n:Nat)(rec:n_b)(x1:d_)(x2:f_)(x3:Val):Option Str :=
 bd (k_ (σ:=Str) (ρ:=Str) (λk10=>(λG=>bd (α:=Str) (if (decide<|0<(k10:Int)) then bd (cat G (⟨[44]⟩:Str)) λI=>some I else some G) (λH=>bd (α:=Str) (if (x2.kind==6) then bd (idx x2.names (k10:Int)) λJ=>bd (cat H J) λL=>bd (cat L (⟨[58]⟩:Str)) λO=>some O else some H)<|λV=>bd (idx x3.items (k10:Int)) λW=>bd (b_S x2 x3.number (k10:Int)) λY=>bd (rec.spec_l10Text x1 Y W) λa0=>bd (cat V a0) λa1=>some<|.next a1))) x3.items.length 0 (⟨[]⟩:Str)) (el (λG=>some G)<|λa2=>some a2)
def b_T:Nat->n_b
 | 0=>⟨λ_ _ _=>none,λ_ _ _=>none⟩
 | n+1=>⟨b_l n<|b_T n,l_f n<|b_T n⟩
def p_u (n:Nat):=(b_T n).spec_l10Text
def j_0 (n:Nat)(x1:d_)(x2:Int)(x3:Val):Option Str :=
 bd (j_G n x1 x2 x3) λG=>if (!G) then some (⟨[]⟩:Str) else bd (p_u n x1 x2 x3) λH=>some H
def g_J (n:Nat)(x1:d_)(x2:Bt)(x3:Str):Option Str :=
 bd2 (g_r n x1 x2 x3) λG H=>if (!H) then some (⟨[]⟩:Str) else bd2 (k_o n x1 x2 x3) λI L=>bd (j_0 n x1 G.rule I) λJ=>some J
def l_g (x1:d_)(x2:Int)(x3:Val):Option Bool :=
 bd (idx x1.rules x2) λG=>bd (α:=Sum (Int×Int×Int) Bool) (if (G.kind==1) then bd (e_j x1 x2) λI=>some (.inl (I,0,0)) else bd (α:=Sum (Int×Int×Int)<|Sum (Int×Int×Int) Bool) (if (G.kind==3) then if ((x3.bytes.length:Int) != G.size) then some (.inr<|.inr false) else some (.inl (0,G.size,0)) else bd (α:=Int×Int×Int) (if (G.kind==4) then bd (idx G.kids 0) λJ=>bd (e_j x1 J) λL=>bd (f_t 400 L) λO=>some (0,O,0) else bd (α:=Int×Int×Int) (if (G.kind==10) then some (0,400,0) else bd (α:=Int×Int) (if (G.kind==5) then bd (idx G.kids 0) λV=>bd (e_j x1 V) λW=>bd (f_t 40 W) λY=>some (0,Y) else bd (α:=Int×Int) (if (G.kind==6) then some (0,(G.kids.length:Int)) else bd (α:=Int×Int) (if (G.kind==7) then bd (idx G.kids 0) λa0=>bd (e_j x1 a0) λa1=>some (a1,1) else bd (α:=Bool) (if (G.kind==8) then some (G.kind==8) else some (G.kind==9)) (λa2=>bd (α:=Int) (if a2 then some 1 else some 0)<|λa3=>some (0,a3))) (un2 λa4 a5=>some (a4,a5))) (un2 λa6 a7=>some (a6,a7))) (un2 λa8 a9=>some (a8,0,a9))) (un3 λaa ab ad=>some (aa,ab,ad))) (un3 λae af ah=>some<|.inl (ae,af,ah))) (el (un3 λai aj ak=>some<|.inl (ai,aj,ak)) some)) (el (un3 λal am H=>bd (α:=Bool) (if (G.kind==6) then some ((x3.items.length:Int) != H) else bd (α:=Bool) (if (G.kind==7) then some true else some (G.kind==9)) λan=>if an then some ((x3.items.length:Int) != H) else some false) (λap=>if ap then some false else bd (α:=Bool) (bd (c_B x3.number 0 al) λaq=>if aq then if (decide<|(x3.bytes.length:Int)<=am) then some (decide<|(x3.items.length:Int)<=H) else some false else some false) (λar=>some ar))) some)
structure t_Q where
 impl_validValue:d_->Int->Val->Option Bool
def l_h (n:Nat)(rec:t_Q)(x1:d_)(x2:Int)(x3:Val):Option Bool :=
 bd (l_g x1 x2 x3) λH=>if (!H) then some false else bd (k_ (σ:=Unit) (ρ:=Bool) (λk10=>(λ(_:Unit)=>bd (f_r x1 x2 x3 (k10:Int)) λG=>bd (α:=Bool) (if (decide<|G<0) then some true else bd (idx x3.items (k10:Int)) λI=>bd (rec.impl_validValue x1 G I) λJ=>some (!J)) (λL=>if L then some (.ret false) else some (.next ())))) x3.items.length 0 ()) (el (λ(_:Unit)=>some true)<|λO=>some O)
def h_R:Nat->t_Q
 | 0=>⟨λ_ _ _=>none⟩
 | n+1=>⟨l_h n<|h_R n⟩
def t_R (n:Nat):=(h_R n).impl_validValue
def l_i (n:Nat)(x1:d_)(x2:Int)(x3:Val):Option Bool :=
 bd (α:=Bool) (bd (g_v n x1 x2) λG=>if G then bd (t_R n x1 x2 x3) λH=>some H else some false) (λI=>some I)
def d_c (x1:f_):Option e_4 :=
 if (x1.kind==1) then some ((1,([]:List Str)):e_4) else if (x1.kind==2) then some ((2,([]:List Str)):e_4) else if (x1.kind==5) then some ((5,([]:List Str)):e_4) else if (x1.kind==6) then some ((6,x1.names):e_4) else if (x1.kind==7) then some ((7,([]:List Str)):e_4) else if (x1.kind==8) then some ((8,([]:List Str)):e_4) else if (x1.kind==9) then some ((9,([]:List Str)):e_4) else some ((0,([]:List Str)):e_4)
def j_1 (x1:List Str)(x2:Str):Option Str :=
 bd (l_q x1 x2) λG=>some G
def n_c (x1:Int)(x2:Str)(x3:Str)(x4:Str):Option Str :=
 bd (h_H x1) λG=>bd (cat G x2) λH=>bd (cat H x3) λI=>bd (cat I x4) λJ=>some J
def l_j (x1:Bt):Option Str :=
 bd (mk0 ()<|b_t 2 (x1.length:Int)) λW=>bd (k_ (σ:=Bt) (ρ:=Str) (λI=>(λG=>bd (idx x1 (I:Int)) λH=>bd (idx (⟨[48,49,50,51,52,53,54,55,56,57,97,98,99,100,101,102]⟩:Str).b (b_<|shU H 4)) λJ=>bd (idx (⟨[48,49,50,51,52,53,54,55,56,57,97,98,99,100,101,102]⟩:Str).b (b_<|H &&& (15:UInt8))) λL=>bd (app G [J,L]) λO=>some<|.next O)) x1.length 0 ([]:Bt))<|el (λG=>some (⟨G⟩:Str))<|λV=>some V
structure p_v where
 impl_valueText:d_->Int->Val->Option Str
 impl_valueText_1:Int->d_->Int->Val->Option Str
def b_m (n:Nat)(rec:p_v)(x1:d_)(x2:Int)(x3:Val):Option Str :=
 bd (idx x1.rules x2) λL=>bd (d_c L) λG=>if (G.1==1) then bd (h_H x3.number) λO=>some O else if (G.1==2) then some (⟨[33]⟩:Str) else if (G.1==5) then bd (k_ (σ:=List Str) (ρ:=Str) (λV=>(λH=>bd (rec.impl_valueText_1 (V:Int) x1 x2 x3) λW=>bd (psh H W) λY=>some<|.next Y)) x3.items.length 0 ([]:List Str)) (el (λH=>bd (j_1 H (⟨[44]⟩:Str)) λa0=>bd (cat (⟨[91]⟩:Str) a0) λa1=>bd (cat a1 (⟨[93]⟩:Str)) λa2=>some a2)<|λa3=>some a3) else if (G.1==6) then bd (k_ (σ:=List Str) (ρ:=Str) (λJ=>(λI=>bd (idx G.2 (J:Int)) λa4=>bd (cat a4 (⟨[58]⟩:Str)) λa5=>bd (rec.impl_valueText_1 (J:Int) x1 x2 x3) λa6=>bd (cat a5 a6) λa7=>bd (psh I a7) λa8=>some<|.next a8)) G.2.length 0 ([]:List Str)) (el (λI=>bd (j_1 I (⟨[44]⟩:Str)) λa9=>bd (cat (⟨[123]⟩:Str) a9) λaa=>bd (cat aa (⟨[125]⟩:Str)) λab=>some ab)<|λad=>some ad) else if (G.1==7) then bd (rec.impl_valueText_1 0 x1 x2 x3) λae=>bd (n_c x3.number (⟨[60]⟩:Str) ae (⟨[62]⟩:Str)) λaf=>some af else if (G.1==8) then if ((x3.items.length:Int)==0) then some (⟨[45]⟩:Str) else bd (rec.impl_valueText_1 0 x1 x2 x3) λah=>bd (cat (⟨[63]⟩:Str) ah) λai=>some ai else if (G.1==9) then bd (rec.impl_valueText_1 0 x1 x2 x3) λaj=>bd (cat (⟨[40]⟩:Str) aj) λak=>bd (cat ak (⟨[41]⟩:Str)) λal=>some al else bd (l_j x3.bytes) λam=>bd (cat (⟨[120]⟩:Str) am) λan=>some an
def l_k (n:Nat)(rec:p_v)(x1:Int)(x2:d_)(x3:Int)(x4:Val):Option Str :=
 bd (idx x4.items x1) λG=>bd (f_r x2 x3 x4 x1) λH=>bd (rec.impl_valueText x2 H G) λI=>some I
def b_e:Nat->p_v
 | 0=>⟨λ_ _ _=>none,λ_ _ _ _=>none⟩
 | n+1=>⟨b_m n<|b_e n,l_k n<|b_e n⟩
def p_w (n:Nat):=(b_e n).impl_valueText
def g_K (n:Nat)(x1:d_)(x2:Int)(x3:Val):Option Str :=
 bd (l_i n x1 x2 x3) λG=>if (!G) then some (⟨[]⟩:Str) else bd (p_w n x1 x2 x3) λH=>some H
def t_S (n:Nat)(x1:d_)(x2:Bt)(x3:Str):Option Str :=
 bd3 (o_L n x1 x2 x3) λG H I=>if (!I) then some (⟨[]⟩:Str) else bd (g_K n x1 H G) λJ=>some J
end Go.Vw
namespace Go.Vw
def i_k (n:Nat)(x1:d_)(x2:Bt)(x3:Str)(x4:Str):Option (List Str) :=
 bd (k_w n x1 x2 x3) λH=>bd (k_ (σ:=List Str) (ρ:=List Str) (λI=>(λG=>bd (idx H (I:Int)) λJ=>bd (g_J n x1 x2 J.path) λL=>bd (α:=List Str) (if (L.b==x4.b) then bd (idx H (I:Int)) λO=>bd (psh G O.path) λV=>some V else some G)<|λW=>some<|.next W)) H.length 0 ([]:List Str))<|el (λG=>some G)<|λY=>some Y
def j_H (n:Nat)(x1:d_)(x2:Bt)(x3:Str)(x4:Str):Option (List Str) :=
 bd (k_B n x1 x2 x3) λI=>bd (k_ (σ:=List Str) (ρ:=List Str) (λJ=>(λG=>bd (idx I (J:Int)) λH=>bd3 (f_p n x1 H.rule x2 H.start) λL a0 a1=>bd (g_K n x1 H.rule L) λO=>bd (α:=List Str) (if (O.b==x4.b) then bd (psh G H.path) λV=>some V else some G)<|λW=>some<|.next W)) I.length 0 ([]:List Str))<|el (λG=>some G)<|λY=>some Y
end Go.Vw
namespace Go.Vw
def l_c (n:Nat)(x1:H_)(x2:Str)(x3:Str):Option (List Str) :=
 bd (k_L n x1) λI=>bd (F_ (σ:=(List Str)×Int) (ρ:=List Str) (un2 λH G=>bd (α:=Bool) (if (decide<|G<(I.length:Int)) then bd (k_N n x1) λJ=>some J else some false) (λL=>if L then bd (idx I G) λO=>bd (idx x1.registry.versions O.version) λV=>bd (idx I G) λW=>bd (i_k n V W.data x2 x3) λY=>bd (α:=List Str) (if (decide<|0<(Y.length:Int)) then bd (idx I G) λa0=>bd (psh H a0.name) λa1=>some a1 else some H) (λa2=>some<|.next (a2,e_ G 1)) else some (.brk (H,G)))) n (([]:List Str),0))<|el (un2 λH G=>some H)<|λa3=>some a3
def n_8 (n:Nat)(x1:o_)(x2:H_)(x3:Str)(x4:Str):Option Bool :=
 bd (idx x2.registry.versions x1.version) λG=>bd (j_H n G x1.data x3 x4) λH=>some<|decide<|0<(H.length:Int)
def n_9 (n:Nat)(x1:List o_)(I:H_)(J:Str)(L:Str):Option (List Str) :=
 bd (k_ (σ:=List Str) (ρ:=List Str) (λO=>(λG=>bd (idx x1 (O:Int)) λH=>bd (n_8 n H I J L) λV=>bd (α:=List Str) (if V then bd (m_H H) λW=>bd (psh G W) λY=>some Y else some G)<|λa0=>some<|.next a0)) x1.length 0 ([]:List Str)) (el (λG=>some G)<|λa1=>some a1)
def i_Z (n:Nat)(x1:H_)(x2:Str)(x3:Str):Option (List Str) :=
 bd (k_X n x1) λG=>bd (n_9 n G x1 x2 x3) λH=>some H
def l_d (n:Nat)(x1:H_)(x2:Str)(x3:Str):Option Bool :=
 if (decide<|1048576<(x2.b.length:Int)) then some true else if (decide<|1048576<(x3.b.length:Int)) then some true else bd (k_D x1 1048576) λW=>if (decide<|W<0) then some true else bd (g_C x1) λY=>bd (l_c n Y x2 x3) λG=>bd (g_C x1) λH=>bd (i_Z n H x2 x3) λI=>bd (g_z I G) λa0=>if (!a0) then some false else bd (g_C x1) λa1=>bd (k_Z H a1) λa2=>if (!a2) then some false else bd3 (l_1 n H 1) λa3 a9 aa=>bd (α:=Bool) (if (decide<|a3<0) then some true else bd (g_z I G) λa4=>some (!a4)) (λa5=>if a5 then some false else bd2 (i_J n I 1) λJ L=>bd (i_L n L 1) λO=>if (decide<|O<0) then some false else if (O != J) then some false else bd (g_C x1) λa6=>bd (i_Z n a6 x2 x3) λa7=>bd (g_z a7 G) λa8=>if (!a8) then some false else bd (i_L n L 1) λV=>if (decide<|V<0) then some false else if (V != J) then some false else some true)
end Go.Vw
namespace Go.Vw
open Go.RowKit Dat
theorem u_e {P:Program}{o:Oper}{a:Act}{w:World}{K K' K1 K2:Act->World->Prop}{Q:Exit->Act->World->Prop}(h:∀a w,K a w->K' a w)(hh:o.wp P a w K (Exit.then K1 Q)):o.wp P a w K' (Exit.then K2 Q):=by
 unfold Oper.wp at *
 generalize (execOp a.eval o).run P w=r at *
 cases r with
 | ok n w' =>
  cases n <;> simp only [Oper.upon] at hh ⊢ <;>
   first
    | grind
    | exact Calls.mono hh (λe w'' he=>by cases e <;> first | grind | exact he)
    | grind [Rows.mono]
 | halt x w'=>cases x <;> simp only [Oper.upon] at hh ⊢ <;> exact hh
theorem n_g {P:Program}{ops:Array Oper}{K K1:Act->World->Prop}{Q:Exit->Act->World->Prop}{G:List Oper}(hk:∀a w,K1 a w->wpList P ops (Exit.then K Q) G a w):∀(l1:List Oper)(a:Act)(w:World),wpList P ops (Exit.then K1 Q) l1 a w->wpList P ops (Exit.then K Q) (l1++G) a w
 | [],a,w,h=>hk a w h
 | o::l1,a,w,h=>by
  rw [QBI]
  unfold wpList at h ⊢
  split at h
  .rename_i hw
   rw [QAd hw]
   rcases h with h | ⟨h1,h2⟩
   .exact .inl<|u_e (n_g hk l1) h
   .exact .inr ⟨h1,h2⟩
  .rename_i hw
   rw [QA7 hw]
   exact n_g hk l1 _ _ h
section
variable {P:Program}{N:Nat}{ops:Array Oper}{K:Act->World->Prop}{Q:Exit->Act->World->Prop}{e:Env}{w:World}{l:List Oper}
theorem u_f (k:Nat)(l:List Oper):l.take k++l.drop k=l:=List.take_append_drop k l
theorem e_q (d:Nat)(u:Bool)(k:Nat)(h1:WL P N ops (λa w'=>w'=w/\Sat N ((d,vB u)::e) a) Q (l.take k) e w)(h2:WL P N ops K Q (l.drop k) ((d,vB u)::e) w):WL P N ops K Q l e w:=λa ha=>by
 rw [← u_f k l]
 exact n_g (λa w' ⟨hw,hs⟩=>by subst hw;exact h2 a hs) _ a w<|h1 a ha
variable {d:Nat}{u c:Bool}
def n_h (n:Nat)(e:Env):Bool:=(e.take n).all λp=>(e.drop n).all λq=>!Nat.beq p.1 q.1
theorem p_F:∀{e:Env}{t:Nat},(∀q∈e,Nat.beq t q.1=false)->t_ e t=none
 | [],_,_=>rfl
 | (k,v)::e,t,h=>by
  have h1:=h (k,v) QAM;have h2:Nat.beq k t=false:=by rw [← QA6,Nat.beq_eq] at *;omega
  rw [t_,h2]
  exact p_F λq hq=>h q<|QAF _ hq
theorem p_G:∀{G H:Env}{t:Nat},(∀p∈G,Nat.beq p.1 t=false)->t_ (G++H) t=t_ H t
 | [],_,_,_=>rfl
 | (k,v)::G,H,t,h=>by
  rw [QBI,t_,h (k,v) QAM]
  exact p_G λp hp=>h p<|QAF _ hp
theorem u_g {n:Nat}{e:Env}(h:n_h n e=true){t:Nat}{v:Value}(hl:t_ (e.drop n) t=some v):t_ e t=some v:=by
 have:t_ (e.take n++e.drop n) t=t_ (e.drop n) t:=by
  refine p_G λp hp=>?_
  cases hb:Nat.beq p.1 t with
  | false=>rfl
  | true =>
   exfalso
   have hpt:p.1=t:=Nat.eq_of_beq_eq_true hb;have h1:=QAz.1 h p hp
   grind [p_F,Bool.not_eq_true',List.all_eq_true]
 simp_all
theorem u_h (n:Nat){e':Env}{a:Act}(hu:c=u)(G:t_ e' d=some (vB c))(hf:n_h n e'=true)(he:e'.drop n=e)(ha:Sat N e' a):Sat N ((d,vB u)::e) a:=by
 subst hu;subst he;refine ⟨ha.defers,ha.size,λt v ht=>?_⟩
 simp only [t_] at ht
 by_cases hk:d=t
 .subst hk;have hb:Nat.beq d d=true:=by simp
  rw [hb] at ht
  simp only [cond_true,QAJ] at ht
  subst ht;exact ha.at_ d _ G
 .have hb:Nat.beq d t=false:=by rw [← QA6,Nat.beq_eq];omega
  rw [hb] at ht
  simp only [cond_false] at ht
  exact ha.at_ t v<|u_g hf ht
theorem WLq (n:Nat){e':Env}(hu:some c=some u)(G:t_ e' d=some (vB c))(hf:n_h n e'=true)(he:e'.drop n=e):WL P N ops (λa w'=>w'=w/\Sat N ((d,vB u)::e) a) Q [] e' w :=
 a_d λ_ ha=>⟨rfl,u_h n (QAS hu) G hf he ha⟩
end
end Go.Vw
universe u
namespace Go.Vw
open Go.RowKit Dat
section
variable {P:Program}{N:Nat}{ops:Array Oper}{K:Act->World->Prop}{Q:Exit->Act->World->Prop}{e:Env}{w:World}{rest:List Oper}
variable {d:Nat}{op:Op}{ty:TypeId}{pos:String}{aft:Array Edge}{x:Operand}
theorem Wn {y:Code}{Q':Exit->Act->World->Prop}(h:WC P N y K Q e w):WL P N ops (KC P y K Q) Q' [] e w:=a_d<|WC.of_KC h
theorem Ws {id:Nat}{l:List Oper}{y:Code}(h:WL P N l.toArray (KC P y K Q) Q l e w):WC P N (.seq (.region id l.toArray false) y) K Q e w:=a_a<|a_B h
theorem Wk {y:Code}{Q':Exit->Act->World->Prop}(h:WC P N y K Q e w):WC P N .skip (KC P y K Q) Q' e w:=Z_<|WC.of_KC h
theorem e_J {b:Bool}{o:Option Value}{v:Value}(h:(bif b then o else none)=some v):b=true/\o=some v:=by
 grind
theorem Rm {v:Value}(h:(bif Nat.blt d N then ev e x else none)=some v)(k:WL P N ops K Q rest ((d,v)::e) w):WL P N ops K Q (⟨some d,.move x,ty,pos,aft,none⟩::rest) e w:=R (e_J h).1 (b_8 (e_J h).2) k
theorem Ra {v:Value}(h:(bif Nat.blt d N then ev e x else none)=some v)(k:WL P N ops K Q rest ((d,v)::e) w):WL P N ops K Q (⟨some d,.assign x,ty,pos,aft,none⟩::rest) e w:=R (e_J h).1 (c_L (e_J h).2) k
section
variable {j:Nat}{want b:Bool}
theorem bind_some {o:Option Nat}{v:Value}(h:o.bind (t_ e)=some v):∃gd,o=some gd/\t_ e gd=some v:=by
 cases o with
 | none=>cases h
 | some g=>grind
theorem Rh {v:Value}(h:(bif Nat.blt d N then ((ops[j]?).bind (·.dst)).bind (t_ e) else none)=some (.bool b))(hw:b=want)(hr:Rd noX P N ⟨some d,op,ty,pos,aft,some (j,want)⟩ e w v)(k:WL P N ops K Q rest ((d,v)::e) w):WL P N ops K Q (⟨some d,op,ty,pos,aft,some (j,want)⟩::rest) e w:=by
 obtain ⟨gd,h1,h2⟩:=bind_some (e_J h).2;exact Rg h1 h2 hw (e_J h).1 hr k
theorem Nh (h:(bif Nat.blt d N then ((ops[j]?).bind (·.dst)).bind (t_ e) else none)=some (.bool b))(hw:b = !want)(k:WL P N ops K Q rest ((d,undef)::e) w):WL P N ops K Q (⟨some d,op,ty,pos,aft,some (j,want)⟩::rest) e w:=by
 obtain ⟨gd,h1,h2⟩:=bind_some (e_J h).2;exact Ng h1 h2 hw (e_J h).1 k
theorem Nv (h:(bif Nat.blt d N then ((ops[j]?).bind (·.dst)).bind (t_ e) else none)=some undef)(k:WL P N ops K Q rest ((d,undef)::e) w):WL P N ops K Q (⟨some d,op,ty,pos,aft,some (j,want)⟩::rest) e w:=by
 obtain ⟨gd,h1,h2⟩:=bind_some (e_J h).2;exact Nu h1 h2 (e_J h).1 k
end
end
theorem g_n {j:Nat}{K':Act->World->Prop}{Q:Exit->Act->World->Prop}{a:Act}{w:World}(h:Q .ret a w):inB j K' Q .ret a w:=h
theorem goF {P:Program}{f:FuncId}{G:Func}{c:Code}{N:Nat}{args:List Value}{w:World}{R:Value->World->Prop}(hf:P.funcs[f]? = some G)(hb:G.body=some c)(hN:G.ntmps=N)(hle:args.length<=N)(h:∀fn:Func,fn.results=G.results->WC P N c (b_V P fn R) (QR P fn R) (f_8 0 args) w):g_ P f args w R:=j_g hf hb hN hle<|h G rfl
theorem goG {P:Program}{f:FuncId}{G:Func}{c:Code}{N:Nat}{args:List Value}{w:World}{R:Value->World->Prop}(hf:P.funcs[f]? = some G)(hb:G.body=some c)(hN:G.ntmps=N)(hle:Nat.ble args.length N=true)(h:∀fn:Func,fn.results=G.results->WC P N c (b_V P fn R) (QR P fn R) (f_8 0 args) w):g_ P f args w R:=goF hf hb hN (QAA hle) h
section
variable {P:Program}{N:Nat}{e:Env}{w:World}{ty:TypeId}{pos:String}{aft:Array Edge}{gd:Option (Nat×Bool)}{x y:Operand}
theorem fs0 {T n g o:Nat}{v:Value}{cur cur':List Value}(hs:∀w,(sizeOf T).run P w = .ok n w)(hp:ev e x=some (.pointer<|some ⟨g,o,none⟩))(hv:ev e y=some v)(hB:Blk w g cur)(hn:v.cells.size=n)
  (ho:Nat.ble (o+n) cur.length=true) (h1:v.cells.toList.all Value.oneCell'=true) (hcur:cur.take o++v.cells.toList++cur.drop (o+v.cells.toList.length)=cur') :
  Ef P N ⟨none,.store T x y,ty,pos,aft,gd⟩ e w (λ_ w'=>Blk w' g cur'/\Chg (· = g) w w'):=a_U hs hp hv hB hn (QAA ho) (b_1 h1) hcur
end
abbrev rQ {ρ:Type}(P:Program)(fn:Func)(Q:ρ->Value->World->Prop)(r:ρ)(ex:Exit)(a:Act)(w:World):Prop:=ex = .ret/\b_V P fn (Q r) a w
abbrev _root_.Go.World.z (w:World):Nat:=w.heap.size
abbrev sl (a:Option Addr)(n c:Nat):Value:=.slice a n c
abbrev sN:Value:=sl none 0 0
abbrev pt (g:Nat):Value:=.pointer<|some ⟨g,0,none⟩
abbrev Bw (a b:World):Prop:=Below a.heap.size a b
abbrev vR (x:f_)(G:Option Addr)(H I:Nat)(a2:Option Addr)(J L:Nat)(O:Option Addr)(V W:Nat)(Y:Option Addr)(n4 c4:Nat):List Value:=[x.name.v,vI x.kind,vI x.size,vB x.little,.slice G H I,.slice a2 J L,.slice O V W,.slice Y n4 c4]
theorem z {α:Sort u}{a:α}:a=a:=rfl
theorem Sat.k {N:Nat}{e e':Env}{a:Act}(h:Sat N e a)(hs:sub e e'):Sat N e' a:=h.weaken hs
theorem fid {a:Prop}(h:a):a:=h
theorem lt_ {a b c:Nat}(h:a<=b)(h':b<=c):a<=c:=QAG h h'
theorem lr {a:Nat}:a<=a:=QAB a
theorem lb {a b:Nat}(h:Nat.ble a b=true):a<=b:=QAA h
theorem ii {x:Int}(h:(decide (-9223372036854775808<=x) && decide (x<=9223372036854775807))=true):inI x:=inI_of x h
section
variable {S T A M:List Nat}{m n g k:Nat}
theorem h_v (h:m<=n):∀k∈[n],m<=k:=e_v h
theorem atp {p:Nat->Prop}(h:∀k∈[g],p k):p g:=h g<|QA_.2 rfl
theorem nd0:([]++[]:List Nat).Nodup:=f_L E_ E_ all_nil
end
section
variable {e e':Env}{v1 v2 v3 v4 v5 v6 v7 v8 v9:Value}{k1 k2 k3 k4 k5 k6 k7 k8 k9:Nat}
theorem s1 (h1:t_ e k1=some v1):sub e [(k1,v1)]:=⟨h1,trivial⟩
theorem s2 (h1:t_ e k1=some v1)(h2:t_ e k2=some v2):sub e [(k1,v1),(k2,v2)]:=⟨h1,s1 h2⟩
theorem s3 (h1:t_ e k1=some v1)(h2:t_ e k2=some v2)(h3:t_ e k3=some v3):sub e [(k1,v1),(k2,v2),(k3,v3)]:=⟨h1,s2 h2 h3⟩
theorem s4 (h1:t_ e k1=some v1)(h2:t_ e k2=some v2)(h3:t_ e k3=some v3)(h4:t_ e k4=some v4):sub e [(k1,v1),(k2,v2),(k3,v3),(k4,v4)]:=⟨h1,s3 h2 h3 h4⟩
theorem s5 (h1:t_ e k1=some v1)(h2:t_ e k2=some v2)(h3:t_ e k3=some v3)(h4:t_ e k4=some v4)(h5:t_ e k5=some v5):sub e [(k1,v1),(k2,v2),(k3,v3),(k4,v4),(k5,v5)]:=⟨h1,s4 h2 h3 h4 h5⟩
theorem s6 (h1:t_ e k1=some v1)(h2:t_ e k2=some v2)(h3:t_ e k3=some v3)(h4:t_ e k4=some v4)(h5:t_ e k5=some v5)(h6:t_ e k6=some v6):sub e [(k1,v1),(k2,v2),(k3,v3),(k4,v4),(k5,v5),(k6,v6)]:=⟨h1,s5 h2 h3 h4 h5 h6⟩
theorem s7 (h1:t_ e k1=some v1)(h2:t_ e k2=some v2)(h3:t_ e k3=some v3)(h4:t_ e k4=some v4)(h5:t_ e k5=some v5)(h6:t_ e k6=some v6)(G:t_ e k7=some v7):sub e [(k1,v1),(k2,v2),(k3,v3),(k4,v4),(k5,v5),(k6,v6),(k7,v7)]:=⟨h1,s6 h2 h3 h4 h5 h6 G⟩
theorem s8 (h1:t_ e k1=some v1)(h2:t_ e k2=some v2)(h3:t_ e k3=some v3)(h4:t_ e k4=some v4)(h5:t_ e k5=some v5)(h6:t_ e k6=some v6)(G:t_ e k7=some v7)(H:t_ e k8=some v8):sub e [(k1,v1),(k2,v2),(k3,v3),(k4,v4),(k5,v5),(k6,v6),(k7,v7),(k8,v8)]:=⟨h1,s7 h2 h3 h4 h5 h6 G H⟩
theorem s9 (h1:t_ e k1=some v1)(h2:t_ e k2=some v2)(h3:t_ e k3=some v3)(h4:t_ e k4=some v4)(h5:t_ e k5=some v5)(h6:t_ e k6=some v6)(G:t_ e k7=some v7)(H:t_ e k8=some v8)(I:t_ e k9=some v9):sub e [(k1,v1),(k2,v2),(k3,v3),(k4,v4),(k5,v5),(k6,v6),(k7,v7),(k8,v8),(k9,v9)]:=⟨h1,s8 h2 h3 h4 h5 h6 G H I⟩
end
theorem onL {α:Type}[Dat α]{w:World}:c_ w [] (.slice none 0 0) ([]:List α):=n_m w
theorem _root_.Go.RowKit.Below.s {b:Nat}{w w':World}(h:Below b w w'):w.heap.size<=w'.heap.size:=h.size
theorem Chg.s {X:Nat->Prop}{w w':World}(h:Chg X w w'):w.heap.size<=w'.heap.size:=h.size
abbrev Chg.e:=@Chg.ext
abbrev repS.e:=@repS.ext
abbrev repS.c:=@repS.chg
abbrev c_.e:=@c_.ext
abbrev c_.c:=@c_.chg
abbrev r_.e:=@r_.ext
abbrev r_.c:=@r_.chg
abbrev a_F.e:=@a_F.ext
abbrev a_F.c:=@a_F.chg
abbrev b_h.e:=@b_h.ext
abbrev b_h.c:=@b_h.chg
abbrev GlW.e:=@GlW.ext
abbrev GlW.c:=@GlW.chg
abbrev c_J.e:=@c_J.ext
abbrev c_J.c:=@c_J.chg
abbrev Blk.e:=@Blk.ext
abbrev Blk.c:=@Blk.chg
abbrev X_.e:=@X_.ext
abbrev X_.c:=@X_.chg
section
variable {P:Program}{N:Nat}{ops:Array Oper}{K:Act->World->Prop}{Q:Exit->Act->World->Prop}{e:Env}{w:World}{rest:List Oper}{X:Nat->Prop}{T:Nat}{p:a_C}
variable {d d':Nat}{ty ty':TypeId}{pos pos':String}{aft aft':Array Edge}{x x':Operand}{v v':Value}
theorem Rw {c:Code}{Q':Exit->Act->World->Prop}(h:(bif Nat.blt d N then ev e x else none)=some v)(k:WC P N c K Q ((d,v)::e) w):WL P N ops (KC P c K Q) Q' [⟨some d,.assign x,ty,pos,aft,none⟩] e w:=Ra h<|Wn k
theorem Wm {id:Nat}{l:List Oper}{c:Code}(h:(bif Nat.blt d N then ev e x else none)=some v)(k:WL P N (⟨some d,.move x,ty,pos,aft,none⟩::l).toArray (KC P c K Q) Q l ((d,v)::e) w):WC P N (.seq (.region id (⟨some d,.move x,ty,pos,aft,none⟩::l).toArray false) c) K Q e w:=Ws<|Rm h k
theorem RM (h:(bif Nat.blt d N then ev e x else none)=some v)(h':(bif Nat.blt d' N then ev ((d,v)::e) x' else none)=some v')(k:WL P N ops K Q rest ((d',v')::(d,v)::e) w):WL P N ops K Q (⟨some d,.move x,ty,pos,aft,none⟩::⟨some d',.move x',ty',pos',aft',none⟩::rest) e w:=Rm h<|Rm h' k
theorem RA (h:(bif Nat.blt d N then ev e x else none)=some v)(h':(bif Nat.blt d' N then ev ((d,v)::e) x' else none)=some v')(k:WL P N ops K Q rest ((d',v')::(d,v)::e) w):WL P N ops K Q (⟨some d,.assign x,ty,pos,aft,none⟩::⟨some d',.assign x',ty',pos',aft',none⟩::rest) e w:=Ra h<|Ra h' k
theorem dM {i:Nat}(ho:ops[i]? = some ⟨some d,.move x,ty,pos,aft,none⟩)(hf:Nat.blt d N=true)(h:ev e x=some v)(k:PR X P N ops T K p ((d,v)::e) w):PR X P N ops T K (.rd i p) e w:=dR ho hf (b_8 h) k
theorem dQ {i:Nat}(ho:ops[i]? = some ⟨some d,.assign x,ty,pos,aft,none⟩)(hf:Nat.blt d N=true)(h:ev e x=some v)(k:PR X P N ops T K p ((d,v)::e) w):PR X P N ops T K (.rd i p) e w:=dR ho hf (c_L h) k
theorem Wx {y y':Code}{b:Bool}{Q':Exit->Act->World->Prop}(hc:ev e x=some (.bool b))(ht:b=true->WC P N y K Q e w)(hf:b=false->WC P N y' K Q e w):WL P N ops (KC P (.cond x y y') K Q) Q' [] e w:=Wn<|c_b hc ht hf
section
variable {t u i:Nat}{k:IntKind}{a b:Int}
theorem Rl (hf:Nat.blt d N=true)(h1:ev e x=some (.int k a))(h2:ev e x'=some (.int k b))(h:WL P N ops K Q rest ((d,vB<|decide<|a<b)::e) w):WL P N ops K Q (⟨some d,.binOp .lss t x x' u,ty,pos,aft,none⟩::rest) e w:=R hf (e_y h1 h2) h
theorem Rq (hf:Nat.blt d N=true)(h1:ev e x=some (.int k a))(h2:ev e x'=some (.int k b))(h:WL P N ops K Q rest ((d,vB<|a==b)::e) w):WL P N ops K Q (⟨some d,.binOp .eql t x x' u,ty,pos,aft,none⟩::rest) e w:=R hf (g_0 h1 h2) h
theorem Rf {g o j:Nat}(hf:Nat.blt d N=true)(h1:Fld P t i j)(h2:ev e x=some (.pointer<|some ⟨g,o,none⟩))(h:WL P N ops K Q rest ((d,.pointer<|some ⟨g,o+j,none⟩)::e) w):WL P N ops K Q (⟨some d,.fieldAddr t x i,ty,pos,aft,none⟩::rest) e w:=R hf (f_W h1 h2) h
theorem Re {vs:Array Value}(hf:Nat.blt d N=true)(h1:ev e x=some (.tuple vs))(h2:vs[i]? = some v)(h:WL P N ops K Q rest ((d,v)::e) w):WL P N ops K Q (⟨some d,.extract x i,ty,pos,aft,none⟩::rest) e w:=R hf (f_Y h1 h2) h
end
theorem l0 {t g o:Nat}{dst:Option Tmp}{gd:Option (Nat×Bool)}(hT:∀w,(isAgg t).run P w = .ok false w)(h:ev e x=some (.pointer<|some ⟨g,o,none⟩))(hc:w.cell? ⟨g,o,none⟩=some v):Rd noX P N ⟨dst,.load t x,ty,pos,aft,gd⟩ e w v:=b_J hT h (λh=>h) hc
def plA:Nat->Nat->List Nat->a_C
 | _,0,_=>.done
 | i,n+1,l=>bif l.elem i then .ef i (plA (i+1) n l) else .rd i (plA (i+1) n l)
abbrev pl_ (n:Nat)(l:List Nat):a_C:=plA 0 n l
end
end Go.Vw
namespace Go.Vw
open Go.RowKit Dat
section
variable {w w' a b c : World} {M A S T : List Nat} {B : Zone} {v : Value} {g m n : Nat} {p : Prop}
section
variable {P : Nat → Prop} {S1 S2 S3 S4 : List Nat}
theorem a_5 (h : (S1 ++ S2).Nodup) (g : ∀ k ∈ S1 ++ S2, P k) : S1.Nodup ∧ S2.Nodup ∧ (∀ k ∈ S1, k ∉ S2) ∧ (∀ k ∈ S1, P k) ∧ ∀ k ∈ S2, P k := ⟨f_M h, f_N h, f_O h, λk hk => g k (QAW _ hk), λk hk => g k (QAH _ hk)⟩
theorem apQ4 (h : (S1 ++ (S2 ++ (S3 ++ S4))).Nodup) (g : ∀ k ∈ S1 ++ (S2 ++ (S3 ++ S4)), P k) : S1.Nodup ∧ S2.Nodup ∧ S3.Nodup ∧ S4.Nodup ∧ (∀ k ∈ S1, k ∉ S2) ∧ (∀ k ∈ S1, k ∉ S3) ∧ (∀ k ∈ S1, k ∉ S4) ∧ (∀ k ∈ S2, k ∉ S3) ∧ (∀ k ∈ S2, k ∉ S4) ∧ (∀ k ∈ S3, k ∉ S4) ∧ (∀ k ∈ S1, P k) ∧ (∀ k ∈ S2, P k) ∧ (∀ k ∈ S3, P k) ∧ ∀ k ∈ S4, P k := by
 grind
end
theorem kM1 {k : Nat} (hb : Below k w w') (h : m ≤ w.heap.size) : m ≤ w'.heap.size := QAG h hb.size
theorem kM2 {X : Nat → Prop} (hb : Chg X w w') (h : m ≤ w.heap.size) : m ≤ w'.heap.size := QAG h hb.size
theorem kM3 {k : Nat} (hb : Below k w w') (h : B ≤ bl w.heap.size) : B ≤ bl w'.heap.size := zt' h hb.size
theorem kM4 {X : Nat → Prop} (hb : Chg X w w') (h : B ≤ bl w.heap.size) : B ≤ bl w'.heap.size := zt' h hb.size
theorem kM5 {k : Nat} (hb : Below k w w') (h : g < w.heap.size) : g < w'.heap.size := QAC h hb.size
theorem kM6 {X : Nat → Prop} (hb : Chg X w w') (h : g < w.heap.size) : g < w'.heap.size := QAC h hb.size
theorem kM (h : p := by
 first
 | ((repeat' first
   | with_reducible assumption
   | exact QAB _
   | ((with_reducible apply Blk.lt); (· with_reducible assumption))
   | ((with_reducible apply kM5); (· with_reducible assumption))
   | ((with_reducible apply kM6); (· with_reducible assumption))
   | ((with_reducible apply kM1); (· with_reducible assumption))
   | ((with_reducible apply kM2); (· with_reducible assumption))
   | ((with_reducible apply kM3); (· with_reducible assumption))
   | ((with_reducible apply kM4); (· with_reducible assumption))
   | with_reducible apply O_
   | with_reducible apply f_U
   | exact zr); done)
 | fail) : p := h
theorem kL1 {k : Nat} (hb : Below k w w') (h : ∀ k ∈ S, k < w.heap.size) : ∀ k ∈ S, k < w'.heap.size := λk hk => QAC (h k hk) hb.size
theorem kL2 {X : Nat → Prop} (hb : Chg X w w') (h : ∀ k ∈ S, k < w.heap.size) : ∀ k ∈ S, k < w'.heap.size := λk hk => QAC (h k hk) hb.size
theorem kL3 {α : Type} {d : Dat α} {l : List α} (h : c_ w S v l) : ∀ k ∈ S, k < w.heap.size := h.lt
theorem kL4 {α : Type} {d : Dat α} {l : List α} (h : X_ w S B v l) : ∀ k ∈ S, k < w.heap.size := h.lt
theorem kL5 {α : Type} {d : Dat α} {l : List α} (h : c_K w S v l) : ∀ k ∈ S, k < w.heap.size := h.lt
theorem kL6 {o : Option (Int × Int)} (h : a_F g w S v o) : ∀ k ∈ S, k < w.heap.size := h.lt
theorem kL (h : p := by
 first
 | ((repeat' first
   | with_reducible assumption
   | exact all_nil
   | ((with_reducible apply e_0))
   | ((with_reducible apply kL3); (· with_reducible assumption))
   | ((with_reducible apply kL4); (· with_reducible assumption))
   | ((with_reducible apply kL5); (· with_reducible assumption))
   | ((with_reducible apply kL6); (· with_reducible assumption))
   | ((with_reducible apply e_v); exact kM)
   | ((with_reducible apply kL1); (· with_reducible assumption))
   | ((with_reducible apply kL2); (· with_reducible assumption))); done)
 | fail) : p := h
section
variable {P : Nat → Prop}
theorem h_U (h : ∀ k, n ≤ k → P k) : ∀ k ∈ [n], P k := e_v (h n (QAB n))
theorem h_V (hg : n ≤ g) (h : ∀ k, n ≤ k → P k) : ∀ k ∈ [g], P k := e_v (h g hg)
theorem lit1 (h : ∀ k, n ≤ k → P k) (hs : ∀ k ∈ S, P k) : ∀ k ∈ n :: S, P k := λk hk => (QAV.1 hk).elim (λe => e ▸ h n (QAB n)) (hs k)
theorem or1' (hs : ∀ k ∈ S, k ∈ A ∨ n ≤ k) (h : ∀ k, n ≤ k → P k) (ha : ∀ k ∈ A, P k) : ∀ k ∈ S, P k := or1 hs ha h
theorem or2' (hs : ∀ k ∈ S, k ∈ A ∨ k ∈ T ∨ n ≤ k) (h : ∀ k, n ≤ k → P k) (ha : ∀ k ∈ A, P k) (hb : ∀ k ∈ T, P k) : ∀ k ∈ S, P k := or2 hs ha hb h
theorem ltnotL (h : ∀ k ∈ T, k < n) : ∀ k, n ≤ k → k ∉ T := λk hk ht => absurd (h k ht) (QAm.2 hk)
theorem ltgeb (h : ∀ k ∈ A, n ≤ k) : ∀ k, bl n k → k ∉ A := f_J h
theorem memJ (hg : g ∈ S) (h : ∀ k ∈ S, k ∉ T) : g ∉ T := h g hg
theorem singM (h : ∀ k ∈ [g], k ∉ T) : g ∉ T := h g (QA_.2 rfl)
theorem singN {i j : Nat} (h : ∀ k ∈ [g], ¬ zn B i j k) : ¬ zn B i j g := h g (QA_.2 rfl)
theorem singB (h : ∀ k ∈ [g], ¬ bl n k) : ¬ bl n g := h g (QA_.2 rfl)
theorem nznL' {i j : Nat} (h1 : ∀ k ∈ A, k < i) (h : ∀ k ∈ A, ¬ B k) : ∀ k ∈ A, ¬ zn B i j k := nznL h h1 (QAB _)
theorem nznR' {i j : Nat} (h1 : ∀ k ∈ A, j ≤ k) (h : ∀ k ∈ A, ¬ B k) : ∀ k ∈ A, ¬ zn B i j k := nznR h h1
end
theorem kU (h : p := by
 first
 | ((first
   | ((with_reducible apply lele); exact kM)
   | ((with_reducible apply leor); exact kM)
   | ((with_reducible apply ltnotL); exact kL)
   | ((with_reducible apply lenB); exact kM)); done)
 | fail) : p := h
theorem sG (h : p := by
 first
 | ((repeat' first
   | with_reducible assumption
   | exact all_nil
   | ((with_reducible apply e_0))
   | ((with_reducible apply h_U); exact kU)
   | ((with_reducible apply h_V); (· with_reducible assumption); exact kU)
   | ((with_reducible apply or0); (· with_reducible assumption); exact kU)
   | ((with_reducible apply or1'); (· with_reducible assumption); (· exact kU))
   | ((with_reducible apply or2'); (· with_reducible assumption); (· exact kU))
   | ((with_reducible apply lit1); (· exact kU))); done)
 | fail) : p := h
theorem sZ (h : p := by
 first
 | ((repeat' first
   | with_reducible assumption
   | exact all_nil
   | ((with_reducible apply e_0))
   | ((with_reducible apply e_v); (· with_reducible assumption))
   | ((with_reducible apply nbl); exact sG)
   | ((with_reducible apply h_U); exact kU)
   | ((with_reducible apply h_V); (· with_reducible assumption); exact kU)
   | ((with_reducible apply or0); (· with_reducible assumption); exact kU)
   | ((with_reducible apply or1'); (· with_reducible assumption); (· exact kU))
   | ((with_reducible apply or2'); (· with_reducible assumption); (· exact kU))
   | ((with_reducible apply lit1); (· exact kU))
   | ((with_reducible apply nznL'); (· exact kL))
   | ((with_reducible apply nznR'); (· exact sG))); done)
 | fail) : p := h
theorem sJ (h : p := by
 first
 | ((repeat' first
   | with_reducible assumption
   | ((with_reducible apply nmA))
   | with_reducible exact b_N (by with_reducible assumption)
   | ((with_reducible apply h_U); exact kU)
   | ((with_reducible apply h_V); (· with_reducible assumption); exact kU)
   | ((with_reducible apply b_N); (with_reducible apply h_U); exact kU)
   | ((with_reducible apply b_N); (with_reducible apply h_V); (· with_reducible assumption); exact kU)
   | ((with_reducible apply b_N); (with_reducible apply or0); (· with_reducible assumption); exact kU)
   | ((with_reducible apply b_N); (with_reducible apply or1'); (· with_reducible assumption); (· exact kU))
   | ((with_reducible apply b_N); (with_reducible apply or2'); (· with_reducible assumption); (· exact kU))
   | ((with_reducible apply b_N); (with_reducible apply lit1); (· exact kU))); done)
 | fail) : p := h
theorem nBg {Z : Zone} (hg : n ≤ g) (hb : Z ≤ bl n) : ¬ Z g := λh => absurd (hb g h) (QAm.2 hg)
theorem nBh {Z : Zone} (hb : Z ≤ bl n) (hg : n ≤ g) : ¬ Z g := nBg hg hb
theorem sQ (h : p := by
 first
 | ((repeat' first
   | with_reducible assumption
   | exact all_nil
   | exact nmN _
   | ((with_reducible show ∀ k ∈ (_ : List Nat), _); first
     | ((with_reducible apply b_N); (· with_reducible assumption))
     | (with_reducible apply e_0)
     | (with_reducible apply nmA)
     | ((with_reducible apply f_K); (first | exact c_u | exact l_o c_u | exact c_v c_u | exact c_v (l_o c_u) | exact c_v (c_v c_u) | exact c_v (c_v (l_o c_u)) | exact c_v (c_v (c_v (l_o c_u))) | exact c_v (c_v (c_v (c_v c_u))) | exact c_v (c_v (c_v c_u))))
     | ((with_reducible apply h_U); exact kU)
     | ((with_reducible apply h_V); (· with_reducible assumption); exact kU)
     | ((with_reducible apply or0); (· with_reducible assumption); exact kU)
     | ((with_reducible apply or1'); (· with_reducible assumption); (· exact kU))
     | ((with_reducible apply or2'); (· with_reducible assumption); (· exact kU))
     | ((with_reducible apply lit1); (· exact kU))
     | ((with_reducible apply b_N); (with_reducible apply h_U); exact kU)
     | ((with_reducible apply b_N); (with_reducible apply h_V); (· with_reducible assumption); exact kU)
     | ((with_reducible apply b_N); (with_reducible apply or0); (· with_reducible assumption); exact kU)
     | ((with_reducible apply b_N); (with_reducible apply or1'); (· with_reducible assumption); (· exact kU))
     | ((with_reducible apply b_N); (with_reducible apply or2'); (· with_reducible assumption); (· exact kU))
     | ((with_reducible apply b_N); (with_reducible apply lit1); (· exact kU))
     | exact sZ)
   | ((show ∀ _ : Nat, _ → _); first
     | (with_reducible apply nmA)
     | ((with_reducible apply ltgz); exact sZ)
     | ((with_reducible apply ltgeb); exact sG))
   | ((with_reducible apply memJ); (· with_reducible assumption); (with_reducible apply or0); (· with_reducible assumption); exact kU)
   | ((with_reducible apply memJ); (· with_reducible assumption); (· exact sJ))
   | ((with_reducible refine singM ?_); exact sJ)
   | (with_reducible refine singM ?_)
   | ((with_reducible apply nBg); (· with_reducible assumption); exact kM)
   | ((with_reducible apply nBh); (· with_reducible assumption); (· exact kM))
   | ((with_reducible refine singN ?_); exact sZ)
   | ((with_reducible refine singB ?_); exact sZ)
   | exact kM); done)
 | fail) : p := h
theorem chgS {X : Nat → Prop} (h : Cg S w w') (hs : ∀ k ∈ S, X k := by exact sQ) : Chg X w w' := h.mono λk _ hk => hs k hk
theorem sQB {Z : Zone} (hk : Z g) (h : ∀ k, Z k → k ∉ M := by exact sQ) : g ∉ M := h g hk
theorem kW1 (h' : Below b.heap.size b c) (h : Below a.heap.size a b) : Below a.heap.size a c := bup h h'
theorem kW2 (h' : Cg A b c) (hx : ∀ k ∈ A, a.heap.size ≤ k) (h : Below a.heap.size a b) : Below a.heap.size a c := c_d h h' hx
theorem kW3 (h' : Below b.heap.size b c) (h : Cg M a b) : Cg M a c := cext h h'
theorem kW4 (h' : Cg A b c) (hx : ∀ k ∈ A, k ∈ M ∨ a.heap.size ≤ k) (h : Cg M a b) : Cg M a c := f_Q h h' hx
theorem kW (h : p := by
 first
 | ((repeat' first
   | with_reducible assumption
   | with_reducible exact f_0 _
   | with_reducible exact f_P _ _
   | ((with_reducible apply kW1); (· with_reducible assumption))
   | ((with_reducible apply kW2); (· with_reducible assumption); (· exact sQ))
   | ((with_reducible apply kW3); (· with_reducible assumption))
   | ((with_reducible apply kW4); (· with_reducible assumption); (· exact sQ))); done)
 | fail) : p := h
theorem Val.bytes_mk' (x : Int) (y : Bt) (z : List Val) : (Val.mk x y z).bytes = y := rfl
theorem Val.items_mk' (x : Int) (y : Bt) (z : List Val) : (Val.mk x y z).items = z := rfl
theorem kBx {l : List Value} (hb : Below w.heap.size w w') (h : Blk w g l) : Blk w' g l := h.ext hb
theorem kBy {l : List Value} (hc : Cg M w w') (h : Blk w g l) (hx : ∀ k ∈ [g], k ∉ M) : Blk w' g l := h.chg hc (hx g (QA_.2 rfl))
theorem kB {l : List Value} (h : Blk w g l := by
 first
 | ((repeat' first
   | with_reducible assumption
   | ((with_reducible apply kBx); (· with_reducible assumption))
   | ((with_reducible apply kBy); (· with_reducible assumption))
   | exact sQ); done)
 | fail) : Blk w g l := h
theorem kBa {l : List Value} {i : Nat} (h : Blk w g l := by exact kB) (hv : l[i]? = some v := by exact rfl) : w.cell? ⟨g, i, none⟩ = some v := h.at hv
theorem kBr {l vs : List Value} (o n : Nat) (h : Blk w g l := by exact kB) (hv : (l.drop o).take n = vs := by exact rfl) : r_ w g o vs := h.row o n hv
theorem kRx {α : Type} {d : Dat α} {l : List α} (hb : Below w.heap.size w w') (h : repS w B v l) : repS w' B v l := h.ext hb
theorem kRy {α : Type} {d : Dat α} {l : List α} (hc : Cg M w w') (h : repS w B v l) (hx : ∀ k, B k → k ∉ M) : repS w' B v l := h.chg hc hx
theorem kR {α : Type} {d : Dat α} {l : List α} (h : repS w B v l := by
 first
 | ((repeat' first
   | with_reducible assumption
   | ((with_reducible apply kRx); (· with_reducible assumption))
   | ((with_reducible apply kRy); (· with_reducible assumption))
   | exact sQ); done)
 | (dsimp only [Val.bytes_mk', Val.items_mk']; (repeat' first
   | with_reducible assumption
   | ((with_reducible apply kRx); (· with_reducible assumption))
   | ((with_reducible apply kRy); (· with_reducible assumption))
   | exact sQ); done)
 | fail) : repS w B v l := h
theorem kOx {α : Type} {d : Dat α} {l : List α} (hb : Below w.heap.size w w') (h : c_ w S v l) : c_ w' S v l := h.ext hb
theorem kOy {α : Type} {d : Dat α} {l : List α} (hc : Cg M w w') (h : c_ w S v l) (hx : ∀ k ∈ S, k ∉ M) : c_ w' S v l := h.chg hc hx
theorem kO {α : Type} {d : Dat α} {l : List α} (h : c_ w S v l := by
 first
 | ((repeat' first
   | with_reducible assumption
   | ((with_reducible apply kOx); (· with_reducible assumption))
   | ((with_reducible apply kOy); (· with_reducible assumption))
   | exact sQ); done)
 | (dsimp only [Val.bytes_mk', Val.items_mk']; (repeat' first
   | with_reducible assumption
   | ((with_reducible apply kOx); (· with_reducible assumption))
   | ((with_reducible apply kOy); (· with_reducible assumption))
   | exact sQ); done)
 | fail) : c_ w S v l := h
theorem kHx {α : Type} {d : Dat α} {l : List α} (hb : Below w.heap.size w w') (h : X_ w S B v l) : X_ w' S B v l := h.ext hb
theorem kHy {α : Type} {d : Dat α} {l : List α} (hc : Cg M w w') (h : X_ w S B v l) (hx : ∀ k ∈ S, k ∉ M) (hy : ∀ k, B k → k ∉ M) : X_ w' S B v l := h.chg hc hx hy
theorem kH {α : Type} {d : Dat α} {l : List α} (h : X_ w S B v l := by
 first
 | ((repeat' first
   | with_reducible assumption
   | ((with_reducible apply kHx); (· with_reducible assumption))
   | ((with_reducible apply kHy); (· with_reducible assumption))
   | exact sQ); done)
 | (dsimp only [Val.bytes_mk', Val.items_mk']; (repeat' first
   | with_reducible assumption
   | ((with_reducible apply kHx); (· with_reducible assumption))
   | ((with_reducible apply kHy); (· with_reducible assumption))
   | exact sQ); done)
 | fail) : X_ w S B v l := h
theorem kEx {o : Option (Int × Int)} (hb : Below w.heap.size w w') (h : a_F g w S v o) : a_F g w' S v o := h.ext hb
theorem kEy {o : Option (Int × Int)} (hc : Cg M w w') (h : a_F g w S v o) (hx : ∀ k ∈ S, k ∉ M) : a_F g w' S v o := h.chg hc hx
theorem kE {o : Option (Int × Int)} (h : a_F g w S v o := by
 first
 | ((repeat' first
   | assumption
   | ((with_reducible apply kEx); (· with_reducible assumption))
   | ((with_reducible apply kEy); (· with_reducible assumption))
   | exact sQ); done)
 | fail) : a_F g w S v o := h
theorem kGx {D : World → Prop} (hb : Below w.heap.size w w') (h : GlW n D w B) : GlW n D w' B := h.ext hb
theorem kGy {D : World → Prop} (hc : Cg M w w') (h : GlW n D w B) (hx : ∀ k, B k → k ∉ M) : GlW n D w' B := h.chg hc hx
theorem kG {D : World → Prop} (h : GlW n D w B := by
 first
 | ((repeat' first
   | with_reducible assumption
   | ((with_reducible apply kGx); (· with_reducible assumption))
   | ((with_reducible apply kGy); (· with_reducible assumption))
   | exact sQ); done)
 | fail) : GlW n D w B := h
theorem kIx {x : Str} {q : Nat} (hb : Below w.heap.size w w') (h : b_h w g x q) : b_h w' g x q := h.ext hb
theorem kIy {x : Str} {q : Nat} (hc : Cg M w w') (h : b_h w g x q) (hx : ∀ k ∈ [g], k ∉ M) : b_h w' g x q := h.chg hc (hx g (QA_.2 rfl))
theorem kI {x : Str} {q : Nat} (h : b_h w g x q := by
 first
 | ((repeat' first
   | with_reducible assumption
   | ((with_reducible apply kIx); (· with_reducible assumption))
   | ((with_reducible apply kIy); (· with_reducible assumption))
   | exact sQ); done)
 | fail) : b_h w g x q := h
theorem kCx {o : Nat} {l : List Value} (hb : Below w.heap.size w w') (h : r_ w g o l) : r_ w' g o l := h.ext hb
theorem kC {o : Nat} {l : List Value} (h : r_ w g o l := by
 first
 | ((repeat' first
   | with_reducible assumption
   | ((with_reducible apply kCx); (· with_reducible assumption))); done)
 | fail) : r_ w g o l := h
theorem kCa {o j : Nat} {l : List Value} (h : r_ w g o l := by exact kC) (hv : l[j]? = some v := by exact rfl) : w.cell? ⟨g, o + j, none⟩ = some v := h.at hv
theorem kC0 {o : Nat} {l : List Value} (h : r_ w g o l := by exact kC) (hv : l[0]? = some v := by exact rfl) : w.cell? ⟨g, o, none⟩ = some v := h.at (j := 0) hv
end
end Go.Vw
namespace Go.Vw
open Go.RowKit Dat
abbrev pq (b o:Nat):Value:=.pointer<|some ⟨b,o,none⟩
abbrev rp {α:Type}[Dat α](w:World)(B:Zone)(a:Option Addr)(n c:Nat)(l:List α):Prop:=repS w B (.slice a n c) l
section
variable {P:Program}{N:Nat}{ops:Array Oper}{K:Act->World->Prop}{Q:Exit->Act->World->Prop}{e:Env}{w:World}{rest:List Oper}
variable {d:Nat}{op:Op}{ty:TypeId}{pos:String}{aft:Array Edge}{gd:Option (Nat×Bool)}{x y:Operand}{X:Nat->Prop}{T i:Nat}{p:a_C}{t g o n:Nat}{v:Value}{cur vs:List Value}
theorem EvX (cs:List Value)(hf:Nat.blt d N=true)(hx:ev e x=some v)(hc:v.cells.toList=cs)(k:∀w',Below w.heap.size w w'->Blk w' w.heap.size cs->WL P N ops K Q rest ((d,.pointer<|some ⟨w.heap.size,0,none⟩)::e) w'):WL P N ops K Q (⟨some d,.box t x,ty,pos,aft,none⟩::rest) e w :=
 E hf (d_x hx) λ_ w' q=>by
  obtain ⟨rfl,c⟩:=q;exact k w' c.below<|hc ▸ c.blk
theorem EvZ (cs:List Value)(hf:Nat.blt d N=true)(hz:∀w,(zeroValue t).run P w = .ok v w)(hc:v.cells.toList=cs)(k:∀w',Below w.heap.size w w'->Blk w' w.heap.size cs->WL P N ops K Q rest ((d,.pointer<|some ⟨w.heap.size,0,none⟩)::e) w'):WL P N ops K Q (⟨some d,.alloc t,ty,pos,aft,none⟩::rest) e w :=
 E hf (c_H hz) λ_ w' q=>by
  obtain ⟨rfl,c⟩:=q;exact k w' c.below<|hc ▸ c.blk
theorem dNb (cs:List Value)(ho:ops[i]? = some ⟨some d,.alloc t,ty,pos,aft,none⟩)(hf:Nat.blt d N=true)(hz:∀w,(zeroValue t).run P w = .ok v w)(hc:v.cells.toList=cs)(k:∀w',Below w.heap.size w w'->Blk w' w.heap.size cs->PR X P N ops T K p ((d,.pointer<|some ⟨w.heap.size,0,none⟩)::e) w'):PR X P N ops T K (.ef i p) e w :=
 dE ho hf (c_H hz) (.inr λ_ _ h=>h_Z h.2.below) λ_ w' q=>by
  obtain ⟨rfl,c⟩:=q;exact k w' c.below<|hc ▸ c.blk
theorem fs9 (cs:List Value)(hs:∀w,(sizeOf t).run P w = .ok n w)(hp:ev e x=some (.pointer<|some ⟨g,o,none⟩))(hv:ev e y=some v)(hB:Blk w g cur)(h:(v.cells.size,Nat.ble (o+n) cur.length,v.cells.toList.all Value.oneCell',cur.take o++v.cells.toList++cur.drop (o+v.cells.toList.length))=(n,true,true,cs)) :
  Ef P N ⟨none,.store t x y,ty,pos,aft,gd⟩ e w (λ_ w'=>Blk w' g cs/\Chg (· = g) w w'):=by
 simp only [QAu] at h
 exact fs0 hs hp hv hB h.1 h.2.1 h.2.2.1 h.2.2.2
theorem E0q (cs:List Value)(hs:∀w,(sizeOf t).run P w = .ok n w)(hp:ev e x=some (.pointer<|some ⟨g,o,none⟩))(hv:ev e y=some v)(hB:Blk w g cur)(h:(v.cells.size,Nat.ble (o+n) cur.length,v.cells.toList.all Value.oneCell',cur.take o++v.cells.toList++cur.drop (o+v.cells.toList.length))=(n,true,true,cs))(k:∀w',Blk w' g cs->Cg [g] w w'->WL P N ops K Q rest e w'):WL P N ops K Q (⟨none,.store t x y,ty,pos,aft,none⟩::rest) e w :=
 E0 (fs9 cs hs hp hv hB h) λ_ w' h=>k w' h.1 h.2.one
theorem dS {m:Nat}{M:List Nat}(cs:List Value)(ho:ops[i]? = some ⟨none,.store t x y,ty,pos,aft,none⟩)(hs:∀w,(sizeOf t).run P w = .ok n w)(hp:ev e x=some (.pointer<|some ⟨g,o,none⟩))(hv:ev e y=some v)(hB:Blk w g cur)(h:(v.cells.size,Nat.ble (o+n) cur.length,v.cells.toList.all Value.oneCell',cur.take o++v.cells.toList++cur.drop (o+v.cells.toList.length))=(n,true,true,cs))(hm:m<=g)(k:∀w',Blk w' g cs->Cg [g] w w'->PR (λk=>k∈M∨m<=k) P N ops T K p e w'):PR (λk=>k∈M∨m<=k) P N ops T K (.ef i p) e w :=
 dE0 ho (fs9 cs hs hp hv hB h) (.inr λ_ _ h=>chgNew hm h.2) λ_ w' q=>k w' q.1 q.2.one
theorem iB {R:Value->World->Prop}:T.testBit i=true∨∀v w',(Below w.heap.size w w'/\R v w')->Chg X w w':=.inr λ_ _ h=>h_Z h.1
theorem lC (vs:List Value)(hT:∀w,(isAgg t).run P w = .ok true w)(hs:∀w,(sizeOf t).run P w = .ok n w)(h:ev e x=some (.pointer<|some ⟨g,0,none⟩))(hl:vs.length=n:=by exact rfl)(hc:Blk w g vs:=by exact kB):Rd noX P N ⟨some d,.load t x,ty,pos,aft,gd⟩ e w (.agg vs.toArray):=f_X hT hs h hl (λh=>h) hc.all
theorem bQ {zs:List Value}{places:List (Nat×Nat)}{us:List (Nat×Value)}(parts:List (Nat×Operand))(cs:List Value)(hB:b_H P t zs places)(hv:evp e parts=some us)(hf:Instr.fill (places.toArray[·]?) zs.toArray us=some cs.toArray):Rd X P N ⟨some d,.build t parts.toArray,ty,pos,aft,gd⟩ e w (.agg cs.toArray):=f_R hB hv hf
variable {ao:Option Addr}{B:Zone}{c sz':Nat}{l:Int}{kk:IntKind}{E:Nat}{α:Type}
theorem xA [Dat α]{u:List α}{v:α}(hf:Nat.blt d N=true)(hT:P.underlying t=some (.slice E))(hs:∀w,(sizeOf E).run P w = .ok sz' w)(hsz:sz'=sz α)(hx:ev e x=some (.slice ao n c))(hy:ev e y=some (.int kk l))(hr:repS w B (.slice ao n c) u)(hi:idx u l=some v)
  (k:∀b o cs,r_ w b o cs->rep w B cs v->B b->WL P N ops K Q rest ((d,.pointer<|some ⟨b,o,none⟩)::e) w):WL P N ops K Q (⟨some d,.indexAddr t x y,ty,pos,aft,none⟩::rest) e w :=
 RX hf (e_1 hT hs hsz hx hy hr hi) (by grind)
theorem xI {u:List Int}{v:Int}(hf:Nat.blt d N=true)(hT:P.underlying t=some (.slice E))(hs:∀w,(sizeOf E).run P w = .ok sz' w)(hsz:sz'=sz Int)(hx:ev e x=some (.slice ao n c))(hy:ev e y=some (.int kk l))(hr:repS w B (.slice ao n c) u)(hi:idx u l=some v)
  (k:∀b o,r_ w b o [vI v]->inI v->WL P N ops K Q rest ((d,.pointer<|some ⟨b,o,none⟩)::e) w):WL P N ops K Q (⟨some d,.indexAddr t x y,ty,pos,aft,none⟩::rest) e w :=
 xA hf hT hs hsz hx hy hr hi (by rintro b o _ h1 h2 _;obtain ⟨rfl,h3⟩:=a_z h2;grind)
theorem dxA [Dat α]{u:List α}{v:α}(ho:ops[i]? = some ⟨some d,.indexAddr t x y,ty,pos,aft,none⟩)(hf:Nat.blt d N=true)(hT:P.underlying t=some (.slice E))(hs:∀w,(sizeOf E).run P w = .ok sz' w)(hsz:sz'=sz α)(hx:ev e x=some (.slice ao n c))(hy:ev e y=some (.int kk l))(hr:repS w B (.slice ao n c) u)(hi:idx u l=some v)
  (k:∀b o cs,r_ w b o cs->rep w B cs v->B b->PR X P N ops T K p ((d,.pointer<|some ⟨b,o,none⟩)::e) w):PR X P N ops T K (.rd i p) e w :=
 dRX ho hf (e_1 hT hs hsz hx hy hr hi) (by grind)
end
section
variable {P:Program}{N:Nat}{e:Env}{w:World}{fn:Func}{ρ:Type}{R:ρ->Value->World->Prop}{r s:ρ}{r1 r2 r3:ResultVar}{u v x:Value}
theorem rS1 (hq:some r=some s)(hr:fn.results = #[r1])(h1:c_x P e w r1 u)(hR:R r u w):∀a,Sat N e a->b_V P fn (R s) a w:=by
 grind [a_s]
theorem rS2 (hq:some r=some s)(hr:fn.results = #[r1,r2])(h1:c_x P e w r1 u)(h2:c_x P e w r2 v)(hR:R r (.tuple #[u,v]) w):∀a,Sat N e a->b_V P fn (R s) a w:=by
 grind [b_r]
theorem rS3 (hq:some r=some s)(hr:fn.results = #[r1,r2,r3])(h1:c_x P e w r1 u)(h2:c_x P e w r2 v)(h3:c_x P e w r3 x)(hR:R r (.tuple #[u,v,x]) w):∀a,Sat N e a->b_V P fn (R s) a w:=by
 grind [d_A]
end
end Go.Vw
namespace Go.Vw
open Go.RowKit Dat Go.ChangeShapes Go.WideShapes Go.ChangeAt
structure IsT (P:Program)(t:TypeId)(α:Type)[Dat α](L:α->Prop):Prop where
 rd:∀{H:Type}(enc:TypeId×Value->H)(W:World)(fuel:Nat)(cs:List Value)(x:DataW H×List MemPlace),DataW.trod enc P W 0 (λ_=>true) true fuel t cs=some x->(x.1.weights P t).all (· <= reachBytes)=true->∃v:α,rep W W.heap.size cs v/\L v
section
variable {P:Program}{t:TypeId}
theorem v_0 (ht:P.underlying t=some (.int .i64)):IsT P t Int (λ_=>True):=⟨λenc W fuel cs x h _=>by
 obtain ⟨n,rfl,_,hw⟩:=DataW.trod_int ht h;have:=bounds_i64 hw
 exact ⟨n,⟨_,rfl,rfl,by unfold inI;omega⟩,trivial⟩⟩
theorem v_1 (ht:P.underlying t=some (.int .u8)):IsT P t UInt8 (λ_=>True):=⟨λenc W fuel cs x h _=>by
 obtain ⟨n,rfl,_,hw⟩:=DataW.trod_int ht h;have hb:=bounds_u8 hw
 have e:n=b_ (UInt8.ofNat n.toNat):=by
  unfold b_
  rw [UInt8.toNat_ofNat']
  omega
 refine ⟨UInt8.ofNat n.toNat,⟨_,rfl,?_⟩,trivial⟩
 show Value.int .u8 n=vU (b_<|UInt8.ofNat n.toNat)
 rw [← e]⟩
theorem v_2 (ht:P.underlying t=some .bool):IsT P t Bool (λ_=>True):=⟨λenc W fuel cs x h _=>by
 obtain ⟨b,rfl,_⟩:=DataW.trod_bool ht h
 exact ⟨b,⟨_,rfl,rfl⟩,trivial⟩⟩
theorem v_3 (ht:P.underlying t=some .string):IsT P t Str (λs=>s.b.length<=LEN):=⟨λenc W fuel cs x h hw=>by
 obtain ⟨s,rfl,rfl,_⟩:=DataW.trod_string ht h
 simp only [DataW.weights,List.all_cons,List.all_nil,Bool.and_true,decide_eq_true_eq] at hw
 have hr:reachBytes=140737488351232:=rfl;have hL:LEN=140737488355328:=rfl;have hl:s.data.toList.length<=LEN:=by omega
 exact ⟨⟨s.data.toList⟩,⟨_,rfl,by simp [Str.v],hl⟩,hl⟩⟩
theorem p_V {H:Type}{e:TypeId}:∀{l:List (DataW H)}{d:DataW H},(DataW.weightsAll P e l).all (· <= reachBytes)=true->d∈l->(d.weights P e).all (· <= reachBytes)=true
 | [],_,_,h=>by cases h
 | y::l,d,hw,h=>by
  unfold DataW.weightsAll at hw
  rw [List.all_append,QAf] at hw
  rcases QAV.1 h with rfl | h
  .exact hw.1
  .exact p_V hw.2 h
theorem j_9 {H:Type}:∀{ts:List TypeId}{l:List (DataW H)}{i:Nat}{t:TypeId}{d:DataW H},(DataW.weightsEach P ts l).all (· <= reachBytes)=true->ts[i]? = some t->l[i]? = some d->(d.weights P t).all (· <= reachBytes)=true
 | [],_,_,_,_,_,h,_=>by simp at h
 | _::_,[],_,_,_,_,_,h=>by simp at h
 | t::ts,y::l,i,t',d,hw,h1,h2=>by
  unfold DataW.weightsEach at hw
  rw [List.all_append,QAf] at hw
  cases i with
  | zero=>simp at h1 h2;subst h1 h2;exact hw.1
  | succ i=>simp at h1 h2;exact j_9 hw.2 h1 h2
theorem cells?_spec {w:World}{a:Addr}{n:Nat}{cs:List Value}(h:w.cells? 0 a n=some cs):cs.length=n/\∀j v,cs[j]? = some v->w.cell? (a.add j)=some v:=by
 unfold World.cells? at h
 rw [QAd (QAI _)] at h
 refine ⟨by simpa using mapM_some_length h,λj v hv=>?_⟩
 have hj:j<n:=by
  have h1:=(List.getElem?_eq_some_iff.1 hv).1;have h2:=mapM_some_length h
  simp at h2
  omega
 have:=mapM_some_get h j j (by rw [List.getElem?_range hj])
 rw [this];exact hv
theorem v_4 {w:World}{a:Addr}{v:Value}(h:w.cell? a=some v):a.spot=none:=by
 unfold World.cell? at h
 split at h
 .cases hs:a.spot with
  | none=>rfl
  | some x=>rw [hs] at h;simp at h
 .cases h
theorem p_W {α:Type}(Q:Nat->α->Prop):∀(len:Nat),(∀i,i<len->∃v,Q i v)->∃l:List α,l.length=len/\∀(i:Nat)(x:α),l[i]? = some x->Q i x
 | 0,_=>⟨[],rfl,λi x h=>by simp at h⟩
 | n+1,h=>by
  obtain ⟨l,hl,hq⟩:=p_W Q n<|λi hi=>h i (by omega);obtain ⟨v,hv⟩:=h n (by omega);refine ⟨l++[v],by simp [hl],λi x hx=>?_⟩
  by_cases hi:i<l.length
  .rw [List.getElem?_append_left hi] at hx;exact hq i x hx
  .rw [List.getElem?_append_right (by omega)] at hx
   have h1:=(List.getElem?_eq_some_iff.1 hx).1
   simp only [QA5,QAD] at h1
   have h2:i=n:=by omega
   subst h2
   rw [show i - l.length=0 by omega] at hx
   simp at hx
   exact hx ▸ hv
theorem j_a {α:Type}[Dat α]{L:α->Prop}{e:TypeId}(ht:P.underlying t=some (.slice e))(he:IsT P e α L)(hc:P.cellsOf e=sz α)(hb:1<=P.bytesOf e):IsT P t (List α) (λl=>l.length<=LEN/\∀x∈l,L x):=⟨λenc W fuel cs x h hw=>by
 have hr:reachBytes=140737488351232:=rfl;have hL:LEN=140737488355328:=rfl
 rcases DataW.trod_slice ht h with ⟨rfl,rfl⟩ | ⟨a,len,cap,elems,rest,n,_,rfl,rfl,_,hlc,_,hlen,hel,hsp,_⟩
 .exact ⟨[],⟨_,rfl,none,0,rfl,QAB _,QAI _,λ_=>rfl,λp hp=>by cases hp⟩,by simp,λx hx=>by cases hx⟩
 .obtain ⟨hrl,_⟩:=hsp rfl
  have hw':(elems.length+rest.length) * P.bytesOf e<=reachBytes/\(DataW.weightsAll P e<|elems.map (·.1)).all (· <= reachBytes)=true:=by
   unfold DataW.weights at hw
   rw [ht] at hw
   simp only [List.all_cons,List.all_append,QAf,decide_eq_true_eq,QAs] at hw
   exact ⟨hw.1,hw.2.1⟩
  have hcap:cap<=LEN:=by
   have h1:elems.length+rest.length<=(elems.length+rest.length) * P.bytesOf e:=Nat.le_mul_of_pos_right _ hb
   omega
  have hone:∀i:Nat,i<len->∃v:α,a.spot=none/\a.block<W.heap.size/\(∃cs,r_ W a.block (a.off+i * sz α) cs/\rep W W.heap.size cs v)/\L v:=by
   intro i hi;have h1:=hel i hi;have hie:i<elems.length:=by omega
   rw [List.getElem?_eq_getElem hie] at h1
   cases hcs:W.cells? 0 (a.add<|i * P.cellsOf e) (P.cellsOf e) with
   | none=>rw [hcs] at h1;cases h1
   | some cs =>
    rw [hcs] at h1
    simp only [Option.bind_some] at h1
    obtain ⟨v,hv,hl⟩:=he.rd enc W n cs _ h1<|p_V hw'.2<|List.mem_map_of_mem<|QAU hie;obtain ⟨J,O⟩:=cells?_spec hcs;have hpos:0<cs.length:=by rw [J,hc];exact Dat.pos
    have hsp:a.spot=none:=by
     have G:=hel 0 (by omega)
     rw [List.getElem?_eq_getElem (show 0<elems.length by omega)] at G
     cases H:W.cells? 0 (a.add<|0 * P.cellsOf e) (P.cellsOf e) with
     | none=>rw [H] at G;cases G
     | some I =>
      obtain ⟨V,Y⟩:=cells?_spec H;have hpos0:0<I.length:=by rw [V,hc];exact Dat.pos
      have:=Y 0 I[0] (by rw [List.getElem?_eq_getElem hpos0]);have:=v_4 this
      simpa [Addr.add] using this
    have ha:a=⟨a.block,a.off,none⟩:=by cases a;simp only at hsp;rw [hsp]
    have hcells:r_ W a.block (a.off+i * sz α) cs:=by
     intro j u hu;have:=O j u hu
     rw [ha,Addr.add_lit,Addr.add_lit,hc] at this
     exact this
    exact ⟨v,hsp,hcells.lt (by intro h;rw [h] at hpos;cases hpos),⟨cs,hcells,hv⟩,hl⟩
  obtain ⟨l,hll,hq⟩:=p_W _ len hone;refine ⟨l,⟨_,rfl,some a,cap,by rw [hll],by omega,by omega,λh=>(by cases h),λp hp=>?_⟩,by omega,λx hx=>?_⟩
  .obtain rfl:=QAS hp;refine ⟨λhne=>?_,λhne=>?_,λi x hx=>(hq i x hx).2.2.1⟩
   .cases l with
    | nil=>exact absurd rfl hne
    | cons y l=>exact (hq 0 y rfl).1
   .cases l with
    | nil=>exact absurd rfl hne
    | cons y l=>exact (hq 0 y rfl).2.1
  .obtain ⟨i,hi⟩:=List.getElem?_of_mem hx
   exact (hq i x hi).2.2.2⟩
def cutC:Nat->List Nat->List Value->List (List Value)
 | _,[],_=>[]
 | o,n::r,cs=>(cs.drop o).take n::cutC (o+n) r cs
def n_o:List (List Value)->List Value
 | []=>[]
 | [p]=>p
 | p::q::r=>p++n_o (q::r)
theorem i_0:∀(ns:List Nat)(o:Nat)(cs:List Value),ns ≠ []->cs.length=o+ns.sum->n_o (cutC o ns cs)=cs.drop o
 | [],_,_,h,_=>absurd rfl h
 | [n],o,cs,_,h=>by
  show (cs.drop o).take n=_
  rw [QAR]
  simp at h ⊢;omega
 | n::m::r,o,cs,_,h=>by
  show (cs.drop o).take n++n_o (cutC (o+n) (m::r) cs)=_
  rw [i_0 (m::r) (o+n) cs (by simp) (by simp at h ⊢;omega),← QAo,List.take_append_drop]
theorem j_b {H:Type}{enc:TypeId×Value->H}{W:World}{fuel:Nat}{cs:List Value}{x:DataW H×List MemPlace}{fs:Array Field}(ht:P.underlying t=some (.struct fs))(h:DataW.trod enc P W 0 (λ_=>true) true fuel t cs=some x)(hw:(x.1.weights P t).all (· <= reachBytes)=true) :
  cs.length=P.cellsOf t/\∀(i:Nat)(f:Field),fs[i]? = some f->∀(α:Type)(_:Dat α)(L:α->Prop),IsT P f.type α L->∃v:α,rep W W.heap.size ((cs.drop f.offset).take (P.cellsOf f.type)) v/\L v:=by
 obtain ⟨xs,n,rfl,rfl,hl,hxl,hf⟩:=DataW.trod_struct ht h;refine ⟨hl,λi f hi α _ L hα=>?_⟩;have h1:=hf i f hi;have hlt:=(Array.getElem?_eq_some_iff.1 hi).1
 rw [List.getElem?_eq_getElem (by omega)] at h1
 refine hα.rd enc W n _ _ h1 ?_;unfold DataW.weights at hw
 rw [ht] at hw
 refine j_9 (i:=i) hw ?_ (by rw [List.getElem?_map,List.getElem?_eq_getElem (by omega)];rfl)
 rw [List.getElem?_map,Array.getElem?_toList,hi];rfl
structure OkW (P:Program)(W:World)(base:Nat)(t:TypeId)(v:Value):Prop where
 h:Value.okWide P W .any base t v
structure OkWs (P:Program)(W:World)(base:Nat)(ts:Array TypeId)(vs:Array Value):Prop where
 h:∀(j:Nat) t v,ts[j]? = some t->vs[j]? = some v->Value.okWide P W .any base t v
theorem OkWs.at {W:World}{base:Nat}{ts:Array TypeId}{vs:Array Value}(h:OkWs P W base ts vs)(j:Nat)(t:TypeId)(v:Value)(h1:ts[j]? = some t)(h2:vs[j]? = some v):OkW P W base t v:=⟨h.h j t v h1 h2⟩
theorem v_5 {W:World}{base:Nat}{t:TypeId}{v:Value}{fs:Array Field}(ht:P.underlying t=some (.struct fs))(h:OkW P W base t v):∃cs,v = .agg cs/\cs.size=P.cellsOf t:=okWide_struct ht h.h
theorem p_X {W:World}{base:Nat}{t:TypeId}{v:Value}(ht:P.underlying t=some .string)(h:OkW P W base t v):∃z,v = .string z:=okWide_string ht h.h
theorem p_Y {H:Type}{enc:TypeId×Value->H}(hl:laidOutB P=true){W W':World}(hb:Below W.heap.size W W'):∀(ts:List TypeId)(vs:List Value)(ds:List (DataW H))(ps:List MemPlace),(∀t∈ts,P.readableRec t=true/\t<P.types.size) ->
  DataW.TrodAll enc P W 0 (λ_=>true) true ts vs ds ps->(∀x∈ps,x.block<W.heap.size)->∀(sp:Nat->Bool),(∀b,b<W.heap.size->sp b=true)->DataW.TrodAll enc P W' 0 sp true ts vs ds ps
 | [],[],[],_,_,h,_,_,_=>h
 | t::ts,v::vs,d::ds,ps,hr,h,hlt,sp,hsp=>by
  obtain ⟨p,q,h1,h2,rfl⟩:=h;refine ⟨p,q,?_,p_Y hl hb ts vs ds q (λt ht=>hr t<|QAF _ ht) h2 (λx hx=>hlt x<|QAH _ hx) sp hsp,rfl⟩;have hlp:∀x∈p,x.block<W.heap.size:=λx hx=>hlt x<|QAW _ hx
  exact WideElems.Trod_stays hl (hr t QAM).1 (hr t QAM).2 h1 (λx hx=>hb.same<|hlp x hx) (λx hx=>hsp _<|hlp x hx)
 | [],_::_,_,_,_,h,_,_,_=>by cases h
 | [],[],_::_,_,_,h,_,_,_=>by cases h
 | _::_,[],_,_,_,h,_,_,_=>by cases h
 | _::_,_::_,[],_,_,h,_,_,_=>by cases h
theorem v_6 {H:Type}{enc:TypeId×Value->H}{f:Func}{s:ChangeSpec}{apart fresh handsOn again:Bool}{W W':World}{args:Array Value}{ds gs:List (DataW H)}{before:List MemPlace}{tb:TypeId}(hl:laidOutB P=true)(hread:∀t∈f.params.toList,P.readableRec t=true/\t<P.types.size)
  (hb:Below W.heap.size W W') (hW:DataW.Whole enc P f.params.toList s.vars apart W args.toList ds gs before) (hres:f.resultTypes = #[tb]) (htb:P.underlying tb=some .bool) (hvars:s.vars=[]) (hfn:s.fn H (ds++gs)={ results:=[.lit (.bool true)],args:=ds }) :
  s.post enc P f apart fresh handsOn again W args (.bool true) W':=by
 have hlt:∀x∈before,x.block<W.heap.size:=λp hp=>hW.lt p hp
 have hW':=hW;obtain ⟨p,q,hA,hV,rfl,hz,hn⟩:=hW
 rw [hvars] at hV
 obtain ⟨rfl,rfl⟩:=trodVars_none hV;have hA':=λsp hsp=>p_Y hl hb _ _ _ _ hread hA (λx hx=>hlt x (by grind)) sp hsp
 have hr:∀(b:Nat)(sp:Nat->Bool)(hd:Bool),DataW.TrodAll enc P W' b sp hd f.resultTypes.toList ((Value.bool true).resultList f.resultTypes.size) (s.fn H<|ds++[]).results []:=λb sp hd=>by
  rw [hfn,hres];exact trodAll_cons_mk (shut_bool htb _) trodAll_mk0
 have hvs:∀sp:Nat->Bool,DataW.TrodVars enc P W' sp s.vars (s.fn H<|ds++[]).vars []:=λsp=>by rw [hfn,hvars];rfl
 refine ⟨ds,[],p++[],[],p,[],hW',hr _ _ _,by grind,hvs _,hb.frame _,λ_=>⟨?_,([.lit (.bool true)]:List (DataW H))++ds,[],([]++p)++[],⟨[]++p,[],?_,?_,rfl,?_,?_⟩,?_⟩⟩
 .exact ok_one hres rfl<|okWide_bool_mk htb _
 .have h1:=hr 0 (λ_=>true) true
  rw [hfn] at h1
  exact trodAll_append (hA' _<|λ_ _=>rfl) h1
 .grind
 .intro b off hp;have hp':MemPlace.cell b off∈p++[]:=by grind
  have:=hlt _ hp'
  rw [hb.frozen (p:=⟨b,off,none⟩) this]
  exact hz b off hp'
 .grind
 grind
end
end Go.Vw
namespace Go.Vw
open Go.RowKit Dat
theorem d_o {x y:Int}(h1 : -9223372036854775808<=x+y)(h2:x+y<=9223372036854775807):e_ x y=x+y:=by
 grind [e_,IntKind.wrap_i64]
theorem a_L {x y:Int}(h1 : -9223372036854775808<=x - y)(h2:x - y<=9223372036854775807):w_ x y=x - y:=by
 grind [w_,IntKind.wrap_i64]
theorem i_j {x y:Int}(h1 : -9223372036854775808<=x * y)(h2:x * y<=9223372036854775807):b_t x y=x * y:=by
 grind [b_t,IntKind.wrap_i64]
theorem o_A {x y:Int}(G:0<=x)(hx:x<=9223372036854775807)(hy:0<y):c_V x y=x / y:=by
 unfold c_V
 rw [Int.tdiv_eq_ediv_of_nonneg G,IntKind.wrap_i64]
 have h1:=Int.ediv_nonneg G<|Int.le_of_lt hy;have h2:=Int.ediv_le_self y G
 omega
theorem m_a {x y:Int}(G:0<=x):b_7 x y=x % y:=by
 grind [b_7]
theorem j_D {a b:UInt8}:b_ a=b_ b ↔ a=b:=by
 unfold b_
 constructor
 .grind [UInt8.toNat_inj]
 grind
section
variable {α:Type}
theorem b_E {l:List α}{k:Nat}(h:k<l.length):idx l (k:Int)=some l[k]:=by grind [n_j]
theorem h_r {l:List α}{i:Int}(G:0<=i)(h:i.toNat<l.length):idx l i=some l[i.toNat]:=by
 grind [idx]
theorem b_j {l:List α}(h:0<l.length):idx l 0=some l[0]:=b_E (k:=0) h
theorem m_b {l:List α}(h:1<l.length):idx l 1=some l[1]:=b_E (k:=1) h
theorem d_O {l:List α}{a b:Int}(G:0<=a)(h1:a<=b)(h2:b<=l.length):slc l a b=some ((l.take b.toNat).drop a.toNat):=by
 grind [slc]
theorem a_Z {l:List α}{x:α}(h:l.length<LIM):psh l x=some (l++[x]):=by grind [psh]
theorem c_l {l m:List α}(h:l.length+m.length<=LIM):app l m=some (l++m):=by grind [app]
theorem a_y {s t:Str}(h:s.b.length+t.b.length<=LIM):cat s t=some ⟨s.b++t.b⟩:=by grind [cat]
theorem c_P {l:List α}{k:Nat}{x:α}(h:k<l.length):upd l (k:Int) x=some (l.set k x):=by
 grind [upd]
theorem g_k {z:α}{n:Nat}(h:n<=LIM):mk0 z (n:Int)=some (List.replicate n z):=by
 grind [mk0]
theorem y_j {z:α}{n:Int}(G:0<=n)(h:n<=LIM):mk0 z n=some (List.replicate n.toNat z):=by
 grind [mk0]
end
section
variable {σ ρ:Type}
theorem s_S {body:Nat->σ->Option (Out σ ρ)}(st:Nat->σ):∀n k,(∀j,k<=j->j<k+n->body j (st j)=some (.next<|st<|j+1))->k_ body n k (st k)=some (.inl<|st<|k+n)
 | 0,k,_=>rfl
 | n+1,k,h=>by
  have h1:=h k (QAB _) (by omega);have h2:=s_S st n (k+1)<|λj a b=>h j (by omega) (by omega)
  grind [k_]
theorem b_Z {body:Nat->σ->Option (Out σ ρ)}(st:Nat->σ){n:Nat}(h:∀j,j<n->body j (st j)=some (.next<|st<|j+1)):k_ body n 0 (st 0)=some (.inl<|st n):=by
 simp_all [s_S]
theorem forN_ret' {body:Nat->σ->Option (Out σ ρ)}(st:Nat->σ){r:ρ}:∀n k j0,k<=j0->j0<k+n->(∀j,k<=j->j<j0->body j (st j)=some (.next<|st<|j+1))->body j0 (st j0)=some (.ret r)->k_ body n k (st k)=some (.inr r)
 | 0,k,j0,a,b,_,_=>by omega
 | n+1,k,j0,a,b,h,hr=>by
  unfold k_
  by_cases hk:k=j0
  .grind
  .rw [h k (QAB _) (by omega)]
   exact forN_ret' st n (k+1) j0 (by omega) (by omega) (λj c d=>h j (by omega) d) hr
theorem m_c {body:Nat->σ->Option (Out σ ρ)}(st:Nat->σ){r:ρ}{n j0:Nat}(G:j0<n)(h:∀j,j<j0->body j (st j)=some (.next<|st<|j+1))(hr:body j0 (st j0)=some (.ret r)):k_ body n 0 (st 0)=some (.inr r) :=
 forN_ret' st n 0 j0 (by omega) (by omega) (λj _ b=>h j b) hr
theorem h_s {body:Nat->Unit->Option (Out Unit ρ)}{n:Nat}(p:Nat->Bool)(r:Nat->ρ)(h:∀k,k<n->(∀j,j<k->p j=false)->body k ()=some (if p k then .ret (r k) else .next ())) :
  k_ body n 0 ()=some (match (List.range n).find? p with | some k=>.inr (r k) | none=>.inl ()):=by
 cases hf:(List.range n).find? p with
 | none =>
  have hn:∀k,k<n->p k=false:=λk hk=>by
   grind
  exact b_Z (λ_=>()) (λj hj=>by grind)
 | some k =>
  obtain ⟨hp,as,bs,hl,has⟩:=List.find?_eq_some_iff_append.1 hf
  have hk:as.length<n/\as.length=k:=by
   have h1:as.length<(List.range n).length:=by grind
   simp at h1
   refine ⟨h1,?_⟩;have h2:(List.range n)[as.length]? = some k:=by grind
   grind
  obtain ⟨h1,rfl⟩:=hk
  have hb:∀j,j<as.length->p j=false:=λj hj=>by
   have h2:(List.range n)[j]? = some (as[j]):=by grind
   grind
  exact m_c (λ_=>()) h1 (λj hj=>by grind) (by grind)
theorem y_k {α:Type}(l:List α)(p:α->Bool)(q:Nat->Bool)(h:∀k (hk:k<l.length),q k=p l[k]):(List.range l.length).any q=l.any p:=by
 rw [QA0]
 simp only [List.any_eq_true,QAX]
 constructor
 .grind
 .rintro ⟨x,hx,hp⟩;obtain ⟨k,hk,rfl⟩:=QAc hx
  grind
theorem f_j {body:Nat->Unit->Option (Out Unit ρ)}{n:Nat}(p:Nat->Bool)(r:ρ)(h:∀k,k<n->(∀j,j<k->p j=false)->body k ()=some (if p k then .ret r else .next ())) :
  k_ body n 0 ()=some (if (List.range n).any p then .inr r else .inl ()):=by
 rw [h_s p (λ_=>r) h]
 grind
theorem e_H {α:Type}{body:Nat->Unit->Option (Out Unit ρ)}{l:List α}(p:α->Bool)(r:ρ)(h:∀k (hk:k<l.length),body k ()=some (if p l[k] then .ret r else .next ())) :
  k_ body l.length 0 ()=some (if l.any p then .inr r else .inl ()):=by
 rw [f_j (λk=>if hk:k<l.length then p l[k] else false) r (λk hk _=>by grind)]
 simp_all [y_k]
theorem iter_brk' {step:σ->Option (Out σ ρ)}(st:Nat->σ){s:σ}:∀m k j0,k<=j0->j0<k+m->(∀j,k<=j->j<j0->step (st j)=some (.next<|st<|j+1))->step (st j0)=some (.brk s)->F_ step m (st k)=some (.inl s)
 | 0,k,j0,a,b,_,_=>by omega
 | m+1,k,j0,a,b,h,hr=>by
  unfold F_
  by_cases hk:k=j0
  .grind
  .rw [h k (QAB _) (by omega)]
   exact iter_brk' st m (k+1) j0 (by omega) (by omega) (λj c d=>h j (by omega) d) hr
theorem g_l {step:σ->Option (Out σ ρ)}(st:Nat->σ){s:σ}{m j0:Nat}(G:j0<m)(h:∀j,j<j0->step (st j)=some (.next<|st<|j+1))(hr:step (st j0)=some (.brk s)):F_ step m (st 0)=some (.inl s) :=
 iter_brk' st m 0 j0 (by omega) (by omega) (λj _ b=>h j b) hr
theorem iter_ret' {step:σ->Option (Out σ ρ)}(st:Nat->σ){r:ρ}:∀m k j0,k<=j0->j0<k+m->(∀j,k<=j->j<j0->step (st j)=some (.next<|st<|j+1))->step (st j0)=some (.ret r)->F_ step m (st k)=some (.inr r)
 | 0,k,j0,a,b,_,_=>by omega
 | m+1,k,j0,a,b,h,hr=>by
  unfold F_
  by_cases hk:k=j0
  .grind
  .rw [h k (QAB _) (by omega)]
   exact iter_ret' st m (k+1) j0 (by omega) (by omega) (λj c d=>h j (by omega) d) hr
theorem s_T {step:σ->Option (Out σ ρ)}(st:Nat->σ){r:ρ}{m j0:Nat}(G:j0<m)(h:∀j,j<j0->step (st j)=some (.next<|st<|j+1))(hr:step (st j0)=some (.ret r)):F_ step m (st 0)=some (.inr r) :=
 iter_ret' st m 0 j0 (by omega) (by omega) (λj _ b=>h j b) hr
end
theorem s_U {s:Str}{p:Nat}(h:p<s.b.length)(ha:s.b[p].toNat<128):dec s p=((s.b[p].toNat:Int),1):=by
 have hq:p<(⟨s.b.toArray⟩:ByteArray).size:=by grind [ByteArray.size]
 have hb:(⟨s.b.toArray⟩:ByteArray)[p]'hq=s.b[p]:=rfl
 grind [dec,decode_ascii]
theorem y_l {s:Str}{p:Nat}(h:p<s.b.length)(ha:128<=s.b[p].toNat):128<=(dec s p).1:=by
 have hq:p<(⟨s.b.toArray⟩:ByteArray).size:=by grind [ByteArray.size]
 have hb:(⟨s.b.toArray⟩:ByteArray)[p]'hq=s.b[p]:=rfl
 grind [dec,decode_high]
abbrev bF_:=@Bool.false_eq_true
abbrev dT_:=@decide_eq_true
abbrev dF_:=@decide_eq_false
abbrev bQ_:=@beq_self_eq_true
abbrev mT_:=@QAF
abbrev mS_:=@QAM
abbrev gE_:=@QAU
abbrev oI_:=@QAJ
abbrev gG_:=@List.getElem?_eq_getElem
abbrev gD_:=@List.getD_eq_getElem?_getD
abbrev aE_:=@QAf
abbrev dE_:=@decide_eq_true_eq
abbrev tN_:=@Int.toNat_natCast
abbrev gS_:=@List.getElem?_eq_some_iff
abbrev iP_:=@QAd
abbrev iN_:=@QA7
abbrev fF_:=@if_false
abbrev fT_:=@if_true
abbrev gN_:=@List.getElem?_eq_none
abbrev nT_:=@Bool.not_true
abbrev ix_:=@b_E
abbrev ia_:=@d_o
abbrev lC_:=@QA5
abbrev bN_:=@bne_self_eq_false
abbrev dC_:=@List.drop_eq_getElem_cons
end Go.Vw
