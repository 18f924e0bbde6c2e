import Derived.Test.YtgpgenigfncgeaaGreatDoorV0
import Derived.Carry
import Derived.Deep.DeepHandedRow
import Derived.WalkKit
import Derived.ProofKit
import Derived.OpenShut
import Derived.Laws.RangeAny
set_option linter.unusedVariables false
namespace Go.Vw
def i_6 (x1:Bt)(x2:Int):Option Int :=
 if (decide<|(w_ x2 (x1.length:Int))<0) then some (-1) else some (w_ x2 (x1.length:Int))
def i_7 (x1:List Str)(x2:Int):Option Int :=
 if (decide<|(w_ x2 (x1.length:Int))<0) then some (-1) else bd (u_ (σ:=Int) (ρ:=Int) (λH=>(λh=>bd (idx x1 (H:Int)) λG=>if (decide<|(w_ h (G.b.length:Int))<0) then some (.ret (-1)) else some (.next<|w_ h (G.b.length:Int)))) x1.length 0<|w_ x2 (x1.length:Int)) (el (λh=>some h)<|λI=>some I)
def i_8 (x1:List Int)(x2:Int):Option Int :=
 if (decide<|(w_ x2 (x1.length:Int))<0) then some (-1) else some (w_ x2 (x1.length:Int))
def g_I (x1:d_)(x2:Int):Option Int :=
 if (decide<|(w_ x2 (x1.name.b.length:Int))<0) then some (-1) else bd (i_6 x1.bytes<|w_ x2 (x1.name.b.length:Int)) λh=>if (decide<|h<0) then some (-1) else bd (i_7 x1.names h) λG=>if (decide<|G<0) then some (-1) else bd (i_8 x1.tags G) λH=>if (decide<|H<0) then some (-1) else bd (i_8 x1.kids H) λI=>if (decide<|I<0) then some (-1) else some I
def l_c (x1:List d_)(x2:Int):Option Int :=
 if (decide<|(w_ x2 (x1.length:Int))<0) then some (-1) else bd (u_ (σ:=Int) (ρ:=Int) (λH=>(λh=>bd (idx x1 (H:Int)) λI=>bd (g_I I h) λG=>if (decide<|G<0) then some (.ret (-1)) else some (.next G))) x1.length 0<|w_ x2 (x1.length:Int)) (el (λh=>some h)<|λJ=>some J)
def g_J (x1:f_)(x2:Int):Option Int :=
 bd (l_c x1.rules x2) λh=>if (decide<|h<0) then some (-1) else some h
def g_K (x1:Bt):Option Bt :=
 bd (mk0 (0:UInt8) (x1.length:Int)) λH=>bd (u_ (σ:=Bt) (ρ:=Bt) (λG=>(λh=>bd (idx x1 (G:Int)) λI=>bd (upd h (G:Int) I) λJ=>some<|.next J)) x1.length 0 H)<|el (λh=>some h)<|λL=>some L
def i_9 (x1:List Str):Option (List Str) :=
 bd (mk0 (⟨[]⟩:Str) (x1.length:Int)) λH=>bd (u_ (σ:=List Str) (ρ:=List Str) (λG=>(λh=>bd (idx x1 (G:Int)) λI=>bd (upd h (G:Int) I) λJ=>some<|.next J)) x1.length 0 H)<|el (λh=>some h)<|λL=>some L
def g_L (x1:List Int):Option (List Int) :=
 bd (mk0 0 (x1.length:Int)) λH=>bd (u_ (σ:=List Int) (ρ:=List Int) (λG=>(λh=>bd (idx x1 (G:Int)) λI=>bd (upd h (G:Int) I) λJ=>some<|.next J)) x1.length 0 H)<|el (λh=>some h)<|λL=>some L
def i_a (x1:d_):Option d_ :=
 bd (g_K x1.bytes) λh=>bd (i_9 x1.names) λG=>bd (g_L x1.tags) λH=>bd (g_L x1.kids) λI=>some (⟨x1.name,x1.kind,x1.size,x1.little,h,G,H,I⟩:d_)
def l_d (x1:List d_):Option (List d_) :=
 bd (mk0 (⟨(⟨[]⟩:Str),0,0,false,([]:Bt),([]:List Str),([]:List Int),([]:List Int)⟩:d_) (x1.length:Int)) λH=>bd (u_ (σ:=List d_) (ρ:=List d_) (λG=>(λh=>bd (idx x1 (G:Int)) λI=>bd (i_a I) λJ=>bd (upd h (G:Int) J) λL=>some<|.next L)) x1.length 0 H)<|el (λh=>some h)<|λO=>some O
def i_b (x1:f_):Option f_ :=
 bd (l_d x1.rules) λh=>some (⟨h⟩:f_)
def g_M (n:Nat)(x1:Str)(x2:UInt8):Option (List Str) :=
 bd (I_ (σ:=(List Str)×Int×Int) (ρ:=List Str) (un3 λG H h=>if (decide<|h<=(x1.b.length:Int)) then bd (α:=Bool) (if (h==(x1.b.length:Int)) then some true else bd (idx x1.b h) λI=>some<|(byteI I)==(byteI x2)) (λJ=>bd (α:=(List Str)×Int) (if J then bd (b_X x1 H h) λL=>bd (psh G L) λO=>some (O,b_ h 1) else some (G,H))<|un2 λV W=>some<|.next (V,W,b_ h 1)) else some (.brk (G,H,h))) n (([]:List Str),0,0)) (el (un3 λG H h=>some G)<|λY=>some Y)
def a_I (x1:Int)(x2:Int)(x3:Int):Option Bool :=
 bd (α:=Bool) (if (decide<|x2<=x1) then some (decide<|x1<=x3) else some false) (λh=>some h)
def f_7 (x1:Str):Option Bool :=
 bd (u_ (σ:=Unit) (ρ:=Bool) (λh=>(λ(_:Unit)=>bd (α:=Bool) (bd (idx x1.b (h:Int)) λG=>if (decide<|(byteI (97:UInt8))<=(byteI G)) then bd (idx x1.b (h:Int)) λH=>some (decide<|(byteI H)<=(byteI (122:UInt8))) else some false) (λI=>bd (α:=Bool) (bd (idx x1.b (h:Int)) λJ=>if (decide<|(byteI (48:UInt8))<=(byteI J)) then bd (idx x1.b (h:Int)) λL=>some (decide<|(byteI L)<=(byteI (57:UInt8))) else some false) (λO=>bd (α:=Bool) (if (!I) then if (!O) then some true else some ((h:Int)==0) else some false) (λV=>if V then some (.ret false) else some (.next ())))))) x1.b.length 0 ()) (el (λ(_:Unit)=>bd (a_I (x1.b.length:Int) 1 12) λW=>some W)<|λY=>some Y)
def d_C (n:Nat)(x1:Int):Option Str :=
 if (x1==0) then some (⟨[48]⟩:Str) else bd (I_ (σ:=Str×Int) (ρ:=Str) (un2 λG h=>if (h != 0) then bd (α:=Int) (if (decide<|(b_f h 10)<0) then some (g_m<|b_f h 10) else some (b_f h 10)) (λH=>bd (cat (⟨[mkB (b_ 48 H)]⟩:Str) G) λI=>some<|.next (I,d_p h 10)) else some (.brk (G,h))) n ((⟨[]⟩:Str),x1)) (el (un2 λG h=>if (decide<|x1<0) then bd (cat (⟨[45]⟩:Str) G) λJ=>some J else some G)<|λL=>some L)
def g_N (n:Nat)(x1:Str):Option (Int×Bool) :=
 bd (a_I (x1.b.length:Int) 1 13) λH=>if (!H) then some (0,false) else bd (u_ (σ:=Int) (ρ:=Int×Bool) (λG=>(λh=>bd (idx x1.b (G:Int)) λI=>bd (a_I (byteI I) 48 57) λJ=>if (!J) then some (.ret (0,false)) else bd (idx x1.b (G:Int)) λL=>some<|.next<|b_ (b_e 10 h)<|byteI<|mkB<|byteI L - byteI (48:UInt8))) x1.b.length 0 0) (el (λh=>bd (α:=Bool) (if (decide<|1000000000000<h) then some true else bd (d_C n h) λO=>some<|O.b != x1.b) (λV=>if V then some (0,false) else some (h,true)))<|λW=>some W)
def e_z (n:Nat)(x1:Str):Option Bool :=
 bd (α:=Bool) (bd (f_7 x1) λh=>if h then some true else if (x1.b==(⟨[42]⟩:Str).b) then some true else if (x1.b==(⟨[63]⟩:Str).b) then some true else some (x1.b==(⟨[43]⟩:Str).b)) (λG=>if G then some true else bd2 (g_N n x1) λH I=>bd (α:=Bool) (if I then bd (d_C n H) λJ=>some (J.b==x1.b) else some false)<|λL=>some L)
def i_c (n:Nat)(x1:Str):Option ((List Str)×Bool) :=
 if (x1.b==(⟨[]⟩:Str).b) then some (([]:List Str),true) else bd (g_M n x1 (47:UInt8)) λh=>bd (idx h 0) λH=>if (H.b != (⟨[]⟩:Str).b) then some (([]:List Str),false) else bd (I_ (σ:=Int) (ρ:=(List Str)×Bool) (λG=>if (decide<|G<(h.length:Int)) then bd (idx h G) λI=>bd (e_z n I) λJ=>if (!J) then some (.ret (([]:List Str),false)) else some (.next<|b_ G 1) else some (.brk G)) n 1) (el (λG=>bd (slc h 1 (h.length:Int)) λL=>some (L,decide<|1<(h.length:Int)))<|λO=>some O)
def c_L (x1:d_)(x2:Bool)(x3:Bool)(x4:Bool)(x5:Bool)(x6:Int):Option Bool :=
 bd (α:=Bool) (bd (α:=Bool) (if x2 then some true else some (x1.size==0)) λh=>bd (α:=Bool) (if h then if x3 then some true else some ((x1.bytes.length:Int)==0) else some false) λG=>bd (α:=Bool) (if G then if x4 then some true else some ((x1.names.length:Int)==0) else some false) λH=>bd (α:=Bool) (if H then if x5 then some true else some ((x1.tags.length:Int)==0) else some false) λI=>bd (α:=Bool) (if I then if (decide<|x6<0) then some true else some ((x1.kids.length:Int)==x6) else some false) λJ=>if J then if (!x1.little) then some true else some (x1.kind==1) else some false) (λL=>some L)
def f_J (x1:Int):Option Int :=
 bd (nn<|b_e 8 x1) λh=>some<|b_y .i64 1<|b_e 8 x1
def f_K (x1:f_)(x2:Int):Option Int :=
 bd (α:=Bool) (bd (a_I x2 0<|w_ (x1.rules.length:Int) 1) λh=>if (!h) then some true else bd (idx x1.rules x2) λG=>if (G.kind != 1) then some true else bd (idx x1.rules x2) λH=>bd (a_I H.size 1 4) λI=>some (!I)) (λJ=>if J then some (-1) else bd (idx x1.rules x2) λL=>bd (f_J L.size) λO=>some<|w_ O 1)
def i_d (x1:List Str)(x2:Str):Option Bool :=
 bd (u_ (σ:=Unit) (ρ:=Bool) (λh=>(λ(_:Unit)=>bd (idx x1 (h:Int)) λG=>if (G.b==x2.b) then some (.ret true) else some (.next ()))) x1.length 0 ()) (el (λ(_:Unit)=>some false)<|λH=>some H)
def i_e (x1:List Str):Option Bool :=
 bd (u_ (σ:=Unit) (ρ:=Bool) (λh=>(λ(_:Unit)=>bd (α:=Bool) (bd (idx x1 (h:Int)) λG=>bd (f_7 G) λH=>if (!H) then some true else bd (slc x1 0 (h:Int)) λI=>bd (idx x1 (h:Int)) λJ=>bd (i_d I J) λL=>some L) (λO=>if O then some (.ret false) else some (.next ())))) x1.length 0 ()) (el (λ(_:Unit)=>bd (a_I (x1.length:Int) 1 8) λV=>some V)<|λW=>some W)
def i_f (x1:f_)(x2:d_):Option Bool :=
 bd (α:=Bool) (if ((x2.kids.length:Int) != (b_ (x2.tags.length:Int) 1)) then some true else bd (a_I (x2.tags.length:Int) 1 8) λG=>some (!G)) (λH=>if H then some false else bd (u_ (σ:=Unit) (ρ:=Bool) (λh=>(λ(_:Unit)=>bd (α:=Bool) (bd (idx x2.tags (h:Int)) λI=>bd (idx x2.kids 0) λJ=>bd (f_K x1 J) λL=>bd (a_I I 0 L) λO=>if (!O) then some true else if (decide<|0<(h:Int)) then bd (idx x2.tags<|w_ (h:Int) 1) λV=>bd (idx x2.tags (h:Int)) λW=>some (decide<|W<=V) else some false) (λY=>if Y then some (.ret false) else some (.next ())))) x2.tags.length 0 ()) (el (λ(_:Unit)=>some true)<|λa0=>some a0))
def i_g (x1:f_)(x2:d_):Option Bool :=
 if (x2.kind==1) then bd (α:=Bool) (bd (c_L x2 true false false false 0) λh=>if h then bd (a_I x2.size 1 4) λG=>if G then if (!x2.little) then some true else some (decide<|1<x2.size) else some false else some false) (λH=>some H) else if (x2.kind==2) then bd (α:=Bool) (bd (c_L x2 false true false false 0) λI=>if I then bd (a_I (x2.bytes.length:Int) 1 16) λJ=>some J else some false) (λL=>some L) else if (x2.kind==3) then bd (α:=Bool) (bd (c_L x2 true false false false 0) λO=>if O then bd (a_I x2.size 1 64) λV=>some V else some false) (λW=>some W) else if (x2.kind==4) then bd (α:=Bool) (bd (c_L x2 false false false false 1) λY=>if Y then bd (idx x2.kids 0) λa0=>bd (f_K x1 a0) λa1=>some (decide<|0<a1) else some false) (λa2=>some a2) else if (x2.kind==5) then bd (α:=Bool) (bd (c_L x2 false false false false 2) λa3=>if a3 then bd (idx x2.kids 0) λa4=>bd (f_K x1 a4) λa5=>some (decide<|0<a5) else some false) (λa6=>some a6) else if (x2.kind==6) then bd (α:=Bool) (bd (c_L x2 false false true false (x2.names.length:Int)) λa7=>if a7 then bd (i_e x2.names) λa8=>some a8 else some false) (λa9=>some a9) else if (x2.kind==7) then bd (α:=Bool) (bd (c_L x2 false false false true (-1)) λaa=>if aa then bd (i_f x1 x2) λab=>some ab else some false) (λad=>some ad) else bd (α:=Bool) (if (x2.kind==8) then some (x2.kind==8) else some (x2.kind==9)) (λae=>if ae then bd (c_L x2 false false false false 1) λaf=>some af else if (x2.kind==10) then bd (α:=Bool) (bd (c_L x2 false true false false 0) λah=>if ah then if ((x2.bytes.length:Int)==1) then bd (idx x2.bytes 0) λai=>some ((byteI ai) != (byteI (92:UInt8))) else some false else some false) (λaj=>some aj) else some false)
def i_h (x1:f_)(x2:Int):Option Bool :=
 bd (a_I x2 0<|w_ (x1.rules.length:Int) 1) λG=>if (!G) then some false else bd (idx x1.rules x2) λh=>bd (u_ (σ:=Unit) (ρ:=Bool) (λH=>(λ(_:Unit)=>bd (idx x1.rules (H:Int)) λI=>if (I.name.b==h.name.b) then some (.ret false) else some (.next ()))) x2.toNat 0 ()) (el (λ(_:Unit)=>bd (u_ (σ:=Unit) (ρ:=Bool) (λJ=>(λ(_:Unit)=>bd (idx h.kids (J:Int)) λL=>bd (a_I L 0<|w_ x2 1) λO=>if (!O) then some (.ret false) else some (.next ()))) h.kids.length 0 ()) (el (λ(_:Unit)=>bd (α:=Bool) (bd (f_7 h.name) λV=>if V then bd (i_g x1 h) λW=>some W else some false)<|λY=>some Y)<|λa0=>some a0))<|λa1=>some a1)
def g_O (x1:f_):Option Bool :=
 bd (u_ (σ:=Unit) (ρ:=Bool) (λh=>(λ(_:Unit)=>bd (i_h x1 (h:Int)) λG=>if (!G) then some (.ret false) else some (.next ()))) x1.rules.length 0 ()) (el (λ(_:Unit)=>bd (a_I (x1.rules.length:Int) 1 24) λH=>some H)<|λI=>some I)
def g_P (x1:f_):Option Int :=
 some (w_ (x1.rules.length:Int) 1)
def g_Q (x1:Bt)(x2:Bool):Option Int :=
 if (decide<|4<(x1.length:Int)) then some 0 else bd (u_ (σ:=Int) (ρ:=Int) (λG=>(λh=>bd (α:=Int) (if x2 then some (w_ (w_ (x1.length:Int) 1) (G:Int)) else some (G:Int))<|λH=>bd (idx x1 H) λI=>some<|.next<|b_ (b_e h 256)<|byteI I)) x1.length 0 0) (el (λh=>some h)<|λJ=>some J)
def d_f (x1:f_)(x2:Int)(x3:Bt)(x4:Int):Option (Int×Int×Bool) :=
 bd (idx x1.rules x2) λh=>if (decide<|(w_ (x3.length:Int) x4)<h.size) then some (0,x4,false) else bd (slc x3 x4<|b_ x4 h.size) λG=>bd (g_Q G h.little) λH=>some (H,b_ x4 h.size,true)
def d_D (x1:d_)(x2:Int)(x3:Int):Option Int :=
 if (x1.kind==5) then bd (idx x1.kids 1) λG=>some G else bd (α:=Sum Unit Int) (if (x1.kind==6) then if (decide<|x3<(x1.kids.length:Int)) then bd (idx x1.kids x3) λH=>some (.inr H) else some (.inl ()) else bd (α:=Sum Unit<|Sum Unit Int) (if (x1.kind==7) then bd (u_ (σ:=Unit) (ρ:=Int) (λh=>(λ(_:Unit)=>bd (idx x1.tags (h:Int)) λI=>if (I==x2) then bd (idx x1.kids ((h+1:Nat):Int)) λJ=>some (.ret J) else some (.next ()))) x1.tags.length 0 ()) (el (λ(_:Unit)=>some<|.inl ())<|λL=>some<|.inr<|.inr L) else bd (α:=Bool) (if (x1.kind==8) then some (x1.kind==8) else some (x1.kind==9)) (λO=>if O then bd (idx x1.kids 0) λV=>some (.inr<|.inr V) else some (.inl ()))) (el (λ(_:Unit)=>some<|.inl ()) some)) (el (λ(_:Unit)=>some (-1)) some)
def g_R (n:Nat)(x1:d_)(x2:Int):Option Str :=
 if (x1.kind==5) then bd (d_C n x2) λh=>some h else bd (α:=Bool) (if (x1.kind==6) then some (decide<|x2<(x1.names.length:Int)) else some false) (λG=>if G then bd (idx x1.names x2) λH=>some H else bd (α:=Bool) (if (x1.kind==7) then some (x2==0) else some false) (λI=>if I then some (⟨[42]⟩:Str) else bd (α:=Bool) (if (x1.kind==8) then some (x2==0) else some false) (λJ=>if J then some (⟨[63]⟩:Str) else bd (α:=Bool) (if (x1.kind==9) then some (x2==0) else some false) (λL=>if L then some (⟨[43]⟩:Str) else some (⟨[]⟩:Str)))))
def i_i (x1:d_)(x2:Bt)(x3:Int):Option (Val×Int×Int) :=
 bd (u_ (σ:=Unit) (ρ:=Val×Int×Int) (λh=>(λ(_:Unit)=>if (decide<|(x2.length:Int)<=(b_ x3 (h:Int))) then some (.ret ((⟨0,([]:Bt),([]:List Val)⟩:Val),x3,1)) else bd (idx x2<|b_ x3 (h:Int)) λG=>bd (idx x1.bytes (h:Int)) λH=>if ((byteI G) != (byteI H)) then some (.ret ((⟨0,([]:Bt),([]:List Val)⟩:Val),b_ x3 (h:Int),2)) else some (.next ()))) x1.bytes.length 0 ()) (el (λ(_:Unit)=>some ((⟨0,([]:Bt),([]:List Val)⟩:Val),b_ x3 (x1.bytes.length:Int),0))<|λI=>some I)
def g_S (x1:Bt)(x2:Int)(x3:Int):Option (Val×Int×Int) :=
 if (decide<|(w_ (x1.length:Int) x2)<x3) then some ((⟨0,([]:Bt),([]:List Val)⟩:Val),x2,1) else bd (slc x1 x2<|b_ x2 x3) λh=>bd (app ([]:Bt) h) λG=>some ((⟨0,G,([]:List Val)⟩:Val),b_ x2 x3,0)
def i_j (n:Nat)(x1:Bt)(x2:Int)(x3:UInt8):Option (Bt×Int×Bool) :=
 bd (I_ (σ:=Bt×Int) (ρ:=Bt×Int×Bool) (un2 λG h=>bd (α:=Bool) (bd (a_I x2 0 (x1.length:Int)) λI=>if I then some (decide<|h<(x1.length:Int)) else some false) (λJ=>if J then bd (idx x1 h) λL=>if ((byteI L)==(byteI x3)) then some (.ret (G,b_ h 1,true)) else bd (idx x1 h) λO=>bd (α:=Sum Int<|Out (Bt×Int)<|Bt×Int×Bool) (if ((byteI O)==(byteI (92:UInt8))) then if ((b_ h 1)==(x1.length:Int)) then some (.inr<|.brk (G,b_ h 1)) else some (.inl<|b_ h 1) else some (.inl h)) (el (λH=>bd (idx x1 H) λV=>bd (psh G V) λW=>some<|.next (W,b_ H 1)) some) else some (.brk (G,h)))) n (([]:Bt),x2)) (el (un2 λG h=>some (([]:Bt),x2,false))<|λY=>some Y)
def g_T (x1:Bt):Option Int :=
 bd (u_ (σ:=Int) (ρ:=Int) (λG=>(λh=>bd (idx x1 (G:Int)) λH=>some<|.next<|b_f (b_ h<|byteI H) 256)) x1.length 0 0) (el (λh=>some h)<|λI=>some I)
structure g_U where
 spec_l11Read:f_->Int->Bt->Int->Option (Val×Int×Int)
 spec_l11Items:f_->d_->Int->Int->Bt->Int->Option (Val×Int×Int)
 spec_l11Choice:f_->d_->Bt->Int->Option (Val×Int×Int)
 spec_l11Option:f_->d_->Bt->Int->Option (Val×Int×Int)
 spec_l11Checked:f_->d_->Bt->Int->Option (Val×Int×Int)
def i_k (n:Nat)(rec:g_U)(x1:f_)(x2:Int)(x3:Bt)(x4:Int):Option (Val×Int×Int) :=
 bd (idx x1.rules x2) λh=>if (h.kind==1) then bd3 (d_f x1 x2 x3 x4) λI J L=>if (!L) then some ((⟨0,([]:Bt),([]:List Val)⟩:Val),x4,1) else some ((⟨I,([]:Bt),([]:List Val)⟩:Val),J,0) else if (h.kind==2) then bd3 (i_i h x3 x4) λO V W=>some (O,V,W) else if (h.kind==3) then bd3 (g_S x3 x4 h.size) λY a0 a1=>some (Y,a0,a1) else if (h.kind==10) then bd (idx h.bytes 0) λa2=>bd3 (i_j n x3 x4 a2) λa3 a4 a5=>if (!a5) then some ((⟨0,([]:Bt),([]:List Val)⟩:Val),x4,1) else some ((⟨0,a3,([]:List Val)⟩:Val),a4,0) else if (h.kind==6) then bd3 (rec.spec_l11Items x1 h 0 (h.kids.length:Int) x3 x4) λa6 a7 a8=>some (a6,a7,a8) else if (h.kind==7) then bd3 (rec.spec_l11Choice x1 h x3 x4) λa9 aa ab=>some (a9,aa,ab) else if (h.kind==8) then bd3 (rec.spec_l11Option x1 h x3 x4) λad ae af=>some (ad,ae,af) else if (h.kind==9) then bd3 (rec.spec_l11Checked x1 h x3 x4) λah ai aj=>some (ah,ai,aj) else bd (idx h.kids 0) λak=>bd3 (d_f x1 ak x3 x4) λG H al=>if (!al) then some ((⟨0,([]:Bt),([]:List Val)⟩:Val),x4,1) else if (h.kind==4) then bd3 (g_S x3 H G) λam an ao=>some (am,an,ao) else if (decide<|40<G) then some ((⟨0,([]:Bt),([]:List Val)⟩:Val),x4,6) else bd3 (rec.spec_l11Items x1 h 0 G x3 H) λap aq ar=>some (ap,aq,ar)
def i_l (n:Nat)(rec:g_U)(x1:f_)(x2:d_)(x3:Int)(x4:Int)(x5:Bt)(x6:Int):Option (Val×Int×Int) :=
 bd (u_ (σ:=Int×(List Val)) (ρ:=Val×Int×Int) (λL=>un2 λh G=>bd (α:=Int×Bt×(List Val)×Int×Int) (bd (d_D x2 x3 (L:Int)) λO=>bd3 (rec.spec_l11Read x1 O x5 h) λH V W=>some (H.number,H.bytes,H.items,V,W)) (un5 λY a0 a1 I J=>if (J != 0) then some (.ret ((⟨0,([]:Bt),([]:List Val)⟩:Val),I,J)) else bd (psh G (⟨Y,a0,a1⟩:Val)) λa2=>some<|.next (I,a2))) x4.toNat 0 (x6,([]:List Val))) (el (un2 λh G=>some ((⟨0,([]:Bt),G⟩:Val),h,0))<|λa3=>some a3)
def i_m (n:Nat)(rec:g_U)(x1:f_)(x2:d_)(x3:Bt)(x4:Int):Option (Val×Int×Int) :=
 bd (idx x2.kids 0) λI=>bd3 (d_f x1 I x3 x4) λh J L=>if (!L) then some ((⟨0,([]:Bt),([]:List Val)⟩:Val),x4,1) else bd (d_D x2 h 0) λO=>if (decide<|O<0) then some ((⟨0,([]:Bt),([]:List Val)⟩:Val),x4,3) else bd3 (rec.spec_l11Items x1 x2 h 1 x3 J) λG V H=>bd (α:=Int) (if (H==0) then some h else some G.number)<|λW=>some ((⟨W,G.bytes,G.items⟩:Val),V,H)
def i_n (n:Nat)(rec:g_U)(x1:f_)(x2:d_)(x3:Bt)(x4:Int):Option (Val×Int×Int) :=
 if (decide<|(x3.length:Int)<=x4) then some ((⟨0,([]:Bt),([]:List Val)⟩:Val),x4,1) else bd (idx x3 x4) λh=>if (decide<|(byteI (1:UInt8))<(byteI h)) then some ((⟨0,([]:Bt),([]:List Val)⟩:Val),x4,4) else bd (idx x3 x4) λG=>bd3 (rec.spec_l11Items x1 x2 0 (byteI G) x3<|b_ x4 1) λH I J=>some (H,I,J)
def i_o (n:Nat)(rec:g_U)(x1:f_)(x2:d_)(x3:Bt)(x4:Int):Option (Val×Int×Int) :=
 bd3 (rec.spec_l11Items x1 x2 0 1 x3 x4) λG h H=>if (H != 0) then some (G,h,H) else if (decide<|(x3.length:Int)<=h) then some ((⟨0,([]:Bt),([]:List Val)⟩:Val),h,1) else bd (idx x3 h) λI=>bd (slc x3 x4 h) λJ=>bd (g_T J) λL=>if ((byteI I) != L) then some ((⟨0,([]:Bt),([]:List Val)⟩:Val),h,5) else some (G,b_ h 1,0)
def a_r:Nat->g_U
 | 0=>⟨λ_ _ _ _=>none,λ_ _ _ _ _ _=>none,λ_ _ _ _=>none,λ_ _ _ _=>none,λ_ _ _ _=>none⟩
 | n+1=>⟨i_k n<|a_r n,i_l n<|a_r n,i_m n<|a_r n,i_n n<|a_r n,i_o n<|a_r n⟩
def i_p (n:Nat):=(a_r n).spec_l11Read
def f_L (n:Nat):=(a_r n).spec_l11Items
def i_q (x1:f_)(x2:Int):Option Bool :=
 bd (α:=Bool) (bd (a_I x2 0<|w_ (x1.rules.length:Int) 1) λh=>if h then bd (g_O x1) λG=>some G else some false) (λH=>some H)
def i_r (n:Nat)(x1:f_)(x2:Int)(x3:Bt)(x4:Int):Option (Val×Int×Int) :=
 bd (α:=Bool) (bd (i_q x1 x2) λh=>if (!h) then some true else bd (a_I x4 0 (x3.length:Int)) λG=>if (!G) then some true else some (decide<|400<(x3.length:Int))) (λH=>if H then some ((⟨0,([]:Bt),([]:List Val)⟩:Val),0,8) else bd3 (i_p n x1 x2 x3 x4) λI J L=>some (I,J,L))
def i_s (n:Nat)(x1:f_)(x2:Bt):Option (Val×Int×Int) :=
 bd (α:=Int×Bt×(List Val)×Int×Int) (bd (g_P x1) λI=>bd3 (i_r n x1 I x2 0) λh J L=>some (h.number,h.bytes,h.items,J,L)) (un5 λO V W G H=>bd (α:=Bool) (if (H==0) then some (decide<|G<(x2.length:Int)) else some false) (λY=>if Y then some ((⟨0,([]:Bt),([]:List Val)⟩:Val),G,7) else some ((⟨O,V,W⟩:Val),G,H)))
def g_V (n:Nat)(x1:f_)(x2:Bt):Option Bool :=
 bd3 (i_s n x1 x2) λG H h=>some<|h==0
def f_8 (x1:Str)(x2:UInt8):Option (List Str) :=
 bd (u_ (σ:=(List Str)×Int) (ρ:=List Str) (λH=>un2 λh G=>bd (idx x1.b (H:Int)) λI=>bd (α:=(List Str)×Int) (if ((byteI I)==(byteI x2)) then bd (b_X x1 G (H:Int)) λJ=>bd (psh h J) λL=>some (L,((H+1:Nat):Int)) else some (h,G))<|un2 λO V=>some<|.next (O,V)) x1.b.length 0 (([]:List Str),0)) (el (un2 λh G=>bd (b_X x1 G (x1.b.length:Int)) λW=>bd (psh h W) λY=>some Y)<|λa0=>some a0)
def e_A (n:Nat)(x1:Str):Option Bool :=
 bd (α:=Bool) (if (decide<|(x1.b.length:Int)<1) then some true else some (decide<|12<(x1.b.length:Int))) (λG=>if G then some false else bd (I_ (σ:=Nat) (ρ:=Bool) (λh=>if (decide<|h<x1.b.length) then bd (α:=Bool) (if (decide<|97<=((dec x1 h).1)) then some (decide<|((dec x1 h).1)<=122) else some false) (λH=>bd (α:=Bool) (if (decide<|48<=((dec x1 h).1)) then some (decide<|((dec x1 h).1)<=57) else some false) (λI=>bd (α:=Bool) (if (!H) then if (!I) then some true else some ((h:Int)==0) else some false) (λJ=>if J then some (.ret false) else some (.next<|h+(dec x1 h).2)))) else some (.brk h)) n 0) (el (λh=>some true)<|λL=>some L))
def g_W (x1:Str):Option (Int×Bool) :=
 bd (α:=Bool) (if (x1.b==(⟨[]⟩:Str).b) then some true else if (decide<|13<(x1.b.length:Int)) then some true else bd (idx x1.b 0) λH=>if ((byteI H)==(byteI (48:UInt8))) then some (decide<|1<(x1.b.length:Int)) else some false) (λI=>if I then some (0,false) else bd (u_ (σ:=Int) (ρ:=Int×Bool) (λG=>(λh=>bd (α:=Bool) (bd (idx x1.b (G:Int)) λJ=>if (decide<|(byteI J)<(byteI (48:UInt8))) then some true else bd (idx x1.b (G:Int)) λL=>some<|decide<|(byteI (57:UInt8))<(byteI L)) (λO=>if O then some (.ret (0,false)) else bd (idx x1.b (G:Int)) λV=>some<|.next<|b_ (b_e 10 h)<|byteI<|mkB<|byteI V - byteI (48:UInt8)))) x1.b.length 0 0) (el (λh=>if (decide<|1000000000000<h) then some (0,false) else some (h,true))<|λW=>some W))
def f_9 (n:Nat)(x1:Str):Option Bool :=
 bd (α:=Bool) (bd (e_A n x1) λh=>if h then some true else if (x1.b==(⟨[42]⟩:Str).b) then some true else if (x1.b==(⟨[63]⟩:Str).b) then some true else some (x1.b==(⟨[43]⟩:Str).b)) (λG=>if G then some true else bd2 (g_W x1) λI H=>some H)
def l_e (n:Nat)(x1:Str):Option ((List Str)×Bool) :=
 if (x1.b==(⟨[]⟩:Str).b) then some ([],true) else bd (idx x1.b 0) λc=>if (byteI c != byteI (47:UInt8)) then some ([],false) else bd (f_8 x1 (47:UInt8)) λl=>bd (slc l 1 (l.length:Int)) λparts=>bd (f_I (f_9 n) parts) λoks=>if parts.length<LIM then some (if oks.all id then (parts,true) else ([],false)) else none
def i_t (n:Nat)(x1:Str):Option ((List Str)×Bool) :=
 bd2 (l_e n x1) λh G=>some (h,G)
def c_o (x1:Int)(x2:Int)(x3:Int):Option Bool :=
 bd (α:=Bool) (if (decide<|x2<=x1) then some (decide<|x1<=x3) else some false) (λh=>some h)
def f_a (x1:f_)(x2:Int):Option Bool :=
 bd (α:=Bool) (if (decide<|0<=x2) then some (decide<|x2<(x1.rules.length:Int)) else some false) (λh=>some h)
def c_M (x1:d_)(x2:Bool)(x3:Bool)(x4:Bool)(x5:Bool)(x6:Int):Option Bool :=
 bd (α:=Bool) (bd (α:=Bool) (if x2 then some true else some (x1.size==0)) λh=>bd (α:=Bool) (if h then if x3 then some true else some ((x1.bytes.length:Int)==0) else some false) λG=>bd (α:=Bool) (if G then if x4 then some true else some ((x1.names.length:Int)==0) else some false) λH=>bd (α:=Bool) (if H then if x5 then some true else some ((x1.tags.length:Int)==0) else some false) λI=>if I then if (decide<|x6<0) then some true else some ((x1.kids.length:Int)==x6) else some false) (λJ=>some J)
def f_M (x1:f_)(x2:Int):Option Int :=
 bd (α:=Bool) (bd (f_a x1 x2) λG=>if (!G) then some true else bd (idx x1.rules x2) λH=>if (H.kind != 1) then some true else bd (idx x1.rules x2) λI=>bd (c_o I.size 1 4) λJ=>some (!J)) (λL=>if L then some (-1) else bd (idx x1.rules x2) λh=>bd (nn<|b_e 8 h.size) λO=>some<|w_ (b_y .i64 1<|b_e 8 h.size) 1)
def g_X (x1:List Str)(x2:Str):Option Bool :=
 bd (u_ (σ:=Unit) (ρ:=Bool) (λh=>(λ(_:Unit)=>bd (idx x1 (h:Int)) λG=>if (G.b==x2.b) then some (.ret true) else some (.next ()))) x1.length 0 ()) (el (λ(_:Unit)=>some false)<|λH=>some H)
def i_u (n:Nat)(x1:d_):Option Bool :=
 bd (α:=Bool) (bd (c_M x1 false false true false (-1)) λH=>if (!H) then some true else if ((x1.kids.length:Int) != (x1.names.length:Int)) then some true else bd (c_o (x1.kids.length:Int) 1 8) λI=>some (!I)) (λJ=>if J then some false else bd (u_ (σ:=Unit) (ρ:=Bool) (λh=>(λ(_:Unit)=>bd (idx x1.names (h:Int)) λG=>bd (α:=Bool) (bd (e_A n G) λL=>if (!L) then some true else bd (slc x1.names 0 (h:Int)) λO=>bd (g_X O G) λV=>some V) (λW=>if W then some (.ret false) else some (.next ())))) x1.names.length 0 ()) (el (λ(_:Unit)=>some true)<|λY=>some Y))
def i_v (x1:f_)(x2:d_):Option Bool :=
 bd (α:=Bool) (bd (c_M x2 false false false true<|b_ (x2.tags.length:Int) 1) λI=>if (!I) then some true else bd (c_o (x2.tags.length:Int) 1 8) λJ=>some (!J)) (λL=>if L then some false else bd (idx x2.kids 0) λO=>bd (f_M x1 O) λG=>bd (u_ (σ:=Unit) (ρ:=Bool) (λh=>(λ(_:Unit)=>bd (idx x2.tags (h:Int)) λH=>bd (α:=Bool) (bd (c_o H 0 G) λV=>if (!V) then some true else if (decide<|0<(h:Int)) then bd (idx x2.tags<|w_ (h:Int) 1) λW=>some (decide<|H<=W) else some false) (λY=>if Y then some (.ret false) else some (.next ())))) x2.tags.length 0 ())<|el (λ(_:Unit)=>some<|decide<|0<G)<|λa0=>some a0)
def i_w (n:Nat)(x1:f_)(x2:d_):Option Bool :=
 if (x2.kind==1) then bd (α:=Bool) (bd (c_M x2 true false false false 0) λh=>if h then bd (c_o x2.size 1 4) λG=>if G then if (!x2.little) then some true else some (decide<|1<x2.size) else some false else some false) (λH=>some H) else if (x2.kind==2) then bd (α:=Bool) (bd (c_M x2 false true false false 0) λI=>if I then bd (c_o (x2.bytes.length:Int) 1 16) λJ=>some J else some false) (λL=>some L) else if (x2.kind==3) then bd (α:=Bool) (bd (c_M x2 true false false false 0) λO=>if O then bd (c_o x2.size 1 64) λV=>some V else some false) (λW=>some W) else if (x2.kind==4) then bd (α:=Bool) (bd (c_M x2 false false false false 1) λY=>if Y then bd (idx x2.kids 0) λa0=>bd (f_M x1 a0) λa1=>some (decide<|0<a1) else some false) (λa2=>some a2) else if (x2.kind==5) then bd (α:=Bool) (bd (c_M x2 false false false false 2) λa3=>if a3 then bd (idx x2.kids 0) λa4=>bd (f_M x1 a4) λa5=>some (decide<|0<a5) else some false) (λa6=>some a6) else if (x2.kind==6) then bd (i_u n x2) λa7=>some a7 else if (x2.kind==7) then bd (i_v x1 x2) λa8=>some a8 else bd (α:=Bool) (if (x2.kind==8) then some (x2.kind==8) else some (x2.kind==9)) (λa9=>if a9 then bd (c_M x2 false false false false 1) λaa=>some aa else if (x2.kind==10) then bd (α:=Bool) (bd (c_M x2 false true false false 0) λab=>if ab then if ((x2.bytes.length:Int)==1) then bd (idx x2.bytes 0) λad=>some ((byteI ad) != (byteI (92:UInt8))) else some false else some false) (λae=>some ae) else some false)
def i_x (n:Nat)(x1:f_)(x2:Int):Option Bool :=
 bd (f_a x1 x2) λI=>if (!I) then some false else bd (idx x1.rules x2) λh=>bd (α:=Bool) (bd (e_A n h.name) λJ=>if (!J) then some true else if h.little then some (h.kind != 1) else some false) (λL=>if L then some false else bd (slc x1.rules 0 x2) λG=>bd (u_ (σ:=Unit) (ρ:=Bool) (λO=>(λ(_:Unit)=>bd (idx G (O:Int)) λV=>if (V.name.b==h.name.b) then some (.ret false) else some (.next ()))) G.length 0 ()) (el (λ(_:Unit)=>bd (u_ (σ:=Unit) (ρ:=Bool) (λW=>(λ(_:Unit)=>bd (idx h.kids (W:Int)) λH=>bd (α:=Bool) (if (decide<|H<0) then some true else some (decide<|x2<=H)) (λY=>if Y then some (.ret false) else some (.next ())))) h.kids.length 0 ())<|el (λ(_:Unit)=>bd (i_w n x1 h) λa0=>some a0)<|λa1=>some a1)<|λa2=>some a2))
def g_Y (n:Nat)(x1:f_):Option Bool :=
 bd (c_o (x1.rules.length:Int) 1 24) λh=>if (!h) then some false else bd (u_ (σ:=Unit) (ρ:=Bool) (λG=>(λ(_:Unit)=>bd (i_x n x1 (G:Int)) λH=>if (!H) then some (.ret false) else some (.next ()))) x1.rules.length 0 ()) (el (λ(_:Unit)=>some true)<|λI=>some I)
def g_Z (x1:f_):Option Int :=
 some (w_ (x1.rules.length:Int) 1)
def f_N (n:Nat)(x1:f_)(x2:Int):Option Bool :=
 bd (α:=Bool) (bd (g_Y n x1) λh=>if h then bd (f_a x1 x2) λG=>some G else some false) (λH=>some H)
def e_B (x1:a_5)(x2:Int)(x3:Int):Option T_ :=
 if (decide<|(w_ (x1.b.length:Int) x2)<x3) then some (⟨x2,1⟩:T_) else some (⟨b_ x2 x3,0⟩:T_)
def h_0 (x1:Bt)(x2:Bool):Option Int :=
 if (decide<|4<(x1.length:Int)) then some 0 else bd (u_ (σ:=Int) (ρ:=Int) (λG=>(λh=>bd (α:=Int) (if x2 then bd (idx x1<|w_ (w_ (x1.length:Int) 1) (G:Int)) λH=>some (c_1 .i64 (· ||| ·) (b_y .i64 h 8)<|byteI H) else bd (idx x1 (G:Int)) λI=>some<|c_1 .i64 (· ||| ·) (b_y .i64 h 8)<|byteI I)<|λJ=>some<|.next J)) x1.length 0 0) (el (λh=>some h)<|λL=>some L)
def f_b (x1:a_5)(x2:Int)(x3:Int):Option (Int×T_×Int) :=
 bd (idx x1.d.rules x2) λG=>bd (e_B (⟨(⟨x1.d.rules⟩:f_),x1.b,b_ x1.applied 1⟩:a_5) x3 G.size) λh=>if (h.code != 0) then some (0,h,b_ x1.applied 1) else bd (slc x1.b x3 h.at_) λH=>bd (h_0 H G.little) λI=>some (I,h,b_ x1.applied 1)
def i_y (x1:a_5)(x2:d_)(x3:Int):Option T_ :=
 bd (u_ (σ:=Unit) (ρ:=T_) (λh=>(λ(_:Unit)=>bd (idx x2.bytes (h:Int)) λG=>if ((b_ x3 (h:Int))==(x1.b.length:Int)) then some (.ret (⟨x3,1⟩:T_)) else bd (idx x1.b<|b_ x3 (h:Int)) λH=>if ((byteI H) != (byteI G)) then some (.ret (⟨b_ x3 (h:Int),2⟩:T_)) else some (.next ()))) x2.bytes.length 0 ()) (el (λ(_:Unit)=>some (⟨b_ x3 (x2.bytes.length:Int),0⟩:T_))<|λI=>some I)
def f_O (x1:Bt):Option Int :=
 bd (u_ (σ:=Int) (ρ:=Int) (λG=>(λh=>bd (idx x1 (G:Int)) λH=>some<|.next<|b_ h<|byteI H)) x1.length 0 0) (el (λh=>some<|b_f h 256)<|λI=>some I)
def h_1 (n:Nat)(x1:Bt)(x2:Int)(x3:UInt8):Option (Bt×Int×Bool) :=
 bd (α:=Bool) (if (decide<|x2<0) then some true else some (decide<|(x1.length:Int)<x2)) (λI=>if I then some (([]:Bt),x2,false) else bd (I_ (σ:=Bt×Int) (ρ:=Bt×Int×Bool) (un2 λG h=>if (decide<|h<(x1.length:Int)) then bd (idx x1 h) λJ=>if ((byteI J)==(byteI x3)) then some (.ret (G,b_ h 1,true)) else bd (idx x1 h) λL=>bd (α:=Sum Int<|Out (Bt×Int)<|Bt×Int×Bool) (if ((byteI L)==(byteI (92:UInt8))) then if ((b_ h 1)==(x1.length:Int)) then some (.inr<|.brk (G,b_ h 1)) else some (.inl<|b_ h 1) else some (.inl h)) (el (λH=>bd (idx x1 H) λO=>bd (psh G O) λV=>some<|.next (V,b_ H 1)) some) else some (.brk (G,h))) n (([]:Bt),x2)) (el (un2 λG h=>some (([]:Bt),x2,false))<|λW=>some W))
structure h_2 where
 impl_checker_value:a_5->Int->Int->Option (T_×Int)
 impl_checker_array:a_5->d_->Int->Option (T_×Int)
 impl_checker_choice:a_5->d_->Int->Option (T_×Int)
 impl_checker_option:a_5->d_->Int->Option (T_×Int)
 impl_checker_checked:a_5->d_->Int->Option (T_×Int)
def i_z (n:Nat)(rec:h_2)(x1:a_5)(x2:Int)(x3:Int):Option (T_×Int) :=
 bd (idx x1.d.rules x2) λh=>if (h.kind==1) then bd3 (f_b x1 x2 x3) λal W Y=>some (W,Y) else if (h.kind==2) then bd (i_y (⟨(⟨x1.d.rules⟩:f_),x1.b,b_ x1.applied 1⟩:a_5) h x3) λa0=>some (a0,b_ x1.applied 1) else if (h.kind==3) then bd (e_B (⟨(⟨x1.d.rules⟩:f_),x1.b,b_ x1.applied 1⟩:a_5) x3 h.size) λa1=>some (a1,b_ x1.applied 1) else if (h.kind==4) then bd (idx h.kids 0) λa2=>bd3 (f_b (⟨(⟨x1.d.rules⟩:f_),x1.b,b_ x1.applied 1⟩:a_5) a2 x3) λa3 H I=>if (H.code != 0) then some (H,I) else bd (e_B (⟨(⟨x1.d.rules⟩:f_),x1.b,I⟩:a_5) H.at_ a3) λa4=>some (a4,I) else if (h.kind==5) then bd2 (rec.impl_checker_array (⟨(⟨x1.d.rules⟩:f_),x1.b,b_ x1.applied 1⟩:a_5) h x3) λa5 a6=>some (a5,a6) else if (h.kind==6) then bd (u_ (σ:=Int×Int×Int) (ρ:=T_×Int) (λa7=>un3 λJ L O=>bd (idx h.kids (a7:Int)) λa8=>bd2 (rec.impl_checker_value (⟨(⟨x1.d.rules⟩:f_),x1.b,J⟩:a_5) a8 L) λG V=>if (G.code != 0) then some (.brk (V,G.at_,G.code)) else some (.next (V,G.at_,G.code))) h.kids.length 0 (b_ x1.applied 1,x3,0)) (el (un3 λJ L O=>some ((⟨L,O⟩:T_),J))<|λa9=>some a9) else if (h.kind==7) then bd2 (rec.impl_checker_choice (⟨(⟨x1.d.rules⟩:f_),x1.b,b_ x1.applied 1⟩:a_5) h x3) λaa ab=>some (aa,ab) else if (h.kind==8) then bd2 (rec.impl_checker_option (⟨(⟨x1.d.rules⟩:f_),x1.b,b_ x1.applied 1⟩:a_5) h x3) λad ae=>some (ad,ae) else if (h.kind==9) then bd2 (rec.impl_checker_checked (⟨(⟨x1.d.rules⟩:f_),x1.b,b_ x1.applied 1⟩:a_5) h x3) λaf ah=>some (af,ah) else bd (idx h.bytes 0) λai=>bd3 (h_1 n x1.b x3 ai) λam aj ak=>if (!ak) then some ((⟨x3,1⟩:T_),b_ x1.applied 1) else some ((⟨aj,0⟩:T_),b_ x1.applied 1)
def i_A (n:Nat)(rec:h_2)(x1:a_5)(x2:d_)(x3:Int):Option (T_×Int) :=
 bd (idx x2.kids 0) λW=>bd3 (f_b x1 W x3) λL J O=>bd (α:=Bool) (if (J.code==0) then some (decide<|40<L) else some false) (λY=>if Y then some ((⟨x3,6⟩:T_),O) else bd (I_ (σ:=Int×Int×Int×Int) (ρ:=T_×Int) (un4 λh G H I=>bd (α:=Bool) (if (decide<|0<h) then some (I==0) else some false) (λa0=>if a0 then bd (idx x2.kids 1) λa1=>bd2 (rec.impl_checker_value (⟨(⟨x1.d.rules⟩:f_),x1.b,G⟩:a_5) a1 H) λV a2=>some (.next (w_ h 1,a2,V.at_,V.code)) else some (.brk (h,G,H,I)))) n (L,O,J.at_,J.code)) (el (un4 λh G H I=>some ((⟨H,I⟩:T_),G))<|λa3=>some a3))
def i_B (n:Nat)(rec:h_2)(x1:a_5)(x2:d_)(x3:Int):Option (T_×Int) :=
 bd (idx x2.kids 0) λI=>bd3 (f_b x1 I x3) λJ h G=>if (h.code != 0) then some (h,G) else bd (u_ (σ:=Unit) (ρ:=T_×Int) (λH=>(λ(_:Unit)=>bd (idx x2.tags (H:Int)) λL=>if (L==J) then bd (idx x2.kids ((H+1:Nat):Int)) λO=>bd2 (rec.impl_checker_value (⟨(⟨x1.d.rules⟩:f_),x1.b,G⟩:a_5) O h.at_) λV W=>some (.ret (V,W)) else some (.next ()))) x2.tags.length 0 ()) (el (λ(_:Unit)=>some ((⟨x3,3⟩:T_),G))<|λY=>some Y)
def i_C (n:Nat)(rec:h_2)(x1:a_5)(x2:d_)(x3:Int):Option (T_×Int) :=
 bd (e_B x1 x3 1) λh=>bd (α:=Bool) (if (h.code != 0) then some true else bd (idx x1.b x3) λG=>some<|(byteI G)==(byteI (0:UInt8))) (λH=>if H then some (h,x1.applied) else bd (idx x1.b x3) λI=>if (decide<|(byteI (1:UInt8))<(byteI I)) then some ((⟨x3,4⟩:T_),x1.applied) else bd (idx x2.kids 0) λJ=>bd2 (rec.impl_checker_value x1 J h.at_) λL O=>some (L,O))
def i_D (n:Nat)(rec:h_2)(x1:a_5)(x2:d_)(x3:Int):Option (T_×Int) :=
 bd (idx x2.kids 0) λI=>bd2 (rec.impl_checker_value x1 I x3) λh G=>if (h.code != 0) then some (h,G) else bd (e_B (⟨(⟨x1.d.rules⟩:f_),x1.b,G⟩:a_5) h.at_ 1) λH=>bd (α:=Bool) (if (H.code==0) then bd (idx x1.b h.at_) λJ=>bd (slc x1.b x3 h.at_) λL=>bd (f_O L) λO=>some ((byteI J) != O) else some false) (λV=>if V then some ((⟨h.at_,5⟩:T_),G) else some (H,G))
def a_E:Nat->h_2
 | 0=>⟨λ_ _ _=>none,λ_ _ _=>none,λ_ _ _=>none,λ_ _ _=>none,λ_ _ _=>none⟩
 | n+1=>⟨i_z n<|a_E n,i_A n<|a_E n,i_B n<|a_E n,i_C n<|a_E n,i_D n<|a_E n⟩
def q_O (n:Nat):=(a_E n).impl_checker_value
def i_E (n:Nat)(x1:f_)(x2:Int)(x3:Bt)(x4:Int):Option (Int×Int) :=
 bd (α:=Bool) (bd (f_N n x1 x2) λG=>if (!G) then some true else if (decide<|x4<0) then some true else if (decide<|(x3.length:Int)<x4) then some true else some (decide<|400<(x3.length:Int))) (λH=>if H then some (0,8) else bd2 (q_O n (⟨(⟨x1.rules⟩:f_),x3,0⟩:a_5) x2 x4) λh I=>some (h.at_,h.code))
def c_d (x1:Int)(x2:Int):Option (Option<|Int×Int) :=
 some (some (x1,x2))
def f_c (x1:a_z)(x2:Int)(x3:Int):Option (Bt×(Option<|Int×Int)) :=
 if (decide<|(w_ (x1.b.length:Int) x2)<x3) then bd (c_d x2 1) λh=>some (([]:Bt),h) else bd (slc x1.b x2<|b_ x2 x3) λG=>some (G,none)
def f_d (x1:a_z)(x2:Int)(x3:Int):Option (Int×Int×(Option<|Int×Int)) :=
 bd (idx x1.d.rules x2) λh=>bd2 (f_c x1 x3 h.size) λH G=>if G.isSome then some (0,x3,G) else bd (h_0 H h.little) λI=>some (I,b_ x3 h.size,none)
def i_F (x1:a_z)(x2:d_)(x3:Int):Option (Int×(Option<|Int×Int)) :=
 bd (u_ (σ:=Unit) (ρ:=Int×(Option<|Int×Int)) (λh=>(λ(_:Unit)=>bd (idx x2.bytes (h:Int)) λG=>if (decide<|(x1.b.length:Int)<=(b_ x3 (h:Int))) then bd (c_d x3 1) λH=>some (.ret (x3,H)) else bd (idx x1.b<|b_ x3 (h:Int)) λI=>if ((byteI I) != (byteI G)) then bd (c_d (b_ x3 (h:Int)) 2) λJ=>some (.ret (x3,J)) else some (.next ()))) x2.bytes.length 0 ()) (el (λ(_:Unit)=>some (b_ x3 (x2.bytes.length:Int),none))<|λL=>some L)
def h_3 (x1:a_z)(x2:Int)(x3:Int):Option (Val×Int×(Option<|Int×Int)) :=
 bd2 (f_c x1 x2 x3) λG h=>if h.isSome then some ((⟨0,([]:Bt),([]:List Val)⟩:Val),x2,h) else bd (app ([]:Bt) G) λH=>some ((⟨0,H,([]:List Val)⟩:Val),b_ x2 x3,none)
structure f_P where
 impl_fileReader_value:a_z->Int->Int->Option (Val×Int×(Option<|Int×Int))
 impl_fileReader_array:a_z->d_->Int->Option (Val×Int×(Option<|Int×Int))
 impl_fileReader_items:a_z->Val->(List Int)->Int->Option (Val×Int×(Option<|Int×Int))
 impl_fileReader_choice:a_z->d_->Int->Option (Val×Int×(Option<|Int×Int))
 impl_fileReader_option:a_z->d_->Int->Option (Val×Int×(Option<|Int×Int))
 impl_fileReader_checked:a_z->d_->Int->Option (Val×Int×(Option<|Int×Int))
def i_G (n:Nat)(rec:f_P)(x1:a_z)(x2:Int)(x3:Int):Option (Val×Int×(Option<|Int×Int)) :=
 bd (idx x1.d.rules x2) λh=>if (h.kind==1) then bd3 (f_d x1 x2 x3) λH I J=>some ((⟨H,([]:Bt),([]:List Val)⟩:Val),I,J) else if (h.kind==2) then bd2 (i_F x1 h x3) λL O=>some ((⟨0,([]:Bt),([]:List Val)⟩:Val),L,O) else if (h.kind==3) then bd3 (h_3 x1 x3 h.size) λV W Y=>some (V,W,Y) else if (h.kind==4) then bd (idx h.kids 0) λa0=>bd3 (f_d x1 a0 x3) λa1 a2 G=>if G.isSome then some ((⟨0,([]:Bt),([]:List Val)⟩:Val),x3,G) else bd3 (h_3 x1 a2 a1) λa3 a4 a5=>some (a3,a4,a5) else if (h.kind==5) then bd3 (rec.impl_fileReader_array x1 h x3) λa6 a7 a8=>some (a6,a7,a8) else if (h.kind==6) then bd3 (rec.impl_fileReader_items x1 (⟨0,([]:Bt),([]:List Val)⟩:Val) h.kids x3) λa9 aa ab=>some (a9,aa,ab) else if (h.kind==7) then bd3 (rec.impl_fileReader_choice x1 h x3) λad ae af=>some (ad,ae,af) else if (h.kind==8) then bd3 (rec.impl_fileReader_option x1 h x3) λah ai aj=>some (ah,ai,aj) else if (h.kind==9) then bd3 (rec.impl_fileReader_checked x1 h x3) λak al am=>some (ak,al,am) else bd (idx h.bytes 0) λan=>bd3 (h_1 n x1.b x3 an) λao ap aq=>if (!aq) then bd (c_d x3 1) λar=>some ((⟨0,([]:Bt),([]:List Val)⟩:Val),x3,ar) else some ((⟨0,ao,([]:List Val)⟩:Val),ap,none)
def i_H (n:Nat)(rec:f_P)(x1:a_z)(x2:d_)(x3:Int):Option (Val×Int×(Option<|Int×Int)) :=
 bd (idx x2.kids 0) λJ=>bd3 (f_d x1 J x3) λG L H=>if H.isSome then some ((⟨0,([]:Bt),([]:List Val)⟩:Val),x3,H) else if (decide<|40<G) then bd (c_d x3 6) λO=>some ((⟨0,([]:Bt),([]:List Val)⟩:Val),x3,O) else bd (mk0 0 G) λI=>bd (u_ (σ:=List Int) (ρ:=Val×Int×(Option<|Int×Int)) (λV=>(λh=>bd (idx x2.kids 1) λW=>bd (upd h (V:Int) W) λY=>some<|.next Y)) I.length 0 I)<|el (λh=>bd3 (rec.impl_fileReader_items x1 (⟨0,([]:Bt),([]:List Val)⟩:Val) h L) λa0 a1 a2=>some (a0,a1,a2))<|λa3=>some a3
def i_I (n:Nat)(rec:f_P)(x1:a_z)(x2:Val)(x3:List Int)(x4:Int):Option (Val×Int×(Option<|Int×Int)) :=
 bd (u_ (σ:=Int×(List Val)) (ρ:=Val×Int×(Option<|Int×Int)) (λI=>un2 λh G=>bd (idx x3 (I:Int)) λJ=>bd3 (rec.impl_fileReader_value x1 J h) λL O H=>if H.isSome then some (.ret ((⟨0,([]:Bt),([]:List Val)⟩:Val),h,H)) else bd (psh G L) λV=>some<|.next (O,V)) x3.length 0 (x4,x2.items)) (el (un2 λh G=>some ((⟨x2.number,x2.bytes,G⟩:Val),h,none))<|λW=>some W)
def i_J (n:Nat)(rec:f_P)(x1:a_z)(x2:d_)(x3:Int):Option (Val×Int×(Option<|Int×Int)) :=
 bd (idx x2.kids 0) λI=>bd3 (f_d x1 I x3) λG J H=>if H.isSome then some ((⟨0,([]:Bt),([]:List Val)⟩:Val),x3,H) else bd (u_ (σ:=Unit) (ρ:=Val×Int×(Option<|Int×Int)) (λh=>(λ(_:Unit)=>bd (idx x2.tags (h:Int)) λL=>if (L==G) then bd (slc x2.kids ((h+1:Nat):Int)<|b_ (h:Int) 2) λO=>bd3 (rec.impl_fileReader_items x1 (⟨G,([]:Bt),([]:List Val)⟩:Val) O J) λV W Y=>some (.ret (V,W,Y)) else some (.next ()))) x2.tags.length 0 ()) (el (λ(_:Unit)=>bd (c_d x3 3) λa0=>some ((⟨0,([]:Bt),([]:List Val)⟩:Val),x3,a0))<|λa1=>some a1)
def i_K (n:Nat)(rec:f_P)(x1:a_z)(x2:d_)(x3:Int):Option (Val×Int×(Option<|Int×Int)) :=
 bd2 (f_c x1 x3 1) λh G=>if G.isSome then some ((⟨0,([]:Bt),([]:List Val)⟩:Val),x3,G) else bd (idx h 0) λH=>if (decide<|(byteI (1:UInt8))<(byteI H)) then bd (c_d x3 4) λI=>some ((⟨0,([]:Bt),([]:List Val)⟩:Val),x3,I) else bd (idx h 0) λJ=>if ((byteI J)==(byteI (0:UInt8))) then some ((⟨0,([]:Bt),([]:List Val)⟩:Val),b_ x3 1,none) else bd3 (rec.impl_fileReader_items x1 (⟨0,([]:Bt),([]:List Val)⟩:Val) x2.kids<|b_ x3 1) λL O V=>some (L,O,V)
def i_L (n:Nat)(rec:f_P)(x1:a_z)(x2:d_)(x3:Int):Option (Val×Int×(Option<|Int×Int)) :=
 bd3 (rec.impl_fileReader_items x1 (⟨0,([]:Bt),([]:List Val)⟩:Val) x2.kids x3) λI h G=>if G.isSome then some ((⟨0,([]:Bt),([]:List Val)⟩:Val),x3,G) else bd2 (f_c x1 h 1) λJ H=>if H.isSome then some ((⟨0,([]:Bt),([]:List Val)⟩:Val),x3,H) else bd (idx J 0) λL=>bd (slc x1.b x3 h) λO=>bd (f_O O) λV=>if ((byteI L) != V) then bd (c_d h 5) λW=>some ((⟨0,([]:Bt),([]:List Val)⟩:Val),x3,W) else some (I,b_ h 1,none)
def a_g:Nat->f_P
 | 0=>⟨λ_ _ _=>none,λ_ _ _=>none,λ_ _ _ _=>none,λ_ _ _=>none,λ_ _ _=>none,λ_ _ _=>none⟩
 | n+1=>⟨i_G n<|a_g n,i_H n<|a_g n,i_I n<|a_g n,i_J n<|a_g n,i_K n<|a_g n,i_L n<|a_g n⟩
def l_f (n:Nat):=(a_g n).impl_fileReader_value
def f_Q (n:Nat):=(a_g n).impl_fileReader_items
def i_M (n:Nat)(x1:f_)(x2:Int)(x3:Bt)(x4:Int):Option (Val×Int×Int) :=
 bd (α:=Bool) (bd (f_N n x1 x2) λG=>if (!G) then some true else if (decide<|x4<0) then some true else if (decide<|(x3.length:Int)<x4) then some true else some (decide<|400<(x3.length:Int))) (λH=>if H then some ((⟨0,([]:Bt),([]:List Val)⟩:Val),0,8) else bd3 (l_f n (⟨(⟨x1.rules⟩:f_),x3⟩:a_z) x2 x4) λI J h=>if h.isSome then (bd2 h λL O=>some ((⟨0,([]:Bt),([]:List Val)⟩:Val),L,O)) else some (I,J,0))
def h_4 (n:Nat)(x1:f_)(x2:Bt):Option (Val×Int×Int) :=
 bd (α:=Int×Bt×(List Val)×Int×Int) (bd (g_Z x1) λI=>bd3 (i_M n x1 I x2 0) λh J L=>some (h.number,h.bytes,h.items,J,L)) (un5 λO V W G H=>bd (α:=Bool) (if (H==0) then some (decide<|G<(x2.length:Int)) else some false) (λY=>if Y then some ((⟨0,([]:Bt),([]:List Val)⟩:Val),G,7) else some ((⟨O,V,W⟩:Val),G,H)))
def i_N (n:Nat)(x1:f_)(x2:Bt):Option Bool :=
 bd3 (h_4 n x1 x2) λG H h=>some<|h==0
def n_j (x1:Bt)(x2:Bt):Option Bool :=
 some ((⟨x1⟩:Str).b==(⟨x2⟩:Str).b)
def l_g (x1:Bt)(x2:Bt):Option Bool :=
 bd (n_j x1 x2) λh=>some h
def h_5 (x1:Bt)(x2:Bt):Option Bool :=
 if ((x1.length:Int) != (x2.length:Int)) then some false else bd (u_ (σ:=Unit) (ρ:=Bool) (λh=>(λ(_:Unit)=>bd (idx x1 (h:Int)) λG=>bd (idx x2 (h:Int)) λH=>if ((byteI G) != (byteI H)) then some (.ret false) else some (.next ()))) x1.length 0 ()) (el (λ(_:Unit)=>some true)<|λI=>some I)
def i_O (x1:List Str)(x2:List Str):Option Bool :=
 if ((x1.length:Int) != (x2.length:Int)) then some false else bd (u_ (σ:=Unit) (ρ:=Bool) (λh=>(λ(_:Unit)=>bd (idx x1 (h:Int)) λG=>bd (idx x2 (h:Int)) λH=>if (G.b != H.b) then some (.ret false) else some (.next ()))) x1.length 0 ()) (el (λ(_:Unit)=>some true)<|λI=>some I)
def h_6 (x1:List Int)(x2:List Int):Option Bool :=
 if ((x1.length:Int) != (x2.length:Int)) then some false else bd (u_ (σ:=Unit) (ρ:=Bool) (λh=>(λ(_:Unit)=>bd (idx x1 (h:Int)) λG=>bd (idx x2 (h:Int)) λH=>if (G != H) then some (.ret false) else some (.next ()))) x1.length 0 ()) (el (λ(_:Unit)=>some true)<|λI=>some I)
def i_P (x1:d_)(x2:d_):Option Bool :=
 if (x1.name.b != x2.name.b) then some false else if (x1.kind != x2.kind) then some false else if (x1.size != x2.size) then some false else if (x1.little != x2.little) then some false else bd (h_5 x1.bytes x2.bytes) λh=>if (!h) then some false else bd (i_O x1.names x2.names) λG=>if (!G) then some false else bd (h_6 x1.tags x2.tags) λH=>if (!H) then some false else bd (h_6 x1.kids x2.kids) λI=>if (!I) then some false else some true
def l_h (x1:List d_)(x2:List d_):Option Bool :=
 if ((x1.length:Int) != (x2.length:Int)) then some false else bd (u_ (σ:=Unit) (ρ:=Bool) (λh=>(λ(_:Unit)=>bd (idx x1 (h:Int)) λG=>bd (idx x2 (h:Int)) λH=>bd (i_P G H) λI=>if (!I) then some (.ret false) else some (.next ()))) x1.length 0 ()) (el (λ(_:Unit)=>some true)<|λJ=>some J)
def i_Q (x1:f_)(x2:f_):Option Bool :=
 bd (l_h x1.rules x2.rules) λh=>if (!h) then some false else some true
def d_E (n:Nat)(x1:Int):Option Str :=
 if (decide<|x1<=0) then some (⟨[109,48]⟩:Str) else bd (I_ (σ:=Int×Str) (ρ:=Str) (un2 λh G=>if (decide<|0<h) then bd (cat (⟨[mkB (b_ 48<|b_f h 10)]⟩:Str) G) λH=>some (.next (d_p h 10,H)) else some (.brk (h,G))) n (x1,(⟨[]⟩:Str))) (el (un2 λh G=>bd (cat (⟨[109]⟩:Str) G) λI=>some I)<|λJ=>some J)
def h_7 (n:Nat)(x1:Bt)(x2:Int):Option (Int×Bt) :=
 bd (I_ (σ:=Bt×Int×Int) (ρ:=Int×Bt) (un3 λh G H=>if (decide<|H<(h.length:Int)) then bd (upd h H<|mkB G) λI=>some (.next (I,b_ G 1,b_ H 1)) else some (.brk (h,G,H))) n (x1,x2,0)) (el (un3 λh G H=>some (G,h))<|λJ=>some J)
def i_R (n:Nat)(x1:List Str)(x2:Int):Option (Int×(List Str)) :=
 bd (I_ (σ:=(List Str)×Int×Int) (ρ:=Int×(List Str)) (un3 λh G H=>if (decide<|H<(h.length:Int)) then bd (d_E n G) λI=>bd (upd h H I) λJ=>some (.next (J,b_ G 1,b_ H 1)) else some (.brk (h,G,H))) n (x1,x2,0)) (el (un3 λh G H=>some (G,h))<|λL=>some L)
def h_8 (n:Nat)(x1:List Int)(x2:Int):Option (Int×(List Int)) :=
 bd (I_ (σ:=(List Int)×Int×Int) (ρ:=Int×(List Int)) (un3 λh G H=>if (decide<|H<(h.length:Int)) then bd (upd h H G) λI=>some (.next (I,b_ G 1,b_ H 1)) else some (.brk (h,G,H))) n (x1,x2,0)) (el (un3 λh G H=>some (G,h))<|λJ=>some J)
def i_S (n:Nat)(x1:List d_)(x2:Int):Option (Int×(List d_)) :=
 bd (I_ (σ:=(List d_)×Int×Int) (ρ:=Int×(List d_)) (un3 λa0 J G=>if (decide<|G<(a0.length:Int)) then bd (d_E n J) λa8=>bd (idx a0 G) λO=>bd (upd a0 G (⟨a8,O.kind,O.size,O.little,O.bytes,O.names,O.tags,O.kids⟩:d_)) λa4=>bd (idx a4 G) λV=>bd (upd a4 G (⟨V.name,b_ J 1,V.size,V.little,V.bytes,V.names,V.tags,V.kids⟩:d_)) λa5=>bd (idx a5 G) λW=>bd (upd a5 G (⟨W.name,W.kind,b_ (b_ J 1) 1,W.little,W.bytes,W.names,W.tags,W.kids⟩:d_)) λa6=>bd (idx a6 G) λY=>bd (upd a6 G (⟨Y.name,Y.kind,Y.size,(b_f (b_ (b_ (b_ J 1) 1) 1) 3)==0,Y.bytes,Y.names,Y.tags,Y.kids⟩:d_)) λa1=>bd (idx a1 G) λh=>bd2 (h_7 n h.bytes<|b_ (b_ (b_ (b_ J 1) 1) 1) 1) λa9 a2=>bd (idx (a1.set (G).toNat (⟨h.name,h.kind,h.size,h.little,a2,h.names,h.tags,h.kids⟩:d_)) G) λH=>bd2 (i_R n H.names a9) λaa a3=>bd (idx ((a1.set (G).toNat (⟨h.name,h.kind,h.size,h.little,a2,h.names,h.tags,h.kids⟩:d_)).set (G).toNat (⟨H.name,H.kind,H.size,H.little,H.bytes,a3,H.tags,H.kids⟩:d_)) G) λI=>bd2 (h_8 n I.tags aa) λab a7=>bd (idx (((a1.set (G).toNat (⟨h.name,h.kind,h.size,h.little,a2,h.names,h.tags,h.kids⟩:d_)).set (G).toNat (⟨H.name,H.kind,H.size,H.little,H.bytes,a3,H.tags,H.kids⟩:d_)).set (G).toNat (⟨I.name,I.kind,I.size,I.little,I.bytes,I.names,a7,I.kids⟩:d_)) G) λL=>bd2 (h_8 n L.kids ab) λad ae=>some (.next ((((a1.set (G).toNat (⟨h.name,h.kind,h.size,h.little,a2,h.names,h.tags,h.kids⟩:d_)).set (G).toNat (⟨H.name,H.kind,H.size,H.little,H.bytes,a3,H.tags,H.kids⟩:d_)).set (G).toNat (⟨I.name,I.kind,I.size,I.little,I.bytes,I.names,a7,I.kids⟩:d_)).set (G).toNat (⟨L.name,L.kind,L.size,L.little,L.bytes,L.names,L.tags,ae⟩:d_),ad,b_ G 1)) else some (.brk (a0,J,G))) n (x1,x2,0)) (el (un3 λa0 J G=>some (J,a0))<|λaf=>some af)
structure q_P where
 spec_l19Build:f_->Int->Bt->Int->Str->Option ((List l_)×Int)
def i_T (n:Nat)(rec:q_P)(x1:f_)(x2:Int)(x3:Bt)(x4:Int)(x5:Str):Option ((List l_)×Int) :=
 bd (idx x1.rules x2) λh=>bd3 (i_p n x1 x2 x3 x4) λH I a9=>bd (α:=Bool) (if (h.kind==5) then some (h.kind==5) else some (h.kind==7)) (λO=>bd (α:=Int) (if O then bd (idx h.kids 0) λV=>bd3 (d_f x1 V x3 x4) λaa W ab=>some W else bd (α:=Int) (if (h.kind==8) then some (b_ x4 1) else some x4) (λY=>some Y))<|λa0=>bd (u_ (σ:=(List l_)×Int) (ρ:=(List l_)×Int) (λJ=>un2 λG L=>bd (cat x5 (⟨[47]⟩:Str)) λa1=>bd (d_D h H.number (J:Int)) λa2=>bd (g_R n h (J:Int)) λa3=>bd (cat a1 a3) λa4=>bd2 (rec.spec_l19Build x1 a2 x3 L a4) λa5 a6=>bd (app G a5) λa7=>some<|.next (a7,a6)) H.items.length 0 ([(⟨x5,x2,x4,I⟩:l_)],a0))<|el (un2 λG L=>some (G,I))<|λa8=>some a8)
def f_e:Nat->q_P
 | 0=>⟨λ_ _ _ _ _=>none⟩
 | n+1=>⟨i_T n<|f_e n⟩
def l_i (n:Nat):=(f_e n).spec_l19Build
def i_U (n:Nat)(x1:f_)(x2:Bt):Option ((List l_)×Bool) :=
 bd (g_V n x1 x2) λh=>if (!h) then some (([]:List l_),false) else bd (g_P x1) λG=>bd2 (l_i n x1 G x2 0 (⟨[]⟩:Str)) λH I=>some (H,true)
def l_j (x1:Int):Option Str :=
 bd (m_n x1) λh=>some h
def f_R (n:Nat)(x1:f_)(x2:Int)(x3:Int):Option Str :=
 bd (α:=Bool) (bd (f_N n x1 x2) λG=>if (!G) then some true else some (decide<|x3<0)) (λH=>if H then some (⟨[]⟩:Str) else bd (idx x1.rules x2) λh=>if (h.kind==5) then bd (l_j x3) λI=>some I else bd (α:=Bool) (if (h.kind==6) then some (decide<|x3<(h.names.length:Int)) else some false) (λJ=>if J then bd (idx h.names x3) λL=>some L else if (decide<|0<x3) then some (⟨[]⟩:Str) else if (h.kind==7) then some (⟨[42]⟩:Str) else if (h.kind==8) then some (⟨[63]⟩:Str) else if (h.kind==9) then some (⟨[43]⟩:Str) else some (⟨[]⟩:Str)))
def f_S (x1:f_)(x2:Int)(x3:Val)(x4:Int):Option Int :=
 bd (idx x1.rules x2) λh=>if (h.kind==5) then bd (idx h.kids 1) λH=>some H else bd (α:=Sum Unit Int) (if (h.kind==6) then if (decide<|x4<(h.kids.length:Int)) then bd (idx h.kids x4) λI=>some (.inr I) else some (.inl ()) else bd (α:=Sum Unit<|Sum Unit Int) (if (h.kind==7) then bd (u_ (σ:=Unit) (ρ:=Int) (λG=>(λ(_:Unit)=>bd (idx h.tags (G:Int)) λJ=>if (J==x3.number) then bd (idx h.kids ((G+1:Nat):Int)) λL=>some (.ret L) else some (.next ()))) h.tags.length 0 ()) (el (λ(_:Unit)=>some<|.inl ())<|λO=>some<|.inr<|.inr O) else bd (α:=Bool) (if (h.kind==8) then some (h.kind==8) else some (h.kind==9)) (λV=>if V then bd (idx h.kids 0) λW=>some (.inr<|.inr W) else some (.inl ()))) (el (λ(_:Unit)=>some<|.inl ()) some)) (el (λ(_:Unit)=>some (-1)) some)
structure q_Q where
 impl_indexer_part:d_I->Str->Int->Val->Int->Option (Int×(List l_))
def i_V (n:Nat)(rec:q_Q)(x1:d_I)(x2:Str)(x3:Int)(x4:Val)(x5:Int):Option (Int×(List l_)) :=
 bd (psh x1.list_ (⟨x2,x3,x5,0⟩:l_)) λO=>bd2 (i_E n (⟨x1.d.rules⟩:f_) x3 x1.b x5) λJ ab=>bd (idx x1.d.rules x3) λh=>bd (α:=Bool) (if (h.kind==5) then some (h.kind==5) else some (h.kind==7)) (λV=>bd (α:=Int) (if V then bd (idx h.kids 0) λW=>bd (idx x1.d.rules W) λY=>some (b_ x5 Y.size) else bd (α:=Int) (if (h.kind==8) then some (b_ x5 1) else some x5) (λa0=>some a0))<|λa1=>bd (u_ (σ:=Int×(List l_)) (ρ:=Int×(List l_)) (λH=>un2 λL G=>bd (cat x2 (⟨[47]⟩:Str)) λa2=>bd (idx x4.items (H:Int)) λa3=>bd (f_R n (⟨x1.d.rules⟩:f_) x3 (H:Int)) λa4=>bd (cat a2 a4) λa5=>bd (f_S (⟨x1.d.rules⟩:f_) x3 x4 (H:Int)) λa6=>bd2 (rec.impl_indexer_part (⟨(⟨x1.d.rules⟩:f_),x1.b,G⟩:d_I) a5 a6 a3 L) λa7 a8=>some<|.next (a7,a8)) x4.items.length 0 (a1,O))<|el (un2 λL G=>bd (idx G (x1.list_.length:Int)) λI=>bd (upd G (x1.list_.length:Int) (⟨I.path,I.rule,I.start,J⟩:l_)) λa9=>some (J,a9))<|λaa=>some aa)
def f_f:Nat->q_Q
 | 0=>⟨λ_ _ _ _ _=>none⟩
 | n+1=>⟨i_V n<|f_f n⟩
def i_W (n:Nat):=(f_f n).impl_indexer_part
def i_X (n:Nat)(x1:f_)(x2:Bt):Option ((List l_)×Bool) :=
 bd3 (h_4 n x1 x2) λh J G=>if (G != 0) then some (([]:List l_),false) else bd (g_Z x1) λH=>bd2 (i_W n (⟨(⟨x1.rules⟩:f_),x2,([]:List l_)⟩:d_I) (⟨[]⟩:Str) H h 0) λL I=>some (I,true)
def i_Y (n:Nat)(x1:Str):Option ((List Str)×Bool) :=
 if (x1.b==(⟨[]⟩:Str).b) then some (([]:List Str),true) else bd (g_M n x1 (47:UInt8)) λh=>bd (I_ (σ:=Int) (ρ:=(List Str)×Bool) (λG=>if (decide<|G<(h.length:Int)) then bd (α:=Bool) (bd (idx h G) λI=>bd (e_z n I) λJ=>if (!J) then bd (idx h G) λL=>if (L.b != (⟨[35]⟩:Str).b) then bd (idx h G) λO=>some (O.b != (⟨[46,46]⟩:Str).b) else some false else some false) (λV=>if V then some (.ret (([]:List Str),false)) else some (.next<|b_ G 1)) else some (.brk G)) n 1) (el (λG=>bd (α:=(List Str)×Bool) (bd (slc h 1 (h.length:Int)) λH=>bd (idx h 0) λW=>if (W.b==(⟨[]⟩:Str).b) then some (H,decide<|1<(h.length:Int)) else some (H,false))<|un2 λY a0=>some (Y,a0))<|λa1=>some a1)
def i_Z (n:Nat)(x1:List Str)(x2:List Str):Option Bool :=
 bd (mk0 false<|b_ (x2.length:Int) 1) λJ=>bd (upd J 0 true) λL=>bd (u_ (σ:=List Bool) (ρ:=Bool) (λH=>(λI=>bd (mk0 false<|b_ (x2.length:Int) 1) λO=>bd (I_ (σ:=(List Bool)×Int) (ρ:=Bool) (un2 λG h=>if (decide<|h<=(x2.length:Int)) then bd (α:=List Bool) (bd (idx x1 (H:Int)) λV=>if (V.b==(⟨[46,46]⟩:Str).b) then bd (α:=List Bool) (bd (idx I h) λW=>if W then bd (upd G h true) λY=>some Y else if (decide<|0<h) then bd (idx G<|w_ h 1) λa0=>bd (upd G h a0) λa1=>some a1 else bd (upd G h false) λa2=>some a2) (λa3=>some a3) else bd (α:=Bool) (if (h==0) then some true else bd (idx I<|w_ h 1) λa4=>some (!a4)) (λa5=>if a5 then some G else bd (idx x2<|w_ h 1) λa6=>bd2 (g_N n a6) λar a7=>bd (α:=List Bool) (bd (idx x1 (H:Int)) λa8=>if (a8.b==(⟨[35]⟩:Str).b) then if a7 then bd (upd G h true) λa9=>some a9 else bd (idx x1 (H:Int)) λaa=>bd (idx x2<|w_ h 1) λab=>if (aa.b==ab.b) then bd (idx x1 (H:Int)) λad=>bd (upd G h<|ad.b != (⟨[35]⟩:Str).b) λae=>some ae else bd (upd G h false) λaf=>some af else bd (idx x1 (H:Int)) λah=>bd (idx x2<|w_ h 1) λai=>if (ah.b==ai.b) then bd (idx x1 (H:Int)) λaj=>bd (upd G h<|aj.b != (⟨[35]⟩:Str).b) λak=>some ak else bd (upd G h false) λal=>some al)<|λam=>some am)) (λan=>some<|.next (an,b_ h 1)) else some (.brk (G,h))) n (O,0))<|el (un2 λG h=>some<|.next G)<|λao=>some<|.ret ao)) x1.length 0 L)<|el (λI=>bd (idx I (x2.length:Int)) λap=>some ap)<|λaq=>some aq
def j_0 (n:Nat)(x1:Str)(x2:Str):Option Bool :=
 bd2 (i_Y n x1) λh G=>bd2 (i_c n x2) λH I=>bd (α:=Bool) (if G then if I then bd (i_Z n h H) λJ=>some J else some false else some false)<|λL=>some L
def j_1 (n:Nat)(x1:f_)(x2:Bt)(x3:Str):Option (List l_) :=
 bd2 (i_U n x1 x2) λG Y=>bd (u_ (σ:=List l_) (ρ:=List l_) (λH=>(λh=>bd (idx G (H:Int)) λI=>bd (j_0 n x3 I.path) λJ=>bd (α:=List l_) (if J then bd (idx G (H:Int)) λL=>bd (psh h L) λO=>some O else some h)<|λV=>some<|.next V)) G.length 0 ([]:List l_))<|el (λh=>some h)<|λW=>some W
def f_T (n:Nat)(x1:Str):Option Bool :=
 bd (α:=Bool) (bd (f_9 n x1) λh=>if h then some true else if (x1.b==(⟨[35]⟩:Str).b) then some true else some (x1.b==(⟨[46,46]⟩:Str).b)) (λG=>some G)
def l_k (n:Nat)(x1:Str):Option ((List Str)×Bool) :=
 if (x1.b==(⟨[]⟩:Str).b) then some ([],true) else bd (idx x1.b 0) λc=>if (byteI c != byteI (47:UInt8)) then some ([],false) else bd (f_8 x1 (47:UInt8)) λl=>bd (slc l 1 (l.length:Int)) λparts=>bd (f_I (f_T n) parts) λoks=>if parts.length<LIM then some (if oks.all id then (parts,true) else ([],false)) else none
def j_2 (n:Nat)(x1:Str):Option ((List Str)×Bool) :=
 bd2 (l_k n x1) λh G=>some (h,G)
def j_3 (x1:List Str)(x2:Int)(x3:Str):Option Bool :=
 bd (idx x1 x2) λh=>if (h.b==(⟨[35]⟩:Str).b) then bd2 (g_W x3) λI G=>some G else bd (idx x1 x2) λH=>some<|H.b==x3.b
def l_l (x1:List Str)(x2:List Str):Option Bool :=
 bd (mk0 false<|b_ (x2.length:Int) 1) λJ=>bd (upd J 0 true) λL=>bd (u_ (σ:=List Bool) (ρ:=Bool) (λI=>(λH=>bd (mk0 false<|b_ (x2.length:Int) 1) λO=>bd (u_ (σ:=List Bool) (ρ:=Bool) (λh=>(λG=>bd (idx x1 (I:Int)) λV=>bd (α:=List Bool) (if (V.b==(⟨[46,46]⟩:Str).b) then bd (α:=List Bool) (bd (idx H (h:Int)) λW=>if W then bd (upd G (h:Int) true) λY=>some Y else if (decide<|0<(h:Int)) then bd (idx G<|w_ (h:Int) 1) λa0=>bd (upd G (h:Int) a0) λa1=>some a1 else bd (upd G (h:Int) false) λa2=>some a2) (λa3=>some a3) else bd (α:=List Bool) (if (decide<|0<(h:Int)) then bd (α:=List Bool) (bd (idx H<|w_ (h:Int) 1) λa4=>if a4 then bd (idx x2<|w_ (h:Int) 1) λa5=>bd (j_3 x1 (I:Int) a5) λa6=>bd (upd G (h:Int) a6) λa7=>some a7 else bd (upd G (h:Int) false) λa8=>some a8) (λa9=>some a9) else some G) (λaa=>some aa))<|λab=>some<|.next ab)) H.length 0 O)<|el (λG=>some<|.next G)<|λad=>some<|.ret ad)) x1.length 0 L)<|el (λH=>bd (idx H (x2.length:Int)) λae=>some ae)<|λaf=>some af
def j_4 (x1:List Str)(x2:List Str):Option Bool :=
 bd (l_l x1 x2) λh=>some h
def j_5 (n:Nat)(x1:Str)(x2:Str):Option Bool :=
 bd2 (j_2 n x1) λh G=>bd2 (i_t n x2) λH I=>bd (α:=Bool) (if G then if I then bd (j_4 h H) λJ=>some J else some false else some false)<|λL=>some L
def l_m (n:Nat)(x1:l_)(x2:Str):Option Bool :=
 bd (j_5 n x2 x1.path) λh=>some h
def l_n (n:Nat)(x1:List l_)(H:Str):Option (List l_) :=
 bd (u_ (σ:=List l_) (ρ:=List l_) (λI=>(λh=>bd (idx x1 (I:Int)) λG=>bd (l_m n G H) λJ=>bd (α:=List l_) (if J then bd (psh h G) λL=>some L else some h)<|λO=>some<|.next O)) x1.length 0 ([]:List l_)) (el (λh=>some h)<|λV=>some V)
def j_6 (n:Nat)(x1:f_)(x2:Bt)(x3:Str):Option (List l_) :=
 bd2 (i_X n x1 x2) λh G=>if (!G) then some ([]:List l_) else bd (l_n n h x3) λH=>some H
def j_7 (x1:l_)(x2:l_):Option Bool :=
 if (x1.path.b != x2.path.b) then some false else if (x1.rule != x2.rule) then some false else if (x1.start != x2.start) then some false else if (x1.end_ != x2.end_) then some false else some true
def f_U (x1:List l_)(x2:List l_):Option Bool :=
 if ((x1.length:Int) != (x2.length:Int)) then some false else bd (u_ (σ:=Unit) (ρ:=Bool) (λh=>(λ(_:Unit)=>bd (idx x1 (h:Int)) λG=>bd (idx x2 (h:Int)) λH=>bd (j_7 G H) λI=>if (!I) then some (.ret false) else some (.next ()))) x1.length 0 ()) (el (λ(_:Unit)=>some true)<|λJ=>some J)
def j_8 (n:Nat)(x1:List l_)(x2:Int):Option (Int×(List l_)) :=
 bd (I_ (σ:=(List l_)×Int×Int) (ρ:=Int×(List l_)) (un3 λH G h=>if (decide<|h<(H.length:Int)) then bd (d_E n G) λa0=>bd (idx H h) λI=>bd (upd H h (⟨a0,I.rule,I.start,I.end_⟩:l_)) λV=>bd (idx V h) λJ=>bd (upd V h (⟨J.path,b_ G 1,J.start,J.end_⟩:l_)) λW=>bd (idx W h) λL=>bd (upd W h (⟨L.path,L.rule,b_ (b_ G 1) 1,L.end_⟩:l_)) λY=>bd (idx Y h) λO=>bd (upd Y h (⟨O.path,O.rule,O.start,b_ (b_ (b_ G 1) 1) 1⟩:l_)) λa1=>some (.next (a1,b_ (b_ (b_ (b_ G 1) 1) 1) 1,b_ h 1)) else some (.brk (H,G,h))) n (x1,x2,0)) (el (un3 λH G h=>some (G,H))<|λa2=>some a2)
def h_9 (n:Nat)(x1:List l_)(x2:Int):Option Int :=
 bd (u_ (σ:=Int) (ρ:=Int) (λG=>(λh=>bd (idx x1 (G:Int)) λH=>bd (d_E n h) λI=>if (H.path.b != I.b) then some (.ret (-1)) else bd (idx x1 (G:Int)) λJ=>if (J.rule != (b_ h 1)) then some (.ret (-1)) else bd (idx x1 (G:Int)) λL=>if (L.start != (b_ (b_ h 1) 1)) then some (.ret (-1)) else bd (idx x1 (G:Int)) λO=>if (O.end_ != (b_ (b_ (b_ h 1) 1) 1)) then some (.ret (-1)) else some (.next<|b_ (b_ (b_ (b_ h 1) 1) 1) 1))) x1.length 0 x2) (el (λh=>some h)<|λV=>some V)
def j_9 (x1:List f_)(x2:Int):Option Int :=
 if (decide<|(w_ x2 (x1.length:Int))<0) then some (-1) else bd (u_ (σ:=Int) (ρ:=Int) (λH=>(λh=>bd (idx x1 (H:Int)) λI=>bd (g_J I h) λG=>if (decide<|G<0) then some (.ret (-1)) else some (.next G))) x1.length 0<|w_ x2 (x1.length:Int)) (el (λh=>some h)<|λJ=>some J)
def l_o (x1:a_c)(x2:Int):Option Int :=
 bd (j_9 x1.versions x2) λh=>if (decide<|h<0) then some (-1) else some h
def l_p (x1:Log)(x2:Int):Option Int :=
 bd (i_6 x1.bytes x2) λh=>if (decide<|h<0) then some (-1) else some h
def j_a (x1:J_)(x2:Int):Option Int :=
 bd (l_o (⟨x1.registry.versions⟩:a_c) x2) λh=>if (decide<|h<0) then some (-1) else bd (l_p (⟨x1.log.bytes,x1.log.stored⟩:Log) h) λG=>if (decide<|G<0) then some (-1) else some G
def j_b (x1:List f_):Option (List f_) :=
 bd (mk0 (⟨([]:List d_)⟩:f_) (x1.length:Int)) λH=>bd (u_ (σ:=List f_) (ρ:=List f_) (λG=>(λh=>bd (idx x1 (G:Int)) λI=>bd (i_b I) λJ=>bd (upd h (G:Int) J) λL=>some<|.next L)) x1.length 0 H)<|el (λh=>some h)<|λO=>some O
def l_q (x1:a_c):Option a_c :=
 bd (j_b x1.versions) λh=>some (⟨h⟩:a_c)
def l_r (x1:Log):Option Log :=
 bd (g_K x1.bytes) λh=>some (⟨h,x1.stored⟩:Log)
def f_g (x1:J_):Option J_ :=
 bd (l_q (⟨x1.registry.versions⟩:a_c)) λG=>bd (l_r (⟨x1.log.bytes,x1.log.stored⟩:Log)) λh=>some (⟨(⟨G.versions⟩:a_c),(⟨h.bytes,h.stored⟩:Log)⟩:J_)
def j_c (n:Nat)(x1:Bt):Option (Bt×Bool) :=
 bd (I_ (σ:=Bt×Int) (ρ:=Bt×Bool) (un2 λH h=>if (decide<|h<(x1.length:Int)) then bd (idx x1 h) λG=>bd (α:=Bool) (if ((byteI G)==0) then some true else if ((byteI G)==128) then some true else some (decide<|(x1.length:Int)<=(b_ h 1))) (λL=>if L then some (.ret (([]:Bt),false)) else bd (α:=Sum (Bt×Int)<|Out (Bt×Int)<|Bt×Bool) (if (decide<|128<(byteI G)) then bd (u_ (σ:=Bt) (ρ:=Bt×Bool) (λa3=>(λI=>bd (idx x1<|b_ h 1) λO=>bd (psh I O) λV=>some<|.next V)) ((w_ (byteI G) 128).toNat) 0 H) (el (λI=>some<|.inl (I,b_ h 2))<|λW=>some<|.inr<|.ret W) else if (decide<|(x1.length:Int)<(b_ (b_ h 1)<|byteI G)) then some (.inr<|.ret (([]:Bt),false)) else bd (slc x1 (b_ h 1)<|b_ (b_ h 1)<|byteI G) λY=>bd (app H Y) λa0=>some<|.inl (a0,b_ (b_ h 1)<|byteI G)) (el (un2 λJ a1=>if (decide<|1000<(J.length:Int)) then some (.ret (([]:Bt),false)) else some (.next (J,a1))) some)) else some (.brk (H,h))) n (([]:Bt),0)) (el (un2 λH h=>some (H,true))<|λa2=>some a2)
def j_d (x1:p_):Option Bool :=
 bd (α:=Bool) (bd (a_I x1.kind 1 2) λh=>if h then bd (f_7 x1.name) λG=>if G then bd (a_I x1.version 0 7) λH=>if H then if (decide<|(x1.data.length:Int)<=400) then if (x1.kind==1) then some true else if (x1.version==0) then some ((x1.data.length:Int)==0) else some false else some false else some false else some false else some false) (λI=>some I)
def f_V (n:Nat)(x1:Bt)(x2:Int):Option Int :=
 bd (a_I x2 0<|w_ (x1.length:Int) 1) λG=>if (!G) then some 0 else bd (I_ (σ:=Int) (ρ:=Int) (λh=>bd (α:=Bool) (if (decide<|(b_ x2 h)<(x1.length:Int)) then bd (idx x1<|b_ x2 h) λH=>bd (idx x1 x2) λI=>some ((byteI H)==(byteI I)) else some false) (λJ=>if J then some (.next<|b_ h 1) else some (.brk h))) n 0) (el (λh=>some h)<|λL=>some L)
def j_e (x1:Int)(x2:Int):Option Int :=
 if (decide<|x2<x1) then some x2 else some x1
def j_f (n:Nat)(x1:Bt):Option Bt :=
 bd (I_ (σ:=Bt×Int) (ρ:=Bt) (un2 λH h=>if (decide<|h<(x1.length:Int)) then bd (α:=Sum (Bt×Int)<|Out (Bt×Int)<|Bt) (bd (f_V n x1 h) λJ=>bd (j_e J 127) λI=>if (decide<|3<=I) then bd (idx x1 h) λL=>bd (app H [mkB (b_ 128 I),L]) λO=>some (.inl (O,b_ h I)) else bd (I_ (σ:=Int) (ρ:=Bt) (λG=>bd (α:=Bool) (if (decide<|G<(x1.length:Int)) then if (decide<|(w_ G h)<127) then bd (f_V n x1 G) λV=>some (decide<|V<3) else some false else some false) (λW=>if W then some (.next<|b_ G 1) else some (.brk G))) n h) (el (λG=>bd (slc x1 h G) λY=>bd (psh H<|mkB<|w_ G h) λa0=>bd (app a0 Y) λa1=>some<|.inl (a1,G))<|λa2=>some<|.inr<|.ret a2)) (el (un2 λa3 a4=>some<|.next (a3,a4)) some) else some (.brk (H,h))) n (([]:Bt),0)) (el (un2 λH h=>some H)<|λa5=>some a5)
def j_g (n:Nat)(x1:Int)(x2:Int):Option Bt :=
 bd (α:=Bool) (bd (a_I x2 1 4) λH=>if (!H) then some true else bd (f_J x2) λI=>bd (a_I x1 0<|w_ I 1) λJ=>some (!J)) (λL=>if L then some ([]:Bt) else bd (I_ (σ:=Bt×Int) (ρ:=Bt) (un2 λG h=>if (decide<|0<=h) then bd (nn<|b_e 8 h) λW=>bd (psh G<|mkB<|c_Y .i64 x1<|b_e 8 h) λO=>some (.next (O,w_ h 1)) else some (.brk (G,h))) n (([]:Bt),w_ x2 1)) (el (un2 λG h=>some G)<|λV=>some V))
def j_h (n:Nat)(x1:p_):Option Bt :=
 bd (j_d x1) λH=>if (!H) then some ([]:Bt) else bd (j_f n x1.data) λh=>bd (app [mkB x1.kind,mkB (x1.name.b.length:Int)] x1.name.b) λI=>bd (psh I<|mkB x1.version) λJ=>bd (j_g n (h.length:Int) 2) λL=>bd (app J L) λO=>bd (app O h) λG=>bd (g_T G) λV=>bd (psh G<|mkB V) λW=>some W
def h_a (x1:Bt)(x2:Bt):Option Bool :=
 if ((x1.length:Int) != (x2.length:Int)) then some false else bd (u_ (σ:=Unit) (ρ:=Bool) (λh=>(λ(_:Unit)=>bd (idx x1 (h:Int)) λG=>bd (idx x2 (h:Int)) λH=>if ((byteI G) != (byteI H)) then some (.ret false) else some (.next ()))) x1.length 0 ()) (el (λ(_:Unit)=>some true)<|λI=>some I)
def h_b (n:Nat)(x1:Bt)(x2:Int):Option (p_×Int×Bool) :=
 bd (a_I x2 0<|w_ (x1.length:Int) 2) λV=>if (!V) then some ((⟨0,(⟨[]⟩:Str),0,([]:Bt)⟩:p_),x2,false) else bd (idx x1<|b_ x2 1) λh=>if (decide<|(x1.length:Int)<(b_ (b_ (b_ x2 2)<|byteI h) 3)) then some ((⟨0,(⟨[]⟩:Str),0,([]:Bt)⟩:p_),x2,false) else bd (slc x1 (b_ (b_ (b_ x2 2)<|byteI h) 1)<|b_ (b_ (b_ x2 2)<|byteI h) 3) λW=>bd (g_Q W false) λG=>if (decide<|(x1.length:Int)<=(b_ (b_ (b_ (b_ x2 2)<|byteI h) 3) G)) then some ((⟨0,(⟨[]⟩:Str),0,([]:Bt)⟩:p_),x2,false) else bd (slc x1 (b_ (b_ (b_ x2 2)<|byteI h) 3)<|b_ (b_ (b_ (b_ x2 2)<|byteI h) 3) G) λY=>bd2 (j_c n Y) λH a3=>bd (idx x1 x2) λI=>bd (slc x1 (b_ x2 2)<|b_ (b_ x2 2)<|byteI h) λJ=>bd (idx x1<|b_ (b_ x2 2)<|byteI h) λL=>bd (j_h n (⟨byteI I,(⟨J⟩:Str),byteI L,H⟩:p_)) λO=>bd (α:=Bool) (if ((O.length:Int)==0) then some true else bd (slc x1 x2<|b_ (b_ (b_ (b_ (b_ x2 2)<|byteI h) 3) G) 1) λa0=>bd (h_a O a0) λa1=>some (!a1)) (λa2=>if a2 then some ((⟨0,(⟨[]⟩:Str),0,([]:Bt)⟩:p_),x2,false) else some ((⟨byteI I,(⟨J⟩:Str),byteI L,H⟩:p_),b_ (b_ (b_ (b_ (b_ x2 2)<|byteI h) 3) G) 1,true))
def f_h (n:Nat)(x1:Bt):Option ((List p_)×Int) :=
 bd (I_ (σ:=(List p_)×Int) (ρ:=(List p_)×Int) (un2 λh G=>bd3 (h_b n x1 G) λH I J=>if (!J) then some (.ret (h,G)) else bd (psh h H) λL=>some<|.next (L,I)) n (([]:List p_),0)) (el (un2 λh G=>some (([]:List p_),0))<|λO=>some O)
def h_c (n:Nat)(x1:Log):Option Bool :=
 bd (a_I x1.stored 0 (x1.bytes.length:Int)) λh=>if (!h) then some false else bd2 (f_h n x1.bytes) λL G=>bd (slc x1.bytes 0 x1.stored) λH=>bd2 (f_h n H) λO I=>bd (α:=Bool) (if (G==(x1.bytes.length:Int)) then some (I==x1.stored) else some false)<|λJ=>some J
def j_i (x1:List r_)(x2:p_):Option (List r_) :=
 bd (α:=Str×Int×Bt) (bd (app ([]:Bt) x2.data) λO=>some (x2.name,x2.version,O)) (un3 λH I J=>bd (u_ (σ:=(List r_)×Bool) (ρ:=List r_) (λL=>un2 λh G=>bd (idx x1 (L:Int)) λV=>bd (α:=(List r_)×Bool) (if (V.name.b != x2.name.b) then bd (idx x1 (L:Int)) λW=>bd (psh h W) λY=>some (Y,G) else bd (α:=(List r_)×Bool) (if (x2.kind==1) then bd (psh h (⟨H,I,J⟩:r_)) λa0=>some (a0,true) else some (h,G)) (un2 λa1 a2=>some (a1,a2)))<|un2 λa3 a4=>some<|.next (a3,a4)) x1.length 0 (([]:List r_),false)) (el (un2 λh G=>bd (α:=Bool) (if (x2.kind==1) then some (!G) else some false) (λa5=>bd (α:=List r_) (if a5 then bd (psh h (⟨H,I,J⟩:r_)) λa6=>some a6 else some h)<|λa7=>some a7))<|λa8=>some a8))
def h_d (n:Nat)(x1:Bt):Option (List r_) :=
 bd2 (f_h n x1) λG O=>bd (u_ (σ:=List r_) (ρ:=List r_) (λH=>(λh=>bd (idx G (H:Int)) λI=>bd (j_i h I) λJ=>some<|.next J)) G.length 0 ([]:List r_))<|el (λh=>some h)<|λL=>some L
def j_j (n:Nat)(x1:J_):Option (List r_) :=
 bd (h_c n (⟨x1.log.bytes,x1.log.stored⟩:Log)) λh=>if (!h) then some ([]:List r_) else bd (h_d n x1.log.bytes) λG=>some G
def j_k (x1:a_c):Option Bool :=
 bd (u_ (σ:=Unit) (ρ:=Bool) (λh=>(λ(_:Unit)=>bd (idx x1.versions (h:Int)) λG=>bd (g_O G) λH=>if (!H) then some (.ret false) else some (.next ()))) x1.versions.length 0 ()) (el (λ(_:Unit)=>some<|decide<|(x1.versions.length:Int)<=8)<|λI=>some I)
def j_l (n:Nat)(x1:J_):Option Bool :=
 bd (α:=Bool) (bd (j_k (⟨x1.registry.versions⟩:a_c)) λH=>if (!H) then some true else bd (h_c n (⟨x1.log.bytes,x1.log.stored⟩:Log)) λI=>if (!I) then some true else bd (h_d n x1.log.bytes) λJ=>some<|decide<|20<(J.length:Int)) (λL=>if L then some false else bd2 (f_h n x1.log.bytes) λh a4=>bd (u_ (σ:=Unit) (ρ:=Bool) (λG=>(λ(_:Unit)=>bd (α:=Bool) (bd (idx h (G:Int)) λO=>if (O.kind==1) then bd (idx h (G:Int)) λV=>if (decide<|(x1.registry.versions.length:Int)<=V.version) then some true else bd (idx h (G:Int)) λW=>bd (idx x1.registry.versions W.version) λY=>bd (idx h (G:Int)) λa0=>bd (g_V n Y a0.data) λa1=>some (!a1) else some false) (λa2=>if a2 then some (.ret false) else some (.next ())))) h.length 0 ())<|el (λ(_:Unit)=>some true)<|λa3=>some a3)
def j_m (n:Nat)(x1:a_c):Option Bool :=
 if (decide<|8<(x1.versions.length:Int)) then some false else bd (u_ (σ:=Unit) (ρ:=Bool) (λh=>(λ(_:Unit)=>bd (idx x1.versions (h:Int)) λG=>bd (g_Y n G) λH=>if (!H) then some (.ret false) else some (.next ()))) x1.versions.length 0 ()) (el (λ(_:Unit)=>some true)<|λI=>some I)
def j_n (n:Nat)(x1:Bt):Option (Bt×Bool) :=
 bd (I_ (σ:=Bt×Int) (ρ:=Bt×Bool) (un2 λH h=>if (decide<|h<(x1.length:Int)) then bd (idx x1 h) λG=>bd (α:=Bool) (if ((byteI G)==0) then some true else if ((byteI G)==128) then some true else some ((b_ h 1)==(x1.length:Int))) (λL=>if L then some (.ret (([]:Bt),false)) else bd (α:=Sum (Bt×Int)<|Out (Bt×Int)<|Bt×Bool) (if (decide<|(byteI G)<128) then if (decide<|(w_ (x1.length:Int)<|b_ h 1)<(byteI G)) then some (.inr<|.ret (([]:Bt),false)) else bd (slc x1 (b_ h 1)<|b_ (b_ h 1)<|byteI G) λO=>bd (app H O) λV=>some (.inl (V,b_ (b_ h 1)<|byteI G)) else bd (u_ (σ:=Bt) (ρ:=Bt×Bool) (λa3=>(λI=>bd (idx x1<|b_ h 1) λW=>bd (psh I W) λY=>some<|.next Y)) ((w_ (byteI G) 128).toNat) 0 H) (el (λI=>some<|.inl (I,b_ (b_ h 1) 1))<|λa0=>some<|.inr<|.ret a0)) (el (un2 λJ a1=>if (decide<|1000<(J.length:Int)) then some (.ret (([]:Bt),false)) else some (.next (J,a1))) some)) else some (.brk (H,h))) n (([]:Bt),0)) (el (un2 λH h=>some (H,true))<|λa2=>some a2)
def h_e (n:Nat)(x1:p_):Option Bool :=
 bd (α:=Bool) (bd (e_A n x1.name) λh=>if (!h) then some true else bd (c_o x1.version 0 7) λG=>if (!G) then some true else some (decide<|400<(x1.data.length:Int))) (λH=>if H then some false else bd (α:=Bool) (if (x1.kind==1) then some true else if (x1.kind==2) then if (x1.version==0) then some ((x1.data.length:Int)==0) else some false else some false) (λI=>some I))
def f_W (x1:Bt)(x2:Int):Option Bool :=
 bd (α:=Bool) (if (decide<|(b_ x2 2)<(x1.length:Int)) then bd (idx x1 x2) λh=>bd (idx x1<|b_ x2 1) λG=>if ((byteI h)==(byteI G)) then bd (idx x1 x2) λH=>bd (idx x1<|b_ x2 2) λI=>some ((byteI H)==(byteI I)) else some false else some false) (λJ=>some J)
def j_o (n:Nat)(x1:Bt)(x2:Int):Option Int :=
 bd (α:=Bool) (if (decide<|x2<0) then some true else some (decide<|(x1.length:Int)<=x2)) (λG=>if G then some 0 else bd (I_ (σ:=Int) (ρ:=Int) (λh=>bd (α:=Bool) (if (decide<|(b_ x2 h)<(x1.length:Int)) then bd (idx x1<|b_ x2 h) λH=>bd (idx x1 x2) λI=>some ((byteI H)==(byteI I)) else some false) (λJ=>if J then some (.next<|b_ h 1) else some (.brk h))) n 1) (el (λh=>some h)<|λL=>some L))
def j_p (x1:Int)(x2:Int):Option Bool :=
 some (decide<|x1<x2)
def l_s (x2:Int)(x3:List Int):Option Int :=
 bd (u_ (σ:=Int) (ρ:=Int) (λH=>(λh=>bd (idx x3 (H:Int)) λG=>bd (j_p G h) λI=>bd (α:=Int) (if I then some G else some h)<|λJ=>some<|.next J)) x3.length 0 x2) (el (λh=>some h)<|λL=>some L)
def j_q (x1:Int)(x2:Int):Option Int :=
 bd (l_s x1 [x2]) λh=>some h
def j_r (n:Nat)(x1:Bt):Option Bt :=
 bd (I_ (σ:=Bt×Int) (ρ:=Bt) (un2 λH h=>if (decide<|h<(x1.length:Int)) then bd (α:=Sum (Bt×Int)<|Out (Bt×Int)<|Bt) (bd (f_W x1 h) λJ=>if J then bd (j_o n x1 h) λL=>bd (j_q L 127) λI=>bd (idx x1 h) λO=>bd (app H [mkB (b_ 128 I),O]) λV=>some (.inl (V,b_ h I)) else bd (I_ (σ:=Int) (ρ:=Bt) (λG=>bd (α:=Bool) (if (decide<|G<(x1.length:Int)) then if (decide<|(w_ G h)<127) then bd (f_W x1 G) λW=>some (!W) else some false else some false) (λY=>if Y then some (.next<|b_ G 1) else some (.brk G))) n<|b_ h 1) (el (λG=>bd (psh H<|mkB<|w_ G h) λa0=>bd (slc x1 h G) λa1=>bd (app a0 a1) λa2=>some<|.inl (a2,G))<|λa3=>some<|.inr<|.ret a3)) (el (un2 λa4 a5=>some<|.next (a4,a5)) some) else some (.brk (H,h))) n (([]:Bt),0)) (el (un2 λH h=>some H)<|λa6=>some a6)
def j_s (n:Nat)(x1:p_):Option Bt :=
 bd (h_e n x1) λH=>if (!H) then some ([]:Bt) else bd (j_r n x1.data) λh=>bd (app [mkB x1.kind,mkB (x1.name.b.length:Int)] x1.name.b) λI=>bd (app I [mkB x1.version,mkB<|c_Y .i64 (h.length:Int) 8,mkB (h.length:Int)]) λJ=>bd (app J h) λG=>bd (f_O G) λL=>bd (psh G<|mkB L) λO=>some O
def f_i (n:Nat)(x1:Bt)(x2:Int):Option (p_×Int×Bool) :=
 bd (α:=Bool) (if (decide<|x2<0) then some true else if (decide<|(x1.length:Int)<x2) then some true else some (decide<|(w_ (x1.length:Int) x2)<2)) (λW=>if W then some ((⟨0,(⟨[]⟩:Str),0,([]:Bt)⟩:p_),x2,false) else bd (slc x1 x2 (x1.length:Int)) λh=>bd (idx h 1) λG=>if (decide<|(h.length:Int)<(b_ (byteI G) 6)) then some ((⟨0,(⟨[]⟩:Str),0,([]:Bt)⟩:p_),x2,false) else bd (idx h<|b_ (byteI G) 3) λH=>bd (idx h<|b_ (byteI G) 4) λI=>if (decide<|(h.length:Int)<(b_ (b_ (byteI G) 6)<|c_1 .i64 (· ||| ·) (b_y .i64 (byteI H) 8)<|byteI I)) then some ((⟨0,(⟨[]⟩:Str),0,([]:Bt)⟩:p_),x2,false) else bd (mk0 (0:UInt8)<|c_1 .i64 (· ||| ·) (b_y .i64 (byteI H) 8)<|byteI I) λY=>bd (slc h (b_ (byteI G) 5) (h.length:Int)) λa0=>bd2 (j_n n<|cpy Y a0) λJ a1=>bd (idx h 0) λL=>bd (slc h 2<|b_ 2<|byteI G) λO=>bd (idx h<|b_ (byteI G) 2) λV=>bd (α:=Bool) (if (!a1) then some true else bd (h_e n (⟨byteI L,(⟨O⟩:Str),byteI V,J⟩:p_)) λa2=>if (!a2) then some true else bd (slc h 0<|b_ (b_ (byteI G) 6)<|c_1 .i64 (· ||| ·) (b_y .i64 (byteI H) 8)<|byteI I) λa3=>bd (j_s n (⟨byteI L,(⟨O⟩:Str),byteI V,J⟩:p_)) λa4=>bd (l_g a4 a3) λa5=>some (!a5)) (λa6=>if a6 then some ((⟨0,(⟨[]⟩:Str),0,([]:Bt)⟩:p_),x2,false) else some ((⟨byteI L,(⟨O⟩:Str),byteI V,J⟩:p_),b_ (b_ (b_ x2<|byteI G) 6)<|c_1 .i64 (· ||| ·) (b_y .i64 (byteI H) 8)<|byteI I,true)))
def l_t (n:Nat)(x1:Log):Option Bool :=
 bd (c_o x1.stored 0 (x1.bytes.length:Int)) λI=>if (!I) then some false else bd (I_ (σ:=Bool×Int) (ρ:=Bool) (un2 λh G=>if (decide<|G<(x1.bytes.length:Int)) then bd3 (f_i n x1.bytes G) λV H J=>if (!J) then some (.ret false) else bd (α:=Bool) (if h then some true else some (H==x1.stored)) (λL=>some<|.next (L,H)) else some (.brk (h,G))) n (x1.stored==0,0)) (el (un2 λh G=>if (!h) then some false else some true)<|λO=>some O)
def j_t (n:Nat)(x1:Log):Option Bool :=
 l_t n x1
def h_f (n:Nat)(x1:Bt):Option ((List p_)×Int) :=
 bd (I_ (σ:=(List p_)×Int) (ρ:=(List p_)×Int) (un2 λh G=>bd3 (f_i n x1 G) λH I J=>if (!J) then some (.ret (h,G)) else bd (psh h H) λL=>some<|.next (L,I)) n (([]:List p_),0)) (el (un2 λh G=>some (([]:List p_),0))<|λO=>some O)
def l_u (x1:r_)(x2:p_):Option Bool :=
 some (x1.name.b==x2.name.b)
def j_u (x1:List r_)(G:p_):Option Int :=
 bd (u_ (σ:=Unit) (ρ:=Int) (λh=>(λ(_:Unit)=>bd (idx x1 (h:Int)) λH=>bd (l_u H G) λI=>if I then some (.ret (h:Int)) else some (.next ()))) x1.length 0 ()) (el (λ(_:Unit)=>some (-1))<|λJ=>some J)
def h_g (n:Nat)(x1:J_):Option (List r_) :=
 bd2 (h_f n x1.log.bytes) λI a5=>bd (u_ (σ:=List r_) (ρ:=List r_) (λJ=>(λh=>bd (idx I (J:Int)) λG=>bd (j_u h G) λH=>bd (α:=Bool) (if (G.kind==1) then some (decide<|0<=H) else some false) (λL=>bd (α:=List r_) (if L then bd (upd h H (⟨G.name,G.version,G.data⟩:r_)) λO=>some O else bd (α:=List r_) (if (G.kind==1) then bd (psh h (⟨G.name,G.version,G.data⟩:r_)) λV=>some V else bd (α:=List r_) (if (decide<|0<=H) then bd (slc h 0 H) λW=>bd (slc h (b_ H 1) (h.length:Int)) λY=>bd (app W Y) λa0=>some a0 else some h) (λa1=>some a1)) (λa2=>some a2))<|λa3=>some<|.next a3))) I.length 0 ([]:List r_))<|el (λh=>some h)<|λa4=>some a4
def l_v (x1:a_c)(x2:Int):Option Bool :=
 bd (α:=Bool) (if (decide<|0<=x2) then some (decide<|x2<(x1.versions.length:Int)) else some false) (λh=>some h)
def j_v (n:Nat)(x1:J_):Option Bool :=
 bd (α:=Bool) (bd (j_m n (⟨x1.registry.versions⟩:a_c)) λH=>if (!H) then some true else bd (j_t n (⟨x1.log.bytes,x1.log.stored⟩:Log)) λI=>if (!I) then some true else bd (h_g n x1) λJ=>some<|decide<|20<(J.length:Int)) (λL=>if L then some false else bd2 (h_f n x1.log.bytes) λG a2=>bd (u_ (σ:=Unit) (ρ:=Bool) (λO=>(λ(_:Unit)=>bd (idx G (O:Int)) λh=>bd (α:=Bool) (if (h.kind==1) then bd (l_v (⟨x1.registry.versions⟩:a_c) h.version) λV=>if (!V) then some true else bd (idx x1.registry.versions h.version) λW=>bd (i_N n W h.data) λY=>some (!Y) else some false) (λa0=>if a0 then some (.ret false) else some (.next ())))) G.length 0 ())<|el (λ(_:Unit)=>some true)<|λa1=>some a1)
def l_w (n:Nat)(x1:J_):Option (List r_) :=
 bd (j_t n (⟨x1.log.bytes,x1.log.stored⟩:Log)) λh=>if (!h) then some ([]:List r_) else bd (h_g n x1) λG=>some G
def j_w (n:Nat)(x1:J_):Option (List r_) :=
 bd (j_v n x1) λh=>if (!h) then some ([]:List r_) else bd (l_w n x1) λG=>some G
def j_x (x1:List f_)(x2:List f_):Option Bool :=
 if ((x1.length:Int) != (x2.length:Int)) then some false else bd (u_ (σ:=Unit) (ρ:=Bool) (λh=>(λ(_:Unit)=>bd (idx x1 (h:Int)) λG=>bd (idx x2 (h:Int)) λH=>bd (i_Q G H) λI=>if (!I) then some (.ret false) else some (.next ()))) x1.length 0 ()) (el (λ(_:Unit)=>some true)<|λJ=>some J)
def l_x (x1:a_c)(x2:a_c):Option Bool :=
 bd (j_x x1.versions x2.versions) λh=>if (!h) then some false else some true
def l_y (x1:Log)(x2:Log):Option Bool :=
 bd (h_5 x1.bytes x2.bytes) λh=>if (!h) then some false else if (x1.stored != x2.stored) then some false else some true
def j_y (x1:J_)(x2:J_):Option Bool :=
 bd (l_x (⟨x1.registry.versions⟩:a_c) (⟨x2.registry.versions⟩:a_c)) λh=>if (!h) then some false else bd (l_y (⟨x1.log.bytes,x1.log.stored⟩:Log) (⟨x2.log.bytes,x2.log.stored⟩:Log)) λG=>if (!G) then some false else some true
def l_z (n:Nat)(x1:Log)(x2:Int):Option (Int×Bt) :=
 bd2 (h_7 n x1.bytes x2) λh G=>some (h,G)
def j_z (x1:List r_)(x2:Str):Option Int :=
 bd (u_ (σ:=Unit) (ρ:=Int) (λh=>(λ(_:Unit)=>bd (idx x1 (h:Int)) λG=>if (G.name.b==x2.b) then some (.ret (h:Int)) else some (.next ()))) x1.length 0 ()) (el (λ(_:Unit)=>some (-1))<|λH=>some H)
def j_A (n:Nat)(x1:List f_)(x2:Int):Option (Int×(List f_)) :=
 bd (I_ (σ:=(List f_)×Int×Int) (ρ:=Int×(List f_)) (un3 λh H G=>if (decide<|G<(h.length:Int)) then bd (idx h G) λI=>bd2 (i_S n I.rules H) λJ L=>some (.next (h.set (G).toNat (⟨L⟩:f_),J,b_ G 1)) else some (.brk (h,H,G))) n (x1,x2,0)) (el (un3 λh H G=>some (H,h))<|λO=>some O)
def l_A (n:Nat)(x1:a_c)(x2:Int):Option (Int×(List f_)) :=
 bd2 (j_A n x1.versions x2) λh G=>some (h,G)
def j_B (n:Nat)(x1:J_)(x2:Int):Option (Int×(List f_)×Bt) :=
 bd2 (l_A n (⟨x1.registry.versions⟩:a_c) x2) λh G=>bd2 (l_z n (⟨x1.log.bytes,x1.log.stored⟩:Log) h) λH I=>some (H,G,I)
end Go.Vw
namespace Go.Vw
def i_3 (n:Nat)(x1:J_)(x2:Str)(x3:Str):Option (List l_) :=
 bd (j_j n x1) λh=>bd (j_z h x2) λG=>bd (α:=Bool) (bd (j_l n x1) λH=>if (!H) then some true else some (decide<|G<0)) (λI=>if I then some ([]:List l_) else bd (idx h G) λJ=>bd (idx x1.registry.versions J.version) λL=>bd (idx h G) λO=>bd (j_1 n L O.data x3) λV=>some V)
def g_F (n:Nat)(x1:J_)(x2:Str)(x3:Str):Option (List l_) :=
 bd (j_w n x1) λG=>bd (u_ (σ:=Unit) (ρ:=List l_) (λH=>(λ(_:Unit)=>bd (idx G (H:Int)) λh=>if (h.name.b==x2.b) then bd (idx x1.registry.versions h.version) λI=>bd (j_6 n I h.data x3) λJ=>some (.ret J) else some (.next ()))) G.length 0 ())<|el (λ(_:Unit)=>some ([]:List l_))<|λL=>some L
def i_4 (n:Nat)(x1:J_)(x2:Str)(x3:Str):Option Bool :=
 if (decide<|1048576<(x2.b.length:Int)) then some true else if (decide<|1048576<(x3.b.length:Int)) then some true else bd (j_a x1 1048576) λV=>if (decide<|V<0) then some true else bd (f_g x1) λW=>bd (i_3 n W x2 x3) λh=>bd (f_g x1) λG=>bd (g_F n G x2 x3) λH=>bd (f_U H h) λY=>if (!Y) then some false else bd (f_g x1) λa0=>bd (j_y G a0) λa1=>if (!a1) then some false else bd3 (j_B n G 1) λa2 a8 a9=>bd (α:=Bool) (if (decide<|a2<0) then some true else bd (f_U H h) λa3=>some (!a3)) (λa4=>if a4 then some false else bd2 (j_8 n H 1) λI J=>bd (h_9 n J 1) λL=>if (decide<|L<0) then some false else if (L != I) then some false else bd (f_g x1) λa5=>bd (g_F n a5 x2 x3) λa6=>bd (f_U a6 h) λa7=>if (!a7) then some false else bd (h_9 n J 1) λO=>if (decide<|O<0) then some false else if (O != I) then some false else some true)
end Go.Vw
namespace Go.Vw
open Go.RowKit Dat
theorem r_e {P:Program}{o:Oper}{a:Act}{w:World}{K K' K1 K2:Act->World->Prop}{Q:Exit->Act->World->Prop}(h:∀a w,K a w->K' a w)(hh:o.wp P a w K (Exit.then K1 Q)):o.wp P a w K' (Exit.then K2 Q):=by
 unfold Oper.wp at *
 generalize (execOp a.eval o).run P w=r at *
 cases r with
 | ok n w' =>
  cases n <;> simp only [Oper.upon] at hh ⊢ <;>
   first
    | exact h _ _ hh
    | exact Calls.mono hh (λe w'' he=>by cases e <;> first | exact h _ _ he | exact he)
    | exact Rows.mono hh<|λ_ _ he=>h _ _ he
 | halt x w'=>cases x <;> simp only [Oper.upon] at hh ⊢ <;> exact hh
theorem l_E {P:Program}{ops:Array Oper}{K K1:Act->World->Prop}{Q:Exit->Act->World->Prop}{G:List Oper}(hk:∀a w,K1 a w->wpList P ops (Exit.then K Q) G a w):∀(l1:List Oper)(a:Act)(w:World),wpList P ops (Exit.then K1 Q) l1 a w->wpList P ops (Exit.then K Q) (l1++G) a w
 | [],a,w,h=>hk a w h
 | o::l1,a,w,h=>by
  rw [List.cons_append]
  unfold wpList at h ⊢
  split at h
  .rename_i hw
   rw [if_pos hw]
   rcases h with h | ⟨h1,h2⟩
   .exact .inl<|r_e (l_E hk l1) h
   .exact .inr ⟨h1,h2⟩
  .rename_i hw
   rw [if_neg hw]
   exact l_E hk l1 _ _ h
section
variable {P:Program}{N:Nat}{ops:Array Oper}{K:Act->World->Prop}{Q:Exit->Act->World->Prop}{e:Env}{w:World}{l:List Oper}
theorem r_f (k:Nat)(l:List Oper):l.take k++l.drop k=l:=List.take_append_drop k l
theorem e_c (d:Nat)(u:Bool)(k:Nat)(h1:WL P N ops (λa w'=>w'=w/\Sat N ((d,vB u)::e) a) Q (l.take k) e w)(h2:WL P N ops K Q (l.drop k) ((d,vB u)::e) w):WL P N ops K Q l e w:=λa ha=>by
 rw [← r_f k l]
 exact l_E (λa w' ⟨hw,hs⟩=>by subst hw;exact h2 a hs) _ a w<|h1 a ha
variable {d:Nat}{u c:Bool}
def l_F (n:Nat)(e:Env):Bool:=(e.take n).all λp=>(e.drop n).all λq=>!Nat.beq p.1 q.1
theorem n_s:∀{e:Env}{t:Nat},(∀q∈e,Nat.beq t q.1=false)->v_ e t=none
 | [],_,_=>rfl
 | (k,v)::e,t,h=>by
  have h1:=h (k,v) List.mem_cons_self;have h2:Nat.beq k t=false:=by rw [← Bool.not_eq_true,Nat.beq_eq] at *;exact λh=>h1 h.symm
  rw [v_,h2]
  exact n_s λq hq=>h q<|List.mem_cons_of_mem _ hq
theorem n_t:∀{G H:Env}{t:Nat},(∀p∈G,Nat.beq p.1 t=false)->v_ (G++H) t=v_ H t
 | [],_,_,_=>rfl
 | (k,v)::G,H,t,h=>by
  rw [List.cons_append,v_,h (k,v) List.mem_cons_self]
  exact n_t λp hp=>h p<|List.mem_cons_of_mem _ hp
theorem r_g {n:Nat}{e:Env}(h:l_F n e=true){t:Nat}{v:Value}(hl:v_ (e.drop n) t=some v):v_ e t=some v:=by
 have:v_ (e.take n++e.drop n) t=v_ (e.drop n) t:=by
  refine n_t λp hp=>?_
  cases hb:Nat.beq p.1 t with
  | false=>rfl
  | true =>
   exfalso
   have hpt:p.1=t:=Nat.eq_of_beq_eq_true hb;have h1:=List.all_eq_true.1 h p hp
   rw [List.all_eq_true] at h1
   have:=n_s (e:=e.drop n) (t:=t) λq hq=>by
    have:=h1 q hq
    rw [Bool.not_eq_true'] at this
    rw [← hpt];exact this
   rw [this] at hl;cases hl
 rw [List.take_append_drop] at this
 rw [this];exact hl
theorem r_h (n:Nat){e':Env}{a:Act}(hu:c=u)(h:v_ e' d=some (vB c))(hf:l_F n e'=true)(he:e'.drop n=e)(ha:Sat N e' a):Sat N ((d,vB u)::e) a:=by
 subst hu;subst he;refine ⟨ha.defers,ha.size,λt v ht=>?_⟩
 simp only [v_] at ht
 by_cases hk:d=t
 .subst hk;have hb:Nat.beq d d=true:=by simp
  rw [hb] at ht
  simp only [cond_true,Option.some.injEq] at ht
  subst ht;exact ha.at_ d _ h
 .have hb:Nat.beq d t=false:=by rw [← Bool.not_eq_true,Nat.beq_eq];exact hk
  rw [hb] at ht
  simp only [cond_false] at ht
  exact ha.at_ t v<|r_g hf ht
theorem WLq (n:Nat){e':Env}(hu:some c=some u)(h:v_ e' d=some (vB c))(hf:l_F n e'=true)(he:e'.drop n=e):WL P N ops (λa w'=>w'=w/\Sat N ((d,vB u)::e) a) Q [] e' w :=
 a_k λ_ ha=>⟨rfl,r_h n (Option.some.inj hu) h hf he ha⟩
end
end Go.Vw
universe u
namespace Go.Vw
open Go.RowKit Dat
section
variable {P:Program}{N:Nat}{ops:Array Oper}{K:Act->World->Prop}{Q:Exit->Act->World->Prop}{e:Env}{w:World}{rest:List Oper}
variable {d:Nat}{op:Op}{ty:TypeId}{pos:String}{aft:Array Edge}{x:Operand}
theorem Wn {y:Code}{Q':Exit->Act->World->Prop}(h:WC P N y K Q e w):WL P N ops (KC P y K Q) Q' [] e w:=a_k<|WC.of_KC h
theorem Ws {id:Nat}{l:List Oper}{y:Code}(h:WL P N l.toArray (KC P y K Q) Q l e w):WC P N (.seq (.region id l.toArray false) y) K Q e w:=a_i<|a_J h
theorem Wk {y:Code}{Q':Exit->Act->World->Prop}(h:WC P N y K Q e w):WC P N .skip (KC P y K Q) Q' e w:=a_j<|WC.of_KC h
theorem e_a {b:Bool}{o:Option Value}{v:Value}(h:(bif b then o else none)=some v):b=true/\o=some v:=by
 cases b
 .cases h
 .exact ⟨rfl,h⟩
theorem Rm {v:Value}(h:(bif Nat.blt d N then ev e x else none)=some v)(k:WL P N ops K Q rest ((d,v)::e) w):WL P N ops K Q (⟨some d,.move x,ty,pos,aft,none⟩::rest) e w:=R (e_a h).1 (b_g (e_a h).2) k
theorem Ra {v:Value}(h:(bif Nat.blt d N then ev e x else none)=some v)(k:WL P N ops K Q rest ((d,v)::e) w):WL P N ops K Q (⟨some d,.assign x,ty,pos,aft,none⟩::rest) e w:=R (e_a h).1 (c_Z (e_a h).2) k
section
variable {j:Nat}{want b:Bool}
theorem bind_some {o:Option Nat}{v:Value}(h:o.bind (v_ e)=some v):∃gd,o=some gd/\v_ e gd=some v:=by
 cases o with
 | none=>cases h
 | some g=>exact ⟨g,rfl,h⟩
theorem Rh {v:Value}(h:(bif Nat.blt d N then ((ops[j]?).bind (·.dst)).bind (v_ e) else none)=some (.bool b))(hw:b=want)(hr:Rd noX P N ⟨some d,op,ty,pos,aft,some (j,want)⟩ e w v)(k:WL P N ops K Q rest ((d,v)::e) w):WL P N ops K Q (⟨some d,op,ty,pos,aft,some (j,want)⟩::rest) e w:=by
 obtain ⟨gd,h1,h2⟩:=bind_some (e_a h).2;exact Rg h1 h2 hw (e_a h).1 hr k
theorem Nh (h:(bif Nat.blt d N then ((ops[j]?).bind (·.dst)).bind (v_ e) else none)=some (.bool b))(hw:b = !want)(k:WL P N ops K Q rest ((d,undef)::e) w):WL P N ops K Q (⟨some d,op,ty,pos,aft,some (j,want)⟩::rest) e w:=by
 obtain ⟨gd,h1,h2⟩:=bind_some (e_a h).2;exact Ng h1 h2 hw (e_a h).1 k
theorem Nv (h:(bif Nat.blt d N then ((ops[j]?).bind (·.dst)).bind (v_ e) else none)=some undef)(k:WL P N ops K Q rest ((d,undef)::e) w):WL P N ops K Q (⟨some d,op,ty,pos,aft,some (j,want)⟩::rest) e w:=by
 obtain ⟨gd,h1,h2⟩:=bind_some (e_a h).2;exact Nu h1 h2 (e_a h).1 k
end
end
theorem f_6 {j:Nat}{K':Act->World->Prop}{Q:Exit->Act->World->Prop}{a:Act}{w:World}(h:Q .ret a w):inB j K' Q .ret a w:=h
theorem goF {P:Program}{f:FuncId}{G:Func}{c:Code}{N:Nat}{args:List Value}{w:World}{R:Value->World->Prop}(hf:P.funcs[f]? = some G)(hb:G.body=some c)(hN:G.ntmps=N)(hle:args.length<=N)(h:∀fn:Func,fn.results=G.results->WC P N c (c_0 P fn R) (QR P fn R) (e_r 0 args) w):h_ P f args w R:=h_E hf hb hN hle<|h G rfl
theorem goG {P:Program}{f:FuncId}{G:Func}{c:Code}{N:Nat}{args:List Value}{w:World}{R:Value->World->Prop}(hf:P.funcs[f]? = some G)(hb:G.body=some c)(hN:G.ntmps=N)(hle:Nat.ble args.length N=true)(h:∀fn:Func,fn.results=G.results->WC P N c (c_0 P fn R) (QR P fn R) (e_r 0 args) w):h_ P f args w R:=goF hf hb hN (Nat.le_of_ble_eq_true hle) h
section
variable {P:Program}{N:Nat}{e:Env}{w:World}{ty:TypeId}{pos:String}{aft:Array Edge}{gd:Option (Nat×Bool)}{x y:Operand}
theorem fs0 {T n g o:Nat}{v:Value}{cur cur':List Value}(hs:∀w,(sizeOf T).run P w = .ok n w)(hp:ev e x=some (.pointer<|some ⟨g,o,none⟩))(hv:ev e y=some v)(hB:Blk w g cur)(hn:v.cells.size=n)
  (ho:Nat.ble (o+n) cur.length=true) (h1:v.cells.toList.all Value.oneCell'=true) (hcur:cur.take o++v.cells.toList++cur.drop (o+v.cells.toList.length)=cur') :
  Ef P N ⟨none,.store T x y,ty,pos,aft,gd⟩ e w (λ_ w'=>Blk w' g cur'/\Chg (· = g) w w'):=a_V hs hp hv hB hn (Nat.le_of_ble_eq_true ho) (b_6 h1) hcur
end
abbrev rQ {ρ:Type}(P:Program)(fn:Func)(Q:ρ->Value->World->Prop)(r:ρ)(ex:Exit)(a:Act)(w:World):Prop:=ex = .ret/\c_0 P fn (Q r) a w
abbrev _root_.Go.World.z (w:World):Nat:=w.heap.size
abbrev sl (a:Option Addr)(n c:Nat):Value:=.slice a n c
abbrev sN:Value:=sl none 0 0
abbrev pt (g:Nat):Value:=.pointer<|some ⟨g,0,none⟩
abbrev Bw (a b:World):Prop:=Below a.heap.size a b
abbrev vR (x:d_)(h:Option Addr)(G H:Nat)(a2:Option Addr)(I J:Nat)(L:Option Addr)(O V:Nat)(W:Option Addr)(Y c4:Nat):List Value:=[x.name.v,vI x.kind,vI x.size,vB x.little,.slice h G H,.slice a2 I J,.slice L O V,.slice W Y c4]
theorem z {α:Sort u}{a:α}:a=a:=rfl
theorem Sat.k {N:Nat}{e e':Env}{a:Act}(h:Sat N e a)(hs:sub e e'):Sat N e' a:=h.weaken hs
theorem fid {a:Prop}(h:a):a:=h
theorem lt_ {a b c:Nat}(h:a<=b)(h':b<=c):a<=c:=Nat.le_trans h h'
theorem lr {a:Nat}:a<=a:=Nat.le_refl a
theorem lb {a b:Nat}(h:Nat.ble a b=true):a<=b:=Nat.le_of_ble_eq_true h
theorem ii {x:Int}(h:(decide (-9223372036854775808<=x) && decide (x<=9223372036854775807))=true):inI x:=inI_of x h
section
variable {S T A M:List Nat}{m n g k:Nat}
theorem l_a (h:m<=n):∀k∈[n],m<=k:=e_ h
theorem mno (h:∀ k∈T,k<m)(h':m<=n):∀k∈[n],k∉T:=e_<|λht=>absurd (h n ht)<|Nat.not_lt.2 h'
theorem mnr (h:∀ k∈T,k<m):∀k∈[m],k∉T:=mno h lr
theorem mm1 (h:g<m)(h':m<=n):∀k∈[n],k∉[g]:=mno (e_ h) h'
theorem mmr (h:g<m):∀k∈[m],k∉[g]:=mno (e_ h) lr
theorem mor (h:m<=n):∀k∈[n],k∈M∨m<=k:=e_<|.inr h
theorem o_ (hs:∀k∈S,n<=k)(h:m<=n):∀k∈S,m<=k:=or0 hs<|a_W h
theorem s_ (hs:∀k∈S,n<=k)(h:g<m)(h':m<=n):∀k∈S,k∉[g]:=or0 hs<|a_P (e_ h) h'
theorem a_T (hs:∀k∈S,n<=k)(h:∀ k∈T,k<m)(h':m<=n):∀k∈S,k∉T:=or0 hs<|a_P h h'
theorem b_2 (hs:∀k∈S,k∈A∨n<=k)(ha:∀k∈A,m<=k)(h:m<=n):∀k∈S,m<=k:=or1 hs ha<|a_W h
theorem c_c (hs:∀k∈S,k∈A∨n<=k)(ha:∀k∈A,k∉T)(h:∀ k∈T,k<m)(h':m<=n):∀k∈S,k∉T:=or1 hs ha<|a_P h h'
theorem djs (h:∀k∈S,k∉[g]):g∉S:=λhg=>h g hg<|List.mem_singleton.2 rfl
theorem atp {p:Nat->Prop}(h:∀k∈[g],p k):p g:=h g<|List.mem_singleton.2 rfl
theorem nd0:([]++[]:List Nat).Nodup:=h_w G_ G_ all_nil
theorem al0 {p:Nat->Prop}:∀k∈([]++[]:List Nat),p k:=h_v all_nil all_nil
end
section
variable {e e':Env}{v1 v2 v3 v4 v5 v6 v7 v8 v9:Value}{k1 k2 k3 k4 k5 k6 k7 k8 k9:Nat}
theorem s1 (h1:v_ e k1=some v1):sub e [(k1,v1)]:=⟨h1,trivial⟩
theorem s2 (h1:v_ e k1=some v1)(h2:v_ e k2=some v2):sub e [(k1,v1),(k2,v2)]:=⟨h1,s1 h2⟩
theorem s3 (h1:v_ e k1=some v1)(h2:v_ e k2=some v2)(h3:v_ e k3=some v3):sub e [(k1,v1),(k2,v2),(k3,v3)]:=⟨h1,s2 h2 h3⟩
theorem s4 (h1:v_ e k1=some v1)(h2:v_ e k2=some v2)(h3:v_ e k3=some v3)(h4:v_ e k4=some v4):sub e [(k1,v1),(k2,v2),(k3,v3),(k4,v4)]:=⟨h1,s3 h2 h3 h4⟩
theorem s5 (h1:v_ e k1=some v1)(h2:v_ e k2=some v2)(h3:v_ e k3=some v3)(h4:v_ e k4=some v4)(h5:v_ e k5=some v5):sub e [(k1,v1),(k2,v2),(k3,v3),(k4,v4),(k5,v5)]:=⟨h1,s4 h2 h3 h4 h5⟩
theorem s6 (h1:v_ e k1=some v1)(h2:v_ e k2=some v2)(h3:v_ e k3=some v3)(h4:v_ e k4=some v4)(h5:v_ e k5=some v5)(h6:v_ e k6=some v6):sub e [(k1,v1),(k2,v2),(k3,v3),(k4,v4),(k5,v5),(k6,v6)]:=⟨h1,s5 h2 h3 h4 h5 h6⟩
theorem s7 (h1:v_ e k1=some v1)(h2:v_ e k2=some v2)(h3:v_ e k3=some v3)(h4:v_ e k4=some v4)(h5:v_ e k5=some v5)(h6:v_ e k6=some v6)(h:v_ e k7=some v7):sub e [(k1,v1),(k2,v2),(k3,v3),(k4,v4),(k5,v5),(k6,v6),(k7,v7)]:=⟨h1,s6 h2 h3 h4 h5 h6 h⟩
theorem s8 (h1:v_ e k1=some v1)(h2:v_ e k2=some v2)(h3:v_ e k3=some v3)(h4:v_ e k4=some v4)(h5:v_ e k5=some v5)(h6:v_ e k6=some v6)(h:v_ e k7=some v7)(G:v_ e k8=some v8):sub e [(k1,v1),(k2,v2),(k3,v3),(k4,v4),(k5,v5),(k6,v6),(k7,v7),(k8,v8)]:=⟨h1,s7 h2 h3 h4 h5 h6 h G⟩
theorem s9 (h1:v_ e k1=some v1)(h2:v_ e k2=some v2)(h3:v_ e k3=some v3)(h4:v_ e k4=some v4)(h5:v_ e k5=some v5)(h6:v_ e k6=some v6)(h:v_ e k7=some v7)(G:v_ e k8=some v8)(H:v_ e k9=some v9):sub e [(k1,v1),(k2,v2),(k3,v3),(k4,v4),(k5,v5),(k6,v6),(k7,v7),(k8,v8),(k9,v9)]:=⟨h1,s8 h2 h3 h4 h5 h6 h G H⟩
end
theorem onL {α:Type}[Dat α]{w:World}:a_ w [] (.slice none 0 0) ([]:List α):=m_k w
theorem _root_.Go.RowKit.Below.s {b:Nat}{w w':World}(h:Below b w w'):w.heap.size<=w'.heap.size:=h.size
theorem Chg.s {X:Nat->Prop}{w w':World}(h:Chg X w w'):w.heap.size<=w'.heap.size:=h.size
abbrev Chg.e:=@Chg.ext
abbrev repS.e:=@repS.ext
abbrev a_.e:=@a_.ext
abbrev a_.c:=@a_.chg
abbrev R_.e:=@R_.ext
abbrev R_.c:=@R_.chg
abbrev a_R.e:=@a_R.ext
abbrev a_R.c:=@a_R.chg
abbrev b_H.e:=@b_H.ext
abbrev b_H.c:=@b_H.chg
abbrev GlW.e:=@GlW.ext
abbrev GlW.c:=@GlW.chg
abbrev Blk.e:=@Blk.ext
abbrev Blk.c:=@Blk.chg
abbrev W_.e:=@W_.ext
abbrev W_.c:=@W_.chg
section
variable {P:Program}{N:Nat}{ops:Array Oper}{K:Act->World->Prop}{Q:Exit->Act->World->Prop}{e:Env}{w:World}{rest:List Oper}{X:Nat->Prop}{T:Nat}{p:a_U}
variable {d d':Nat}{ty ty':TypeId}{pos pos':String}{aft aft':Array Edge}{x x':Operand}{v v':Value}
theorem Rw {c:Code}{Q':Exit->Act->World->Prop}(h:(bif Nat.blt d N then ev e x else none)=some v)(k:WC P N c K Q ((d,v)::e) w):WL P N ops (KC P c K Q) Q' [⟨some d,.assign x,ty,pos,aft,none⟩] e w:=Ra h<|Wn k
theorem Wm {id:Nat}{l:List Oper}{c:Code}(h:(bif Nat.blt d N then ev e x else none)=some v)(k:WL P N (⟨some d,.move x,ty,pos,aft,none⟩::l).toArray (KC P c K Q) Q l ((d,v)::e) w):WC P N (.seq (.region id (⟨some d,.move x,ty,pos,aft,none⟩::l).toArray false) c) K Q e w:=Ws<|Rm h k
theorem RM (h:(bif Nat.blt d N then ev e x else none)=some v)(h':(bif Nat.blt d' N then ev ((d,v)::e) x' else none)=some v')(k:WL P N ops K Q rest ((d',v')::(d,v)::e) w):WL P N ops K Q (⟨some d,.move x,ty,pos,aft,none⟩::⟨some d',.move x',ty',pos',aft',none⟩::rest) e w:=Rm h<|Rm h' k
theorem RA (h:(bif Nat.blt d N then ev e x else none)=some v)(h':(bif Nat.blt d' N then ev ((d,v)::e) x' else none)=some v')(k:WL P N ops K Q rest ((d',v')::(d,v)::e) w):WL P N ops K Q (⟨some d,.assign x,ty,pos,aft,none⟩::⟨some d',.assign x',ty',pos',aft',none⟩::rest) e w:=Ra h<|Ra h' k
theorem dM {i:Nat}(ho:ops[i]? = some ⟨some d,.move x,ty,pos,aft,none⟩)(hf:Nat.blt d N=true)(h:ev e x=some v)(k:PR X P N ops T K p ((d,v)::e) w):PR X P N ops T K (.rd i p) e w:=dR ho hf (b_g h) k
theorem dQ {i:Nat}(ho:ops[i]? = some ⟨some d,.assign x,ty,pos,aft,none⟩)(hf:Nat.blt d N=true)(h:ev e x=some v)(k:PR X P N ops T K p ((d,v)::e) w):PR X P N ops T K (.rd i p) e w:=dR ho hf (c_Z h) k
theorem Wx {y y':Code}{b:Bool}{Q':Exit->Act->World->Prop}(hc:ev e x=some (.bool b))(ht:b=true->WC P N y K Q e w)(hf:b=false->WC P N y' K Q e w):WL P N ops (KC P (.cond x y y') K Q) Q' [] e w:=Wn<|c_e hc ht hf
section
variable {t u i:Nat}{k:IntKind}{a b:Int}
theorem Rl (hf:Nat.blt d N=true)(h1:ev e x=some (.int k a))(h2:ev e x'=some (.int k b))(h:WL P N ops K Q rest ((d,vB<|decide<|a<b)::e) w):WL P N ops K Q (⟨some d,.binOp .lss t x x' u,ty,pos,aft,none⟩::rest) e w:=R hf (f_t h1 h2) h
theorem Rq (hf:Nat.blt d N=true)(h1:ev e x=some (.int k a))(h2:ev e x'=some (.int k b))(h:WL P N ops K Q rest ((d,vB<|a==b)::e) w):WL P N ops K Q (⟨some d,.binOp .eql t x x' u,ty,pos,aft,none⟩::rest) e w:=R hf (h_M h1 h2) h
theorem Rf {g o j:Nat}(hf:Nat.blt d N=true)(h1:Fld P t i j)(h2:ev e x=some (.pointer<|some ⟨g,o,none⟩))(h:WL P N ops K Q rest ((d,.pointer<|some ⟨g,o+j,none⟩)::e) w):WL P N ops K Q (⟨some d,.fieldAddr t x i,ty,pos,aft,none⟩::rest) e w:=R hf (h_H h1 h2) h
theorem Re {vs:Array Value}(hf:Nat.blt d N=true)(h1:ev e x=some (.tuple vs))(h2:vs[i]? = some v)(h:WL P N ops K Q rest ((d,v)::e) w):WL P N ops K Q (⟨some d,.extract x i,ty,pos,aft,none⟩::rest) e w:=R hf (h_I h1 h2) h
end
theorem l0 {t g o:Nat}{dst:Option Tmp}{gd:Option (Nat×Bool)}(hT:∀w,(isAgg t).run P w = .ok false w)(h:ev e x=some (.pointer<|some ⟨g,o,none⟩))(hc:w.cell? ⟨g,o,none⟩=some v):Rd noX P N ⟨dst,.load t x,ty,pos,aft,gd⟩ e w v:=b_J hT h (λh=>h) hc
def plA:Nat->Nat->List Nat->a_U
 | _,0,_=>.done
 | i,n+1,l=>bif l.elem i then .ef i (plA (i+1) n l) else .rd i (plA (i+1) n l)
abbrev pl_ (n:Nat)(l:List Nat):a_U:=plA 0 n l
end
end Go.Vw
namespace Go.Vw
open Go.RowKit Dat Go.ChangeShapes Go.WideShapes Go.ChangeAt
structure IsT (P:Program)(t:TypeId)(α:Type)[Dat α](L:α->Prop):Prop where
 rd:∀{H:Type}(enc:TypeId×Value->H)(W:World)(fuel:Nat)(cs:List Value)(x:DataW H×List MemPlace),DataW.trod enc P W 0 (λ_=>true) true fuel t cs=some x->(x.1.weights P t).all (· <= reachBytes)=true->∃v:α,rep W W.heap.size cs v/\L v
section
variable {P:Program}{t:TypeId}
theorem s_P (ht:P.underlying t=some (.int .i64)):IsT P t Int (λ_=>True):=⟨λenc W fuel cs x h _=>by
 obtain ⟨n,rfl,_,hw⟩:=DataW.trod_int ht h;have:=bounds_i64 hw
 exact ⟨n,⟨_,rfl,rfl,by unfold inI;omega⟩,trivial⟩⟩
theorem s_Q (ht:P.underlying t=some (.int .u8)):IsT P t UInt8 (λ_=>True):=⟨λenc W fuel cs x h _=>by
 obtain ⟨n,rfl,_,hw⟩:=DataW.trod_int ht h;have hb:=bounds_u8 hw
 have e:n=byteI (UInt8.ofNat n.toNat):=by
  unfold byteI
  rw [UInt8.toNat_ofNat']
  omega
 refine ⟨UInt8.ofNat n.toNat,⟨_,rfl,?_⟩,trivial⟩
 show Value.int .u8 n=vU (byteI<|UInt8.ofNat n.toNat)
 rw [← e]⟩
theorem s_R (ht:P.underlying t=some .bool):IsT P t Bool (λ_=>True):=⟨λenc W fuel cs x h _=>by
 obtain ⟨b,rfl,_⟩:=DataW.trod_bool ht h
 exact ⟨b,⟨_,rfl,rfl⟩,trivial⟩⟩
theorem s_S (ht:P.underlying t=some .string):IsT P t Str (λs=>s.b.length<=LEN):=⟨λenc W fuel cs x h hw=>by
 obtain ⟨s,rfl,rfl,_⟩:=DataW.trod_string ht h
 simp only [DataW.weights,List.all_cons,List.all_nil,Bool.and_true,decide_eq_true_eq] at hw
 have hr:reachBytes=140737488351232:=rfl;have hL:LEN=140737488355328:=rfl;have hl:s.data.toList.length<=LEN:=by omega
 exact ⟨⟨s.data.toList⟩,⟨_,rfl,by simp [Str.v],hl⟩,hl⟩⟩
theorem o_9 {H:Type}{e:TypeId}:∀{l:List (DataW H)}{d:DataW H},(DataW.weightsAll P e l).all (· <= reachBytes)=true->d∈l->(d.weights P e).all (· <= reachBytes)=true
 | [],_,_,h=>by cases h
 | y::l,d,hw,h=>by
  unfold DataW.weightsAll at hw
  rw [List.all_append,Bool.and_eq_true] at hw
  rcases List.mem_cons.1 h with rfl | h
  .exact hw.1
  .exact o_9 hw.2 h
theorem h_y {H:Type}:∀{ts:List TypeId}{l:List (DataW H)}{i:Nat}{t:TypeId}{d:DataW H},(DataW.weightsEach P ts l).all (· <= reachBytes)=true->ts[i]? = some t->l[i]? = some d->(d.weights P t).all (· <= reachBytes)=true
 | [],_,_,_,_,_,h,_=>by simp at h
 | _::_,[],_,_,_,_,_,h=>by simp at h
 | t::ts,y::l,i,t',d,hw,h1,h2=>by
  unfold DataW.weightsEach at hw
  rw [List.all_append,Bool.and_eq_true] at hw
  cases i with
  | zero=>simp at h1 h2;subst h1 h2;exact hw.1
  | succ i=>simp at h1 h2;exact h_y hw.2 h1 h2
theorem cells?_spec {w:World}{a:Addr}{n:Nat}{cs:List Value}(h:w.cells? 0 a n=some cs):cs.length=n/\∀j v,cs[j]? = some v->w.cell? (a.add j)=some v:=by
 unfold World.cells? at h
 rw [if_pos (Nat.zero_le _)] at h
 refine ⟨by simpa using mapM_some_length h,λj v hv=>?_⟩
 have hj:j<n:=by
  have h1:=(List.getElem?_eq_some_iff.1 hv).1;have h2:=mapM_some_length h
  simp at h2
  omega
 have:=mapM_some_get h j j (by rw [List.getElem?_range hj])
 rw [this];exact hv
theorem s_T {w:World}{a:Addr}{v:Value}(h:w.cell? a=some v):a.spot=none:=by
 unfold World.cell? at h
 split at h
 .cases hs:a.spot with
  | none=>rfl
  | some x=>rw [hs] at h;simp at h
 .cases h
theorem o_a {α:Type}(Q:Nat->α->Prop):∀(len:Nat),(∀i,i<len->∃v,Q i v)->∃l:List α,l.length=len/\∀(i:Nat)(x:α),l[i]? = some x->Q i x
 | 0,_=>⟨[],rfl,λi x h=>by simp at h⟩
 | n+1,h=>by
  obtain ⟨l,hl,hq⟩:=o_a Q n<|λi hi=>h i (by omega);obtain ⟨v,hv⟩:=h n (by omega);refine ⟨l++[v],by simp [hl],λi x hx=>?_⟩
  by_cases hi:i<l.length
  .rw [List.getElem?_append_left hi] at hx;exact hq i x hx
  .rw [List.getElem?_append_right (by omega)] at hx
   have h1:=(List.getElem?_eq_some_iff.1 hx).1
   simp only [List.length_cons,List.length_nil] at h1
   have h2:i=n:=by omega
   subst h2
   rw [show i - l.length=0 by omega] at hx
   simp at hx
   exact hx ▸ hv
theorem h_z {α:Type}[Dat α]{L:α->Prop}{e:TypeId}(ht:P.underlying t=some (.slice e))(he:IsT P e α L)(hc:P.cellsOf e=sz α)(hb:1<=P.bytesOf e):IsT P t (List α) (λl=>l.length<=LEN/\∀x∈l,L x):=⟨λenc W fuel cs x h hw=>by
 have hr:reachBytes=140737488351232:=rfl;have hL:LEN=140737488355328:=rfl
 rcases DataW.trod_slice ht h with ⟨rfl,rfl⟩ | ⟨a,len,cap,elems,rest,n,_,rfl,rfl,_,hlc,_,hlen,hel,hsp,_⟩
 .exact ⟨[],⟨_,rfl,none,0,rfl,Nat.le_refl _,Nat.zero_le _,λ_=>rfl,λp hp=>by cases hp⟩,by simp,λx hx=>by cases hx⟩
 .obtain ⟨hrl,_⟩:=hsp rfl
  have hw':(elems.length+rest.length) * P.bytesOf e<=reachBytes/\(DataW.weightsAll P e<|elems.map (·.1)).all (· <= reachBytes)=true:=by
   unfold DataW.weights at hw
   rw [ht] at hw
   simp only [List.all_cons,List.all_append,Bool.and_eq_true,decide_eq_true_eq,List.length_map] at hw
   exact ⟨hw.1,hw.2.1⟩
  have hcap:cap<=LEN:=by
   have h1:elems.length+rest.length<=(elems.length+rest.length) * P.bytesOf e:=Nat.le_mul_of_pos_right _ hb
   omega
  have hone:∀i:Nat,i<len->∃v:α,a.spot=none/\a.block<W.heap.size/\(∃cs,R_ W a.block (a.off+i * sz α) cs/\rep W W.heap.size cs v)/\L v:=by
   intro i hi;have h1:=hel i hi;have hie:i<elems.length:=by omega
   rw [List.getElem?_eq_getElem hie] at h1
   cases hcs:W.cells? 0 (a.add<|i * P.cellsOf e) (P.cellsOf e) with
   | none=>rw [hcs] at h1;cases h1
   | some cs =>
    rw [hcs] at h1
    simp only [Option.bind_some] at h1
    obtain ⟨v,hv,hl⟩:=he.rd enc W n cs _ h1<|o_9 hw'.2<|List.mem_map_of_mem<|List.getElem_mem hie;obtain ⟨J,O⟩:=cells?_spec hcs;have hpos:0<cs.length:=by rw [J,hc];exact Dat.pos
    have hsp:a.spot=none:=by
     have G:=hel 0 (by omega)
     rw [List.getElem?_eq_getElem (show 0<elems.length by omega)] at G
     cases H:W.cells? 0 (a.add<|0 * P.cellsOf e) (P.cellsOf e) with
     | none=>rw [H] at G;cases G
     | some I =>
      obtain ⟨V,Y⟩:=cells?_spec H;have hpos0:0<I.length:=by rw [V,hc];exact Dat.pos
      have:=Y 0 I[0] (by rw [List.getElem?_eq_getElem hpos0]);have:=s_T this
      simpa [Addr.add] using this
    have ha:a=⟨a.block,a.off,none⟩:=by cases a;simp only at hsp;rw [hsp]
    have hcells:R_ W a.block (a.off+i * sz α) cs:=by
     intro j u hu;have:=O j u hu
     rw [ha,Addr.add_lit,Addr.add_lit,hc] at this
     exact this
    exact ⟨v,hsp,hcells.lt (by intro h;rw [h] at hpos;cases hpos),⟨cs,hcells,hv⟩,hl⟩
  obtain ⟨l,hll,hq⟩:=o_a _ len hone;refine ⟨l,⟨_,rfl,some a,cap,by rw [hll],by omega,by omega,λh=>(by cases h),λp hp=>?_⟩,by omega,λx hx=>?_⟩
  .obtain rfl:=Option.some.inj hp;refine ⟨λhne=>?_,λhne=>?_,λi x hx=>(hq i x hx).2.2.1⟩
   .cases l with
    | nil=>exact absurd rfl hne
    | cons y l=>exact (hq 0 y rfl).1
   .cases l with
    | nil=>exact absurd rfl hne
    | cons y l=>exact (hq 0 y rfl).2.1
  .obtain ⟨i,hi⟩:=List.getElem?_of_mem hx
   exact (hq i x hi).2.2.2⟩
def cutC:Nat->List Nat->List Value->List (List Value)
 | _,[],_=>[]
 | o,n::r,cs=>(cs.drop o).take n::cutC (o+n) r cs
def m_o:List (List Value)->List Value
 | []=>[]
 | [p]=>p
 | p::q::r=>p++m_o (q::r)
theorem g_k:∀(ns:List Nat)(o:Nat)(cs:List Value),ns ≠ []->cs.length=o+ns.sum->m_o (cutC o ns cs)=cs.drop o
 | [],_,_,h,_=>absurd rfl h
 | [n],o,cs,_,h=>by
  show (cs.drop o).take n=_
  rw [List.take_of_length_le]
  simp at h ⊢;omega
 | n::m::r,o,cs,_,h=>by
  show (cs.drop o).take n++m_o (cutC (o+n) (m::r) cs)=_
  rw [g_k (m::r) (o+n) cs (by simp) (by simp at h ⊢;omega),← List.drop_drop,List.take_append_drop]
theorem h_A {H:Type}{enc:TypeId×Value->H}{W:World}{fuel:Nat}{cs:List Value}{x:DataW H×List MemPlace}{fs:Array Field}(ht:P.underlying t=some (.struct fs))(h:DataW.trod enc P W 0 (λ_=>true) true fuel t cs=some x)(hw:(x.1.weights P t).all (· <= reachBytes)=true) :
  cs.length=P.cellsOf t/\∀(i:Nat)(f:Field),fs[i]? = some f->∀(α:Type)(_:Dat α)(L:α->Prop),IsT P f.type α L->∃v:α,rep W W.heap.size ((cs.drop f.offset).take (P.cellsOf f.type)) v/\L v:=by
 obtain ⟨xs,n,rfl,rfl,hl,hxl,hf⟩:=DataW.trod_struct ht h;refine ⟨hl,λi f hi α _ L hα=>?_⟩;have h1:=hf i f hi;have hlt:=(Array.getElem?_eq_some_iff.1 hi).1
 rw [List.getElem?_eq_getElem (by omega)] at h1
 refine hα.rd enc W n _ _ h1 ?_;unfold DataW.weights at hw
 rw [ht] at hw
 refine h_y (i:=i) hw ?_ (by rw [List.getElem?_map,List.getElem?_eq_getElem (by omega)];rfl)
 rw [List.getElem?_map,Array.getElem?_toList,hi];rfl
structure OkW (P:Program)(W:World)(base:Nat)(t:TypeId)(v:Value):Prop where
 h:Value.okWide P W .any base t v
structure OkWs (P:Program)(W:World)(base:Nat)(ts:Array TypeId)(vs:Array Value):Prop where
 h:∀(j:Nat) t v,ts[j]? = some t->vs[j]? = some v->Value.okWide P W .any base t v
theorem OkWs.at {W:World}{base:Nat}{ts:Array TypeId}{vs:Array Value}(h:OkWs P W base ts vs)(j:Nat)(t:TypeId)(v:Value)(h1:ts[j]? = some t)(h2:vs[j]? = some v):OkW P W base t v:=⟨h.h j t v h1 h2⟩
theorem s_U {W:World}{base:Nat}{t:TypeId}{v:Value}{fs:Array Field}(ht:P.underlying t=some (.struct fs))(h:OkW P W base t v):∃cs,v = .agg cs/\cs.size=P.cellsOf t:=okWide_struct ht h.h
theorem o_b {W:World}{base:Nat}{t:TypeId}{v:Value}(ht:P.underlying t=some .string)(h:OkW P W base t v):∃z,v = .string z:=okWide_string ht h.h
theorem o_c {H:Type}{enc:TypeId×Value->H}(hl:laidOutB P=true){W W':World}(hb:Below W.heap.size W W'):∀(ts:List TypeId)(vs:List Value)(ds:List (DataW H))(ps:List MemPlace),(∀t∈ts,P.readableRec t=true/\t<P.types.size) ->
  DataW.TrodAll enc P W 0 (λ_=>true) true ts vs ds ps->(∀x∈ps,x.block<W.heap.size)->∀(sp:Nat->Bool),(∀b,b<W.heap.size->sp b=true)->DataW.TrodAll enc P W' 0 sp true ts vs ds ps
 | [],[],[],_,_,h,_,_,_=>h
 | t::ts,v::vs,d::ds,ps,hr,h,hlt,sp,hsp=>by
  obtain ⟨p,q,h1,h2,rfl⟩:=h;refine ⟨p,q,?_,o_c hl hb ts vs ds q (λt ht=>hr t<|List.mem_cons_of_mem _ ht) h2 (λx hx=>hlt x<|List.mem_append_right _ hx) sp hsp,rfl⟩;have hlp:∀x∈p,x.block<W.heap.size:=λx hx=>hlt x<|List.mem_append_left _ hx
  exact WideElems.Trod_stays hl (hr t List.mem_cons_self).1 (hr t List.mem_cons_self).2 h1 (λx hx=>hb.same<|hlp x hx) (λx hx=>hsp _<|hlp x hx)
 | [],_::_,_,_,_,h,_,_,_=>by cases h
 | [],[],_::_,_,_,h,_,_,_=>by cases h
 | _::_,[],_,_,_,h,_,_,_=>by cases h
 | _::_,_::_,[],_,_,h,_,_,_=>by cases h
theorem s_V {H:Type}{enc:TypeId×Value->H}{f:Func}{s:ChangeSpec}{apart fresh handsOn again:Bool}{W W':World}{args:Array Value}{ds gs:List (DataW H)}{before:List MemPlace}{tb:TypeId}(hl:laidOutB P=true)(hread:∀t∈f.params.toList,P.readableRec t=true/\t<P.types.size)
  (hb:Below W.heap.size W W') (hW:DataW.Whole enc P f.params.toList s.vars apart W args.toList ds gs before) (hres:f.resultTypes = #[tb]) (htb:P.underlying tb=some .bool) (hvars:s.vars=[]) (hfn:s.fn H (ds++gs)={ results:=[.lit (.bool true)],args:=ds }) :
  s.post enc P f apart fresh handsOn again W args (.bool true) W':=by
 have hlt:∀x∈before,x.block<W.heap.size:=λp hp=>hW.lt p hp
 have hW':=hW;obtain ⟨p,q,hA,hV,rfl,hz,hn⟩:=hW
 rw [hvars] at hV
 obtain ⟨rfl,rfl⟩:=trodVars_none hV;have hA':=λsp hsp=>o_c hl hb _ _ _ _ hread hA (λx hx=>hlt x (by simpa using hx)) sp hsp
 have hr:∀(b:Nat)(sp:Nat->Bool)(hd:Bool),DataW.TrodAll enc P W' b sp hd f.resultTypes.toList ((Value.bool true).resultList f.resultTypes.size) (s.fn H<|ds++[]).results []:=λb sp hd=>by
  rw [hfn,hres];exact trodAll_cons_mk (shut_bool htb _) trodAll_mk0
 have hvs:∀sp:Nat->Bool,DataW.TrodVars enc P W' sp s.vars (s.fn H<|ds++[]).vars []:=λsp=>by rw [hfn,hvars];rfl
 refine ⟨ds,[],p++[],[],p,[],hW',hr _ _ _,by rw [hfn];exact hA' _ (λb hb=>by simpa using hb),hvs _,hb.frame _,λ_=>⟨?_,([.lit (.bool true)]:List (DataW H))++ds,[],([]++p)++[],⟨[]++p,[],?_,?_,rfl,?_,?_⟩,?_⟩⟩
 .exact ok_one hres rfl<|okWide_bool_mk htb _
 .have h1:=hr 0 (λ_=>true) true
  rw [hfn] at h1
  exact trodAll_append (hA' _<|λ_ _=>rfl) h1
 .rw [hvars];rfl
 .intro b off hp;have hp':MemPlace.cell b off∈p++[]:=by simpa using hp
  have:=hlt _ hp'
  rw [hb.frozen (p:=⟨b,off,none⟩) this]
  exact hz b off hp'
 .intro ha;have:=hn ha;simpa using this
 .intro x hx _;simpa using hx
end
end Go.Vw
namespace Go.Vw
open Go.RowKit Dat
theorem v_K {x y:Int}(h1 : -9223372036854775808<=x+y)(h2:x+y<=9223372036854775807):b_ x y=x+y:=by
 unfold b_;rw [IntKind.wrap_i64];omega
theorem a_y {x y:Int}(h1 : -9223372036854775808<=x - y)(h2:x - y<=9223372036854775807):w_ x y=x - y:=by
 unfold w_;rw [IntKind.wrap_i64];omega
theorem i_2 {x y:Int}(h1 : -9223372036854775808<=x * y)(h2:x * y<=9223372036854775807):b_e x y=x * y:=by
 unfold b_e;rw [IntKind.wrap_i64];omega
theorem q_t {x y:Int}(h:0<=x)(hx:x<=9223372036854775807)(hy:0<y):d_p x y=x / y:=by
 unfold d_p
 rw [Int.tdiv_eq_ediv_of_nonneg h,IntKind.wrap_i64]
 have h1:=Int.ediv_nonneg h<|Int.le_of_lt hy;have h2:=Int.ediv_le_self y h
 omega
theorem l_4 {x y:Int}(h:0<=x):b_f x y=x % y:=by
 unfold b_f;exact Int.tmod_eq_emod_of_nonneg h
theorem g_E {a b:UInt8}:byteI a=byteI b ↔ a=b:=by
 unfold byteI
 constructor
 .intro h;have:a.toNat=b.toNat:=by omega
  exact UInt8.toNat_inj.1 this
 .rintro rfl;rfl
section
variable {α:Type}
theorem n_c {l:List α}{k:Nat}(h:k<l.length):idx l (k:Int)=some l[k]:=by rw [m_h];simp [h]
theorem f_F {l:List α}{i:Int}(G:0<=i)(h:i.toNat<l.length):idx l i=some l[i.toNat]:=by
 unfold idx;rw [if_pos G];simp [h]
theorem b_W {l:List α}(h:0<l.length):idx l 0=some l[0]:=n_c (k:=0) h
theorem n_d {l:List α}(h:1<l.length):idx l 1=some l[1]:=n_c (k:=1) h
theorem d_e {l:List α}{a b:Int}(h:0<=a)(h1:a<=b)(h2:b<=l.length):slc l a b=some ((l.take b.toNat).drop a.toNat):=by
 unfold slc;rw [if_pos ⟨h,h1,h2⟩]
theorem b_o {l:List α}{x:α}(h:l.length<LIM):psh l x=some (l++[x]):=by unfold psh;rw [if_pos h]
theorem c_4 {l m:List α}(h:l.length+m.length<=LIM):app l m=some (l++m):=by unfold app;rw [if_pos h]
theorem f_G {s t:Str}(h:s.b.length+t.b.length<=LIM):cat s t=some ⟨s.b++t.b⟩:=by unfold cat;rw [if_pos h]
theorem c_a {l:List α}{k:Nat}{x:α}(h:k<l.length):upd l (k:Int) x=some (l.set k x):=by
 unfold upd;rw [if_pos ⟨by omega,by omega⟩];rfl
theorem f_H {z:α}{n:Nat}(h:n<=LIM):mk0 z (n:Int)=some (List.replicate n z):=by
 unfold mk0;rw [if_pos ⟨by omega,by omega⟩];simp
theorem v_L {z:α}{n:Int}(G:0<=n)(h:n<=LIM):mk0 z n=some (List.replicate n.toNat z):=by
 unfold mk0;rw [if_pos ⟨G,h⟩]
end
section
variable {σ ρ:Type}
theorem q_u {body:Nat->σ->Option (Out σ ρ)}(st:Nat->σ):∀n k,(∀j,k<=j->j<k+n->body j (st j)=some (.next<|st<|j+1))->u_ body n k (st k)=some (.inl<|st<|k+n)
 | 0,k,_=>rfl
 | n+1,k,h=>by
  have h1:=h k (Nat.le_refl _) (by omega);have h2:=q_u st n (k+1)<|λj a b=>h j (by omega) (by omega);unfold u_
  rw [h1]
  simp only
  rw [h2,show k+1+n=k+(n+1) by omega]
theorem b_M {body:Nat->σ->Option (Out σ ρ)}(st:Nat->σ){n:Nat}(h:∀j,j<n->body j (st j)=some (.next<|st<|j+1)):u_ body n 0 (st 0)=some (.inl<|st n):=by
 have:=q_u st n 0<|λj _ b=>h j (by omega)
 simpa using this
theorem forN_ret' {body:Nat->σ->Option (Out σ ρ)}(st:Nat->σ){r:ρ}:∀n k j0,k<=j0->j0<k+n->(∀j,k<=j->j<j0->body j (st j)=some (.next<|st<|j+1))->body j0 (st j0)=some (.ret r)->u_ body n k (st k)=some (.inr r)
 | 0,k,j0,a,b,_,_=>by omega
 | n+1,k,j0,a,b,h,hr=>by
  unfold u_
  by_cases hk:k=j0
  .subst hk;rw [hr]
  .rw [h k (Nat.le_refl _) (by omega)]
   exact forN_ret' st n (k+1) j0 (by omega) (by omega) (λj c d=>h j (by omega) d) hr
theorem n_e {body:Nat->σ->Option (Out σ ρ)}(st:Nat->σ){r:ρ}{n j0:Nat}(G:j0<n)(h:∀j,j<j0->body j (st j)=some (.next<|st<|j+1))(hr:body j0 (st j0)=some (.ret r)):u_ body n 0 (st 0)=some (.inr r) :=
 forN_ret' st n 0 j0 (by omega) (by omega) (λj _ b=>h j b) hr
theorem f_3 {body:Nat->Unit->Option (Out Unit ρ)}{n:Nat}(p:Nat->Bool)(r:Nat->ρ)(h:∀k,k<n->(∀j,j<k->p j=false)->body k ()=some (if p k then .ret (r k) else .next ())) :
  u_ body n 0 ()=some (match (List.range n).find? p with | some k=>.inr (r k) | none=>.inl ()):=by
 cases hf:(List.range n).find? p with
 | none =>
  have hn:∀k,k<n->p k=false:=λk hk=>by
   have:=List.find?_eq_none.1 hf k<|List.mem_range.2 hk
   simpa using this
  exact b_M (λ_=>()) (λj hj=>by rw [h j hj (λi hi=>hn i (by omega)),hn j hj];rfl)
 | some k =>
  obtain ⟨hp,as,bs,hl,has⟩:=List.find?_eq_some_iff_append.1 hf
  have hk:as.length<n/\as.length=k:=by
   have h1:as.length<(List.range n).length:=by rw [hl];simp
   simp at h1
   refine ⟨h1,?_⟩;have h2:(List.range n)[as.length]? = some k:=by rw [hl];simp
   rw [List.getElem?_range h1] at h2
   exact Option.some.inj h2
  obtain ⟨h1,rfl⟩:=hk
  have hb:∀j,j<as.length->p j=false:=λj hj=>by
   have h2:(List.range n)[j]? = some (as[j]):=by rw [hl,List.getElem?_append_left hj];simp
   rw [List.getElem?_range (by omega)] at h2
   have h3:=has as[j] (List.getElem_mem hj)
   rw [← Option.some.inj h2] at h3
   simpa using h3
  exact n_e (λ_=>()) h1 (λj hj=>by rw [h j (by omega) (λi hi=>hb i (by omega)),hb j hj];rfl) (by rw [h _ h1 hb,if_pos hp])
theorem v_M {α:Type}(l:List α)(p:α->Bool)(q:Nat->Bool)(h:∀k (hk:k<l.length),q k=p l[k]):(List.range l.length).any q=l.any p:=by
 rw [Bool.eq_iff_iff]
 simp only [List.any_eq_true,List.mem_range]
 constructor
 .rintro ⟨k,hk,hq⟩;exact ⟨l[k],List.getElem_mem hk,by rw [← h k hk];exact hq⟩
 .rintro ⟨x,hx,hp⟩;obtain ⟨k,hk,rfl⟩:=List.getElem_of_mem hx;exact ⟨k,hk,by rw [h k hk];exact hp⟩
theorem e_y {body:Nat->Unit->Option (Out Unit ρ)}{n:Nat}(p:Nat->Bool)(r:ρ)(h:∀k,k<n->(∀j,j<k->p j=false)->body k ()=some (if p k then .ret r else .next ())) :
  u_ body n 0 ()=some (if (List.range n).any p then .inr r else .inl ()):=by
 rw [f_3 p (λ_=>r) h]
 cases hf:(List.range n).find? p with
 | none =>
  have:(List.range n).any p=false:=by
   rw [List.any_eq_false];exact λx hx=>by simpa using List.find?_eq_none.1 hf x hx
  rw [this];rfl
 | some k =>
  have:(List.range n).any p=true:=List.any_eq_true.2 ⟨k,List.mem_of_find?_eq_some hf,List.find?_some hf⟩
  rw [this];rfl
theorem e_8 {α:Type}{body:Nat->Unit->Option (Out Unit ρ)}{l:List α}(p:α->Bool)(r:ρ)(h:∀k (hk:k<l.length),body k ()=some (if p l[k] then .ret r else .next ())) :
  u_ body l.length 0 ()=some (if l.any p then .inr r else .inl ()):=by
 rw [e_y (λk=>if hk:k<l.length then p l[k] else false) r (λk hk _=>by rw [dif_pos hk];exact h k hk)]
 rw [v_M l p _ (λk hk=>by rw [dif_pos hk])]
theorem iter_brk' {step:σ->Option (Out σ ρ)}(st:Nat->σ){s:σ}:∀m k j0,k<=j0->j0<k+m->(∀j,k<=j->j<j0->step (st j)=some (.next<|st<|j+1))->step (st j0)=some (.brk s)->I_ step m (st k)=some (.inl s)
 | 0,k,j0,a,b,_,_=>by omega
 | m+1,k,j0,a,b,h,hr=>by
  unfold I_
  by_cases hk:k=j0
  .subst hk;rw [hr]
  .rw [h k (Nat.le_refl _) (by omega)]
   exact iter_brk' st m (k+1) j0 (by omega) (by omega) (λj c d=>h j (by omega) d) hr
theorem f_4 {step:σ->Option (Out σ ρ)}(st:Nat->σ){s:σ}{m j0:Nat}(G:j0<m)(h:∀j,j<j0->step (st j)=some (.next<|st<|j+1))(hr:step (st j0)=some (.brk s)):I_ step m (st 0)=some (.inl s) :=
 iter_brk' st m 0 j0 (by omega) (by omega) (λj _ b=>h j b) hr
theorem iter_ret' {step:σ->Option (Out σ ρ)}(st:Nat->σ){r:ρ}:∀m k j0,k<=j0->j0<k+m->(∀j,k<=j->j<j0->step (st j)=some (.next<|st<|j+1))->step (st j0)=some (.ret r)->I_ step m (st k)=some (.inr r)
 | 0,k,j0,a,b,_,_=>by omega
 | m+1,k,j0,a,b,h,hr=>by
  unfold I_
  by_cases hk:k=j0
  .subst hk;rw [hr]
  .rw [h k (Nat.le_refl _) (by omega)]
   exact iter_ret' st m (k+1) j0 (by omega) (by omega) (λj c d=>h j (by omega) d) hr
theorem q_v {step:σ->Option (Out σ ρ)}(st:Nat->σ){r:ρ}{m j0:Nat}(G:j0<m)(h:∀j,j<j0->step (st j)=some (.next<|st<|j+1))(hr:step (st j0)=some (.ret r)):I_ step m (st 0)=some (.inr r) :=
 iter_ret' st m 0 j0 (by omega) (by omega) (λj _ b=>h j b) hr
end
theorem q_w {s:Str}{p:Nat}(h:p<s.b.length)(ha:s.b[p].toNat<128):dec s p=((s.b[p].toNat:Int),1):=by
 have hq:p<(⟨s.b.toArray⟩:ByteArray).size:=by simpa [ByteArray.size] using h
 have hb:(⟨s.b.toArray⟩:ByteArray)[p]'hq=s.b[p]:=rfl;unfold dec
 rw [decode_ascii _ p hq (by rw [hb];exact ha),hb]
theorem v_N {s:Str}{p:Nat}(h:p<s.b.length)(ha:128<=s.b[p].toNat):128<=(dec s p).1:=by
 have hq:p<(⟨s.b.toArray⟩:ByteArray).size:=by simpa [ByteArray.size] using h
 have hb:(⟨s.b.toArray⟩:ByteArray)[p]'hq=s.b[p]:=rfl;unfold dec;have:=(decode_high _ p hq (by rw [hb];exact ha)).1
 simp only
 omega
abbrev bF_:=@Bool.false_eq_true
abbrev dT_:=@decide_eq_true
abbrev dF_:=@decide_eq_false
abbrev bQ_:=@beq_self_eq_true
abbrev mT_:=@List.mem_cons_of_mem
abbrev mS_:=@List.mem_cons_self
abbrev gE_:=@List.getElem_mem
abbrev oI_:=@Option.some.injEq
abbrev gG_:=@List.getElem?_eq_getElem
abbrev gD_:=@List.getD_eq_getElem?_getD
abbrev aE_:=@Bool.and_eq_true
abbrev dE_:=@decide_eq_true_eq
abbrev tN_:=@Int.toNat_natCast
abbrev gS_:=@List.getElem?_eq_some_iff
abbrev iP_:=@if_pos
abbrev iN_:=@if_neg
abbrev fF_:=@if_false
abbrev fT_:=@if_true
abbrev gN_:=@List.getElem?_eq_none
abbrev nT_:=@Bool.not_true
abbrev ix_:=@n_c
abbrev ia_:=@v_K
abbrev lC_:=@List.length_cons
abbrev bN_:=@bne_self_eq_false
abbrev dC_:=@List.drop_eq_getElem_cons
end Go.Vw
