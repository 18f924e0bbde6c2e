import Derived.Test.YtajhmimbhplkfaaGreatDoorV0
import Derived.Carry
import Derived.Deep.DeepHandedRow
import Derived.WalkKit
import Derived.ProofKit
import Derived.OpenShut
import Derived.Laws.RangeAny
set_option linter.unusedVariables false
namespace Go.Vw
def h_K (x1:List UInt8)(x2:Int):Option Int :=
 if (decide<|(x_ x2 (x1.length:Int))<0)=true then some (-1) else some (x_ x2 (x1.length:Int))
def h_L (x1:List Str)(x2:Int):Option Int :=
 if (decide<|(x_ x2 (x1.length:Int))<0)=true then some (-1) else bd (t_ (σ:=Int) (ρ:=Int) (fun H=>(fun h=>bd (idx x1 (H:Int)) fun G=>if (decide<|(x_ h (G.b.length:Int))<0)=true then some (.ret (-1)) else some (.next<|x_ h (G.b.length:Int)))) x1.length 0<|x_ x2 (x1.length:Int)) (el (fun h=>some h)<|fun I=>some I)
def h_M (x1:List Int)(x2:Int):Option Int :=
 if (decide<|(x_ x2 (x1.length:Int))<0)=true then some (-1) else some (x_ x2 (x1.length:Int))
def g_w (x1:g_)(x2:Int):Option Int :=
 if (decide<|(x_ x2 (x1.name.b.length:Int))<0)=true then some (-1) else bd (h_K x1.bytes<|x_ x2 (x1.name.b.length:Int)) fun h=>if (decide<|h<0)=true then some (-1) else bd (h_L x1.names h) fun G=>if (decide<|G<0)=true then some (-1) else bd (h_M x1.tags G) fun H=>if (decide<|H<0)=true then some (-1) else bd (h_M x1.kids H) fun I=>if (decide<|I<0)=true then some (-1) else some I
def k_L (x1:List g_)(x2:Int):Option Int :=
 if (decide<|(x_ x2 (x1.length:Int))<0)=true then some (-1) else bd (t_ (σ:=Int) (ρ:=Int) (fun H=>(fun h=>bd (idx x1 (H:Int)) fun I=>bd (g_w I h) fun G=>if (decide<|G<0)=true then some (.ret (-1)) else some (.next G))) x1.length 0<|x_ x2 (x1.length:Int)) (el (fun h=>some h)<|fun J=>some J)
def g_x (x1:e_)(x2:Int):Option Int :=
 bd (k_L x1.rules x2) fun h=>if (decide<|h<0)=true then some (-1) else some h
def g_y (x1:List UInt8):Option (List UInt8) :=
 bd (mk0 (0:UInt8) (x1.length:Int)) fun H=>bd (t_ (σ:=List UInt8) (ρ:=List UInt8) (fun G=>(fun h=>bd (idx x1 (G:Int)) fun I=>bd (upd h (G:Int) I) fun J=>some<|.next J)) x1.length 0 H)<|el (fun h=>some h)<|fun L=>some L
def h_N (x1:List Str):Option (List Str) :=
 bd (mk0 (⟨[]⟩:Str) (x1.length:Int)) fun H=>bd (t_ (σ:=List Str) (ρ:=List Str) (fun G=>(fun h=>bd (idx x1 (G:Int)) fun I=>bd (upd h (G:Int) I) fun J=>some<|.next J)) x1.length 0 H)<|el (fun h=>some h)<|fun L=>some L
def g_z (x1:List Int):Option (List Int) :=
 bd (mk0 0 (x1.length:Int)) fun H=>bd (t_ (σ:=List Int) (ρ:=List Int) (fun G=>(fun h=>bd (idx x1 (G:Int)) fun I=>bd (upd h (G:Int) I) fun J=>some<|.next J)) x1.length 0 H)<|el (fun h=>some h)<|fun L=>some L
def h_O (x1:g_):Option g_ :=
 bd (g_y x1.bytes) fun h=>bd (h_N x1.names) fun G=>bd (g_z x1.tags) fun H=>bd (g_z x1.kids) fun I=>some (⟨x1.name,x1.kind,x1.size,x1.little,h,G,H,I⟩:g_)
def k_M (x1:List g_):Option (List g_) :=
 bd (mk0 (⟨(⟨[]⟩:Str),0,0,false,([]:List UInt8),([]:List Str),([]:List Int),([]:List Int)⟩:g_) (x1.length:Int)) fun H=>bd (t_ (σ:=List g_) (ρ:=List g_) (fun G=>(fun h=>bd (idx x1 (G:Int)) fun I=>bd (h_O I) fun J=>bd (upd h (G:Int) J) fun L=>some<|.next L)) x1.length 0 H)<|el (fun h=>some h)<|fun O=>some O
def h_P (x1:e_):Option e_ :=
 bd (k_M x1.rules) fun h=>some (⟨h⟩:e_)
def g_A (n:Nat)(x1:Str)(x2:UInt8):Option (List Str) :=
 bd (O_ (σ:=(List Str)×Int×Int) (ρ:=List Str) (un3 fun G H h=>if (decide<|h<=(x1.b.length:Int))=true then bd (α:=Bool) (if (h==(x1.b.length:Int))=true then some true else bd (idx x1.b h) fun I=>some<|(byteI I)==(byteI x2)) (fun J=>bd (α:=(List Str)×Int) (if J=true then bd (b_V x1 H h) fun L=>bd (psh G L) fun O=>some (O,b_ h 1) else some (G,H))<|un2 fun V W=>some<|.next (V,W,b_ h 1)) else some (.brk (G,H,h))) n (([]:List Str),0,0)) (el (un3 fun G H h=>some G)<|fun Y=>some Y)
def a_G (x1:Int)(x2:Int)(x3:Int):Option Bool :=
 bd (α:=Bool) (if (decide<|x2<=x1)=true then some (decide<|x1<=x3) else some false) (fun h=>some h)
def e_Z (x1:Str):Option Bool :=
 bd (t_ (σ:=Unit) (ρ:=Bool) (fun h=>(fun (_:Unit)=>bd (α:=Bool) (bd (idx x1.b (h:Int)) fun G=>if (decide<|(byteI (97:UInt8))<=(byteI G))=true then bd (idx x1.b (h:Int)) fun H=>some (decide<|(byteI H)<=(byteI (122:UInt8))) else some false) (fun I=>bd (α:=Bool) (bd (idx x1.b (h:Int)) fun J=>if (decide<|(byteI (48:UInt8))<=(byteI J))=true then bd (idx x1.b (h:Int)) fun L=>some (decide<|(byteI L)<=(byteI (57:UInt8))) else some false) (fun O=>bd (α:=Bool) (if (!I)=true then if (!O)=true then some true else some ((h:Int)==0) else some false) (fun V=>if V=true then some (.ret false) else some (.next ())))))) x1.b.length 0 ()) (el (fun (_:Unit)=>bd (a_G (x1.b.length:Int) 1 12) fun W=>some W)<|fun Y=>some Y)
def d_y (n:Nat)(x1:Int):Option Str :=
 if (x1==0)=true then some (⟨[48]⟩:Str) else bd (O_ (σ:=Str×Int) (ρ:=Str) (un2 fun G h=>if (h != 0)=true then bd (α:=Int) (if (decide<|(b_L h 10)<0)=true then some (g_7<|b_L h 10) else some (b_L h 10)) (fun H=>bd (cat (⟨[mkB (b_ 48 H)]⟩:Str) G) fun I=>some<|.next (I,e_C h 10)) else some (.brk (G,h))) n ((⟨[]⟩:Str),x1)) (el (un2 fun G h=>if (decide<|x1<0)=true then bd (cat (⟨[45]⟩:Str) G) fun J=>some J else some G)<|fun L=>some L)
def g_B (n:Nat)(x1:Str):Option (Int×Bool) :=
 bd (a_G (x1.b.length:Int) 1 13) fun H=>if (!H)=true then some (0,false) else bd (t_ (σ:=Int) (ρ:=Int×Bool) (fun G=>(fun h=>bd (idx x1.b (G:Int)) fun I=>bd (a_G (byteI I) 48 57) fun J=>if (!J)=true then some (.ret (0,false)) else bd (idx x1.b (G:Int)) fun L=>some<|.next<|b_ (b_6 10 h)<|byteI<|mkB<|byteI L - byteI (48:UInt8))) x1.b.length 0 0) (el (fun h=>bd (α:=Bool) (if (decide<|1000000000000<h)=true then some true else bd (d_y n h) fun O=>some<|O.b != x1.b) (fun V=>if V=true then some (0,false) else some (h,true)))<|fun W=>some W)
def e_r (n:Nat)(x1:Str):Option Bool :=
 bd (α:=Bool) (bd (e_Z x1) fun h=>if h=true then some true else if (x1.b==(⟨[42]⟩:Str).b)=true then some true else if (x1.b==(⟨[63]⟩:Str).b)=true then some true else some (x1.b==(⟨[43]⟩:Str).b)) (fun G=>if G=true then some true else bd2 (g_B n x1) fun H I=>bd (α:=Bool) (if I=true then bd (d_y n H) fun J=>some (J.b==x1.b) else some false)<|fun L=>some L)
def h_Q (n:Nat)(x1:Str):Option ((List Str)×Bool) :=
 if (x1.b==(⟨[]⟩:Str).b)=true then some (([]:List Str),true) else bd (g_A n x1 (47:UInt8)) fun h=>bd (idx h 0) fun H=>if (H.b != (⟨[]⟩:Str).b)=true then some (([]:List Str),false) else bd (O_ (σ:=Int) (ρ:=(List Str)×Bool) (fun G=>if (decide<|G<(h.length:Int))=true then bd (idx h G) fun I=>bd (e_r n I) fun J=>if (!J)=true then some (.ret (([]:List Str),false)) else some (.next<|b_ G 1) else some (.brk G)) n 1) (el (fun G=>bd (slc h 1 (h.length:Int)) fun L=>some (L,decide<|1<(h.length:Int)))<|fun O=>some O)
def c_J (x1:g_)(x2:Bool)(x3:Bool)(x4:Bool)(x5:Bool)(x6:Int):Option Bool :=
 bd (α:=Bool) (bd (α:=Bool) (if x2=true then some true else some (x1.size==0)) fun h=>bd (α:=Bool) (if h=true then if x3=true then some true else some ((x1.bytes.length:Int)==0) else some false) fun G=>bd (α:=Bool) (if G=true then if x4=true then some true else some ((x1.names.length:Int)==0) else some false) fun H=>bd (α:=Bool) (if H=true then if x5=true then some true else some ((x1.tags.length:Int)==0) else some false) fun I=>bd (α:=Bool) (if I=true then if (decide<|x6<0)=true then some true else some ((x1.kids.length:Int)==x6) else some false) fun J=>if J=true then if (!x1.little)=true then some true else some (x1.kind==1) else some false) (fun L=>some L)
def f_A (x1:Int):Option Int :=
 bd (nn<|b_6 8 x1) fun h=>some<|b_v .i64 1<|b_6 8 x1
def f_B (x1:e_)(x2:Int):Option Int :=
 bd (α:=Bool) (bd (a_G x2 0<|x_ (x1.rules.length:Int) 1) fun h=>if (!h)=true then some true else bd (idx x1.rules x2) fun G=>if (G.kind != 1)=true then some true else bd (idx x1.rules x2) fun H=>bd (a_G H.size 1 4) fun I=>some (!I)) (fun J=>if J=true then some (-1) else bd (idx x1.rules x2) fun L=>bd (f_A L.size) fun O=>some<|x_ O 1)
def h_R (x1:List Str)(x2:Str):Option Bool :=
 bd (t_ (σ:=Unit) (ρ:=Bool) (fun h=>(fun (_:Unit)=>bd (idx x1 (h:Int)) fun G=>if (G.b==x2.b)=true then some (.ret true) else some (.next ()))) x1.length 0 ()) (el (fun (_:Unit)=>some false)<|fun H=>some H)
def h_S (x1:List Str):Option Bool :=
 bd (t_ (σ:=Unit) (ρ:=Bool) (fun h=>(fun (_:Unit)=>bd (α:=Bool) (bd (idx x1 (h:Int)) fun G=>bd (e_Z G) fun H=>if (!H)=true then some true else bd (slc x1 0 (h:Int)) fun I=>bd (idx x1 (h:Int)) fun J=>bd (h_R I J) fun L=>some L) (fun O=>if O=true then some (.ret false) else some (.next ())))) x1.length 0 ()) (el (fun (_:Unit)=>bd (a_G (x1.length:Int) 1 8) fun V=>some V)<|fun W=>some W)
def h_T (x1:e_)(x2:g_):Option Bool :=
 bd (α:=Bool) (if ((x2.kids.length:Int) != (b_ (x2.tags.length:Int) 1))=true then some true else bd (a_G (x2.tags.length:Int) 1 8) fun G=>some (!G)) (fun H=>if H=true then some false else bd (t_ (σ:=Unit) (ρ:=Bool) (fun h=>(fun (_:Unit)=>bd (α:=Bool) (bd (idx x2.tags (h:Int)) fun I=>bd (idx x2.kids 0) fun J=>bd (f_B x1 J) fun L=>bd (a_G I 0 L) fun O=>if (!O)=true then some true else if (decide<|0<(h:Int))=true then bd (idx x2.tags<|x_ (h:Int) 1) fun V=>bd (idx x2.tags (h:Int)) fun W=>some (decide<|W<=V) else some false) (fun Y=>if Y=true then some (.ret false) else some (.next ())))) x2.tags.length 0 ()) (el (fun (_:Unit)=>some true)<|fun a0=>some a0))
def h_U (x1:e_)(x2:g_):Option Bool :=
 if (x2.kind==1)=true then bd (α:=Bool) (bd (c_J x2 true false false false 0) fun h=>if h=true then bd (a_G x2.size 1 4) fun G=>if G=true then if (!x2.little)=true then some true else some (decide<|1<x2.size) else some false else some false) (fun H=>some H) else if (x2.kind==2)=true then bd (α:=Bool) (bd (c_J x2 false true false false 0) fun I=>if I=true then bd (a_G (x2.bytes.length:Int) 1 16) fun J=>some J else some false) (fun L=>some L) else if (x2.kind==3)=true then bd (α:=Bool) (bd (c_J x2 true false false false 0) fun O=>if O=true then bd (a_G x2.size 1 64) fun V=>some V else some false) (fun W=>some W) else if (x2.kind==4)=true then bd (α:=Bool) (bd (c_J x2 false false false false 1) fun Y=>if Y=true then bd (idx x2.kids 0) fun a0=>bd (f_B x1 a0) fun a1=>some (decide<|0<a1) else some false) (fun a2=>some a2) else if (x2.kind==5)=true then bd (α:=Bool) (bd (c_J x2 false false false false 2) fun a3=>if a3=true then bd (idx x2.kids 0) fun a4=>bd (f_B x1 a4) fun a5=>some (decide<|0<a5) else some false) (fun a6=>some a6) else if (x2.kind==6)=true then bd (α:=Bool) (bd (c_J x2 false false true false (x2.names.length:Int)) fun a7=>if a7=true then bd (h_S x2.names) fun a8=>some a8 else some false) (fun a9=>some a9) else if (x2.kind==7)=true then bd (α:=Bool) (bd (c_J x2 false false false true (-1)) fun aa=>if aa=true then bd (h_T x1 x2) fun ab=>some ab else some false) (fun ad=>some ad) else bd (α:=Bool) (if (x2.kind==8)=true then some (x2.kind==8) else some (x2.kind==9)) (fun ae=>if ae=true then bd (c_J x2 false false false false 1) fun af=>some af else if (x2.kind==10)=true then bd (α:=Bool) (bd (c_J x2 false true false false 0) fun ah=>if ah=true then if ((x2.bytes.length:Int)==1)=true then bd (idx x2.bytes 0) fun ai=>some ((byteI ai) != (byteI (92:UInt8))) else some false else some false) (fun aj=>some aj) else some false)
def h_V (x1:e_)(x2:Int):Option Bool :=
 bd (a_G x2 0<|x_ (x1.rules.length:Int) 1) fun G=>if (!G)=true then some false else bd (idx x1.rules x2) fun h=>bd (t_ (σ:=Unit) (ρ:=Bool) (fun H=>(fun (_:Unit)=>bd (idx x1.rules (H:Int)) fun I=>if (I.name.b==h.name.b)=true then some (.ret false) else some (.next ()))) x2.toNat 0 ()) (el (fun (_:Unit)=>bd (t_ (σ:=Unit) (ρ:=Bool) (fun J=>(fun (_:Unit)=>bd (idx h.kids (J:Int)) fun L=>bd (a_G L 0<|x_ x2 1) fun O=>if (!O)=true then some (.ret false) else some (.next ()))) h.kids.length 0 ()) (el (fun (_:Unit)=>bd (α:=Bool) (bd (e_Z h.name) fun V=>if V=true then bd (h_U x1 h) fun W=>some W else some false)<|fun Y=>some Y)<|fun a0=>some a0))<|fun a1=>some a1)
def g_C (x1:e_):Option Bool :=
 bd (t_ (σ:=Unit) (ρ:=Bool) (fun h=>(fun (_:Unit)=>bd (h_V x1 (h:Int)) fun G=>if (!G)=true then some (.ret false) else some (.next ()))) x1.rules.length 0 ()) (el (fun (_:Unit)=>bd (a_G (x1.rules.length:Int) 1 24) fun H=>some H)<|fun I=>some I)
def g_D (x1:e_):Option Int :=
 some (x_ (x1.rules.length:Int) 1)
def f_C (x1:List UInt8)(x2:Bool):Option Int :=
 if (decide<|4<(x1.length:Int))=true then some 0 else bd (t_ (σ:=Int) (ρ:=Int) (fun G=>(fun h=>bd (α:=Int) (if x2=true then some (x_ (x_ (x1.length:Int) 1) (G:Int)) else some (G:Int))<|fun H=>bd (idx x1 H) fun I=>some<|.next<|b_ (b_6 h 256)<|byteI I)) x1.length 0 0) (el (fun h=>some h)<|fun J=>some J)
def d_f (x1:e_)(x2:Int)(x3:List UInt8)(x4:Int):Option (Int×Int×Bool) :=
 bd (idx x1.rules x2) fun h=>if (decide<|(x_ (x3.length:Int) x4)<h.size)=true then some (0,x4,false) else bd (slc x3 x4<|b_ x4 h.size) fun G=>bd (f_C G h.little) fun H=>some (H,b_ x4 h.size,true)
def d_z (x1:g_)(x2:Int)(x3:Int):Option Int :=
 if (x1.kind==5)=true then bd (idx x1.kids 1) fun G=>some G else bd (α:=Sum Unit Int) (if (x1.kind==6)=true then if (decide<|x3<(x1.kids.length:Int))=true then bd (idx x1.kids x3) fun H=>some (.inr H) else some (.inl ()) else bd (α:=Sum Unit<|Sum Unit Int) (if (x1.kind==7)=true then bd (t_ (σ:=Unit) (ρ:=Int) (fun h=>(fun (_:Unit)=>bd (idx x1.tags (h:Int)) fun I=>if (I==x2)=true then bd (idx x1.kids ((h+1:Nat):Int)) fun J=>some (.ret J) else some (.next ()))) x1.tags.length 0 ()) (el (fun (_:Unit)=>some<|.inl ())<|fun L=>some<|.inr<|.inr L) else bd (α:=Bool) (if (x1.kind==8)=true then some (x1.kind==8) else some (x1.kind==9)) (fun O=>if O=true then bd (idx x1.kids 0) fun V=>some (.inr<|.inr V) else some (.inl ()))) (el (fun (_:Unit)=>some<|.inl ()) some)) (el (fun (_:Unit)=>some (-1)) some)
def g_E (n:Nat)(x1:g_)(x2:Int):Option Str :=
 if (x1.kind==5)=true then bd (d_y n x2) fun h=>some h else bd (α:=Bool) (if (x1.kind==6)=true then some (decide<|x2<(x1.names.length:Int)) else some false) (fun G=>if G=true then bd (idx x1.names x2) fun H=>some H else bd (α:=Bool) (if (x1.kind==7)=true then some (x2==0) else some false) (fun I=>if I=true then some (⟨[42]⟩:Str) else bd (α:=Bool) (if (x1.kind==8)=true then some (x2==0) else some false) (fun J=>if J=true then some (⟨[63]⟩:Str) else bd (α:=Bool) (if (x1.kind==9)=true then some (x2==0) else some false) (fun L=>if L=true then some (⟨[43]⟩:Str) else some (⟨[]⟩:Str)))))
def h_W (x1:g_)(x2:List UInt8)(x3:Int):Option (Val×Int×Int) :=
 bd (t_ (σ:=Unit) (ρ:=Val×Int×Int) (fun h=>(fun (_:Unit)=>if (decide<|(x2.length:Int)<=(b_ x3 (h:Int)))=true then some (.ret ((⟨0,([]:List UInt8),([]:List Val)⟩:Val),x3,1)) else bd (idx x2<|b_ x3 (h:Int)) fun G=>bd (idx x1.bytes (h:Int)) fun H=>if ((byteI G) != (byteI H))=true then some (.ret ((⟨0,([]:List UInt8),([]:List Val)⟩:Val),b_ x3 (h:Int),2)) else some (.next ()))) x1.bytes.length 0 ()) (el (fun (_:Unit)=>some ((⟨0,([]:List UInt8),([]:List Val)⟩:Val),b_ x3 (x1.bytes.length:Int),0))<|fun I=>some I)
def g_F (x1:List UInt8)(x2:Int)(x3:Int):Option (Val×Int×Int) :=
 if (decide<|(x_ (x1.length:Int) x2)<x3)=true then some ((⟨0,([]:List UInt8),([]:List Val)⟩:Val),x2,1) else bd (slc x1 x2<|b_ x2 x3) fun h=>bd (app ([]:List UInt8) h) fun G=>some ((⟨0,G,([]:List Val)⟩:Val),b_ x2 x3,0)
def h_X (n:Nat)(x1:List UInt8)(x2:Int)(x3:UInt8):Option ((List UInt8)×Int×Bool) :=
 bd (O_ (σ:=(List UInt8)×Int) (ρ:=(List UInt8)×Int×Bool) (un2 fun G h=>bd (α:=Bool) (bd (a_G x2 0 (x1.length:Int)) fun I=>if I=true then some (decide<|h<(x1.length:Int)) else some false) (fun J=>if J=true then bd (idx x1 h) fun L=>if ((byteI L)==(byteI x3))=true then some (.ret (G,b_ h 1,true)) else bd (idx x1 h) fun O=>bd (α:=Sum Int<|Out ((List UInt8)×Int)<|(List UInt8)×Int×Bool) (if ((byteI O)==(byteI (92:UInt8)))=true then if ((b_ h 1)==(x1.length:Int))=true then some (.inr<|.brk (G,b_ h 1)) else some (.inl<|b_ h 1) else some (.inl h)) (el (fun H=>bd (idx x1 H) fun V=>bd (psh G V) fun W=>some<|.next (W,b_ H 1)) some) else some (.brk (G,h)))) n (([]:List UInt8),x2)) (el (un2 fun G h=>some (([]:List UInt8),x2,false))<|fun Y=>some Y)
def g_G (x1:List UInt8):Option Int :=
 bd (t_ (σ:=Int) (ρ:=Int) (fun G=>(fun h=>bd (idx x1 (G:Int)) fun H=>some<|.next<|b_L (b_ h<|byteI H) 256)) x1.length 0 0) (el (fun h=>some h)<|fun I=>some I)
structure g_H where
 spec_l11Read:e_->Int->(List UInt8)->Int->Option (Val×Int×Int)
 spec_l11Items:e_->g_->Int->Int->(List UInt8)->Int->Option (Val×Int×Int)
 spec_l11Choice:e_->g_->(List UInt8)->Int->Option (Val×Int×Int)
 spec_l11Option:e_->g_->(List UInt8)->Int->Option (Val×Int×Int)
 spec_l11Checked:e_->g_->(List UInt8)->Int->Option (Val×Int×Int)
def h_Y (n:Nat)(rec:g_H)(x1:e_)(x2:Int)(x3:List UInt8)(x4:Int):Option (Val×Int×Int) :=
 bd (idx x1.rules x2) fun h=>if (h.kind==1)=true then bd3 (d_f x1 x2 x3 x4) fun I J L=>if (!L)=true then some ((⟨0,([]:List UInt8),([]:List Val)⟩:Val),x4,1) else some ((⟨I,([]:List UInt8),([]:List Val)⟩:Val),J,0) else if (h.kind==2)=true then bd3 (h_W h x3 x4) fun O V W=>some (O,V,W) else if (h.kind==3)=true then bd3 (g_F x3 x4 h.size) fun Y a0 a1=>some (Y,a0,a1) else if (h.kind==10)=true then bd (idx h.bytes 0) fun a2=>bd3 (h_X n x3 x4 a2) fun a3 a4 a5=>if (!a5)=true then some ((⟨0,([]:List UInt8),([]:List Val)⟩:Val),x4,1) else some ((⟨0,a3,([]:List Val)⟩:Val),a4,0) else if (h.kind==6)=true then bd3 (rec.spec_l11Items x1 h 0 (h.kids.length:Int) x3 x4) fun a6 a7 a8=>some (a6,a7,a8) else if (h.kind==7)=true then bd3 (rec.spec_l11Choice x1 h x3 x4) fun a9 aa ab=>some (a9,aa,ab) else if (h.kind==8)=true then bd3 (rec.spec_l11Option x1 h x3 x4) fun ad ae af=>some (ad,ae,af) else if (h.kind==9)=true then bd3 (rec.spec_l11Checked x1 h x3 x4) fun ah ai aj=>some (ah,ai,aj) else bd (idx h.kids 0) fun ak=>bd3 (d_f x1 ak x3 x4) fun G H al=>if (!al)=true then some ((⟨0,([]:List UInt8),([]:List Val)⟩:Val),x4,1) else if (h.kind==4)=true then bd3 (g_F x3 H G) fun am an ao=>some (am,an,ao) else if (decide<|40<G)=true then some ((⟨0,([]:List UInt8),([]:List Val)⟩:Val),x4,6) else bd3 (rec.spec_l11Items x1 h 0 G x3 H) fun ap aq ar=>some (ap,aq,ar)
def h_Z (n:Nat)(rec:g_H)(x1:e_)(x2:g_)(x3:Int)(x4:Int)(x5:List UInt8)(x6:Int):Option (Val×Int×Int) :=
 bd (t_ (σ:=Int×(List Val)) (ρ:=Val×Int×Int) (fun L=>un2 fun h G=>bd (α:=Int×(List UInt8)×(List Val)×Int×Int) (bd (d_z x2 x3 (L:Int)) fun O=>bd3 (rec.spec_l11Read x1 O x5 h) fun H V W=>some (H.number,H.bytes,H.items,V,W)) (un5 fun Y a0 a1 I J=>if (J != 0)=true then some (.ret ((⟨0,([]:List UInt8),([]:List Val)⟩:Val),I,J)) else bd (psh G (⟨Y,a0,a1⟩:Val)) fun a2=>some<|.next (I,a2))) x4.toNat 0 (x6,([]:List Val))) (el (un2 fun h G=>some ((⟨0,([]:List UInt8),G⟩:Val),h,0))<|fun a3=>some a3)
def i_0 (n:Nat)(rec:g_H)(x1:e_)(x2:g_)(x3:List UInt8)(x4:Int):Option (Val×Int×Int) :=
 bd (idx x2.kids 0) fun I=>bd3 (d_f x1 I x3 x4) fun h J L=>if (!L)=true then some ((⟨0,([]:List UInt8),([]:List Val)⟩:Val),x4,1) else bd (d_z x2 h 0) fun O=>if (decide<|O<0)=true then some ((⟨0,([]:List UInt8),([]:List Val)⟩:Val),x4,3) else bd3 (rec.spec_l11Items x1 x2 h 1 x3 J) fun G V H=>bd (α:=Int) (if (H==0)=true then some h else some G.number)<|fun W=>some ((⟨W,G.bytes,G.items⟩:Val),V,H)
def i_1 (n:Nat)(rec:g_H)(x1:e_)(x2:g_)(x3:List UInt8)(x4:Int):Option (Val×Int×Int) :=
 if (decide<|(x3.length:Int)<=x4)=true then some ((⟨0,([]:List UInt8),([]:List Val)⟩:Val),x4,1) else bd (idx x3 x4) fun h=>if (decide<|(byteI (1:UInt8))<(byteI h))=true then some ((⟨0,([]:List UInt8),([]:List Val)⟩:Val),x4,4) else bd (idx x3 x4) fun G=>bd3 (rec.spec_l11Items x1 x2 0 (byteI G) x3<|b_ x4 1) fun H I J=>some (H,I,J)
def i_2 (n:Nat)(rec:g_H)(x1:e_)(x2:g_)(x3:List UInt8)(x4:Int):Option (Val×Int×Int) :=
 bd3 (rec.spec_l11Items x1 x2 0 1 x3 x4) fun G h H=>if (H != 0)=true then some (G,h,H) else if (decide<|(x3.length:Int)<=h)=true then some ((⟨0,([]:List UInt8),([]:List Val)⟩:Val),h,1) else bd (idx x3 h) fun I=>bd (slc x3 x4 h) fun J=>bd (g_G J) fun L=>if ((byteI I) != L)=true then some ((⟨0,([]:List UInt8),([]:List Val)⟩:Val),h,5) else some (G,b_ h 1,0)
def a_t:Nat->g_H
 | 0=>⟨fun _ _ _ _=>none,fun _ _ _ _ _ _=>none,fun _ _ _ _=>none,fun _ _ _ _=>none,fun _ _ _ _=>none⟩
 | n+1=>⟨h_Y n<|a_t n,h_Z n<|a_t n,i_0 n<|a_t n,i_1 n<|a_t n,i_2 n<|a_t n⟩
def i_3 (n:Nat):=(a_t n).spec_l11Read
def f_D (n:Nat):=(a_t n).spec_l11Items
def i_4 (x1:e_)(x2:Int):Option Bool :=
 bd (α:=Bool) (bd (a_G x2 0<|x_ (x1.rules.length:Int) 1) fun h=>if h=true then bd (g_C x1) fun G=>some G else some false) (fun H=>some H)
def i_5 (n:Nat)(x1:e_)(x2:Int)(x3:List UInt8)(x4:Int):Option (Val×Int×Int) :=
 bd (α:=Bool) (bd (i_4 x1 x2) fun h=>if (!h)=true then some true else bd (a_G x4 0 (x3.length:Int)) fun G=>if (!G)=true then some true else some (decide<|400<(x3.length:Int))) (fun H=>if H=true then some ((⟨0,([]:List UInt8),([]:List Val)⟩:Val),0,8) else bd3 (i_3 n x1 x2 x3 x4) fun I J L=>some (I,J,L))
def i_6 (n:Nat)(x1:e_)(x2:List UInt8):Option (Val×Int×Int) :=
 bd (α:=Int×(List UInt8)×(List Val)×Int×Int) (bd (g_D x1) fun I=>bd3 (i_5 n x1 I x2 0) fun h J L=>some (h.number,h.bytes,h.items,J,L)) (un5 fun O V W G H=>bd (α:=Bool) (if (H==0)=true then some (decide<|G<(x2.length:Int)) else some false) (fun Y=>if Y=true then some ((⟨0,([]:List UInt8),([]:List Val)⟩:Val),G,7) else some ((⟨O,V,W⟩:Val),G,H)))
def g_I (n:Nat)(x1:e_)(x2:List UInt8):Option Bool :=
 bd3 (i_6 n x1 x2) fun G H h=>some<|h==0
def f_0 (x1:Str)(x2:UInt8):Option (List Str) :=
 bd (t_ (σ:=(List Str)×Int) (ρ:=List Str) (fun H=>un2 fun h G=>bd (idx x1.b (H:Int)) fun I=>bd (α:=(List Str)×Int) (if ((byteI I)==(byteI x2))=true then bd (b_V x1 G (H:Int)) fun J=>bd (psh h J) fun L=>some (L,((H+1:Nat):Int)) else some (h,G))<|un2 fun O V=>some<|.next (O,V)) x1.b.length 0 (([]:List Str),0)) (el (un2 fun h G=>bd (b_V x1 G (x1.b.length:Int)) fun W=>bd (psh h W) fun Y=>some Y)<|fun a0=>some a0)
def e_s (n:Nat)(x1:Str):Option Bool :=
 bd (α:=Bool) (if (decide<|(x1.b.length:Int)<1)=true then some true else some (decide<|12<(x1.b.length:Int))) (fun G=>if G=true then some false else bd (O_ (σ:=Nat) (ρ:=Bool) (fun h=>if (decide<|h<x1.b.length)=true then bd (α:=Bool) (if (decide<|97<=((dec x1 h).1))=true then some (decide<|((dec x1 h).1)<=122) else some false) (fun H=>bd (α:=Bool) (if (decide<|48<=((dec x1 h).1))=true then some (decide<|((dec x1 h).1)<=57) else some false) (fun I=>bd (α:=Bool) (if (!H)=true then if (!I)=true then some true else some ((h:Int)==0) else some false) (fun J=>if J=true then some (.ret false) else some (.next<|h+(dec x1 h).2)))) else some (.brk h)) n 0) (el (fun h=>some true)<|fun L=>some L))
def g_J (x1:Str):Option (Int×Bool) :=
 bd (α:=Bool) (if (x1.b==(⟨[]⟩:Str).b)=true then some true else if (decide<|13<(x1.b.length:Int))=true then some true else bd (idx x1.b 0) fun H=>if ((byteI H)==(byteI (48:UInt8)))=true then some (decide<|1<(x1.b.length:Int)) else some false) (fun I=>if I=true then some (0,false) else bd (t_ (σ:=Int) (ρ:=Int×Bool) (fun G=>(fun h=>bd (α:=Bool) (bd (idx x1.b (G:Int)) fun J=>if (decide<|(byteI J)<(byteI (48:UInt8)))=true then some true else bd (idx x1.b (G:Int)) fun L=>some<|decide<|(byteI (57:UInt8))<(byteI L)) (fun O=>if O=true then some (.ret (0,false)) else bd (idx x1.b (G:Int)) fun V=>some<|.next<|b_ (b_6 10 h)<|byteI<|mkB<|byteI V - byteI (48:UInt8)))) x1.b.length 0 0) (el (fun h=>if (decide<|1000000000000<h)=true then some (0,false) else some (h,true))<|fun W=>some W))
def f_1 (n:Nat)(x1:Str):Option Bool :=
 bd (α:=Bool) (bd (e_s n x1) fun h=>if h=true then some true else if (x1.b==(⟨[42]⟩:Str).b)=true then some true else if (x1.b==(⟨[63]⟩:Str).b)=true then some true else some (x1.b==(⟨[43]⟩:Str).b)) (fun G=>if G=true then some true else bd2 (g_J x1) fun I H=>some H)
def k_N (n:Nat)(x1:Str):Option ((List Str)×Bool) :=
 if (x1.b==(⟨[]⟩:Str).b)=true then some ([],true) else bd (idx x1.b 0) fun c=>if (byteI c != byteI (47:UInt8))=true then some ([],false) else bd (f_0 x1 (47:UInt8)) fun l=>bd (slc l 1 (l.length:Int)) fun parts=>bd (f_z (f_1 n) parts) fun oks=>if parts.length<LIM then some (if oks.all id=true then (parts,true) else ([],false)) else none
def i_7 (n:Nat)(x1:Str):Option ((List Str)×Bool) :=
 bd2 (k_N n x1) fun h G=>some (h,G)
def c_l (x1:Int)(x2:Int)(x3:Int):Option Bool :=
 bd (α:=Bool) (if (decide<|x2<=x1)=true then some (decide<|x1<=x3) else some false) (fun h=>some h)
def f_2 (x1:e_)(x2:Int):Option Bool :=
 bd (α:=Bool) (if (decide<|0<=x2)=true then some (decide<|x2<(x1.rules.length:Int)) else some false) (fun h=>some h)
def c_K (x1:g_)(x2:Bool)(x3:Bool)(x4:Bool)(x5:Bool)(x6:Int):Option Bool :=
 bd (α:=Bool) (bd (α:=Bool) (if x2=true then some true else some (x1.size==0)) fun h=>bd (α:=Bool) (if h=true then if x3=true then some true else some ((x1.bytes.length:Int)==0) else some false) fun G=>bd (α:=Bool) (if G=true then if x4=true then some true else some ((x1.names.length:Int)==0) else some false) fun H=>bd (α:=Bool) (if H=true then if x5=true then some true else some ((x1.tags.length:Int)==0) else some false) fun I=>if I=true then if (decide<|x6<0)=true then some true else some ((x1.kids.length:Int)==x6) else some false) (fun J=>some J)
def f_E (x1:e_)(x2:Int):Option Int :=
 bd (α:=Bool) (bd (f_2 x1 x2) fun G=>if (!G)=true then some true else bd (idx x1.rules x2) fun H=>if (H.kind != 1)=true then some true else bd (idx x1.rules x2) fun I=>bd (c_l I.size 1 4) fun J=>some (!J)) (fun L=>if L=true then some (-1) else bd (idx x1.rules x2) fun h=>bd (nn<|b_6 8 h.size) fun O=>some<|x_ (b_v .i64 1<|b_6 8 h.size) 1)
def g_K (x1:List Str)(x2:Str):Option Bool :=
 bd (t_ (σ:=Unit) (ρ:=Bool) (fun h=>(fun (_:Unit)=>bd (idx x1 (h:Int)) fun G=>if (G.b==x2.b)=true then some (.ret true) else some (.next ()))) x1.length 0 ()) (el (fun (_:Unit)=>some false)<|fun H=>some H)
def i_8 (n:Nat)(x1:g_):Option Bool :=
 bd (α:=Bool) (bd (c_K x1 false false true false (-1)) fun H=>if (!H)=true then some true else if ((x1.kids.length:Int) != (x1.names.length:Int))=true then some true else bd (c_l (x1.kids.length:Int) 1 8) fun I=>some (!I)) (fun J=>if J=true then some false else bd (t_ (σ:=Unit) (ρ:=Bool) (fun h=>(fun (_:Unit)=>bd (idx x1.names (h:Int)) fun G=>bd (α:=Bool) (bd (e_s n G) fun L=>if (!L)=true then some true else bd (slc x1.names 0 (h:Int)) fun O=>bd (g_K O G) fun V=>some V) (fun W=>if W=true then some (.ret false) else some (.next ())))) x1.names.length 0 ()) (el (fun (_:Unit)=>some true)<|fun Y=>some Y))
def i_9 (x1:e_)(x2:g_):Option Bool :=
 bd (α:=Bool) (bd (c_K x2 false false false true<|b_ (x2.tags.length:Int) 1) fun I=>if (!I)=true then some true else bd (c_l (x2.tags.length:Int) 1 8) fun J=>some (!J)) (fun L=>if L=true then some false else bd (idx x2.kids 0) fun O=>bd (f_E x1 O) fun G=>bd (t_ (σ:=Unit) (ρ:=Bool) (fun h=>(fun (_:Unit)=>bd (idx x2.tags (h:Int)) fun H=>bd (α:=Bool) (bd (c_l H 0 G) fun V=>if (!V)=true then some true else if (decide<|0<(h:Int))=true then bd (idx x2.tags<|x_ (h:Int) 1) fun W=>some (decide<|H<=W) else some false) (fun Y=>if Y=true then some (.ret false) else some (.next ())))) x2.tags.length 0 ())<|el (fun (_:Unit)=>some<|decide<|0<G)<|fun a0=>some a0)
def i_a (n:Nat)(x1:e_)(x2:g_):Option Bool :=
 if (x2.kind==1)=true then bd (α:=Bool) (bd (c_K x2 true false false false 0) fun h=>if h=true then bd (c_l x2.size 1 4) fun G=>if G=true then if (!x2.little)=true then some true else some (decide<|1<x2.size) else some false else some false) (fun H=>some H) else if (x2.kind==2)=true then bd (α:=Bool) (bd (c_K x2 false true false false 0) fun I=>if I=true then bd (c_l (x2.bytes.length:Int) 1 16) fun J=>some J else some false) (fun L=>some L) else if (x2.kind==3)=true then bd (α:=Bool) (bd (c_K x2 true false false false 0) fun O=>if O=true then bd (c_l x2.size 1 64) fun V=>some V else some false) (fun W=>some W) else if (x2.kind==4)=true then bd (α:=Bool) (bd (c_K x2 false false false false 1) fun Y=>if Y=true then bd (idx x2.kids 0) fun a0=>bd (f_E x1 a0) fun a1=>some (decide<|0<a1) else some false) (fun a2=>some a2) else if (x2.kind==5)=true then bd (α:=Bool) (bd (c_K x2 false false false false 2) fun a3=>if a3=true then bd (idx x2.kids 0) fun a4=>bd (f_E x1 a4) fun a5=>some (decide<|0<a5) else some false) (fun a6=>some a6) else if (x2.kind==6)=true then bd (i_8 n x2) fun a7=>some a7 else if (x2.kind==7)=true then bd (i_9 x1 x2) fun a8=>some a8 else bd (α:=Bool) (if (x2.kind==8)=true then some (x2.kind==8) else some (x2.kind==9)) (fun a9=>if a9=true then bd (c_K x2 false false false false 1) fun aa=>some aa else if (x2.kind==10)=true then bd (α:=Bool) (bd (c_K x2 false true false false 0) fun ab=>if ab=true then if ((x2.bytes.length:Int)==1)=true then bd (idx x2.bytes 0) fun ad=>some ((byteI ad) != (byteI (92:UInt8))) else some false else some false) (fun ae=>some ae) else some false)
def i_b (n:Nat)(x1:e_)(x2:Int):Option Bool :=
 bd (f_2 x1 x2) fun I=>if (!I)=true then some false else bd (idx x1.rules x2) fun h=>bd (α:=Bool) (bd (e_s n h.name) fun J=>if (!J)=true then some true else if h.little=true then some (h.kind != 1) else some false) (fun L=>if L=true then some false else bd (slc x1.rules 0 x2) fun G=>bd (t_ (σ:=Unit) (ρ:=Bool) (fun O=>(fun (_:Unit)=>bd (idx G (O:Int)) fun V=>if (V.name.b==h.name.b)=true then some (.ret false) else some (.next ()))) G.length 0 ()) (el (fun (_:Unit)=>bd (t_ (σ:=Unit) (ρ:=Bool) (fun W=>(fun (_:Unit)=>bd (idx h.kids (W:Int)) fun H=>bd (α:=Bool) (if (decide<|H<0)=true then some true else some (decide<|x2<=H)) (fun Y=>if Y=true then some (.ret false) else some (.next ())))) h.kids.length 0 ())<|el (fun (_:Unit)=>bd (i_a n x1 h) fun a0=>some a0)<|fun a1=>some a1)<|fun a2=>some a2))
def g_L (n:Nat)(x1:e_):Option Bool :=
 bd (c_l (x1.rules.length:Int) 1 24) fun h=>if (!h)=true then some false else bd (t_ (σ:=Unit) (ρ:=Bool) (fun G=>(fun (_:Unit)=>bd (i_b n x1 (G:Int)) fun H=>if (!H)=true then some (.ret false) else some (.next ()))) x1.rules.length 0 ()) (el (fun (_:Unit)=>some true)<|fun I=>some I)
def g_M (x1:e_):Option Int :=
 some (x_ (x1.rules.length:Int) 1)
def f_F (n:Nat)(x1:e_)(x2:Int):Option Bool :=
 bd (α:=Bool) (bd (g_L n x1) fun h=>if h=true then bd (f_2 x1 x2) fun G=>some G else some false) (fun H=>some H)
def e_t (x1:a_3)(x2:Int)(x3:Int):Option U_ :=
 if (decide<|(x_ (x1.b.length:Int) x2)<x3)=true then some (⟨x2,1⟩:U_) else some (⟨b_ x2 x3,0⟩:U_)
def f_G (x1:List UInt8)(x2:Bool):Option Int :=
 if (decide<|4<(x1.length:Int))=true then some 0 else bd (t_ (σ:=Int) (ρ:=Int) (fun G=>(fun h=>bd (α:=Int) (if x2=true then bd (idx x1<|x_ (x_ (x1.length:Int) 1) (G:Int)) fun H=>some (b_Y .i64 (· ||| ·) (b_v .i64 h 8)<|byteI H) else bd (idx x1 (G:Int)) fun I=>some<|b_Y .i64 (· ||| ·) (b_v .i64 h 8)<|byteI I)<|fun J=>some<|.next J)) x1.length 0 0) (el (fun h=>some h)<|fun L=>some L)
def f_3 (x1:a_3)(x2:Int)(x3:Int):Option (Int×U_×Int) :=
 bd (idx x1.d.rules x2) fun G=>bd (e_t (⟨(⟨x1.d.rules⟩:e_),x1.b,b_ x1.applied 1⟩:a_3) x3 G.size) fun h=>if (h.code != 0)=true then some (0,h,b_ x1.applied 1) else bd (slc x1.b x3 h.at_) fun H=>bd (f_G H G.little) fun I=>some (I,h,b_ x1.applied 1)
def i_c (x1:a_3)(x2:g_)(x3:Int):Option U_ :=
 bd (t_ (σ:=Unit) (ρ:=U_) (fun h=>(fun (_:Unit)=>bd (idx x2.bytes (h:Int)) fun G=>if ((b_ x3 (h:Int))==(x1.b.length:Int))=true then some (.ret (⟨x3,1⟩:U_)) else bd (idx x1.b<|b_ x3 (h:Int)) fun H=>if ((byteI H) != (byteI G))=true then some (.ret (⟨b_ x3 (h:Int),2⟩:U_)) else some (.next ()))) x2.bytes.length 0 ()) (el (fun (_:Unit)=>some (⟨b_ x3 (x2.bytes.length:Int),0⟩:U_))<|fun I=>some I)
def f_H (x1:List UInt8):Option Int :=
 bd (t_ (σ:=Int) (ρ:=Int) (fun G=>(fun h=>bd (idx x1 (G:Int)) fun H=>some<|.next<|b_ h<|byteI H)) x1.length 0 0) (el (fun h=>some<|b_L h 256)<|fun I=>some I)
def g_N (n:Nat)(x1:List UInt8)(x2:Int)(x3:UInt8):Option ((List UInt8)×Int×Bool) :=
 bd (α:=Bool) (if (decide<|x2<0)=true then some true else some (decide<|(x1.length:Int)<x2)) (fun I=>if I=true then some (([]:List UInt8),x2,false) else bd (O_ (σ:=(List UInt8)×Int) (ρ:=(List UInt8)×Int×Bool) (un2 fun G h=>if (decide<|h<(x1.length:Int))=true then bd (idx x1 h) fun J=>if ((byteI J)==(byteI x3))=true then some (.ret (G,b_ h 1,true)) else bd (idx x1 h) fun L=>bd (α:=Sum Int<|Out ((List UInt8)×Int)<|(List UInt8)×Int×Bool) (if ((byteI L)==(byteI (92:UInt8)))=true then if ((b_ h 1)==(x1.length:Int))=true then some (.inr<|.brk (G,b_ h 1)) else some (.inl<|b_ h 1) else some (.inl h)) (el (fun H=>bd (idx x1 H) fun O=>bd (psh G O) fun V=>some<|.next (V,b_ H 1)) some) else some (.brk (G,h))) n (([]:List UInt8),x2)) (el (un2 fun G h=>some (([]:List UInt8),x2,false))<|fun W=>some W))
structure g_O where
 impl_checker_value:a_3->Int->Int->Option (U_×Int)
 impl_checker_array:a_3->g_->Int->Option (U_×Int)
 impl_checker_choice:a_3->g_->Int->Option (U_×Int)
 impl_checker_option:a_3->g_->Int->Option (U_×Int)
 impl_checker_checked:a_3->g_->Int->Option (U_×Int)
def i_d (n:Nat)(rec:g_O)(x1:a_3)(x2:Int)(x3:Int):Option (U_×Int) :=
 bd (idx x1.d.rules x2) fun h=>if (h.kind==1)=true then bd3 (f_3 x1 x2 x3) fun al W Y=>some (W,Y) else if (h.kind==2)=true then bd (i_c (⟨(⟨x1.d.rules⟩:e_),x1.b,b_ x1.applied 1⟩:a_3) h x3) fun a0=>some (a0,b_ x1.applied 1) else if (h.kind==3)=true then bd (e_t (⟨(⟨x1.d.rules⟩:e_),x1.b,b_ x1.applied 1⟩:a_3) x3 h.size) fun a1=>some (a1,b_ x1.applied 1) else if (h.kind==4)=true then bd (idx h.kids 0) fun a2=>bd3 (f_3 (⟨(⟨x1.d.rules⟩:e_),x1.b,b_ x1.applied 1⟩:a_3) a2 x3) fun a3 H I=>if (H.code != 0)=true then some (H,I) else bd (e_t (⟨(⟨x1.d.rules⟩:e_),x1.b,I⟩:a_3) H.at_ a3) fun a4=>some (a4,I) else if (h.kind==5)=true then bd2 (rec.impl_checker_array (⟨(⟨x1.d.rules⟩:e_),x1.b,b_ x1.applied 1⟩:a_3) h x3) fun a5 a6=>some (a5,a6) else if (h.kind==6)=true then bd (t_ (σ:=Int×Int×Int) (ρ:=U_×Int) (fun a7=>un3 fun J L O=>bd (idx h.kids (a7:Int)) fun a8=>bd2 (rec.impl_checker_value (⟨(⟨x1.d.rules⟩:e_),x1.b,J⟩:a_3) a8 L) fun G V=>if (G.code != 0)=true then some (.brk (V,G.at_,G.code)) else some (.next (V,G.at_,G.code))) h.kids.length 0 (b_ x1.applied 1,x3,0)) (el (un3 fun J L O=>some ((⟨L,O⟩:U_),J))<|fun a9=>some a9) else if (h.kind==7)=true then bd2 (rec.impl_checker_choice (⟨(⟨x1.d.rules⟩:e_),x1.b,b_ x1.applied 1⟩:a_3) h x3) fun aa ab=>some (aa,ab) else if (h.kind==8)=true then bd2 (rec.impl_checker_option (⟨(⟨x1.d.rules⟩:e_),x1.b,b_ x1.applied 1⟩:a_3) h x3) fun ad ae=>some (ad,ae) else if (h.kind==9)=true then bd2 (rec.impl_checker_checked (⟨(⟨x1.d.rules⟩:e_),x1.b,b_ x1.applied 1⟩:a_3) h x3) fun af ah=>some (af,ah) else bd (idx h.bytes 0) fun ai=>bd3 (g_N n x1.b x3 ai) fun am aj ak=>if (!ak)=true then some ((⟨x3,1⟩:U_),b_ x1.applied 1) else some ((⟨aj,0⟩:U_),b_ x1.applied 1)
def i_e (n:Nat)(rec:g_O)(x1:a_3)(x2:g_)(x3:Int):Option (U_×Int) :=
 bd (idx x2.kids 0) fun W=>bd3 (f_3 x1 W x3) fun L J O=>bd (α:=Bool) (if (J.code==0)=true then some (decide<|40<L) else some false) (fun Y=>if Y=true then some ((⟨x3,6⟩:U_),O) else bd (O_ (σ:=Int×Int×Int×Int) (ρ:=U_×Int) (un4 fun h G H I=>bd (α:=Bool) (if (decide<|0<h)=true then some (I==0) else some false) (fun a0=>if a0=true then bd (idx x2.kids 1) fun a1=>bd2 (rec.impl_checker_value (⟨(⟨x1.d.rules⟩:e_),x1.b,G⟩:a_3) a1 H) fun V a2=>some (.next (x_ h 1,a2,V.at_,V.code)) else some (.brk (h,G,H,I)))) n (L,O,J.at_,J.code)) (el (un4 fun h G H I=>some ((⟨H,I⟩:U_),G))<|fun a3=>some a3))
def i_f (n:Nat)(rec:g_O)(x1:a_3)(x2:g_)(x3:Int):Option (U_×Int) :=
 bd (idx x2.kids 0) fun I=>bd3 (f_3 x1 I x3) fun J h G=>if (h.code != 0)=true then some (h,G) else bd (t_ (σ:=Unit) (ρ:=U_×Int) (fun H=>(fun (_:Unit)=>bd (idx x2.tags (H:Int)) fun L=>if (L==J)=true then bd (idx x2.kids ((H+1:Nat):Int)) fun O=>bd2 (rec.impl_checker_value (⟨(⟨x1.d.rules⟩:e_),x1.b,G⟩:a_3) O h.at_) fun V W=>some (.ret (V,W)) else some (.next ()))) x2.tags.length 0 ()) (el (fun (_:Unit)=>some ((⟨x3,3⟩:U_),G))<|fun Y=>some Y)
def i_g (n:Nat)(rec:g_O)(x1:a_3)(x2:g_)(x3:Int):Option (U_×Int) :=
 bd (e_t x1 x3 1) fun h=>bd (α:=Bool) (if (h.code != 0)=true then some true else bd (idx x1.b x3) fun G=>some<|(byteI G)==(byteI (0:UInt8))) (fun H=>if H=true then some (h,x1.applied) else bd (idx x1.b x3) fun I=>if (decide<|(byteI (1:UInt8))<(byteI I))=true then some ((⟨x3,4⟩:U_),x1.applied) else bd (idx x2.kids 0) fun J=>bd2 (rec.impl_checker_value x1 J h.at_) fun L O=>some (L,O))
def i_h (n:Nat)(rec:g_O)(x1:a_3)(x2:g_)(x3:Int):Option (U_×Int) :=
 bd (idx x2.kids 0) fun I=>bd2 (rec.impl_checker_value x1 I x3) fun h G=>if (h.code != 0)=true then some (h,G) else bd (e_t (⟨(⟨x1.d.rules⟩:e_),x1.b,G⟩:a_3) h.at_ 1) fun H=>bd (α:=Bool) (if (H.code==0)=true then bd (idx x1.b h.at_) fun J=>bd (slc x1.b x3 h.at_) fun L=>bd (f_H L) fun O=>some ((byteI J) != O) else some false) (fun V=>if V=true then some ((⟨h.at_,5⟩:U_),G) else some (H,G))
def a_D:Nat->g_O
 | 0=>⟨fun _ _ _=>none,fun _ _ _=>none,fun _ _ _=>none,fun _ _ _=>none,fun _ _ _=>none⟩
 | n+1=>⟨i_d n<|a_D n,i_e n<|a_D n,i_f n<|a_D n,i_g n<|a_D n,i_h n<|a_D n⟩
def q_l (n:Nat):=(a_D n).impl_checker_value
def i_i (n:Nat)(x1:e_)(x2:Int)(x3:List UInt8)(x4:Int):Option (Int×Int) :=
 bd (α:=Bool) (bd (f_F n x1 x2) fun G=>if (!G)=true then some true else if (decide<|x4<0)=true then some true else if (decide<|(x3.length:Int)<x4)=true then some true else some (decide<|400<(x3.length:Int))) (fun H=>if H=true then some (0,8) else bd2 (q_l n (⟨(⟨x1.rules⟩:e_),x3,0⟩:a_3) x2 x4) fun h I=>some (h.at_,h.code))
def c_a (x1:Int)(x2:Int):Option (Option<|Int×Int) :=
 some (some (x1,x2))
def f_4 (x1:a_y)(x2:Int)(x3:Int):Option ((List UInt8)×(Option<|Int×Int)) :=
 if (decide<|(x_ (x1.b.length:Int) x2)<x3)=true then bd (c_a x2 1) fun h=>some (([]:List UInt8),h) else bd (slc x1.b x2<|b_ x2 x3) fun G=>some (G,none)
def f_5 (x1:a_y)(x2:Int)(x3:Int):Option (Int×Int×(Option<|Int×Int)) :=
 bd (idx x1.d.rules x2) fun h=>bd2 (f_4 x1 x3 h.size) fun H G=>if G.isSome=true then some (0,x3,G) else bd (f_G H h.little) fun I=>some (I,b_ x3 h.size,none)
def i_j (x1:a_y)(x2:g_)(x3:Int):Option (Int×(Option<|Int×Int)) :=
 bd (t_ (σ:=Unit) (ρ:=Int×(Option<|Int×Int)) (fun h=>(fun (_:Unit)=>bd (idx x2.bytes (h:Int)) fun G=>if (decide<|(x1.b.length:Int)<=(b_ x3 (h:Int)))=true then bd (c_a x3 1) fun H=>some (.ret (x3,H)) else bd (idx x1.b<|b_ x3 (h:Int)) fun I=>if ((byteI I) != (byteI G))=true then bd (c_a (b_ x3 (h:Int)) 2) fun J=>some (.ret (x3,J)) else some (.next ()))) x2.bytes.length 0 ()) (el (fun (_:Unit)=>some (b_ x3 (x2.bytes.length:Int),none))<|fun L=>some L)
def g_P (x1:a_y)(x2:Int)(x3:Int):Option (Val×Int×(Option<|Int×Int)) :=
 bd2 (f_4 x1 x2 x3) fun G h=>if h.isSome=true then some ((⟨0,([]:List UInt8),([]:List Val)⟩:Val),x2,h) else bd (app ([]:List UInt8) G) fun H=>some ((⟨0,H,([]:List Val)⟩:Val),b_ x2 x3,none)
structure f_I where
 impl_fileReader_value:a_y->Int->Int->Option (Val×Int×(Option<|Int×Int))
 impl_fileReader_array:a_y->g_->Int->Option (Val×Int×(Option<|Int×Int))
 impl_fileReader_items:a_y->Val->(List Int)->Int->Option (Val×Int×(Option<|Int×Int))
 impl_fileReader_choice:a_y->g_->Int->Option (Val×Int×(Option<|Int×Int))
 impl_fileReader_option:a_y->g_->Int->Option (Val×Int×(Option<|Int×Int))
 impl_fileReader_checked:a_y->g_->Int->Option (Val×Int×(Option<|Int×Int))
def i_k (n:Nat)(rec:f_I)(x1:a_y)(x2:Int)(x3:Int):Option (Val×Int×(Option<|Int×Int)) :=
 bd (idx x1.d.rules x2) fun h=>if (h.kind==1)=true then bd3 (f_5 x1 x2 x3) fun H I J=>some ((⟨H,([]:List UInt8),([]:List Val)⟩:Val),I,J) else if (h.kind==2)=true then bd2 (i_j x1 h x3) fun L O=>some ((⟨0,([]:List UInt8),([]:List Val)⟩:Val),L,O) else if (h.kind==3)=true then bd3 (g_P x1 x3 h.size) fun V W Y=>some (V,W,Y) else if (h.kind==4)=true then bd (idx h.kids 0) fun a0=>bd3 (f_5 x1 a0 x3) fun a1 a2 G=>if G.isSome=true then some ((⟨0,([]:List UInt8),([]:List Val)⟩:Val),x3,G) else bd3 (g_P x1 a2 a1) fun a3 a4 a5=>some (a3,a4,a5) else if (h.kind==5)=true then bd3 (rec.impl_fileReader_array x1 h x3) fun a6 a7 a8=>some (a6,a7,a8) else if (h.kind==6)=true then bd3 (rec.impl_fileReader_items x1 (⟨0,([]:List UInt8),([]:List Val)⟩:Val) h.kids x3) fun a9 aa ab=>some (a9,aa,ab) else if (h.kind==7)=true then bd3 (rec.impl_fileReader_choice x1 h x3) fun ad ae af=>some (ad,ae,af) else if (h.kind==8)=true then bd3 (rec.impl_fileReader_option x1 h x3) fun ah ai aj=>some (ah,ai,aj) else if (h.kind==9)=true then bd3 (rec.impl_fileReader_checked x1 h x3) fun ak al am=>some (ak,al,am) else bd (idx h.bytes 0) fun an=>bd3 (g_N n x1.b x3 an) fun ao ap aq=>if (!aq)=true then bd (c_a x3 1) fun ar=>some ((⟨0,([]:List UInt8),([]:List Val)⟩:Val),x3,ar) else some ((⟨0,ao,([]:List Val)⟩:Val),ap,none)
def i_l (n:Nat)(rec:f_I)(x1:a_y)(x2:g_)(x3:Int):Option (Val×Int×(Option<|Int×Int)) :=
 bd (idx x2.kids 0) fun J=>bd3 (f_5 x1 J x3) fun G L H=>if H.isSome=true then some ((⟨0,([]:List UInt8),([]:List Val)⟩:Val),x3,H) else if (decide<|40<G)=true then bd (c_a x3 6) fun O=>some ((⟨0,([]:List UInt8),([]:List Val)⟩:Val),x3,O) else bd (mk0 0 G) fun I=>bd (t_ (σ:=List Int) (ρ:=Val×Int×(Option<|Int×Int)) (fun V=>(fun h=>bd (idx x2.kids 1) fun W=>bd (upd h (V:Int) W) fun Y=>some<|.next Y)) I.length 0 I)<|el (fun h=>bd3 (rec.impl_fileReader_items x1 (⟨0,([]:List UInt8),([]:List Val)⟩:Val) h L) fun a0 a1 a2=>some (a0,a1,a2))<|fun a3=>some a3
def i_m (n:Nat)(rec:f_I)(x1:a_y)(x2:Val)(x3:List Int)(x4:Int):Option (Val×Int×(Option<|Int×Int)) :=
 bd (t_ (σ:=Int×(List Val)) (ρ:=Val×Int×(Option<|Int×Int)) (fun I=>un2 fun h G=>bd (idx x3 (I:Int)) fun J=>bd3 (rec.impl_fileReader_value x1 J h) fun L O H=>if H.isSome=true then some (.ret ((⟨0,([]:List UInt8),([]:List Val)⟩:Val),h,H)) else bd (psh G L) fun V=>some<|.next (O,V)) x3.length 0 (x4,x2.items)) (el (un2 fun h G=>some ((⟨x2.number,x2.bytes,G⟩:Val),h,none))<|fun W=>some W)
def i_n (n:Nat)(rec:f_I)(x1:a_y)(x2:g_)(x3:Int):Option (Val×Int×(Option<|Int×Int)) :=
 bd (idx x2.kids 0) fun I=>bd3 (f_5 x1 I x3) fun G J H=>if H.isSome=true then some ((⟨0,([]:List UInt8),([]:List Val)⟩:Val),x3,H) else bd (t_ (σ:=Unit) (ρ:=Val×Int×(Option<|Int×Int)) (fun h=>(fun (_:Unit)=>bd (idx x2.tags (h:Int)) fun L=>if (L==G)=true then bd (slc x2.kids ((h+1:Nat):Int)<|b_ (h:Int) 2) fun O=>bd3 (rec.impl_fileReader_items x1 (⟨G,([]:List UInt8),([]:List Val)⟩:Val) O J) fun V W Y=>some (.ret (V,W,Y)) else some (.next ()))) x2.tags.length 0 ()) (el (fun (_:Unit)=>bd (c_a x3 3) fun a0=>some ((⟨0,([]:List UInt8),([]:List Val)⟩:Val),x3,a0))<|fun a1=>some a1)
def i_o (n:Nat)(rec:f_I)(x1:a_y)(x2:g_)(x3:Int):Option (Val×Int×(Option<|Int×Int)) :=
 bd2 (f_4 x1 x3 1) fun h G=>if G.isSome=true then some ((⟨0,([]:List UInt8),([]:List Val)⟩:Val),x3,G) else bd (idx h 0) fun H=>if (decide<|(byteI (1:UInt8))<(byteI H))=true then bd (c_a x3 4) fun I=>some ((⟨0,([]:List UInt8),([]:List Val)⟩:Val),x3,I) else bd (idx h 0) fun J=>if ((byteI J)==(byteI (0:UInt8)))=true then some ((⟨0,([]:List UInt8),([]:List Val)⟩:Val),b_ x3 1,none) else bd3 (rec.impl_fileReader_items x1 (⟨0,([]:List UInt8),([]:List Val)⟩:Val) x2.kids<|b_ x3 1) fun L O V=>some (L,O,V)
def i_p (n:Nat)(rec:f_I)(x1:a_y)(x2:g_)(x3:Int):Option (Val×Int×(Option<|Int×Int)) :=
 bd3 (rec.impl_fileReader_items x1 (⟨0,([]:List UInt8),([]:List Val)⟩:Val) x2.kids x3) fun I h G=>if G.isSome=true then some ((⟨0,([]:List UInt8),([]:List Val)⟩:Val),x3,G) else bd2 (f_4 x1 h 1) fun J H=>if H.isSome=true then some ((⟨0,([]:List UInt8),([]:List Val)⟩:Val),x3,H) else bd (idx J 0) fun L=>bd (slc x1.b x3 h) fun O=>bd (f_H O) fun V=>if ((byteI L) != V)=true then bd (c_a h 5) fun W=>some ((⟨0,([]:List UInt8),([]:List Val)⟩:Val),x3,W) else some (I,b_ h 1,none)
def a_g:Nat->f_I
 | 0=>⟨fun _ _ _=>none,fun _ _ _=>none,fun _ _ _ _=>none,fun _ _ _=>none,fun _ _ _=>none,fun _ _ _=>none⟩
 | n+1=>⟨i_k n<|a_g n,i_l n<|a_g n,i_m n<|a_g n,i_n n<|a_g n,i_o n<|a_g n,i_p n<|a_g n⟩
def k_O (n:Nat):=(a_g n).impl_fileReader_value
def f_J (n:Nat):=(a_g n).impl_fileReader_items
def i_q (n:Nat)(x1:e_)(x2:Int)(x3:List UInt8)(x4:Int):Option (Val×Int×Int) :=
 bd (α:=Bool) (bd (f_F n x1 x2) fun G=>if (!G)=true then some true else if (decide<|x4<0)=true then some true else if (decide<|(x3.length:Int)<x4)=true then some true else some (decide<|400<(x3.length:Int))) (fun H=>if H=true then some ((⟨0,([]:List UInt8),([]:List Val)⟩:Val),0,8) else bd3 (k_O n (⟨(⟨x1.rules⟩:e_),x3⟩:a_y) x2 x4) fun I J h=>if h.isSome=true then (bd2 h fun L O=>some ((⟨0,([]:List UInt8),([]:List Val)⟩:Val),L,O)) else some (I,J,0))
def g_Q (n:Nat)(x1:e_)(x2:List UInt8):Option (Val×Int×Int) :=
 bd (α:=Int×(List UInt8)×(List Val)×Int×Int) (bd (g_M x1) fun I=>bd3 (i_q n x1 I x2 0) fun h J L=>some (h.number,h.bytes,h.items,J,L)) (un5 fun O V W G H=>bd (α:=Bool) (if (H==0)=true then some (decide<|G<(x2.length:Int)) else some false) (fun Y=>if Y=true then some ((⟨0,([]:List UInt8),([]:List Val)⟩:Val),G,7) else some ((⟨O,V,W⟩:Val),G,H)))
def i_r (n:Nat)(x1:e_)(x2:List UInt8):Option Bool :=
 bd3 (g_Q n x1 x2) fun G H h=>some<|h==0
def m_T (x1:List UInt8)(x2:List UInt8):Option Bool :=
 some ((⟨x1⟩:Str).b==(⟨x2⟩:Str).b)
def k_P (x1:List UInt8)(x2:List UInt8):Option Bool :=
 bd (m_T x1 x2) fun h=>some h
def g_R (x1:List UInt8)(x2:List UInt8):Option Bool :=
 if ((x1.length:Int) != (x2.length:Int))=true then some false else bd (t_ (σ:=Unit) (ρ:=Bool) (fun h=>(fun (_:Unit)=>bd (idx x1 (h:Int)) fun G=>bd (idx x2 (h:Int)) fun H=>if ((byteI G) != (byteI H))=true then some (.ret false) else some (.next ()))) x1.length 0 ()) (el (fun (_:Unit)=>some true)<|fun I=>some I)
def i_s (x1:List Str)(x2:List Str):Option Bool :=
 if ((x1.length:Int) != (x2.length:Int))=true then some false else bd (t_ (σ:=Unit) (ρ:=Bool) (fun h=>(fun (_:Unit)=>bd (idx x1 (h:Int)) fun G=>bd (idx x2 (h:Int)) fun H=>if (G.b != H.b)=true then some (.ret false) else some (.next ()))) x1.length 0 ()) (el (fun (_:Unit)=>some true)<|fun I=>some I)
def g_S (x1:List Int)(x2:List Int):Option Bool :=
 if ((x1.length:Int) != (x2.length:Int))=true then some false else bd (t_ (σ:=Unit) (ρ:=Bool) (fun h=>(fun (_:Unit)=>bd (idx x1 (h:Int)) fun G=>bd (idx x2 (h:Int)) fun H=>if (G != H)=true then some (.ret false) else some (.next ()))) x1.length 0 ()) (el (fun (_:Unit)=>some true)<|fun I=>some I)
def i_t (x1:g_)(x2:g_):Option Bool :=
 if (x1.name.b != x2.name.b)=true then some false else if (x1.kind != x2.kind)=true then some false else if (x1.size != x2.size)=true then some false else if (x1.little != x2.little)=true then some false else bd (g_R x1.bytes x2.bytes) fun h=>if (!h)=true then some false else bd (i_s x1.names x2.names) fun G=>if (!G)=true then some false else bd (g_S x1.tags x2.tags) fun H=>if (!H)=true then some false else bd (g_S x1.kids x2.kids) fun I=>if (!I)=true then some false else some true
def k_Q (x1:List g_)(x2:List g_):Option Bool :=
 if ((x1.length:Int) != (x2.length:Int))=true then some false else bd (t_ (σ:=Unit) (ρ:=Bool) (fun h=>(fun (_:Unit)=>bd (idx x1 (h:Int)) fun G=>bd (idx x2 (h:Int)) fun H=>bd (i_t G H) fun I=>if (!I)=true then some (.ret false) else some (.next ()))) x1.length 0 ()) (el (fun (_:Unit)=>some true)<|fun J=>some J)
def i_u (x1:e_)(x2:e_):Option Bool :=
 bd (k_Q x1.rules x2.rules) fun h=>if (!h)=true then some false else some true
structure q_m where
 spec_l19Build:e_->Int->(List UInt8)->Int->Str->Option ((List m_)×Int)
def i_v (n:Nat)(rec:q_m)(x1:e_)(x2:Int)(x3:List UInt8)(x4:Int)(x5:Str):Option ((List m_)×Int) :=
 bd (idx x1.rules x2) fun h=>bd3 (i_3 n x1 x2 x3 x4) fun H I a9=>bd (α:=Bool) (if (h.kind==5)=true then some (h.kind==5) else some (h.kind==7)) (fun O=>bd (α:=Int) (if O=true then bd (idx h.kids 0) fun V=>bd3 (d_f x1 V x3 x4) fun aa W ab=>some W else bd (α:=Int) (if (h.kind==8)=true then some (b_ x4 1) else some x4) (fun Y=>some Y))<|fun a0=>bd (t_ (σ:=(List m_)×Int) (ρ:=(List m_)×Int) (fun J=>un2 fun G L=>bd (cat x5 (⟨[47]⟩:Str)) fun a1=>bd (d_z h H.number (J:Int)) fun a2=>bd (g_E n h (J:Int)) fun a3=>bd (cat a1 a3) fun a4=>bd2 (rec.spec_l19Build x1 a2 x3 L a4) fun a5 a6=>bd (app G a5) fun a7=>some<|.next (a7,a6)) H.items.length 0 ([(⟨x5,x2,x4,I⟩:m_)],a0))<|el (un2 fun G L=>some (G,I))<|fun a8=>some a8)
def f_6:Nat->q_m
 | 0=>⟨fun _ _ _ _ _=>none⟩
 | n+1=>⟨i_v n<|f_6 n⟩
def k_R (n:Nat):=(f_6 n).spec_l19Build
def i_w (n:Nat)(x1:e_)(x2:List UInt8):Option ((List m_)×Bool) :=
 bd (g_I n x1 x2) fun h=>if (!h)=true then some (([]:List m_),false) else bd (g_D x1) fun G=>bd2 (k_R n x1 G x2 0 (⟨[]⟩:Str)) fun H I=>some (H,true)
def k_S (x1:Int):Option Str :=
 bd (l_j x1) fun h=>some h
def f_K (n:Nat)(x1:e_)(x2:Int)(x3:Int):Option Str :=
 bd (α:=Bool) (bd (f_F n x1 x2) fun G=>if (!G)=true then some true else some (decide<|x3<0)) (fun H=>if H=true then some (⟨[]⟩:Str) else bd (idx x1.rules x2) fun h=>if (h.kind==5)=true then bd (k_S x3) fun I=>some I else bd (α:=Bool) (if (h.kind==6)=true then some (decide<|x3<(h.names.length:Int)) else some false) (fun J=>if J=true then bd (idx h.names x3) fun L=>some L else if (decide<|0<x3)=true then some (⟨[]⟩:Str) else if (h.kind==7)=true then some (⟨[42]⟩:Str) else if (h.kind==8)=true then some (⟨[63]⟩:Str) else if (h.kind==9)=true then some (⟨[43]⟩:Str) else some (⟨[]⟩:Str)))
def f_L (x1:e_)(x2:Int)(x3:Val)(x4:Int):Option Int :=
 bd (idx x1.rules x2) fun h=>if (h.kind==5)=true then bd (idx h.kids 1) fun H=>some H else bd (α:=Sum Unit Int) (if (h.kind==6)=true then if (decide<|x4<(h.kids.length:Int))=true then bd (idx h.kids x4) fun I=>some (.inr I) else some (.inl ()) else bd (α:=Sum Unit<|Sum Unit Int) (if (h.kind==7)=true then bd (t_ (σ:=Unit) (ρ:=Int) (fun G=>(fun (_:Unit)=>bd (idx h.tags (G:Int)) fun J=>if (J==x3.number)=true then bd (idx h.kids ((G+1:Nat):Int)) fun L=>some (.ret L) else some (.next ()))) h.tags.length 0 ()) (el (fun (_:Unit)=>some<|.inl ())<|fun O=>some<|.inr<|.inr O) else bd (α:=Bool) (if (h.kind==8)=true then some (h.kind==8) else some (h.kind==9)) (fun V=>if V=true then bd (idx h.kids 0) fun W=>some (.inr<|.inr W) else some (.inl ()))) (el (fun (_:Unit)=>some<|.inl ()) some)) (el (fun (_:Unit)=>some (-1)) some)
structure q_n where
 impl_indexer_part:d_C->Str->Int->Val->Int->Option (Int×(List m_))
def i_x (n:Nat)(rec:q_n)(x1:d_C)(x2:Str)(x3:Int)(x4:Val)(x5:Int):Option (Int×(List m_)) :=
 bd (psh x1.list_ (⟨x2,x3,x5,0⟩:m_)) fun O=>bd2 (i_i n (⟨x1.d.rules⟩:e_) x3 x1.b x5) fun J ab=>bd (idx x1.d.rules x3) fun h=>bd (α:=Bool) (if (h.kind==5)=true then some (h.kind==5) else some (h.kind==7)) (fun V=>bd (α:=Int) (if V=true then bd (idx h.kids 0) fun W=>bd (idx x1.d.rules W) fun Y=>some (b_ x5 Y.size) else bd (α:=Int) (if (h.kind==8)=true then some (b_ x5 1) else some x5) (fun a0=>some a0))<|fun a1=>bd (t_ (σ:=Int×(List m_)) (ρ:=Int×(List m_)) (fun H=>un2 fun L G=>bd (cat x2 (⟨[47]⟩:Str)) fun a2=>bd (idx x4.items (H:Int)) fun a3=>bd (f_K n (⟨x1.d.rules⟩:e_) x3 (H:Int)) fun a4=>bd (cat a2 a4) fun a5=>bd (f_L (⟨x1.d.rules⟩:e_) x3 x4 (H:Int)) fun a6=>bd2 (rec.impl_indexer_part (⟨(⟨x1.d.rules⟩:e_),x1.b,G⟩:d_C) a5 a6 a3 L) fun a7 a8=>some<|.next (a7,a8)) x4.items.length 0 (a1,O))<|el (un2 fun L G=>bd (idx G (x1.list_.length:Int)) fun I=>bd (upd G (x1.list_.length:Int) (⟨I.path,I.rule,I.start,J⟩:m_)) fun a9=>some (J,a9))<|fun aa=>some aa)
def f_7:Nat->q_n
 | 0=>⟨fun _ _ _ _ _=>none⟩
 | n+1=>⟨i_x n<|f_7 n⟩
def i_y (n:Nat):=(f_7 n).impl_indexer_part
def i_z (n:Nat)(x1:e_)(x2:List UInt8):Option ((List m_)×Bool) :=
 bd3 (g_Q n x1 x2) fun h J G=>if (G != 0)=true then some (([]:List m_),false) else bd (g_M x1) fun H=>bd2 (i_y n (⟨(⟨x1.rules⟩:e_),x2,([]:List m_)⟩:d_C) (⟨[]⟩:Str) H h 0) fun L I=>some (I,true)
def i_A (n:Nat)(x1:Str):Option ((List Str)×Bool) :=
 if (x1.b==(⟨[]⟩:Str).b)=true then some (([]:List Str),true) else bd (g_A n x1 (47:UInt8)) fun h=>bd (O_ (σ:=Int) (ρ:=(List Str)×Bool) (fun G=>if (decide<|G<(h.length:Int))=true then bd (α:=Bool) (bd (idx h G) fun I=>bd (e_r n I) fun J=>if (!J)=true then bd (idx h G) fun L=>if (L.b != (⟨[35]⟩:Str).b)=true then bd (idx h G) fun O=>some (O.b != (⟨[46,46]⟩:Str).b) else some false else some false) (fun V=>if V=true then some (.ret (([]:List Str),false)) else some (.next<|b_ G 1)) else some (.brk G)) n 1) (el (fun G=>bd (α:=(List Str)×Bool) (bd (slc h 1 (h.length:Int)) fun H=>bd (idx h 0) fun W=>if (W.b==(⟨[]⟩:Str).b)=true then some (H,decide<|1<(h.length:Int)) else some (H,false))<|un2 fun Y a0=>some (Y,a0))<|fun a1=>some a1)
def i_B (n:Nat)(x1:List Str)(x2:List Str):Option Bool :=
 bd (mk0 false<|b_ (x2.length:Int) 1) fun J=>bd (upd J 0 true) fun L=>bd (t_ (σ:=List Bool) (ρ:=Bool) (fun H=>(fun I=>bd (mk0 false<|b_ (x2.length:Int) 1) fun O=>bd (O_ (σ:=(List Bool)×Int) (ρ:=Bool) (un2 fun G h=>if (decide<|h<=(x2.length:Int))=true then bd (α:=List Bool) (bd (idx x1 (H:Int)) fun V=>if (V.b==(⟨[46,46]⟩:Str).b)=true then bd (α:=List Bool) (bd (idx I h) fun W=>if W=true then bd (upd G h true) fun Y=>some Y else if (decide<|0<h)=true then bd (idx G<|x_ h 1) fun a0=>bd (upd G h a0) fun a1=>some a1 else bd (upd G h false) fun a2=>some a2) (fun a3=>some a3) else bd (α:=Bool) (if (h==0)=true then some true else bd (idx I<|x_ h 1) fun a4=>some (!a4)) (fun a5=>if a5=true then some G else bd (idx x2<|x_ h 1) fun a6=>bd2 (g_B n a6) fun ar a7=>bd (α:=List Bool) (bd (idx x1 (H:Int)) fun a8=>if (a8.b==(⟨[35]⟩:Str).b)=true then if a7=true then bd (upd G h true) fun a9=>some a9 else bd (idx x1 (H:Int)) fun aa=>bd (idx x2<|x_ h 1) fun ab=>if (aa.b==ab.b)=true then bd (idx x1 (H:Int)) fun ad=>bd (upd G h<|ad.b != (⟨[35]⟩:Str).b) fun ae=>some ae else bd (upd G h false) fun af=>some af else bd (idx x1 (H:Int)) fun ah=>bd (idx x2<|x_ h 1) fun ai=>if (ah.b==ai.b)=true then bd (idx x1 (H:Int)) fun aj=>bd (upd G h<|aj.b != (⟨[35]⟩:Str).b) fun ak=>some ak else bd (upd G h false) fun al=>some al)<|fun am=>some am)) (fun an=>some<|.next (an,b_ h 1)) else some (.brk (G,h))) n (O,0))<|el (un2 fun G h=>some<|.next G)<|fun ao=>some<|.ret ao)) x1.length 0 L)<|el (fun I=>bd (idx I (x2.length:Int)) fun ap=>some ap)<|fun aq=>some aq
def i_C (n:Nat)(x1:Str)(x2:Str):Option Bool :=
 bd2 (i_A n x1) fun h G=>bd2 (h_Q n x2) fun H I=>bd (α:=Bool) (if G=true then if I=true then bd (i_B n h H) fun J=>some J else some false else some false)<|fun L=>some L
def i_D (n:Nat)(x1:e_)(x2:List UInt8)(x3:Str):Option (List m_) :=
 bd2 (i_w n x1 x2) fun G Y=>bd (t_ (σ:=List m_) (ρ:=List m_) (fun H=>(fun h=>bd (idx G (H:Int)) fun I=>bd (i_C n x3 I.path) fun J=>bd (α:=List m_) (if J=true then bd (idx G (H:Int)) fun L=>bd (psh h L) fun O=>some O else some h)<|fun V=>some<|.next V)) G.length 0 ([]:List m_))<|el (fun h=>some h)<|fun W=>some W
def i_E (n:Nat)(x1:e_)(x2:List UInt8)(x3:Str):Option Int :=
 bd (i_D n x1 x2 x3) fun h=>bd (t_ (σ:=Int) (ρ:=Int) (fun G=>(fun H=>bd (idx h (G:Int)) fun I=>bd (idx x1.rules I.rule) fun J=>bd (α:=Int) (if (J.kind==1)=true then bd (idx h (G:Int)) fun L=>bd (idx h (G:Int)) fun O=>bd (slc x2 L.start O.end_) fun V=>bd (idx h (G:Int)) fun W=>bd (idx x1.rules W.rule) fun Y=>bd (f_C V Y.little) fun a0=>some (b_ H a0) else some H)<|fun a1=>some<|.next a1)) h.length 0 0)<|el (fun H=>some H)<|fun a2=>some a2
def f_M (n:Nat)(x1:Str):Option Bool :=
 bd (α:=Bool) (bd (f_1 n x1) fun h=>if h=true then some true else if (x1.b==(⟨[35]⟩:Str).b)=true then some true else some (x1.b==(⟨[46,46]⟩:Str).b)) (fun G=>some G)
def k_T (n:Nat)(x1:Str):Option ((List Str)×Bool) :=
 if (x1.b==(⟨[]⟩:Str).b)=true then some ([],true) else bd (idx x1.b 0) fun c=>if (byteI c != byteI (47:UInt8))=true then some ([],false) else bd (f_0 x1 (47:UInt8)) fun l=>bd (slc l 1 (l.length:Int)) fun parts=>bd (f_z (f_M n) parts) fun oks=>if parts.length<LIM then some (if oks.all id=true then (parts,true) else ([],false)) else none
def i_F (n:Nat)(x1:Str):Option ((List Str)×Bool) :=
 bd2 (k_T n x1) fun h G=>some (h,G)
def i_G (x1:List Str)(x2:Int)(x3:Str):Option Bool :=
 bd (idx x1 x2) fun h=>if (h.b==(⟨[35]⟩:Str).b)=true then bd2 (g_J x3) fun I G=>some G else bd (idx x1 x2) fun H=>some<|H.b==x3.b
def k_U (x1:List Str)(x2:List Str):Option Bool :=
 bd (mk0 false<|b_ (x2.length:Int) 1) fun J=>bd (upd J 0 true) fun L=>bd (t_ (σ:=List Bool) (ρ:=Bool) (fun I=>(fun H=>bd (mk0 false<|b_ (x2.length:Int) 1) fun O=>bd (t_ (σ:=List Bool) (ρ:=Bool) (fun h=>(fun G=>bd (idx x1 (I:Int)) fun V=>bd (α:=List Bool) (if (V.b==(⟨[46,46]⟩:Str).b)=true then bd (α:=List Bool) (bd (idx H (h:Int)) fun W=>if W=true then bd (upd G (h:Int) true) fun Y=>some Y else if (decide<|0<(h:Int))=true then bd (idx G<|x_ (h:Int) 1) fun a0=>bd (upd G (h:Int) a0) fun a1=>some a1 else bd (upd G (h:Int) false) fun a2=>some a2) (fun a3=>some a3) else bd (α:=List Bool) (if (decide<|0<(h:Int))=true then bd (α:=List Bool) (bd (idx H<|x_ (h:Int) 1) fun a4=>if a4=true then bd (idx x2<|x_ (h:Int) 1) fun a5=>bd (i_G x1 (I:Int) a5) fun a6=>bd (upd G (h:Int) a6) fun a7=>some a7 else bd (upd G (h:Int) false) fun a8=>some a8) (fun a9=>some a9) else some G) (fun aa=>some aa))<|fun ab=>some<|.next ab)) H.length 0 O)<|el (fun G=>some<|.next G)<|fun ad=>some<|.ret ad)) x1.length 0 L)<|el (fun H=>bd (idx H (x2.length:Int)) fun ae=>some ae)<|fun af=>some af
def i_H (x1:List Str)(x2:List Str):Option Bool :=
 bd (k_U x1 x2) fun h=>some h
def i_I (n:Nat)(x1:Str)(x2:Str):Option Bool :=
 bd2 (i_F n x1) fun h G=>bd2 (i_7 n x2) fun H I=>bd (α:=Bool) (if G=true then if I=true then bd (i_H h H) fun J=>some J else some false else some false)<|fun L=>some L
def k_V (n:Nat)(x1:m_)(x2:Str):Option Bool :=
 bd (i_I n x2 x1.path) fun h=>some h
def k_W (n:Nat)(x1:List m_)(H:Str):Option (List m_) :=
 bd (t_ (σ:=List m_) (ρ:=List m_) (fun I=>(fun h=>bd (idx x1 (I:Int)) fun G=>bd (k_V n G H) fun J=>bd (α:=List m_) (if J=true then bd (psh h G) fun L=>some L else some h)<|fun O=>some<|.next O)) x1.length 0 ([]:List m_)) (el (fun h=>some h)<|fun V=>some V)
def i_J (n:Nat)(x1:e_)(x2:List UInt8)(x3:Str):Option (List m_) :=
 bd2 (i_z n x1 x2) fun h G=>if (!G)=true then some ([]:List m_) else bd (k_W n h x3) fun H=>some H
def i_K (n:Nat)(x1:e_)(x2:List UInt8)(x3:Str):Option Int :=
 bd (i_J n x1 x2 x3) fun H=>bd (t_ (σ:=Int) (ρ:=Int) (fun I=>(fun h=>bd (idx H (I:Int)) fun G=>bd (idx x1.rules G.rule) fun J=>bd (α:=Int) (if (J.kind==1)=true then bd (slc x2 G.start G.end_) fun L=>bd (idx x1.rules G.rule) fun O=>bd (f_G L O.little) fun V=>some (b_ h V) else some h)<|fun W=>some<|.next W)) H.length 0 0)<|el (fun h=>some h)<|fun Y=>some Y
def i_L (x1:List e_)(x2:Int):Option Int :=
 if (decide<|(x_ x2 (x1.length:Int))<0)=true then some (-1) else bd (t_ (σ:=Int) (ρ:=Int) (fun H=>(fun h=>bd (idx x1 (H:Int)) fun I=>bd (g_x I h) fun G=>if (decide<|G<0)=true then some (.ret (-1)) else some (.next G))) x1.length 0<|x_ x2 (x1.length:Int)) (el (fun h=>some h)<|fun J=>some J)
def k_X (x1:a_j)(x2:Int):Option Int :=
 bd (i_L x1.versions x2) fun h=>if (decide<|h<0)=true then some (-1) else some h
def k_Y (x1:Log)(x2:Int):Option Int :=
 bd (h_K x1.bytes x2) fun h=>if (decide<|h<0)=true then some (-1) else some h
def i_M (x1:L_)(x2:Int):Option Int :=
 bd (k_X (⟨x1.registry.versions⟩:a_j) x2) fun h=>if (decide<|h<0)=true then some (-1) else bd (k_Y (⟨x1.log.bytes,x1.log.stored⟩:Log) h) fun G=>if (decide<|G<0)=true then some (-1) else some G
def i_N (x1:List e_):Option (List e_) :=
 bd (mk0 (⟨([]:List g_)⟩:e_) (x1.length:Int)) fun H=>bd (t_ (σ:=List e_) (ρ:=List e_) (fun G=>(fun h=>bd (idx x1 (G:Int)) fun I=>bd (h_P I) fun J=>bd (upd h (G:Int) J) fun L=>some<|.next L)) x1.length 0 H)<|el (fun h=>some h)<|fun O=>some O
def k_Z (x1:a_j):Option a_j :=
 bd (i_N x1.versions) fun h=>some (⟨h⟩:a_j)
def l_0 (x1:Log):Option Log :=
 bd (g_y x1.bytes) fun h=>some (⟨h,x1.stored⟩:Log)
def f_N (x1:L_):Option L_ :=
 bd (k_Z (⟨x1.registry.versions⟩:a_j)) fun G=>bd (l_0 (⟨x1.log.bytes,x1.log.stored⟩:Log)) fun h=>some (⟨(⟨G.versions⟩:a_j),(⟨h.bytes,h.stored⟩:Log)⟩:L_)
def i_O (n:Nat)(x1:List UInt8):Option ((List UInt8)×Bool) :=
 bd (O_ (σ:=(List UInt8)×Int) (ρ:=(List UInt8)×Bool) (un2 fun H h=>if (decide<|h<(x1.length:Int))=true then bd (idx x1 h) fun G=>bd (α:=Bool) (if ((byteI G)==0)=true then some true else if ((byteI G)==128)=true then some true else some (decide<|(x1.length:Int)<=(b_ h 1))) (fun L=>if L=true then some (.ret (([]:List UInt8),false)) else bd (α:=Sum ((List UInt8)×Int)<|Out ((List UInt8)×Int)<|(List UInt8)×Bool) (if (decide<|128<(byteI G))=true then bd (t_ (σ:=List UInt8) (ρ:=(List UInt8)×Bool) (fun a3=>(fun I=>bd (idx x1<|b_ h 1) fun O=>bd (psh I O) fun V=>some<|.next V)) ((x_ (byteI G) 128).toNat) 0 H) (el (fun I=>some<|.inl (I,b_ h 2))<|fun W=>some<|.inr<|.ret W) else if (decide<|(x1.length:Int)<(b_ (b_ h 1)<|byteI G))=true then some (.inr<|.ret (([]:List UInt8),false)) else bd (slc x1 (b_ h 1)<|b_ (b_ h 1)<|byteI G) fun Y=>bd (app H Y) fun a0=>some<|.inl (a0,b_ (b_ h 1)<|byteI G)) (el (un2 fun J a1=>if (decide<|1000<(J.length:Int))=true then some (.ret (([]:List UInt8),false)) else some (.next (J,a1))) some)) else some (.brk (H,h))) n (([]:List UInt8),0)) (el (un2 fun H h=>some (H,true))<|fun a2=>some a2)
def i_P (x1:o_):Option Bool :=
 bd (α:=Bool) (bd (a_G x1.kind 1 2) fun h=>if h=true then bd (e_Z x1.name) fun G=>if G=true then bd (a_G x1.version 0 7) fun H=>if H=true then if (decide<|(x1.data.length:Int)<=400)=true then if (x1.kind==1)=true then some true else if (x1.version==0)=true then some ((x1.data.length:Int)==0) else some false else some false else some false else some false else some false) (fun I=>some I)
def f_O (n:Nat)(x1:List UInt8)(x2:Int):Option Int :=
 bd (a_G x2 0<|x_ (x1.length:Int) 1) fun G=>if (!G)=true then some 0 else bd (O_ (σ:=Int) (ρ:=Int) (fun h=>bd (α:=Bool) (if (decide<|(b_ x2 h)<(x1.length:Int))=true then bd (idx x1<|b_ x2 h) fun H=>bd (idx x1 x2) fun I=>some ((byteI H)==(byteI I)) else some false) (fun J=>if J=true then some (.next<|b_ h 1) else some (.brk h))) n 0) (el (fun h=>some h)<|fun L=>some L)
def i_Q (x1:Int)(x2:Int):Option Int :=
 if (decide<|x2<x1)=true then some x2 else some x1
def i_R (n:Nat)(x1:List UInt8):Option (List UInt8) :=
 bd (O_ (σ:=(List UInt8)×Int) (ρ:=List UInt8) (un2 fun H h=>if (decide<|h<(x1.length:Int))=true then bd (α:=Sum ((List UInt8)×Int)<|Out ((List UInt8)×Int)<|List UInt8) (bd (f_O n x1 h) fun J=>bd (i_Q J 127) fun I=>if (decide<|3<=I)=true then bd (idx x1 h) fun L=>bd (app H [mkB (b_ 128 I),L]) fun O=>some (.inl (O,b_ h I)) else bd (O_ (σ:=Int) (ρ:=List UInt8) (fun G=>bd (α:=Bool) (if (decide<|G<(x1.length:Int))=true then if (decide<|(x_ G h)<127)=true then bd (f_O n x1 G) fun V=>some (decide<|V<3) else some false else some false) (fun W=>if W=true then some (.next<|b_ G 1) else some (.brk G))) n h) (el (fun G=>bd (slc x1 h G) fun Y=>bd (psh H<|mkB<|x_ G h) fun a0=>bd (app a0 Y) fun a1=>some<|.inl (a1,G))<|fun a2=>some<|.inr<|.ret a2)) (el (un2 fun a3 a4=>some<|.next (a3,a4)) some) else some (.brk (H,h))) n (([]:List UInt8),0)) (el (un2 fun H h=>some H)<|fun a5=>some a5)
def i_S (n:Nat)(x1:Int)(x2:Int):Option (List UInt8) :=
 bd (α:=Bool) (bd (a_G x2 1 4) fun H=>if (!H)=true then some true else bd (f_A x2) fun I=>bd (a_G x1 0<|x_ I 1) fun J=>some (!J)) (fun L=>if L=true then some ([]:List UInt8) else bd (O_ (σ:=(List UInt8)×Int) (ρ:=List UInt8) (un2 fun G h=>if (decide<|0<=h)=true then bd (nn<|b_6 8 h) fun W=>bd (psh G<|mkB<|c_R .i64 x1<|b_6 8 h) fun O=>some (.next (O,x_ h 1)) else some (.brk (G,h))) n (([]:List UInt8),x_ x2 1)) (el (un2 fun G h=>some G)<|fun V=>some V))
def i_T (n:Nat)(x1:o_):Option (List UInt8) :=
 bd (i_P x1) fun H=>if (!H)=true then some ([]:List UInt8) else bd (i_R n x1.data) fun h=>bd (app [mkB x1.kind,mkB (x1.name.b.length:Int)] x1.name.b) fun I=>bd (psh I<|mkB x1.version) fun J=>bd (i_S n (h.length:Int) 2) fun L=>bd (app J L) fun O=>bd (app O h) fun G=>bd (g_G G) fun V=>bd (psh G<|mkB V) fun W=>some W
def g_T (x1:List UInt8)(x2:List UInt8):Option Bool :=
 if ((x1.length:Int) != (x2.length:Int))=true then some false else bd (t_ (σ:=Unit) (ρ:=Bool) (fun h=>(fun (_:Unit)=>bd (idx x1 (h:Int)) fun G=>bd (idx x2 (h:Int)) fun H=>if ((byteI G) != (byteI H))=true then some (.ret false) else some (.next ()))) x1.length 0 ()) (el (fun (_:Unit)=>some true)<|fun I=>some I)
def g_U (n:Nat)(x1:List UInt8)(x2:Int):Option (o_×Int×Bool) :=
 bd (a_G x2 0<|x_ (x1.length:Int) 2) fun V=>if (!V)=true then some ((⟨0,(⟨[]⟩:Str),0,([]:List UInt8)⟩:o_),x2,false) else bd (idx x1<|b_ x2 1) fun h=>if (decide<|(x1.length:Int)<(b_ (b_ (b_ x2 2)<|byteI h) 3))=true then some ((⟨0,(⟨[]⟩:Str),0,([]:List UInt8)⟩:o_),x2,false) else bd (slc x1 (b_ (b_ (b_ x2 2)<|byteI h) 1)<|b_ (b_ (b_ x2 2)<|byteI h) 3) fun W=>bd (f_C W false) fun G=>if (decide<|(x1.length:Int)<=(b_ (b_ (b_ (b_ x2 2)<|byteI h) 3) G))=true then some ((⟨0,(⟨[]⟩:Str),0,([]:List UInt8)⟩:o_),x2,false) else bd (slc x1 (b_ (b_ (b_ x2 2)<|byteI h) 3)<|b_ (b_ (b_ (b_ x2 2)<|byteI h) 3) G) fun Y=>bd2 (i_O n Y) fun H a3=>bd (idx x1 x2) fun I=>bd (slc x1 (b_ x2 2)<|b_ (b_ x2 2)<|byteI h) fun J=>bd (idx x1<|b_ (b_ x2 2)<|byteI h) fun L=>bd (i_T n (⟨byteI I,(⟨J⟩:Str),byteI L,H⟩:o_)) fun O=>bd (α:=Bool) (if ((O.length:Int)==0)=true then some true else bd (slc x1 x2<|b_ (b_ (b_ (b_ (b_ x2 2)<|byteI h) 3) G) 1) fun a0=>bd (g_T O a0) fun a1=>some (!a1)) (fun a2=>if a2=true then some ((⟨0,(⟨[]⟩:Str),0,([]:List UInt8)⟩:o_),x2,false) else some ((⟨byteI I,(⟨J⟩:Str),byteI L,H⟩:o_),b_ (b_ (b_ (b_ (b_ x2 2)<|byteI h) 3) G) 1,true))
def f_8 (n:Nat)(x1:List UInt8):Option ((List o_)×Int) :=
 bd (O_ (σ:=(List o_)×Int) (ρ:=(List o_)×Int) (un2 fun h G=>bd3 (g_U n x1 G) fun H I J=>if (!J)=true then some (.ret (h,G)) else bd (psh h H) fun L=>some<|.next (L,I)) n (([]:List o_),0)) (el (un2 fun h G=>some (([]:List o_),0))<|fun O=>some O)
def g_V (n:Nat)(x1:Log):Option Bool :=
 bd (a_G x1.stored 0 (x1.bytes.length:Int)) fun h=>if (!h)=true then some false else bd2 (f_8 n x1.bytes) fun L G=>bd (slc x1.bytes 0 x1.stored) fun H=>bd2 (f_8 n H) fun O I=>bd (α:=Bool) (if (G==(x1.bytes.length:Int))=true then some (I==x1.stored) else some false)<|fun J=>some J
def i_U (x1:List q_)(x2:o_):Option (List q_) :=
 bd (α:=Str×Int×(List UInt8)) (bd (app ([]:List UInt8) x2.data) fun O=>some (x2.name,x2.version,O)) (un3 fun H I J=>bd (t_ (σ:=(List q_)×Bool) (ρ:=List q_) (fun L=>un2 fun h G=>bd (idx x1 (L:Int)) fun V=>bd (α:=(List q_)×Bool) (if (V.name.b != x2.name.b)=true then bd (idx x1 (L:Int)) fun W=>bd (psh h W) fun Y=>some (Y,G) else bd (α:=(List q_)×Bool) (if (x2.kind==1)=true then bd (psh h (⟨H,I,J⟩:q_)) fun a0=>some (a0,true) else some (h,G)) (un2 fun a1 a2=>some (a1,a2)))<|un2 fun a3 a4=>some<|.next (a3,a4)) x1.length 0 (([]:List q_),false)) (el (un2 fun h G=>bd (α:=Bool) (if (x2.kind==1)=true then some (!G) else some false) (fun a5=>bd (α:=List q_) (if a5=true then bd (psh h (⟨H,I,J⟩:q_)) fun a6=>some a6 else some h)<|fun a7=>some a7))<|fun a8=>some a8))
def g_W (n:Nat)(x1:List UInt8):Option (List q_) :=
 bd2 (f_8 n x1) fun G O=>bd (t_ (σ:=List q_) (ρ:=List q_) (fun H=>(fun h=>bd (idx G (H:Int)) fun I=>bd (i_U h I) fun J=>some<|.next J)) G.length 0 ([]:List q_))<|el (fun h=>some h)<|fun L=>some L
def i_V (n:Nat)(x1:L_):Option (List q_) :=
 bd (g_V n (⟨x1.log.bytes,x1.log.stored⟩:Log)) fun h=>if (!h)=true then some ([]:List q_) else bd (g_W n x1.log.bytes) fun G=>some G
def i_W (x1:a_j):Option Bool :=
 bd (t_ (σ:=Unit) (ρ:=Bool) (fun h=>(fun (_:Unit)=>bd (idx x1.versions (h:Int)) fun G=>bd (g_C G) fun H=>if (!H)=true then some (.ret false) else some (.next ()))) x1.versions.length 0 ()) (el (fun (_:Unit)=>some<|decide<|(x1.versions.length:Int)<=8)<|fun I=>some I)
def i_X (n:Nat)(x1:L_):Option Bool :=
 bd (α:=Bool) (bd (i_W (⟨x1.registry.versions⟩:a_j)) fun H=>if (!H)=true then some true else bd (g_V n (⟨x1.log.bytes,x1.log.stored⟩:Log)) fun I=>if (!I)=true then some true else bd (g_W n x1.log.bytes) fun J=>some<|decide<|20<(J.length:Int)) (fun L=>if L=true then some false else bd2 (f_8 n x1.log.bytes) fun h a4=>bd (t_ (σ:=Unit) (ρ:=Bool) (fun G=>(fun (_:Unit)=>bd (α:=Bool) (bd (idx h (G:Int)) fun O=>if (O.kind==1)=true then bd (idx h (G:Int)) fun V=>if (decide<|(x1.registry.versions.length:Int)<=V.version)=true then some true else bd (idx h (G:Int)) fun W=>bd (idx x1.registry.versions W.version) fun Y=>bd (idx h (G:Int)) fun a0=>bd (g_I n Y a0.data) fun a1=>some (!a1) else some false) (fun a2=>if a2=true then some (.ret false) else some (.next ())))) h.length 0 ())<|el (fun (_:Unit)=>some true)<|fun a3=>some a3)
def i_Y (n:Nat)(x1:a_j):Option Bool :=
 if (decide<|8<(x1.versions.length:Int))=true then some false else bd (t_ (σ:=Unit) (ρ:=Bool) (fun h=>(fun (_:Unit)=>bd (idx x1.versions (h:Int)) fun G=>bd (g_L n G) fun H=>if (!H)=true then some (.ret false) else some (.next ()))) x1.versions.length 0 ()) (el (fun (_:Unit)=>some true)<|fun I=>some I)
def i_Z (n:Nat)(x1:List UInt8):Option ((List UInt8)×Bool) :=
 bd (O_ (σ:=(List UInt8)×Int) (ρ:=(List UInt8)×Bool) (un2 fun H h=>if (decide<|h<(x1.length:Int))=true then bd (idx x1 h) fun G=>bd (α:=Bool) (if ((byteI G)==0)=true then some true else if ((byteI G)==128)=true then some true else some ((b_ h 1)==(x1.length:Int))) (fun L=>if L=true then some (.ret (([]:List UInt8),false)) else bd (α:=Sum ((List UInt8)×Int)<|Out ((List UInt8)×Int)<|(List UInt8)×Bool) (if (decide<|(byteI G)<128)=true then if (decide<|(x_ (x1.length:Int)<|b_ h 1)<(byteI G))=true then some (.inr<|.ret (([]:List UInt8),false)) else bd (slc x1 (b_ h 1)<|b_ (b_ h 1)<|byteI G) fun O=>bd (app H O) fun V=>some (.inl (V,b_ (b_ h 1)<|byteI G)) else bd (t_ (σ:=List UInt8) (ρ:=(List UInt8)×Bool) (fun a3=>(fun I=>bd (idx x1<|b_ h 1) fun W=>bd (psh I W) fun Y=>some<|.next Y)) ((x_ (byteI G) 128).toNat) 0 H) (el (fun I=>some<|.inl (I,b_ (b_ h 1) 1))<|fun a0=>some<|.inr<|.ret a0)) (el (un2 fun J a1=>if (decide<|1000<(J.length:Int))=true then some (.ret (([]:List UInt8),false)) else some (.next (J,a1))) some)) else some (.brk (H,h))) n (([]:List UInt8),0)) (el (un2 fun H h=>some (H,true))<|fun a2=>some a2)
def g_X (n:Nat)(x1:o_):Option Bool :=
 bd (α:=Bool) (bd (e_s n x1.name) fun h=>if (!h)=true then some true else bd (c_l x1.version 0 7) fun G=>if (!G)=true then some true else some (decide<|400<(x1.data.length:Int))) (fun H=>if H=true then some false else bd (α:=Bool) (if (x1.kind==1)=true then some true else if (x1.kind==2)=true then if (x1.version==0)=true then some ((x1.data.length:Int)==0) else some false else some false) (fun I=>some I))
def f_P (x1:List UInt8)(x2:Int):Option Bool :=
 bd (α:=Bool) (if (decide<|(b_ x2 2)<(x1.length:Int))=true then bd (idx x1 x2) fun h=>bd (idx x1<|b_ x2 1) fun G=>if ((byteI h)==(byteI G))=true then bd (idx x1 x2) fun H=>bd (idx x1<|b_ x2 2) fun I=>some ((byteI H)==(byteI I)) else some false else some false) (fun J=>some J)
def j_0 (n:Nat)(x1:List UInt8)(x2:Int):Option Int :=
 bd (α:=Bool) (if (decide<|x2<0)=true then some true else some (decide<|(x1.length:Int)<=x2)) (fun G=>if G=true then some 0 else bd (O_ (σ:=Int) (ρ:=Int) (fun h=>bd (α:=Bool) (if (decide<|(b_ x2 h)<(x1.length:Int))=true then bd (idx x1<|b_ x2 h) fun H=>bd (idx x1 x2) fun I=>some ((byteI H)==(byteI I)) else some false) (fun J=>if J=true then some (.next<|b_ h 1) else some (.brk h))) n 1) (el (fun h=>some h)<|fun L=>some L))
def j_1 (x1:Int)(x2:Int):Option Bool :=
 some (decide<|x1<x2)
def l_1 (x2:Int)(x3:List Int):Option Int :=
 bd (t_ (σ:=Int) (ρ:=Int) (fun H=>(fun h=>bd (idx x3 (H:Int)) fun G=>bd (j_1 G h) fun I=>bd (α:=Int) (if I=true then some G else some h)<|fun J=>some<|.next J)) x3.length 0 x2) (el (fun h=>some h)<|fun L=>some L)
def j_2 (x1:Int)(x2:Int):Option Int :=
 bd (l_1 x1 [x2]) fun h=>some h
def j_3 (n:Nat)(x1:List UInt8):Option (List UInt8) :=
 bd (O_ (σ:=(List UInt8)×Int) (ρ:=List UInt8) (un2 fun H h=>if (decide<|h<(x1.length:Int))=true then bd (α:=Sum ((List UInt8)×Int)<|Out ((List UInt8)×Int)<|List UInt8) (bd (f_P x1 h) fun J=>if J=true then bd (j_0 n x1 h) fun L=>bd (j_2 L 127) fun I=>bd (idx x1 h) fun O=>bd (app H [mkB (b_ 128 I),O]) fun V=>some (.inl (V,b_ h I)) else bd (O_ (σ:=Int) (ρ:=List UInt8) (fun G=>bd (α:=Bool) (if (decide<|G<(x1.length:Int))=true then if (decide<|(x_ G h)<127)=true then bd (f_P x1 G) fun W=>some (!W) else some false else some false) (fun Y=>if Y=true then some (.next<|b_ G 1) else some (.brk G))) n<|b_ h 1) (el (fun G=>bd (psh H<|mkB<|x_ G h) fun a0=>bd (slc x1 h G) fun a1=>bd (app a0 a1) fun a2=>some<|.inl (a2,G))<|fun a3=>some<|.inr<|.ret a3)) (el (un2 fun a4 a5=>some<|.next (a4,a5)) some) else some (.brk (H,h))) n (([]:List UInt8),0)) (el (un2 fun H h=>some H)<|fun a6=>some a6)
def j_4 (n:Nat)(x1:o_):Option (List UInt8) :=
 bd (g_X n x1) fun H=>if (!H)=true then some ([]:List UInt8) else bd (j_3 n x1.data) fun h=>bd (app [mkB x1.kind,mkB (x1.name.b.length:Int)] x1.name.b) fun I=>bd (app I [mkB x1.version,mkB<|c_R .i64 (h.length:Int) 8,mkB (h.length:Int)]) fun J=>bd (app J h) fun G=>bd (f_H G) fun L=>bd (psh G<|mkB L) fun O=>some O
def f_9 (n:Nat)(x1:List UInt8)(x2:Int):Option (o_×Int×Bool) :=
 bd (α:=Bool) (if (decide<|x2<0)=true then some true else if (decide<|(x1.length:Int)<x2)=true then some true else some (decide<|(x_ (x1.length:Int) x2)<2)) (fun W=>if W=true then some ((⟨0,(⟨[]⟩:Str),0,([]:List UInt8)⟩:o_),x2,false) else bd (slc x1 x2 (x1.length:Int)) fun h=>bd (idx h 1) fun G=>if (decide<|(h.length:Int)<(b_ (byteI G) 6))=true then some ((⟨0,(⟨[]⟩:Str),0,([]:List UInt8)⟩:o_),x2,false) else bd (idx h<|b_ (byteI G) 3) fun H=>bd (idx h<|b_ (byteI G) 4) fun I=>if (decide<|(h.length:Int)<(b_ (b_ (byteI G) 6)<|b_Y .i64 (· ||| ·) (b_v .i64 (byteI H) 8)<|byteI I))=true then some ((⟨0,(⟨[]⟩:Str),0,([]:List UInt8)⟩:o_),x2,false) else bd (mk0 (0:UInt8)<|b_Y .i64 (· ||| ·) (b_v .i64 (byteI H) 8)<|byteI I) fun Y=>bd (slc h (b_ (byteI G) 5) (h.length:Int)) fun a0=>bd2 (i_Z n<|cpy Y a0) fun J a1=>bd (idx h 0) fun L=>bd (slc h 2<|b_ 2<|byteI G) fun O=>bd (idx h<|b_ (byteI G) 2) fun V=>bd (α:=Bool) (if (!a1)=true then some true else bd (g_X n (⟨byteI L,(⟨O⟩:Str),byteI V,J⟩:o_)) fun a2=>if (!a2)=true then some true else bd (slc h 0<|b_ (b_ (byteI G) 6)<|b_Y .i64 (· ||| ·) (b_v .i64 (byteI H) 8)<|byteI I) fun a3=>bd (j_4 n (⟨byteI L,(⟨O⟩:Str),byteI V,J⟩:o_)) fun a4=>bd (k_P a4 a3) fun a5=>some (!a5)) (fun a6=>if a6=true then some ((⟨0,(⟨[]⟩:Str),0,([]:List UInt8)⟩:o_),x2,false) else some ((⟨byteI L,(⟨O⟩:Str),byteI V,J⟩:o_),b_ (b_ (b_ x2<|byteI G) 6)<|b_Y .i64 (· ||| ·) (b_v .i64 (byteI H) 8)<|byteI I,true)))
def l_2 (n:Nat)(x1:Log):Option Bool :=
 bd (c_l x1.stored 0 (x1.bytes.length:Int)) fun I=>if (!I)=true then some false else bd (O_ (σ:=Bool×Int) (ρ:=Bool) (un2 fun h G=>if (decide<|G<(x1.bytes.length:Int))=true then bd3 (f_9 n x1.bytes G) fun V H J=>if (!J)=true then some (.ret false) else bd (α:=Bool) (if h=true then some true else some (H==x1.stored)) (fun L=>some<|.next (L,H)) else some (.brk (h,G))) n (x1.stored==0,0)) (el (un2 fun h G=>if (!h)=true then some false else some true)<|fun O=>some O)
def j_5 (n:Nat)(x1:Log):Option Bool :=
 l_2 n x1
def g_Y (n:Nat)(x1:List UInt8):Option ((List o_)×Int) :=
 bd (O_ (σ:=(List o_)×Int) (ρ:=(List o_)×Int) (un2 fun h G=>bd3 (f_9 n x1 G) fun H I J=>if (!J)=true then some (.ret (h,G)) else bd (psh h H) fun L=>some<|.next (L,I)) n (([]:List o_),0)) (el (un2 fun h G=>some (([]:List o_),0))<|fun O=>some O)
def l_3 (x1:q_)(x2:o_):Option Bool :=
 some (x1.name.b==x2.name.b)
def j_6 (x1:List q_)(G:o_):Option Int :=
 bd (t_ (σ:=Unit) (ρ:=Int) (fun h=>(fun (_:Unit)=>bd (idx x1 (h:Int)) fun H=>bd (l_3 H G) fun I=>if I=true then some (.ret (h:Int)) else some (.next ()))) x1.length 0 ()) (el (fun (_:Unit)=>some (-1))<|fun J=>some J)
def g_Z (n:Nat)(x1:L_):Option (List q_) :=
 bd2 (g_Y n x1.log.bytes) fun I a5=>bd (t_ (σ:=List q_) (ρ:=List q_) (fun J=>(fun h=>bd (idx I (J:Int)) fun G=>bd (j_6 h G) fun H=>bd (α:=Bool) (if (G.kind==1)=true then some (decide<|0<=H) else some false) (fun L=>bd (α:=List q_) (if L=true then bd (upd h H (⟨G.name,G.version,G.data⟩:q_)) fun O=>some O else bd (α:=List q_) (if (G.kind==1)=true then bd (psh h (⟨G.name,G.version,G.data⟩:q_)) fun V=>some V else bd (α:=List q_) (if (decide<|0<=H)=true then bd (slc h 0 H) fun W=>bd (slc h (b_ H 1) (h.length:Int)) fun Y=>bd (app W Y) fun a0=>some a0 else some h) (fun a1=>some a1)) (fun a2=>some a2))<|fun a3=>some<|.next a3))) I.length 0 ([]:List q_))<|el (fun h=>some h)<|fun a4=>some a4
def l_4 (x1:a_j)(x2:Int):Option Bool :=
 bd (α:=Bool) (if (decide<|0<=x2)=true then some (decide<|x2<(x1.versions.length:Int)) else some false) (fun h=>some h)
def j_7 (n:Nat)(x1:L_):Option Bool :=
 bd (α:=Bool) (bd (i_Y n (⟨x1.registry.versions⟩:a_j)) fun H=>if (!H)=true then some true else bd (j_5 n (⟨x1.log.bytes,x1.log.stored⟩:Log)) fun I=>if (!I)=true then some true else bd (g_Z n x1) fun J=>some<|decide<|20<(J.length:Int)) (fun L=>if L=true then some false else bd2 (g_Y n x1.log.bytes) fun G a2=>bd (t_ (σ:=Unit) (ρ:=Bool) (fun O=>(fun (_:Unit)=>bd (idx G (O:Int)) fun h=>bd (α:=Bool) (if (h.kind==1)=true then bd (l_4 (⟨x1.registry.versions⟩:a_j) h.version) fun V=>if (!V)=true then some true else bd (idx x1.registry.versions h.version) fun W=>bd (i_r n W h.data) fun Y=>some (!Y) else some false) (fun a0=>if a0=true then some (.ret false) else some (.next ())))) G.length 0 ())<|el (fun (_:Unit)=>some true)<|fun a1=>some a1)
def l_5 (n:Nat)(x1:L_):Option (List q_) :=
 bd (j_5 n (⟨x1.log.bytes,x1.log.stored⟩:Log)) fun h=>if (!h)=true then some ([]:List q_) else bd (g_Z n x1) fun G=>some G
def j_8 (n:Nat)(x1:L_):Option (List q_) :=
 bd (j_7 n x1) fun h=>if (!h)=true then some ([]:List q_) else bd (l_5 n x1) fun G=>some G
def j_9 (x1:List e_)(x2:List e_):Option Bool :=
 if ((x1.length:Int) != (x2.length:Int))=true then some false else bd (t_ (σ:=Unit) (ρ:=Bool) (fun h=>(fun (_:Unit)=>bd (idx x1 (h:Int)) fun G=>bd (idx x2 (h:Int)) fun H=>bd (i_u G H) fun I=>if (!I)=true then some (.ret false) else some (.next ()))) x1.length 0 ()) (el (fun (_:Unit)=>some true)<|fun J=>some J)
def l_6 (x1:a_j)(x2:a_j):Option Bool :=
 bd (j_9 x1.versions x2.versions) fun h=>if (!h)=true then some false else some true
def l_7 (x1:Log)(x2:Log):Option Bool :=
 bd (g_R x1.bytes x2.bytes) fun h=>if (!h)=true then some false else if (x1.stored != x2.stored)=true then some false else some true
def j_a (x1:L_)(x2:L_):Option Bool :=
 bd (l_6 (⟨x1.registry.versions⟩:a_j) (⟨x2.registry.versions⟩:a_j)) fun h=>if (!h)=true then some false else bd (l_7 (⟨x1.log.bytes,x1.log.stored⟩:Log) (⟨x2.log.bytes,x2.log.stored⟩:Log)) fun G=>if (!G)=true then some false else some true
end Go.Vw
namespace Go.Vw
def h_D (n:Nat)(x1:L_)(x2:Str):Option Int :=
 bd (i_V n x1) fun H=>bd (O_ (σ:=Int×Int) (ρ:=Int) (un2 fun G h=>bd (α:=Bool) (if (decide<|h<(H.length:Int))=true then bd (i_X n x1) fun I=>some I else some false) (fun J=>if J=true then bd (idx H h) fun L=>bd (idx x1.registry.versions L.version) fun O=>bd (idx H h) fun V=>bd (i_E n O V.data x2) fun W=>some (.next (b_ G W,b_ h 1)) else some (.brk (G,h)))) n (0,0))<|el (un2 fun G h=>some G)<|fun Y=>some Y
def h_E (n:Nat)(x1:L_)(x2:Str):Option Int :=
 bd (j_8 n x1) fun G=>bd (t_ (σ:=Int) (ρ:=Int) (fun I=>(fun h=>bd (idx G (I:Int)) fun H=>bd (idx x1.registry.versions H.version) fun J=>bd (i_K n J H.data x2) fun L=>some<|.next<|b_ h L)) G.length 0 0)<|el (fun h=>some h)<|fun O=>some O
def h_F (n:Nat)(x1:L_)(x2:Str):Option Bool :=
 if (decide<|1048576<(x2.b.length:Int))=true then some true else bd (i_M x1 1048576) fun G=>if (decide<|G<0)=true then some true else bd (f_N x1) fun H=>bd (h_D n H x2) fun I=>bd (f_N x1) fun h=>bd (h_E n h x2) fun J=>if (J != I)=true then some false else bd (f_N x1) fun L=>bd (j_a h L) fun O=>if (!O)=true then some false else some true
end Go.Vw
namespace Go.Vw
open Go.RowKit Dat
theorem q_L {P:Program}{o:Oper}{a:Act}{w:World}{K K' K1 K2:Act->World->Prop}{Q:Exit->Act->World->Prop}(h:∀a w,K a w->K' a w)(hh:o.wp P a w K (Exit.then K1 Q)):o.wp P a w K' (Exit.then K2 Q):=by
 unfold Oper.wp at *
 generalize (execOp a.eval o).run P w=r at *
 cases r with
 | ok n w' =>
  cases n <;> simp only [Oper.upon] at hh ⊢ <;>
   first
    | exact h _ _ hh
    | exact Calls.mono hh (fun e w'' he=>by cases e <;> first | exact h _ _ he | exact he)
    | exact Rows.mono hh<|fun _ _ he=>h _ _ he
 | halt x w'=>cases x <;> simp only [Oper.upon] at hh ⊢ <;> exact hh
theorem l_b {P:Program}{ops:Array Oper}{K K1:Act->World->Prop}{Q:Exit->Act->World->Prop}{G:List Oper}(hk:∀a w,K1 a w->wpList P ops (Exit.then K Q) G a w):∀(l1:List Oper)(a:Act)(w:World),wpList P ops (Exit.then K1 Q) l1 a w->wpList P ops (Exit.then K Q) (l1++G) a w
 | [],a,w,h=>hk a w h
 | o::l1,a,w,h=>by
  rw [List.cons_append]
  unfold wpList at h ⊢
  split at h
  ·rename_i hw
   rw [if_pos hw]
   rcases h with h | ⟨h1,h2⟩
   ·exact .inl<|q_L (l_b hk l1) h
   ·exact .inr ⟨h1,h2⟩
  ·rename_i hw
   rw [if_neg hw]
   exact l_b hk l1 _ _ h
section
variable {P:Program}{N:Nat}{ops:Array Oper}{K:Act->World->Prop}{Q:Exit->Act->World->Prop}{e:Env}{w:World}{l:List Oper}
theorem q_M (k:Nat)(l:List Oper):l.take k++l.drop k=l:=List.take_append_drop k l
theorem e_2 (d:Nat)(u:Bool)(k:Nat)(h1:WL P N ops (fun a w'=>w'=w/\Sat N ((d,vB u)::e) a) Q (l.take k) e w)(h2:WL P N ops K Q (l.drop k) ((d,vB u)::e) w):WL P N ops K Q l e w:=fun a ha=>by
 rw [← q_M k l]
 exact l_b (fun a w' ⟨hw,hs⟩=>by subst hw;exact h2 a hs) _ a w<|h1 a ha
variable {d:Nat}{u c:Bool}
def l_c (n:Nat)(e:Env):Bool:=(e.take n).all fun p=>(e.drop n).all fun q=>!Nat.beq p.1 q.1
theorem n_2:∀{e:Env}{t:Nat},(∀q∈e,Nat.beq t q.1=false)->v_ e t=none
 | [],_,_=>rfl
 | (k,v)::e,t,h=>by
  have h1:=h (k,v) List.mem_cons_self;have h2:Nat.beq k t=false:=by rw [← Bool.not_eq_true,Nat.beq_eq] at *;exact fun h=>h1 h.symm
  rw [v_,h2]
  exact n_2 fun q hq=>h q<|List.mem_cons_of_mem _ hq
theorem n_3:∀{G H:Env}{t:Nat},(∀p∈G,Nat.beq p.1 t=false)->v_ (G++H) t=v_ H t
 | [],_,_,_=>rfl
 | (k,v)::G,H,t,h=>by
  rw [List.cons_append,v_,h (k,v) List.mem_cons_self]
  exact n_3 fun p hp=>h p<|List.mem_cons_of_mem _ hp
theorem q_N {n:Nat}{e:Env}(h:l_c n e=true){t:Nat}{v:Value}(hl:v_ (e.drop n) t=some v):v_ e t=some v:=by
 have:v_ (e.take n++e.drop n) t=v_ (e.drop n) t:=by
  refine n_3 fun p hp=>?_
  cases hb:Nat.beq p.1 t with
  | false=>rfl
  | true =>
   exfalso
   have hpt:p.1=t:=Nat.eq_of_beq_eq_true hb;have h1:=List.all_eq_true.1 h p hp
   rw [List.all_eq_true] at h1
   have:=n_2 (e:=e.drop n) (t:=t) fun q hq=>by
    have:=h1 q hq
    rw [Bool.not_eq_true'] at this
    rw [← hpt];exact this
   rw [this] at hl;cases hl
 rw [List.take_append_drop] at this
 rw [this];exact hl
theorem q_O (n:Nat){e':Env}{a:Act}(hu:c=u)(h:v_ e' d=some (vB c))(hf:l_c n e'=true)(he:e'.drop n=e)(ha:Sat N e' a):Sat N ((d,vB u)::e) a:=by
 subst hu;subst he;refine ⟨ha.defers,ha.size,fun t v ht=>?_⟩
 simp only [v_] at ht
 by_cases hk:d=t
 ·subst hk;have hb:Nat.beq d d=true:=by simp
  rw [hb] at ht
  simp only [cond_true,Option.some.injEq] at ht
  subst ht;exact ha.at_ d _ h
 ·have hb:Nat.beq d t=false:=by rw [← Bool.not_eq_true,Nat.beq_eq];exact hk
  rw [hb] at ht
  simp only [cond_false] at ht
  exact ha.at_ t v<|q_N hf ht
theorem WLq (n:Nat){e':Env}(hu:some c=some u)(h:v_ e' d=some (vB c))(hf:l_c n e'=true)(he:e'.drop n=e):WL P N ops (fun a w'=>w'=w/\Sat N ((d,vB u)::e) a) Q [] e' w :=
 a_l fun _ ha=>⟨rfl,q_O n (Option.some.inj hu) h hf he ha⟩
end
end Go.Vw
universe u
namespace Go.Vw
open Go.RowKit Dat
section
variable {P:Program}{N:Nat}{ops:Array Oper}{K:Act->World->Prop}{Q:Exit->Act->World->Prop}{e:Env}{w:World}{rest:List Oper}
variable {d:Nat}{op:Op}{ty:TypeId}{pos:String}{aft:Array Edge}{x:Operand}
theorem Wn {y:Code}{Q':Exit->Act->World->Prop}(h:WC P N y K Q e w):WL P N ops (KC P y K Q) Q' [] e w:=a_l<|WC.of_KC h
theorem Ws {id:Nat}{l:List Oper}{y:Code}(h:WL P N l.toArray (KC P y K Q) Q l e w):WC P N (.seq (.region id l.toArray false) y) K Q e w:=a_i<|a_H h
theorem Wk {y:Code}{Q':Exit->Act->World->Prop}(h:WC P N y K Q e w):WC P N .skip (KC P y K Q) Q' e w:=a_e<|WC.of_KC h
theorem e_0 {b:Bool}{o:Option Value}{v:Value}(h:(bif b then o else none)=some v):b=true/\o=some v:=by
 cases b
 ·cases h
 ·exact ⟨rfl,h⟩
theorem Rm {v:Value}(h:(bif Nat.blt d N then ev e x else none)=some v)(k:WL P N ops K Q rest ((d,v)::e) w):WL P N ops K Q (⟨some d,.move x,ty,pos,aft,none⟩::rest) e w:=R (e_0 h).1 (b_7 (e_0 h).2) k
theorem Ra {v:Value}(h:(bif Nat.blt d N then ev e x else none)=some v)(k:WL P N ops K Q rest ((d,v)::e) w):WL P N ops K Q (⟨some d,.assign x,ty,pos,aft,none⟩::rest) e w:=R (e_0 h).1 (c_S (e_0 h).2) k
section
variable {j:Nat}{want b:Bool}
theorem bind_some {o:Option Nat}{v:Value}(h:o.bind (v_ e)=some v):∃gd,o=some gd/\v_ e gd=some v:=by
 cases o with
 | none=>cases h
 | some g=>exact ⟨g,rfl,h⟩
theorem Rh {v:Value}(h:(bif Nat.blt d N then ((ops[j]?).bind (·.dst)).bind (v_ e) else none)=some (.bool b))(hw:b=want)(hr:Rd noX P N ⟨some d,op,ty,pos,aft,some (j,want)⟩ e w v)(k:WL P N ops K Q rest ((d,v)::e) w):WL P N ops K Q (⟨some d,op,ty,pos,aft,some (j,want)⟩::rest) e w:=by
 obtain ⟨gd,h1,h2⟩:=bind_some (e_0 h).2;exact Rg h1 h2 hw (e_0 h).1 hr k
theorem Nh (h:(bif Nat.blt d N then ((ops[j]?).bind (·.dst)).bind (v_ e) else none)=some (.bool b))(hw:b = !want)(k:WL P N ops K Q rest ((d,undef)::e) w):WL P N ops K Q (⟨some d,op,ty,pos,aft,some (j,want)⟩::rest) e w:=by
 obtain ⟨gd,h1,h2⟩:=bind_some (e_0 h).2;exact Ng h1 h2 hw (e_0 h).1 k
theorem Nv (h:(bif Nat.blt d N then ((ops[j]?).bind (·.dst)).bind (v_ e) else none)=some undef)(k:WL P N ops K Q rest ((d,undef)::e) w):WL P N ops K Q (⟨some d,op,ty,pos,aft,some (j,want)⟩::rest) e w:=by
 obtain ⟨gd,h1,h2⟩:=bind_some (e_0 h).2;exact Nu h1 h2 (e_0 h).1 k
end
end
theorem e_Y {j:Nat}{K':Act->World->Prop}{Q:Exit->Act->World->Prop}{a:Act}{w:World}(h:Q .ret a w):inB j K' Q .ret a w:=h
theorem goF {P:Program}{f:FuncId}{G:Func}{c:Code}{N:Nat}{args:List Value}{w:World}{R:Value->World->Prop}(hf:P.funcs[f]? = some G)(hb:G.body=some c)(hN:G.ntmps=N)(hle:args.length<=N)(h:∀fn:Func,fn.results=G.results->WC P N c (w_ P fn R) (QR P fn R) (e_B 0 args) w):h_ P f args w R:=h_g hf hb hN hle<|h G rfl
abbrev _root_.Go.World.z (w:World):Nat:=w.heap.size
abbrev sl (a:Option Addr)(n c:Nat):Value:=.slice a n c
abbrev pt (g:Nat):Value:=.pointer<|some ⟨g,0,none⟩
abbrev Bw (a b:World):Prop:=Below a.heap.size a b
abbrev vR (x:g_)(h:Option Addr)(G H:Nat)(a2:Option Addr)(I J:Nat)(L:Option Addr)(O V:Nat)(W:Option Addr)(Y c4:Nat):List Value:=[x.name.v,vI x.kind,vI x.size,vB x.little,.slice h G H,.slice a2 I J,.slice L O V,.slice W Y c4]
theorem z {α:Sort u}{a:α}:a=a:=rfl
theorem Sat.k {N:Nat}{e e':Env}{a:Act}(h:Sat N e a)(hs:sub e e'):Sat N e' a:=h.weaken hs
theorem fid {a:Prop}(h:a):a:=h
theorem lt_ {a b c:Nat}(h:a<=b)(h':b<=c):a<=c:=Nat.le_trans h h'
theorem lr {a:Nat}:a<=a:=Nat.le_refl a
theorem lb {a b:Nat}(h:Nat.ble a b=true):a<=b:=Nat.le_of_ble_eq_true h
theorem ii {x:Int}(h:(decide (-9223372036854775808<=x) && decide (x<=9223372036854775807))=true):inI x:=inI_of x h
section
variable {S T A M:List Nat}{m n g k:Nat}
theorem k_J (h:m<=n):∀k∈[n],m<=k:=d_ h
theorem mno (h:∀ k∈T,k<m)(h':m<=n):∀k∈[n],k∉T:=d_<|fun ht=>absurd (h n ht)<|Nat.not_lt.2 h'
theorem mnr (h:∀ k∈T,k<m):∀k∈[m],k∉T:=mno h lr
theorem mm1 (h:g<m)(h':m<=n):∀k∈[n],k∉[g]:=mno (d_ h) h'
theorem mmr (h:g<m):∀k∈[m],k∉[g]:=mno (d_ h) lr
theorem mor (h:m<=n):∀k∈[n],k∈M∨m<=k:=d_<|.inr h
theorem s_ (hs:∀k∈S,n<=k)(h:m<=n):∀k∈S,m<=k:=or0 hs<|a_S h
theorem r_ (hs:∀k∈S,n<=k)(h:g<m)(h':m<=n):∀k∈S,k∉[g]:=or0 hs<|a_O (d_ h) h'
theorem b_C (hs:∀k∈S,n<=k)(h:∀ k∈T,k<m)(h':m<=n):∀k∈S,k∉T:=or0 hs<|a_O h h'
theorem a_Y (hs:∀k∈S,k∈A∨n<=k)(ha:∀k∈A,m<=k)(h:m<=n):∀k∈S,m<=k:=or1 hs ha<|a_S h
theorem o1no (hs:∀k∈S,k∈A∨n<=k)(ha:∀k∈A,k∉T)(h:∀ k∈T,k<m)(h':m<=n):∀k∈S,k∉T:=or1 hs ha<|a_O h h'
theorem djs (h:∀k∈S,k∉[g]):g∉S:=fun hg=>h g hg<|List.mem_singleton.2 rfl
theorem atp {p:Nat->Prop}(h:∀k∈[g],p k):p g:=h g<|List.mem_singleton.2 rfl
theorem nd0:([]++[]:List Nat).Nodup:=h_b H_ H_ all_nil
theorem al0 {p:Nat->Prop}:∀k∈([]++[]:List Nat),p k:=h_a all_nil all_nil
end
section
variable {e e':Env}{v1 v2 v3 v4 v5 v6 v7 v8 v9:Value}{k1 k2 k3 k4 k5 k6 k7 k8 k9:Nat}
theorem s1 (h1:v_ e k1=some v1):sub e [(k1,v1)]:=⟨h1,trivial⟩
theorem s2 (h1:v_ e k1=some v1)(h2:v_ e k2=some v2):sub e [(k1,v1),(k2,v2)]:=⟨h1,s1 h2⟩
theorem s3 (h1:v_ e k1=some v1)(h2:v_ e k2=some v2)(h3:v_ e k3=some v3):sub e [(k1,v1),(k2,v2),(k3,v3)]:=⟨h1,s2 h2 h3⟩
theorem s4 (h1:v_ e k1=some v1)(h2:v_ e k2=some v2)(h3:v_ e k3=some v3)(h4:v_ e k4=some v4):sub e [(k1,v1),(k2,v2),(k3,v3),(k4,v4)]:=⟨h1,s3 h2 h3 h4⟩
theorem s5 (h1:v_ e k1=some v1)(h2:v_ e k2=some v2)(h3:v_ e k3=some v3)(h4:v_ e k4=some v4)(h5:v_ e k5=some v5):sub e [(k1,v1),(k2,v2),(k3,v3),(k4,v4),(k5,v5)]:=⟨h1,s4 h2 h3 h4 h5⟩
theorem s6 (h1:v_ e k1=some v1)(h2:v_ e k2=some v2)(h3:v_ e k3=some v3)(h4:v_ e k4=some v4)(h5:v_ e k5=some v5)(h6:v_ e k6=some v6):sub e [(k1,v1),(k2,v2),(k3,v3),(k4,v4),(k5,v5),(k6,v6)]:=⟨h1,s5 h2 h3 h4 h5 h6⟩
theorem s7 (h1:v_ e k1=some v1)(h2:v_ e k2=some v2)(h3:v_ e k3=some v3)(h4:v_ e k4=some v4)(h5:v_ e k5=some v5)(h6:v_ e k6=some v6)(h:v_ e k7=some v7):sub e [(k1,v1),(k2,v2),(k3,v3),(k4,v4),(k5,v5),(k6,v6),(k7,v7)]:=⟨h1,s6 h2 h3 h4 h5 h6 h⟩
theorem s8 (h1:v_ e k1=some v1)(h2:v_ e k2=some v2)(h3:v_ e k3=some v3)(h4:v_ e k4=some v4)(h5:v_ e k5=some v5)(h6:v_ e k6=some v6)(h:v_ e k7=some v7)(G:v_ e k8=some v8):sub e [(k1,v1),(k2,v2),(k3,v3),(k4,v4),(k5,v5),(k6,v6),(k7,v7),(k8,v8)]:=⟨h1,s7 h2 h3 h4 h5 h6 h G⟩
theorem s9 (h1:v_ e k1=some v1)(h2:v_ e k2=some v2)(h3:v_ e k3=some v3)(h4:v_ e k4=some v4)(h5:v_ e k5=some v5)(h6:v_ e k6=some v6)(h:v_ e k7=some v7)(G:v_ e k8=some v8)(H:v_ e k9=some v9):sub e [(k1,v1),(k2,v2),(k3,v3),(k4,v4),(k5,v5),(k6,v6),(k7,v7),(k8,v8),(k9,v9)]:=⟨h1,s8 h2 h3 h4 h5 h6 h G H⟩
end
theorem onL {α:Type}[Dat α]{w:World}:a_ w [] (.slice none 0 0) ([]:List α):=l_g w
theorem _root_.Go.RowKit.Below.s {b:Nat}{w w':World}(h:Below b w w'):w.heap.size<=w'.heap.size:=h.size
theorem Chg.s {X:Nat->Prop}{w w':World}(h:Chg X w w'):w.heap.size<=w'.heap.size:=h.size
abbrev Chg.e:=@Chg.ext
abbrev repS.e:=@repS.ext
abbrev repS.c:=@repS.chg
abbrev a_.e:=@a_.ext
abbrev a_.c:=@a_.chg
abbrev S_.e:=@S_.ext
abbrev S_.c:=@S_.chg
abbrev a_I.e:=@a_I.ext
abbrev a_I.c:=@a_I.chg
abbrev b_G.e:=@b_G.ext
abbrev b_G.c:=@b_G.chg
abbrev GlW.e:=@GlW.ext
abbrev GlW.c:=@GlW.chg
abbrev c_d.e:=@c_d.ext
abbrev c_d.c:=@c_d.chg
abbrev Blk.e:=@Blk.ext
abbrev Blk.c:=@Blk.chg
abbrev X_.e:=@X_.ext
abbrev X_.c:=@X_.chg
section
variable {P:Program}{N:Nat}{ops:Array Oper}{K:Act->World->Prop}{Q:Exit->Act->World->Prop}{e:Env}{w:World}{rest:List Oper}{X:Nat->Prop}{T:Nat}{p:a_Q}
variable {d d':Nat}{ty ty':TypeId}{pos pos':String}{aft aft':Array Edge}{x x':Operand}{v v':Value}
theorem Rw {c:Code}{Q':Exit->Act->World->Prop}(h:(bif Nat.blt d N then ev e x else none)=some v)(k:WC P N c K Q ((d,v)::e) w):WL P N ops (KC P c K Q) Q' [⟨some d,.assign x,ty,pos,aft,none⟩] e w:=Ra h<|Wn k
theorem Wm {id:Nat}{l:List Oper}{c:Code}(h:(bif Nat.blt d N then ev e x else none)=some v)(k:WL P N (⟨some d,.move x,ty,pos,aft,none⟩::l).toArray (KC P c K Q) Q l ((d,v)::e) w):WC P N (.seq (.region id (⟨some d,.move x,ty,pos,aft,none⟩::l).toArray false) c) K Q e w:=Ws<|Rm h k
theorem RM (h:(bif Nat.blt d N then ev e x else none)=some v)(h':(bif Nat.blt d' N then ev ((d,v)::e) x' else none)=some v')(k:WL P N ops K Q rest ((d',v')::(d,v)::e) w):WL P N ops K Q (⟨some d,.move x,ty,pos,aft,none⟩::⟨some d',.move x',ty',pos',aft',none⟩::rest) e w:=Rm h<|Rm h' k
theorem RA (h:(bif Nat.blt d N then ev e x else none)=some v)(h':(bif Nat.blt d' N then ev ((d,v)::e) x' else none)=some v')(k:WL P N ops K Q rest ((d',v')::(d,v)::e) w):WL P N ops K Q (⟨some d,.assign x,ty,pos,aft,none⟩::⟨some d',.assign x',ty',pos',aft',none⟩::rest) e w:=Ra h<|Ra h' k
theorem dM {i:Nat}(ho:ops[i]? = some ⟨some d,.move x,ty,pos,aft,none⟩)(hf:Nat.blt d N=true)(h:ev e x=some v)(k:PR X P N ops T K p ((d,v)::e) w):PR X P N ops T K (.rd i p) e w:=dR ho hf (b_7 h) k
theorem dQ {i:Nat}(ho:ops[i]? = some ⟨some d,.assign x,ty,pos,aft,none⟩)(hf:Nat.blt d N=true)(h:ev e x=some v)(k:PR X P N ops T K p ((d,v)::e) w):PR X P N ops T K (.rd i p) e w:=dR ho hf (c_S h) k
theorem Wx {y y':Code}{b:Bool}{Q':Exit->Act->World->Prop}(hc:ev e x=some (.bool b))(ht:b=true->WC P N y K Q e w)(hf:b=false->WC P N y' K Q e w):WL P N ops (KC P (.cond x y y') K Q) Q' [] e w:=Wn<|c_b hc ht hf
section
variable {t u i:Nat}{k:IntKind}{a b:Int}
theorem Rl (hf:Nat.blt d N=true)(h1:ev e x=some (.int k a))(h2:ev e x'=some (.int k b))(h:WL P N ops K Q rest ((d,vB<|decide<|a<b)::e) w):WL P N ops K Q (⟨some d,.binOp .lss t x x' u,ty,pos,aft,none⟩::rest) e w:=R hf (f_i h1 h2) h
theorem Rq (hf:Nat.blt d N=true)(h1:ev e x=some (.int k a))(h2:ev e x'=some (.int k b))(h:WL P N ops K Q rest ((d,vB<|a==b)::e) w):WL P N ops K Q (⟨some d,.binOp .eql t x x' u,ty,pos,aft,none⟩::rest) e w:=R hf (h_n h1 h2) h
theorem Rf {g o j:Nat}(hf:Nat.blt d N=true)(h1:Fld P t i j)(h2:ev e x=some (.pointer<|some ⟨g,o,none⟩))(h:WL P N ops K Q rest ((d,.pointer<|some ⟨g,o+j,none⟩)::e) w):WL P N ops K Q (⟨some d,.fieldAddr t x i,ty,pos,aft,none⟩::rest) e w:=R hf (h_j h1 h2) h
theorem Re {vs:Array Value}(hf:Nat.blt d N=true)(h1:ev e x=some (.tuple vs))(h2:vs[i]? = some v)(h:WL P N ops K Q rest ((d,v)::e) w):WL P N ops K Q (⟨some d,.extract x i,ty,pos,aft,none⟩::rest) e w:=R hf (h_k h1 h2) h
end
theorem l0 {t g o:Nat}{dst:Option Tmp}{gd:Option (Nat×Bool)}(hT:∀w,(isAgg t).run P w = .ok false w)(h:ev e x=some (.pointer<|some ⟨g,o,none⟩))(hc:w.cell? ⟨g,o,none⟩=some v):Rd noX P N ⟨dst,.load t x,ty,pos,aft,gd⟩ e w v:=b_H hT h (fun h=>h) hc
def plA:Nat->Nat->List Nat->a_Q
 | _,0,_=>.done
 | i,n+1,l=>bif l.elem i then .ef i (plA (i+1) n l) else .rd i (plA (i+1) n l)
abbrev pl_ (n:Nat)(l:List Nat):a_Q:=plA 0 n l
end
end Go.Vw
namespace Go.Vw
open Go.RowKit Dat Go.ChangeShapes Go.WideShapes Go.ChangeAt
structure IsT (P:Program)(t:TypeId)(α:Type)[Dat α](L:α->Prop):Prop where
 rd:∀{H:Type}(enc:TypeId×Value->H)(W:World)(fuel:Nat)(cs:List Value)(x:DataW H×List MemPlace),DataW.trod enc P W 0 (fun _=>true) true fuel t cs=some x->(x.1.weights P t).all (· <= reachBytes)=true->∃v:α,rep W W.heap.size cs v/\L v
section
variable {P:Program}{t:TypeId}
theorem r_n (ht:P.underlying t=some (.int .i64)):IsT P t Int (fun _=>True):=⟨fun enc W fuel cs x h _=>by
 obtain ⟨n,rfl,_,hw⟩:=DataW.trod_int ht h;have:=bounds_i64 hw
 exact ⟨n,⟨_,rfl,rfl,by unfold inI;omega⟩,trivial⟩⟩
theorem r_o (ht:P.underlying t=some (.int .u8)):IsT P t UInt8 (fun _=>True):=⟨fun enc W fuel cs x h _=>by
 obtain ⟨n,rfl,_,hw⟩:=DataW.trod_int ht h;have hb:=bounds_u8 hw
 have e:n=byteI (UInt8.ofNat n.toNat):=by
  unfold byteI
  rw [UInt8.toNat_ofNat']
  omega
 refine ⟨UInt8.ofNat n.toNat,⟨_,rfl,?_⟩,trivial⟩
 show Value.int .u8 n=vU (byteI<|UInt8.ofNat n.toNat)
 rw [← e]⟩
theorem r_p (ht:P.underlying t=some .bool):IsT P t Bool (fun _=>True):=⟨fun enc W fuel cs x h _=>by
 obtain ⟨b,rfl,_⟩:=DataW.trod_bool ht h
 exact ⟨b,⟨_,rfl,rfl⟩,trivial⟩⟩
theorem r_q (ht:P.underlying t=some .string):IsT P t Str (fun s=>s.b.length<=LEN):=⟨fun enc W fuel cs x h hw=>by
 obtain ⟨s,rfl,rfl,_⟩:=DataW.trod_string ht h
 simp only [DataW.weights,List.all_cons,List.all_nil,Bool.and_true,decide_eq_true_eq] at hw
 have hr:reachBytes=140737488351232:=rfl;have hL:LEN=140737488355328:=rfl;have hl:s.data.toList.length<=LEN:=by omega
 exact ⟨⟨s.data.toList⟩,⟨_,rfl,by simp [Str.v],hl⟩,hl⟩⟩
theorem n_h {H:Type}{e:TypeId}:∀{l:List (DataW H)}{d:DataW H},(DataW.weightsAll P e l).all (· <= reachBytes)=true->d∈l->(d.weights P e).all (· <= reachBytes)=true
 | [],_,_,h=>by cases h
 | y::l,d,hw,h=>by
  unfold DataW.weightsAll at hw
  rw [List.all_append,Bool.and_eq_true] at hw
  rcases List.mem_cons.1 h with rfl | h
  ·exact hw.1
  ·exact n_h hw.2 h
theorem j_C {H:Type}:∀{ts:List TypeId}{l:List (DataW H)}{i:Nat}{t:TypeId}{d:DataW H},(DataW.weightsEach P ts l).all (· <= reachBytes)=true->ts[i]? = some t->l[i]? = some d->(d.weights P t).all (· <= reachBytes)=true
 | [],_,_,_,_,_,h,_=>by simp at h
 | _::_,[],_,_,_,_,_,h=>by simp at h
 | t::ts,y::l,i,t',d,hw,h1,h2=>by
  unfold DataW.weightsEach at hw
  rw [List.all_append,Bool.and_eq_true] at hw
  cases i with
  | zero=>simp at h1 h2;subst h1 h2;exact hw.1
  | succ i=>simp at h1 h2;exact j_C hw.2 h1 h2
theorem cells?_spec {w:World}{a:Addr}{n:Nat}{cs:List Value}(h:w.cells? 0 a n=some cs):cs.length=n/\∀j v,cs[j]? = some v->w.cell? (a.add j)=some v:=by
 unfold World.cells? at h
 rw [if_pos (Nat.zero_le _)] at h
 refine ⟨by simpa using mapM_some_length h,fun j v hv=>?_⟩
 have hj:j<n:=by
  have h1:=(List.getElem?_eq_some_iff.1 hv).1;have h2:=mapM_some_length h
  simp at h2
  omega
 have:=mapM_some_get h j j (by rw [List.getElem?_range hj])
 rw [this];exact hv
theorem r_r {w:World}{a:Addr}{v:Value}(h:w.cell? a=some v):a.spot=none:=by
 unfold World.cell? at h
 split at h
 ·cases hs:a.spot with
  | none=>rfl
  | some x=>rw [hs] at h;simp at h
 ·cases h
theorem n_i {α:Type}(Q:Nat->α->Prop):∀(len:Nat),(∀i,i<len->∃v,Q i v)->∃l:List α,l.length=len/\∀(i:Nat)(x:α),l[i]? = some x->Q i x
 | 0,_=>⟨[],rfl,fun i x h=>by simp at h⟩
 | n+1,h=>by
  obtain ⟨l,hl,hq⟩:=n_i Q n<|fun i hi=>h i (by omega);obtain ⟨v,hv⟩:=h n (by omega);refine ⟨l++[v],by simp [hl],fun i x hx=>?_⟩
  by_cases hi:i<l.length
  ·rw [List.getElem?_append_left hi] at hx;exact hq i x hx
  ·rw [List.getElem?_append_right (by omega)] at hx
   have h1:=(List.getElem?_eq_some_iff.1 hx).1
   simp only [List.length_cons,List.length_nil] at h1
   have h2:i=n:=by omega
   subst h2
   rw [show i - l.length=0 by omega] at hx
   simp at hx
   exact hx ▸ hv
theorem h_e {α:Type}[Dat α]{L:α->Prop}{e:TypeId}(ht:P.underlying t=some (.slice e))(he:IsT P e α L)(hc:P.cellsOf e=sz α)(hb:1<=P.bytesOf e):IsT P t (List α) (fun l=>l.length<=LEN/\∀x∈l,L x):=⟨fun enc W fuel cs x h hw=>by
 have hr:reachBytes=140737488351232:=rfl;have hL:LEN=140737488355328:=rfl
 rcases DataW.trod_slice ht h with ⟨rfl,rfl⟩ | ⟨a,len,cap,elems,rest,n,_,rfl,rfl,_,hlc,_,hlen,hel,hsp,_⟩
 ·exact ⟨[],⟨_,rfl,none,0,rfl,Nat.le_refl _,Nat.zero_le _,fun _=>rfl,fun p hp=>by cases hp⟩,by simp,fun x hx=>by cases hx⟩
 ·obtain ⟨hrl,_⟩:=hsp rfl
  have hw':(elems.length+rest.length) * P.bytesOf e<=reachBytes/\(DataW.weightsAll P e<|elems.map (·.1)).all (· <= reachBytes)=true:=by
   unfold DataW.weights at hw
   rw [ht] at hw
   simp only [List.all_cons,List.all_append,Bool.and_eq_true,decide_eq_true_eq,List.length_map] at hw
   exact ⟨hw.1,hw.2.1⟩
  have hcap:cap<=LEN:=by
   have h1:elems.length+rest.length<=(elems.length+rest.length) * P.bytesOf e:=Nat.le_mul_of_pos_right _ hb
   omega
  have hone:∀i:Nat,i<len->∃v:α,a.spot=none/\a.block<W.heap.size/\(∃cs,S_ W a.block (a.off+i * sz α) cs/\rep W W.heap.size cs v)/\L v:=by
   intro i hi;have h1:=hel i hi;have hie:i<elems.length:=by omega
   rw [List.getElem?_eq_getElem hie] at h1
   cases hcs:W.cells? 0 (a.add<|i * P.cellsOf e) (P.cellsOf e) with
   | none=>rw [hcs] at h1;cases h1
   | some cs =>
    rw [hcs] at h1
    simp only [Option.bind_some] at h1
    obtain ⟨v,hv,hl⟩:=he.rd enc W n cs _ h1<|n_h hw'.2<|List.mem_map_of_mem<|List.getElem_mem hie;obtain ⟨J,O⟩:=cells?_spec hcs;have hpos:0<cs.length:=by rw [J,hc];exact Dat.pos
    have hsp:a.spot=none:=by
     have G:=hel 0 (by omega)
     rw [List.getElem?_eq_getElem (show 0<elems.length by omega)] at G
     cases H:W.cells? 0 (a.add<|0 * P.cellsOf e) (P.cellsOf e) with
     | none=>rw [H] at G;cases G
     | some I =>
      obtain ⟨V,Y⟩:=cells?_spec H;have hpos0:0<I.length:=by rw [V,hc];exact Dat.pos
      have:=Y 0 I[0] (by rw [List.getElem?_eq_getElem hpos0]);have:=r_r this
      simpa [Addr.add] using this
    have ha:a=⟨a.block,a.off,none⟩:=by cases a;simp only at hsp;rw [hsp]
    have hcells:S_ W a.block (a.off+i * sz α) cs:=by
     intro j u hu;have:=O j u hu
     rw [ha,Addr.add_lit,Addr.add_lit,hc] at this
     exact this
    exact ⟨v,hsp,hcells.lt (by intro h;rw [h] at hpos;cases hpos),⟨cs,hcells,hv⟩,hl⟩
  obtain ⟨l,hll,hq⟩:=n_i _ len hone;refine ⟨l,⟨_,rfl,some a,cap,by rw [hll],by omega,by omega,fun h=>(by cases h),fun p hp=>?_⟩,by omega,fun x hx=>?_⟩
  ·obtain rfl:=Option.some.inj hp;refine ⟨fun hne=>?_,fun hne=>?_,fun i x hx=>(hq i x hx).2.2.1⟩
   ·cases l with
    | nil=>exact absurd rfl hne
    | cons y l=>exact (hq 0 y rfl).1
   ·cases l with
    | nil=>exact absurd rfl hne
    | cons y l=>exact (hq 0 y rfl).2.1
  ·obtain ⟨i,hi⟩:=List.getElem?_of_mem hx
   exact (hq i x hi).2.2.2⟩
def cutC:Nat->List Nat->List Value->List (List Value)
 | _,[],_=>[]
 | o,n::r,cs=>(cs.drop o).take n::cutC (o+n) r cs
def l_k:List (List Value)->List Value
 | []=>[]
 | [p]=>p
 | p::q::r=>p++l_k (q::r)
theorem g_1:∀(ns:List Nat)(o:Nat)(cs:List Value),ns ≠ []->cs.length=o+ns.sum->l_k (cutC o ns cs)=cs.drop o
 | [],_,_,h,_=>absurd rfl h
 | [n],o,cs,_,h=>by
  show (cs.drop o).take n=_
  rw [List.take_of_length_le]
  simp at h ⊢;omega
 | n::m::r,o,cs,_,h=>by
  show (cs.drop o).take n++l_k (cutC (o+n) (m::r) cs)=_
  rw [g_1 (m::r) (o+n) cs (by simp) (by simp at h ⊢;omega),← List.drop_drop,List.take_append_drop]
theorem h_f {H:Type}{enc:TypeId×Value->H}{W:World}{fuel:Nat}{cs:List Value}{x:DataW H×List MemPlace}{fs:Array Field}(ht:P.underlying t=some (.struct fs))(h:DataW.trod enc P W 0 (fun _=>true) true fuel t cs=some x)(hw:(x.1.weights P t).all (· <= reachBytes)=true) :
  cs.length=P.cellsOf t/\∀(i:Nat)(f:Field),fs[i]? = some f->∀(α:Type)(_:Dat α)(L:α->Prop),IsT P f.type α L->∃v:α,rep W W.heap.size ((cs.drop f.offset).take (P.cellsOf f.type)) v/\L v:=by
 obtain ⟨xs,n,rfl,rfl,hl,hxl,hf⟩:=DataW.trod_struct ht h;refine ⟨hl,fun i f hi α _ L hα=>?_⟩;have h1:=hf i f hi;have hlt:=(Array.getElem?_eq_some_iff.1 hi).1
 rw [List.getElem?_eq_getElem (by omega)] at h1
 refine hα.rd enc W n _ _ h1 ?_;unfold DataW.weights at hw
 rw [ht] at hw
 refine j_C (i:=i) hw ?_ (by rw [List.getElem?_map,List.getElem?_eq_getElem (by omega)];rfl)
 rw [List.getElem?_map,Array.getElem?_toList,hi];rfl
structure OkW (P:Program)(W:World)(base:Nat)(t:TypeId)(v:Value):Prop where
 h:Value.okWide P W .any base t v
structure OkWs (P:Program)(W:World)(base:Nat)(ts:Array TypeId)(vs:Array Value):Prop where
 h:∀(j:Nat) t v,ts[j]? = some t->vs[j]? = some v->Value.okWide P W .any base t v
theorem OkWs.at {W:World}{base:Nat}{ts:Array TypeId}{vs:Array Value}(h:OkWs P W base ts vs)(j:Nat)(t:TypeId)(v:Value)(h1:ts[j]? = some t)(h2:vs[j]? = some v):OkW P W base t v:=⟨h.h j t v h1 h2⟩
theorem r_s {W:World}{base:Nat}{t:TypeId}{v:Value}{fs:Array Field}(ht:P.underlying t=some (.struct fs))(h:OkW P W base t v):∃cs,v = .agg cs/\cs.size=P.cellsOf t:=okWide_struct ht h.h
theorem r_t {W:World}{base:Nat}{t:TypeId}{v:Value}(ht:P.underlying t=some .string)(h:OkW P W base t v):∃z,v = .string z:=okWide_string ht h.h
theorem n_j {H:Type}{enc:TypeId×Value->H}(hl:laidOutB P=true){W W':World}(hb:Below W.heap.size W W'):∀(ts:List TypeId)(vs:List Value)(ds:List (DataW H))(ps:List MemPlace),(∀t∈ts,P.readableRec t=true/\t<P.types.size) ->
  DataW.TrodAll enc P W 0 (fun _=>true) true ts vs ds ps->(∀x∈ps,x.block<W.heap.size)->∀(sp:Nat->Bool),(∀b,b<W.heap.size->sp b=true)->DataW.TrodAll enc P W' 0 sp true ts vs ds ps
 | [],[],[],_,_,h,_,_,_=>h
 | t::ts,v::vs,d::ds,ps,hr,h,hlt,sp,hsp=>by
  obtain ⟨p,q,h1,h2,rfl⟩:=h;refine ⟨p,q,?_,n_j hl hb ts vs ds q (fun t ht=>hr t<|List.mem_cons_of_mem _ ht) h2 (fun x hx=>hlt x<|List.mem_append_right _ hx) sp hsp,rfl⟩;have hlp:∀x∈p,x.block<W.heap.size:=fun x hx=>hlt x<|List.mem_append_left _ hx
  exact WideElems.Trod_stays hl (hr t List.mem_cons_self).1 (hr t List.mem_cons_self).2 h1 (fun x hx=>hb.same<|hlp x hx) (fun x hx=>hsp _<|hlp x hx)
 | [],_::_,_,_,_,h,_,_,_=>by cases h
 | [],[],_::_,_,_,h,_,_,_=>by cases h
 | _::_,[],_,_,_,h,_,_,_=>by cases h
 | _::_,_::_,[],_,_,h,_,_,_=>by cases h
theorem r_u {H:Type}{enc:TypeId×Value->H}{f:Func}{s:ChangeSpec}{apart fresh handsOn again:Bool}{W W':World}{args:Array Value}{ds gs:List (DataW H)}{before:List MemPlace}{tb:TypeId}(hl:laidOutB P=true)(hread:∀t∈f.params.toList,P.readableRec t=true/\t<P.types.size)
  (hb:Below W.heap.size W W') (hW:DataW.Whole enc P f.params.toList s.vars apart W args.toList ds gs before) (hres:f.resultTypes = #[tb]) (htb:P.underlying tb=some .bool) (hvars:s.vars=[]) (hfn:s.fn H (ds++gs)={ results:=[.lit (.bool true)],args:=ds }) :
  s.post enc P f apart fresh handsOn again W args (.bool true) W':=by
 have hlt:∀x∈before,x.block<W.heap.size:=fun p hp=>hW.lt p hp
 have hW':=hW;obtain ⟨p,q,hA,hV,rfl,hz,hn⟩:=hW
 rw [hvars] at hV
 obtain ⟨rfl,rfl⟩:=trodVars_none hV;have hA':=fun sp hsp=>n_j hl hb _ _ _ _ hread hA (fun x hx=>hlt x (by simpa using hx)) sp hsp
 have hr:∀(b:Nat)(sp:Nat->Bool)(hd:Bool),DataW.TrodAll enc P W' b sp hd f.resultTypes.toList ((Value.bool true).resultList f.resultTypes.size) (s.fn H<|ds++[]).results []:=fun b sp hd=>by
  rw [hfn,hres];exact trodAll_cons_mk (shut_bool htb _) trodAll_mk0
 have hvs:∀sp:Nat->Bool,DataW.TrodVars enc P W' sp s.vars (s.fn H<|ds++[]).vars []:=fun sp=>by rw [hfn,hvars];rfl
 refine ⟨ds,[],p++[],[],p,[],hW',hr _ _ _,by rw [hfn];exact hA' _ (fun b hb=>by simpa using hb),hvs _,hb.frame _,fun _=>⟨?_,([.lit (.bool true)]:List (DataW H))++ds,[],([]++p)++[],⟨[]++p,[],?_,?_,rfl,?_,?_⟩,?_⟩⟩
 ·exact ok_one hres rfl<|okWide_bool_mk htb _
 ·have h1:=hr 0 (fun _=>true) true
  rw [hfn] at h1
  exact trodAll_append (hA' _<|fun _ _=>rfl) h1
 ·rw [hvars];rfl
 ·intro b off hp;have hp':MemPlace.cell b off∈p++[]:=by simpa using hp
  have:=hlt _ hp'
  rw [hb.frozen (p:=⟨b,off,none⟩) this]
  exact hz b off hp'
 ·intro ha;have:=hn ha;simpa using this
 ·intro x hx _;simpa using hx
end
end Go.Vw
namespace Go.Vw
open Go.RowKit Dat
theorem u_a {x y:Int}(h1 : -9223372036854775808<=x+y)(h2:x+y<=9223372036854775807):b_ x y=x+y:=by
 unfold b_;rw [IntKind.wrap_i64];omega
theorem a_x {x y:Int}(h1 : -9223372036854775808<=x - y)(h2:x - y<=9223372036854775807):x_ x y=x - y:=by
 unfold x_;rw [IntKind.wrap_i64];omega
theorem h_B {x y:Int}(h1 : -9223372036854775808<=x * y)(h2:x * y<=9223372036854775807):b_6 x y=x * y:=by
 unfold b_6;rw [IntKind.wrap_i64];omega
theorem u_b {x y:Int}(h:0<=x)(hx:x<=9223372036854775807)(hy:0<y):e_C x y=x / y:=by
 unfold e_C
 rw [Int.tdiv_eq_ediv_of_nonneg h,IntKind.wrap_i64]
 have h1:=Int.ediv_nonneg h<|Int.le_of_lt hy;have h2:=Int.ediv_le_self y h
 omega
theorem m_8 {x y:Int}(h:0<=x):b_L x y=x % y:=by
 unfold b_L;exact Int.tmod_eq_emod_of_nonneg h
theorem g_l {a b:UInt8}:byteI a=byteI b ↔ a=b:=by
 unfold byteI
 constructor
 ·intro h;have:a.toNat=b.toNat:=by omega
  exact UInt8.toNat_inj.1 this
 ·rintro rfl;rfl
section
variable {α:Type}
theorem m_9 {l:List α}{k:Nat}(h:k<l.length):idx l (k:Int)=some l[k]:=by rw [l_d];simp [h]
theorem f_v {l:List α}{i:Int}(G:0<=i)(h:i.toNat<l.length):idx l i=some l[i.toNat]:=by
 unfold idx;rw [if_pos G];simp [h]
theorem b_S {l:List α}(h:0<l.length):idx l 0=some l[0]:=m_9 (k:=0) h
theorem m_a {l:List α}(h:1<l.length):idx l 1=some l[1]:=m_9 (k:=1) h
theorem d_7 {l:List α}{a b:Int}(h:0<=a)(h1:a<=b)(h2:b<=l.length):slc l a b=some ((l.take b.toNat).drop a.toNat):=by
 unfold slc;rw [if_pos ⟨h,h1,h2⟩]
theorem b_h {l:List α}{x:α}(h:l.length<LIM):psh l x=some (l++[x]):=by unfold psh;rw [if_pos h]
theorem c_0 {l m:List α}(h:l.length+m.length<=LIM):app l m=some (l++m):=by unfold app;rw [if_pos h]
theorem h_C {s t:Str}(h:s.b.length+t.b.length<=LIM):cat s t=some ⟨s.b++t.b⟩:=by unfold cat;rw [if_pos h]
theorem d_P {l:List α}{k:Nat}{x:α}(h:k<l.length):upd l (k:Int) x=some (l.set k x):=by
 unfold upd;rw [if_pos ⟨by omega,by omega⟩];rfl
theorem f_w {z:α}{n:Nat}(h:n<=LIM):mk0 z (n:Int)=some (List.replicate n z):=by
 unfold mk0;rw [if_pos ⟨by omega,by omega⟩];simp
theorem u_c {z:α}{n:Int}(G:0<=n)(h:n<=LIM):mk0 z n=some (List.replicate n.toNat z):=by
 unfold mk0;rw [if_pos ⟨G,h⟩]
end
section
variable {σ ρ:Type}
theorem p_u {body:Nat->σ->Option (Out σ ρ)}(st:Nat->σ):∀n k,(∀j,k<=j->j<k+n->body j (st j)=some (.next<|st<|j+1))->t_ body n k (st k)=some (.inl<|st<|k+n)
 | 0,k,_=>rfl
 | n+1,k,h=>by
  have h1:=h k (Nat.le_refl _) (by omega);have h2:=p_u st n (k+1)<|fun j a b=>h j (by omega) (by omega);unfold t_
  rw [h1]
  simp only
  rw [h2,show k+1+n=k+(n+1) by omega]
theorem b_T {body:Nat->σ->Option (Out σ ρ)}(st:Nat->σ){n:Nat}(h:∀j,j<n->body j (st j)=some (.next<|st<|j+1)):t_ body n 0 (st 0)=some (.inl<|st n):=by
 have:=p_u st n 0<|fun j _ b=>h j (by omega)
 simpa using this
theorem forN_ret' {body:Nat->σ->Option (Out σ ρ)}(st:Nat->σ){r:ρ}:∀n k j0,k<=j0->j0<k+n->(∀j,k<=j->j<j0->body j (st j)=some (.next<|st<|j+1))->body j0 (st j0)=some (.ret r)->t_ body n k (st k)=some (.inr r)
 | 0,k,j0,a,b,_,_=>by omega
 | n+1,k,j0,a,b,h,hr=>by
  unfold t_
  by_cases hk:k=j0
  ·subst hk;rw [hr]
  ·rw [h k (Nat.le_refl _) (by omega)]
   exact forN_ret' st n (k+1) j0 (by omega) (by omega) (fun j c d=>h j (by omega) d) hr
theorem m_b {body:Nat->σ->Option (Out σ ρ)}(st:Nat->σ){r:ρ}{n j0:Nat}(G:j0<n)(h:∀j,j<j0->body j (st j)=some (.next<|st<|j+1))(hr:body j0 (st j0)=some (.ret r)):t_ body n 0 (st 0)=some (.inr r) :=
 forN_ret' st n 0 j0 (by omega) (by omega) (fun j _ b=>h j b) hr
theorem g_m {body:Nat->Unit->Option (Out Unit ρ)}{n:Nat}(p:Nat->Bool)(r:Nat->ρ)(h:∀k,k<n->(∀j,j<k->p j=false)->body k ()=some (if p k=true then .ret (r k) else .next ())) :
  t_ body n 0 ()=some (match (List.range n).find? p with | some k=>.inr (r k) | none=>.inl ()):=by
 cases hf:(List.range n).find? p with
 | none =>
  have hn:∀k,k<n->p k=false:=fun k hk=>by
   have:=List.find?_eq_none.1 hf k<|List.mem_range.2 hk
   simpa using this
  exact b_T (fun _=>()) (fun j hj=>by rw [h j hj (fun i hi=>hn i (by omega)),hn j hj];rfl)
 | some k =>
  obtain ⟨hp,as,bs,hl,has⟩:=List.find?_eq_some_iff_append.1 hf
  have hk:as.length<n/\as.length=k:=by
   have h1:as.length<(List.range n).length:=by rw [hl];simp
   simp at h1
   refine ⟨h1,?_⟩;have h2:(List.range n)[as.length]? = some k:=by rw [hl];simp
   rw [List.getElem?_range h1] at h2
   exact Option.some.inj h2
  obtain ⟨h1,rfl⟩:=hk
  have hb:∀j,j<as.length->p j=false:=fun j hj=>by
   have h2:(List.range n)[j]? = some (as[j]):=by rw [hl,List.getElem?_append_left hj];simp
   rw [List.getElem?_range (by omega)] at h2
   have h3:=has as[j] (List.getElem_mem hj)
   rw [← Option.some.inj h2] at h3
   simpa using h3
  exact m_b (fun _=>()) h1 (fun j hj=>by rw [h j (by omega) (fun i hi=>hb i (by omega)),hb j hj];rfl) (by rw [h _ h1 hb,if_pos hp])
theorem u_d {α:Type}(l:List α)(p:α->Bool)(q:Nat->Bool)(h:∀k (hk:k<l.length),q k=p l[k]):(List.range l.length).any q=l.any p:=by
 rw [Bool.eq_iff_iff]
 simp only [List.any_eq_true,List.mem_range]
 constructor
 ·rintro ⟨k,hk,hq⟩;exact ⟨l[k],List.getElem_mem hk,by rw [← h k hk];exact hq⟩
 ·rintro ⟨x,hx,hp⟩;obtain ⟨k,hk,rfl⟩:=List.getElem_of_mem hx;exact ⟨k,hk,by rw [h k hk];exact hp⟩
theorem e_h {body:Nat->Unit->Option (Out Unit ρ)}{n:Nat}(p:Nat->Bool)(r:ρ)(h:∀k,k<n->(∀j,j<k->p j=false)->body k ()=some (if p k=true then .ret r else .next ())) :
  t_ body n 0 ()=some (if (List.range n).any p=true then .inr r else .inl ()):=by
 rw [g_m p (fun _=>r) h]
 cases hf:(List.range n).find? p with
 | none =>
  have:(List.range n).any p=false:=by
   rw [List.any_eq_false];exact fun x hx=>by simpa using List.find?_eq_none.1 hf x hx
  rw [this];rfl
 | some k =>
  have:(List.range n).any p=true:=List.any_eq_true.2 ⟨k,List.mem_of_find?_eq_some hf,List.find?_some hf⟩
  rw [this];rfl
theorem d_Q {α:Type}{body:Nat->Unit->Option (Out Unit ρ)}{l:List α}(p:α->Bool)(r:ρ)(h:∀k (hk:k<l.length),body k ()=some (if p l[k]=true then .ret r else .next ())) :
  t_ body l.length 0 ()=some (if l.any p=true then .inr r else .inl ()):=by
 rw [e_h (fun k=>if hk:k<l.length then p l[k] else false) r (fun k hk _=>by rw [dif_pos hk];exact h k hk)]
 rw [u_d l p _ (fun k hk=>by rw [dif_pos hk])]
theorem iter_brk' {step:σ->Option (Out σ ρ)}(st:Nat->σ){s:σ}:∀m k j0,k<=j0->j0<k+m->(∀j,k<=j->j<j0->step (st j)=some (.next<|st<|j+1))->step (st j0)=some (.brk s)->O_ step m (st k)=some (.inl s)
 | 0,k,j0,a,b,_,_=>by omega
 | m+1,k,j0,a,b,h,hr=>by
  unfold O_
  by_cases hk:k=j0
  ·subst hk;rw [hr]
  ·rw [h k (Nat.le_refl _) (by omega)]
   exact iter_brk' st m (k+1) j0 (by omega) (by omega) (fun j c d=>h j (by omega) d) hr
theorem g_n {step:σ->Option (Out σ ρ)}(st:Nat->σ){s:σ}{m j0:Nat}(G:j0<m)(h:∀j,j<j0->step (st j)=some (.next<|st<|j+1))(hr:step (st j0)=some (.brk s)):O_ step m (st 0)=some (.inl s) :=
 iter_brk' st m 0 j0 (by omega) (by omega) (fun j _ b=>h j b) hr
theorem iter_ret' {step:σ->Option (Out σ ρ)}(st:Nat->σ){r:ρ}:∀m k j0,k<=j0->j0<k+m->(∀j,k<=j->j<j0->step (st j)=some (.next<|st<|j+1))->step (st j0)=some (.ret r)->O_ step m (st k)=some (.inr r)
 | 0,k,j0,a,b,_,_=>by omega
 | m+1,k,j0,a,b,h,hr=>by
  unfold O_
  by_cases hk:k=j0
  ·subst hk;rw [hr]
  ·rw [h k (Nat.le_refl _) (by omega)]
   exact iter_ret' st m (k+1) j0 (by omega) (by omega) (fun j c d=>h j (by omega) d) hr
theorem p_v {step:σ->Option (Out σ ρ)}(st:Nat->σ){r:ρ}{m j0:Nat}(G:j0<m)(h:∀j,j<j0->step (st j)=some (.next<|st<|j+1))(hr:step (st j0)=some (.ret r)):O_ step m (st 0)=some (.inr r) :=
 iter_ret' st m 0 j0 (by omega) (by omega) (fun j _ b=>h j b) hr
end
theorem p_w {s:Str}{p:Nat}(h:p<s.b.length)(ha:s.b[p].toNat<128):dec s p=((s.b[p].toNat:Int),1):=by
 have h':p<(⟨s.b.toArray⟩:ByteArray).size:=by simpa [ByteArray.size] using h
 have hb:(⟨s.b.toArray⟩:ByteArray)[p]'h'=s.b[p]:=rfl;unfold dec
 rw [decode_ascii _ p h' (by rw [hb];exact ha),hb]
theorem u_e {s:Str}{p:Nat}(h:p<s.b.length)(ha:128<=s.b[p].toNat):128<=(dec s p).1:=by
 have h':p<(⟨s.b.toArray⟩:ByteArray).size:=by simpa [ByteArray.size] using h
 have hb:(⟨s.b.toArray⟩:ByteArray)[p]'h'=s.b[p]:=rfl;unfold dec;have:=(decode_high _ p h' (by rw [hb];exact ha)).1
 simp only
 omega
abbrev bF_:=@Bool.false_eq_true
abbrev dT_:=@decide_eq_true
abbrev dF_:=@decide_eq_false
abbrev bQ_:=@beq_self_eq_true
abbrev mT_:=@List.mem_cons_of_mem
abbrev mS_:=@List.mem_cons_self
abbrev gE_:=@List.getElem_mem
abbrev oI_:=@Option.some.injEq
abbrev gG_:=@List.getElem?_eq_getElem
abbrev gD_:=@List.getD_eq_getElem?_getD
abbrev aE_:=@Bool.and_eq_true
abbrev dE_:=@decide_eq_true_eq
abbrev tN_:=@Int.toNat_natCast
abbrev gS_:=@List.getElem?_eq_some_iff
abbrev iP_:=@if_pos
abbrev iN_:=@if_neg
abbrev fF_:=@if_false
abbrev fT_:=@if_true
abbrev gN_:=@List.getElem?_eq_none
abbrev nT_:=@Bool.not_true
abbrev ix_:=@m_9
abbrev ia_:=@u_a
abbrev lC_:=@List.length_cons
abbrev bN_:=@bne_self_eq_false
abbrev dC_:=@List.drop_eq_getElem_cons
end Go.Vw
