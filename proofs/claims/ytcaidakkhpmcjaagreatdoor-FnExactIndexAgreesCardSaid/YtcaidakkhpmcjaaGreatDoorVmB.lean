/- Texts of this claim, put together. -/
import Derived.Test.YtcaidakkhpmcjaaGreatDoorVmA
import Derived.Laws.CopyRow
import Derived.Laws.IdiomStrings
import Derived.Lib.AppendStr
import Derived.Lib.Join
import Derived.Carry
import Derived.Deep.DeepHandedRow
import Derived.WalkKit
import Derived.ProofKit
import Derived.OpenShut
import Derived.Laws.RangeAny
set_option linter.unusedVariables false
namespace Go.Vw
def j_7 (x1:List UInt8)(x2:Int):Option Int :=
 if (decide<|(S_ x2 (x1.length:Int))<0)=true then some (-1) else some (S_ x2 (x1.length:Int))
def g_S (x1:List Str)(x2:Int):Option Int :=
 if (decide<|(S_ x2 (x1.length:Int))<0)=true then some (-1) else bd (v_ (σ:=Int) (ρ:=Int) (fun I=>(fun G=>bd (idx x1 (I:Int)) fun H=>if (decide<|(S_ G (H.b.length:Int))<0)=true then some (.ret (-1)) else some (.next<|S_ G (H.b.length:Int)))) x1.length 0<|S_ x2 (x1.length:Int)) (el (fun G=>some G)<|fun J=>some J)
def g_T (x1:List Int)(x2:Int):Option Int :=
 if (decide<|(S_ x2 (x1.length:Int))<0)=true then some (-1) else some (S_ x2 (x1.length:Int))
def f_x (x1:e_)(x2:Int):Option Int :=
 if (decide<|(S_ x2 (x1.name.b.length:Int))<0)=true then some (-1) else bd (j_7 x1.bytes<|S_ x2 (x1.name.b.length:Int)) fun G=>if (decide<|G<0)=true then some (-1) else bd (g_S x1.names G) fun H=>if (decide<|H<0)=true then some (-1) else bd (g_T x1.tags H) fun I=>if (decide<|I<0)=true then some (-1) else bd (g_T x1.kids I) fun J=>if (decide<|J<0)=true then some (-1) else some J
def j_8 (x1:List e_)(x2:Int):Option Int :=
 if (decide<|(S_ x2 (x1.length:Int))<0)=true then some (-1) else bd (v_ (σ:=Int) (ρ:=Int) (fun I=>(fun G=>bd (idx x1 (I:Int)) fun J=>bd (f_x J G) fun H=>if (decide<|H<0)=true then some (.ret (-1)) else some (.next H))) x1.length 0<|S_ x2 (x1.length:Int)) (el (fun G=>some G)<|fun L=>some L)
def g_U (x1:b_)(x2:Int):Option Int :=
 bd (j_8 x1.rules x2) fun G=>if (decide<|G<0)=true then some (-1) else some G
def e_4 (x1:List UInt8):Option (List UInt8) :=
 bd (mk0 (0:UInt8) (x1.length:Int)) fun I=>bd (v_ (σ:=List UInt8) (ρ:=List UInt8) (fun H=>(fun G=>bd (idx x1 (H:Int)) fun J=>bd (upd G (H:Int) J) fun L=>some<|.next L)) x1.length 0 I)<|el (fun G=>some G)<|fun O=>some O
def g_V (x1:List Str):Option (List Str) :=
 bd (mk0 (⟨[]⟩:Str) (x1.length:Int)) fun I=>bd (v_ (σ:=List Str) (ρ:=List Str) (fun H=>(fun G=>bd (idx x1 (H:Int)) fun J=>bd (upd G (H:Int) J) fun L=>some<|.next L)) x1.length 0 I)<|el (fun G=>some G)<|fun O=>some O
def f_y (x1:List Int):Option (List Int) :=
 bd (mk0 0 (x1.length:Int)) fun I=>bd (v_ (σ:=List Int) (ρ:=List Int) (fun H=>(fun G=>bd (idx x1 (H:Int)) fun J=>bd (upd G (H:Int) J) fun L=>some<|.next L)) x1.length 0 I)<|el (fun G=>some G)<|fun O=>some O
def g_W (x1:e_):Option e_ :=
 bd (e_4 x1.bytes) fun G=>bd (g_V x1.names) fun H=>bd (f_y x1.tags) fun I=>bd (f_y x1.kids) fun J=>some (⟨x1.name,x1.kind,x1.size,x1.little,G,H,I,J⟩:e_)
def j_9 (x1:List e_):Option (List e_) :=
 bd (mk0 (⟨(⟨[]⟩:Str),0,0,false,([]:List UInt8),([]:List Str),([]:List Int),([]:List Int)⟩:e_) (x1.length:Int)) fun I=>bd (v_ (σ:=List e_) (ρ:=List e_) (fun H=>(fun G=>bd (idx x1 (H:Int)) fun J=>bd (g_W J) fun L=>bd (upd G (H:Int) L) fun O=>some<|.next O)) x1.length 0 I)<|el (fun G=>some G)<|fun V=>some V
def e_G (x1:b_):Option b_ :=
 bd (j_9 x1.rules) fun G=>some (⟨G⟩:b_)
def g_X (n:Nat)(x1:Str)(x2:UInt8):Option (List Str) :=
 bd (a_j (σ:=(List Str)×Int×Int) (ρ:=List Str) (un3 fun H I G=>if (decide<|G<=(x1.b.length:Int))=true then bd (α:=Bool) (if (G==(x1.b.length:Int))=true then some true else bd (idx x1.b G) fun J=>some<|(byteI J)==(byteI x2)) (fun L=>bd (α:=(List Str)×Int) (if L=true then bd (b_A x1 I G) fun O=>bd (psh H O) fun V=>some (V,j_ G 1) else some (H,I))<|un2 fun W Y=>some<|.next (W,Y,j_ G 1)) else some (.brk (H,I,G))) n (([]:List Str),0,0)) (el (un3 fun H I G=>some H)<|fun a0=>some a0)
def a_K (x1:Int)(x2:Int)(x3:Int):Option Bool :=
 bd (α:=Bool) (if (decide<|x2<=x1)=true then some (decide<|x1<=x3) else some false) (fun G=>some G)
def e_H (x1:Str):Option Bool :=
 bd (v_ (σ:=Unit) (ρ:=Bool) (fun k10=>(fun (_:Unit)=>bd (α:=Bool) (bd (idx x1.b (k10:Int)) fun G=>if (decide<|(byteI (97:UInt8))<=(byteI G))=true then bd (idx x1.b (k10:Int)) fun H=>some (decide<|(byteI H)<=(byteI (122:UInt8))) else some false) (fun I=>bd (α:=Bool) (bd (idx x1.b (k10:Int)) fun J=>if (decide<|(byteI (48:UInt8))<=(byteI J))=true then bd (idx x1.b (k10:Int)) fun L=>some (decide<|(byteI L)<=(byteI (57:UInt8))) else some false) (fun O=>bd (α:=Bool) (if (!I)=true then if (!O)=true then some true else some ((k10:Int)==0) else some false) (fun V=>if V=true then some (.ret false) else some (.next ())))))) x1.b.length 0 ()) (el (fun (_:Unit)=>bd (a_K (x1.b.length:Int) 1 12) fun W=>some W)<|fun Y=>some Y)
def c_I (n:Nat)(x1:Int):Option Str :=
 if (x1==0)=true then some (⟨[48]⟩:Str) else bd (a_j (σ:=Str×Int) (ρ:=Str) (un2 fun H G=>if (G != 0)=true then bd (α:=Int) (if (decide<|(b_r G 10)<0)=true then some (f_e<|b_r G 10) else some (b_r G 10)) (fun I=>bd (cat (⟨[mkB (j_ 48 I)]⟩:Str) H) fun J=>some<|.next (J,d_S G 10)) else some (.brk (H,G))) n ((⟨[]⟩:Str),x1)) (el (un2 fun H G=>if (decide<|x1<0)=true then bd (cat (⟨[45]⟩:Str) H) fun L=>some L else some H)<|fun O=>some O)
def g_Y (n:Nat)(x1:Str):Option (Int×Bool) :=
 bd (a_K (x1.b.length:Int) 1 13) fun I=>if (!I)=true then some (0,false) else bd (v_ (σ:=Int) (ρ:=Int×Bool) (fun H=>(fun G=>bd (idx x1.b (H:Int)) fun J=>bd (a_K (byteI J) 48 57) fun L=>if (!L)=true then some (.ret (0,false)) else bd (idx x1.b (H:Int)) fun O=>some<|.next<|j_ (b_g 10 G)<|byteI<|mkB<|byteI O - byteI (48:UInt8))) x1.b.length 0 0) (el (fun G=>bd (α:=Bool) (if (decide<|1000000000000<G)=true then some true else bd (c_I n G) fun V=>some<|V.b != x1.b) (fun W=>if W=true then some (0,false) else some (G,true)))<|fun Y=>some Y)
def e_I (n:Nat)(x1:Str):Option Bool :=
 bd (α:=Bool) (bd (e_H x1) fun G=>if G=true then some true else if (x1.b==(⟨[42]⟩:Str).b)=true then some true else if (x1.b==(⟨[63]⟩:Str).b)=true then some true else some (x1.b==(⟨[43]⟩:Str).b)) (fun H=>if H=true then some true else bd2 (g_Y n x1) fun I J=>bd (α:=Bool) (if J=true then bd (c_I n I) fun L=>some (L.b==x1.b) else some false)<|fun O=>some O)
def f_z (n:Nat)(x1:Str):Option ((List Str)×Bool) :=
 if (x1.b==(⟨[]⟩:Str).b)=true then some (([]:List Str),true) else bd (g_X n x1 (47:UInt8)) fun G=>bd (idx G 0) fun I=>if (I.b != (⟨[]⟩:Str).b)=true then some (([]:List Str),false) else bd (a_j (σ:=Int) (ρ:=(List Str)×Bool) (fun H=>if (decide<|H<(G.length:Int))=true then bd (idx G H) fun J=>bd (e_I n J) fun L=>if (!L)=true then some (.ret (([]:List Str),false)) else some (.next<|j_ H 1) else some (.brk H)) n 1) (el (fun H=>bd (slc G 1 (G.length:Int)) fun O=>some (O,decide<|1<(G.length:Int)))<|fun V=>some V)
def c_9 (x1:e_)(x2:Bool)(x3:Bool)(x4:Bool)(x5:Bool)(x6:Int):Option Bool :=
 bd (α:=Bool) (bd (α:=Bool) (if x2=true then some true else some (x1.size==0)) fun G=>bd (α:=Bool) (if G=true then if x3=true then some true else some ((x1.bytes.length:Int)==0) else some false) fun H=>bd (α:=Bool) (if H=true then if x4=true then some true else some ((x1.names.length:Int)==0) else some false) fun I=>bd (α:=Bool) (if I=true then if x5=true then some true else some ((x1.tags.length:Int)==0) else some false) fun J=>bd (α:=Bool) (if J=true then if (decide<|x6<0)=true then some true else some ((x1.kids.length:Int)==x6) else some false) fun L=>if L=true then if (!x1.little)=true then some true else some (x1.kind==1) else some false) (fun O=>some O)
def e_5 (x1:Int):Option Int :=
 bd (nn<|b_g 8 x1) fun G=>some<|b_E .i64 1<|b_g 8 x1
def d_x (x1:b_)(x2:Int):Option Int :=
 bd (α:=Bool) (bd (a_K x2 0<|S_ (x1.rules.length:Int) 1) fun G=>if (!G)=true then some true else bd (idx x1.rules x2) fun H=>if (H.kind != 1)=true then some true else bd (idx x1.rules x2) fun I=>bd (a_K I.size 1 4) fun J=>some (!J)) (fun L=>if L=true then some (-1) else bd (idx x1.rules x2) fun O=>bd (e_5 O.size) fun V=>some<|S_ V 1)
def g_Z (x1:List Str)(x2:Str):Option Bool :=
 bd (v_ (σ:=Unit) (ρ:=Bool) (fun k10=>(fun (_:Unit)=>bd (idx x1 (k10:Int)) fun G=>if (G.b==x2.b)=true then some (.ret true) else some (.next ()))) x1.length 0 ()) (el (fun (_:Unit)=>some false)<|fun H=>some H)
def h_0 (x1:List Str):Option Bool :=
 bd (v_ (σ:=Unit) (ρ:=Bool) (fun k10=>(fun (_:Unit)=>bd (α:=Bool) (bd (idx x1 (k10:Int)) fun G=>bd (e_H G) fun H=>if (!H)=true then some true else bd (slc x1 0 (k10:Int)) fun I=>bd (idx x1 (k10:Int)) fun J=>bd (g_Z I J) fun L=>some L) (fun O=>if O=true then some (.ret false) else some (.next ())))) x1.length 0 ()) (el (fun (_:Unit)=>bd (a_K (x1.length:Int) 1 8) fun V=>some V)<|fun W=>some W)
def h_1 (x1:b_)(x2:e_):Option Bool :=
 bd (α:=Bool) (if ((x2.kids.length:Int) != (j_ (x2.tags.length:Int) 1))=true then some true else bd (a_K (x2.tags.length:Int) 1 8) fun G=>some (!G)) (fun H=>if H=true then some false else bd (v_ (σ:=Unit) (ρ:=Bool) (fun k10=>(fun (_:Unit)=>bd (α:=Bool) (bd (idx x2.tags (k10:Int)) fun I=>bd (idx x2.kids 0) fun J=>bd (d_x x1 J) fun L=>bd (a_K I 0 L) fun O=>if (!O)=true then some true else if (decide<|0<(k10:Int))=true then bd (idx x2.tags<|S_ (k10:Int) 1) fun V=>bd (idx x2.tags (k10:Int)) fun W=>some (decide<|W<=V) else some false) (fun Y=>if Y=true then some (.ret false) else some (.next ())))) x2.tags.length 0 ()) (el (fun (_:Unit)=>some true)<|fun a0=>some a0))
def h_2 (x1:b_)(x2:e_):Option Bool :=
 if (x2.kind==1)=true then bd (α:=Bool) (bd (c_9 x2 true false false false 0) fun G=>if G=true then bd (a_K x2.size 1 4) fun H=>if H=true then if (!x2.little)=true then some true else some (decide<|1<x2.size) else some false else some false) (fun I=>some I) else if (x2.kind==2)=true then bd (α:=Bool) (bd (c_9 x2 false true false false 0) fun J=>if J=true then bd (a_K (x2.bytes.length:Int) 1 16) fun L=>some L else some false) (fun O=>some O) else if (x2.kind==3)=true then bd (α:=Bool) (bd (c_9 x2 true false false false 0) fun V=>if V=true then bd (a_K x2.size 1 64) fun W=>some W else some false) (fun Y=>some Y) else if (x2.kind==4)=true then bd (α:=Bool) (bd (c_9 x2 false false false false 1) fun a0=>if a0=true then bd (idx x2.kids 0) fun a1=>bd (d_x x1 a1) fun a2=>some (decide<|0<a2) else some false) (fun a3=>some a3) else if (x2.kind==5)=true then bd (α:=Bool) (bd (c_9 x2 false false false false 2) fun a4=>if a4=true then bd (idx x2.kids 0) fun a5=>bd (d_x x1 a5) fun a6=>some (decide<|0<a6) else some false) (fun a7=>some a7) else if (x2.kind==6)=true then bd (α:=Bool) (bd (c_9 x2 false false true false (x2.names.length:Int)) fun a8=>if a8=true then bd (h_0 x2.names) fun a9=>some a9 else some false) (fun aa=>some aa) else if (x2.kind==7)=true then bd (α:=Bool) (bd (c_9 x2 false false false true (-1)) fun ab=>if ab=true then bd (h_1 x1 x2) fun ad=>some ad else some false) (fun ae=>some ae) else bd (α:=Bool) (if (x2.kind==8)=true then some (x2.kind==8) else some (x2.kind==9)) (fun af=>if af=true then bd (c_9 x2 false false false false 1) fun ah=>some ah else if (x2.kind==10)=true then bd (α:=Bool) (bd (c_9 x2 false true false false 0) fun ai=>if ai=true then if ((x2.bytes.length:Int)==1)=true then bd (idx x2.bytes 0) fun aj=>some ((byteI aj) != (byteI (92:UInt8))) else some false else some false) (fun ak=>some ak) else some false)
def h_3 (x1:b_)(x2:Int):Option Bool :=
 bd (a_K x2 0<|S_ (x1.rules.length:Int) 1) fun H=>if (!H)=true then some false else bd (idx x1.rules x2) fun G=>bd (v_ (σ:=Unit) (ρ:=Bool) (fun I=>(fun (_:Unit)=>bd (idx x1.rules (I:Int)) fun J=>if (J.name.b==G.name.b)=true then some (.ret false) else some (.next ()))) x2.toNat 0 ()) (el (fun (_:Unit)=>bd (v_ (σ:=Unit) (ρ:=Bool) (fun L=>(fun (_:Unit)=>bd (idx G.kids (L:Int)) fun O=>bd (a_K O 0<|S_ x2 1) fun V=>if (!V)=true then some (.ret false) else some (.next ()))) G.kids.length 0 ()) (el (fun (_:Unit)=>bd (α:=Bool) (bd (e_H G.name) fun W=>if W=true then bd (h_2 x1 G) fun Y=>some Y else some false)<|fun a0=>some a0)<|fun a1=>some a1))<|fun a2=>some a2)
def f_A (x1:b_):Option Bool :=
 bd (v_ (σ:=Unit) (ρ:=Bool) (fun k10=>(fun (_:Unit)=>bd (h_3 x1 (k10:Int)) fun G=>if (!G)=true then some (.ret false) else some (.next ()))) x1.rules.length 0 ()) (el (fun (_:Unit)=>bd (a_K (x1.rules.length:Int) 1 24) fun H=>some H)<|fun I=>some I)
def e_6 (x1:b_):Option Int :=
 some (S_ (x1.rules.length:Int) 1)
def h_4 (x1:List UInt8)(x2:Bool):Option Int :=
 if (decide<|4<(x1.length:Int))=true then some 0 else bd (v_ (σ:=Int) (ρ:=Int) (fun H=>(fun G=>bd (α:=Int) (if x2=true then some (S_ (S_ (x1.length:Int) 1) (H:Int)) else some (H:Int))<|fun I=>bd (idx x1 I) fun J=>some<|.next<|j_ (b_g G 256)<|byteI J)) x1.length 0 0) (el (fun G=>some G)<|fun L=>some L)
def c_a (x1:b_)(x2:Int)(x3:List UInt8)(x4:Int):Option (Int×Int×Bool) :=
 bd (idx x1.rules x2) fun G=>if (decide<|(S_ (x3.length:Int) x4)<G.size)=true then some (0,x4,false) else bd (slc x3 x4<|j_ x4 G.size) fun H=>bd (h_4 H G.little) fun I=>some (I,j_ x4 G.size,true)
def a_Z (x1:e_)(x2:Int)(x3:Int):Option Int :=
 if (x1.kind==5)=true then bd (idx x1.kids 1) fun G=>some G else bd (α:=Sum Unit Int) (if (x1.kind==6)=true then if (decide<|x3<(x1.kids.length:Int))=true then bd (idx x1.kids x3) fun H=>some (.inr H) else some (.inl ()) else bd (α:=Sum Unit<|Sum Unit Int) (if (x1.kind==7)=true then bd (v_ (σ:=Unit) (ρ:=Int) (fun k10=>(fun (_:Unit)=>bd (idx x1.tags (k10:Int)) fun I=>if (I==x2)=true then bd (idx x1.kids ((k10+1:Nat):Int)) fun J=>some (.ret J) else some (.next ()))) x1.tags.length 0 ()) (el (fun (_:Unit)=>some<|.inl ())<|fun L=>some<|.inr<|.inr L) else bd (α:=Bool) (if (x1.kind==8)=true then some (x1.kind==8) else some (x1.kind==9)) (fun O=>if O=true then bd (idx x1.kids 0) fun V=>some (.inr<|.inr V) else some (.inl ()))) (el (fun (_:Unit)=>some<|.inl ()) some)) (el (fun (_:Unit)=>some (-1)) some)
def e_7 (x1:b_)(x2:e_)(x3:List UInt8)(x4:Int):Option (Int×Int×Int) :=
 if (x2.kind==6)=true then some (x4,(x2.kids.length:Int),0) else if (x2.kind==9)=true then some (x4,1,0) else bd (α:=Sum Unit<|Int×Int×Int) (if (x2.kind==8)=true then bd (α:=Bool) (if (decide<|x4<(x3.length:Int))=true then bd (idx x3 x4) fun I=>some ((byteI I)==(byteI (1:UInt8))) else some false) (fun J=>if J=true then some (.inr (j_ x4 1,1,0)) else some (.inl ())) else bd (α:=Bool) (if (x2.kind==5)=true then some (x2.kind==5) else some (x2.kind==7)) (fun L=>bd (α:=Sum Unit<|Sum Unit<|Int×Int×Int) (if L=true then bd (idx x2.kids 0) fun O=>bd3 (c_a x1 O x3 x4) fun G H V=>bd (α:=Sum Unit<|Sum Unit<|Sum Unit<|Int×Int×Int) (if (!V)=true then some (.inl ()) else bd (α:=Bool) (if (x2.kind==5)=true then some (decide<|G<=40) else some false) (fun W=>if W=true then some (.inr<|.inr<|.inr (H,G,0)) else bd (α:=Bool) (if (x2.kind==7)=true then bd (a_Z x2 G 0) fun Y=>some (decide<|0<=Y) else some false) (fun a0=>if a0=true then some (.inr<|.inr<|.inr (H,1,G)) else some (.inl ())))) (el (fun (_:Unit)=>some<|.inl ()) some) else some (.inl ()))<|el (fun (_:Unit)=>some<|.inl ()) some)) (el (fun (_:Unit)=>some (x4,(-1),0)) some)
def d_y (n:Nat)(x1:e_)(x2:Int):Option Str :=
 if (x1.kind==5)=true then bd (c_I n x2) fun G=>some G else bd (α:=Bool) (if (x1.kind==6)=true then some (decide<|x2<(x1.names.length:Int)) else some false) (fun H=>if H=true then bd (idx x1.names x2) fun I=>some I else bd (α:=Bool) (if (x1.kind==7)=true then some (x2==0) else some false) (fun J=>if J=true then some (⟨[42]⟩:Str) else bd (α:=Bool) (if (x1.kind==8)=true then some (x2==0) else some false) (fun L=>if L=true then some (⟨[63]⟩:Str) else bd (α:=Bool) (if (x1.kind==9)=true then some (x2==0) else some false) (fun O=>if O=true then some (⟨[43]⟩:Str) else some (⟨[]⟩:Str)))))
def h_5 (x1:e_)(x2:List UInt8)(x3:Int):Option (Val×Int×Int) :=
 bd (v_ (σ:=Unit) (ρ:=Val×Int×Int) (fun k10=>(fun (_:Unit)=>if (decide<|(x2.length:Int)<=(j_ x3 (k10:Int)))=true then some (.ret ((⟨0,([]:List UInt8),([]:List Val)⟩:Val),x3,1)) else bd (idx x2<|j_ x3 (k10:Int)) fun G=>bd (idx x1.bytes (k10:Int)) fun H=>if ((byteI G) != (byteI H))=true then some (.ret ((⟨0,([]:List UInt8),([]:List Val)⟩:Val),j_ x3 (k10:Int),2)) else some (.next ()))) x1.bytes.length 0 ()) (el (fun (_:Unit)=>some ((⟨0,([]:List UInt8),([]:List Val)⟩:Val),j_ x3 (x1.bytes.length:Int),0))<|fun I=>some I)
def f_B (x1:List UInt8)(x2:Int)(x3:Int):Option (Val×Int×Int) :=
 if (decide<|(S_ (x1.length:Int) x2)<x3)=true then some ((⟨0,([]:List UInt8),([]:List Val)⟩:Val),x2,1) else bd (slc x1 x2<|j_ x2 x3) fun G=>bd (app ([]:List UInt8) G) fun H=>some ((⟨0,H,([]:List Val)⟩:Val),j_ x2 x3,0)
def h_6 (n:Nat)(x1:List UInt8)(x2:Int)(x3:UInt8):Option ((List UInt8)×Int×Bool) :=
 bd (a_j (σ:=(List UInt8)×Int) (ρ:=(List UInt8)×Int×Bool) (un2 fun H G=>bd (α:=Bool) (bd (a_K x2 0 (x1.length:Int)) fun J=>if J=true then some (decide<|G<(x1.length:Int)) else some false) (fun L=>if L=true then bd (idx x1 G) fun O=>if ((byteI O)==(byteI x3))=true then some (.ret (H,j_ G 1,true)) else bd (idx x1 G) fun V=>bd (α:=Sum Int<|Out ((List UInt8)×Int)<|(List UInt8)×Int×Bool) (if ((byteI V)==(byteI (92:UInt8)))=true then if ((j_ G 1)==(x1.length:Int))=true then some (.inr<|.brk (H,j_ G 1)) else some (.inl<|j_ G 1) else some (.inl G)) (el (fun I=>bd (idx x1 I) fun W=>bd (psh H W) fun Y=>some<|.next (Y,j_ I 1)) some) else some (.brk (H,G)))) n (([]:List UInt8),x2)) (el (un2 fun H G=>some (([]:List UInt8),x2,false))<|fun a0=>some a0)
def h_7 (x1:List UInt8):Option Int :=
 bd (v_ (σ:=Int) (ρ:=Int) (fun H=>(fun G=>bd (idx x1 (H:Int)) fun I=>some<|.next<|b_r (j_ G<|byteI I) 256)) x1.length 0 0) (el (fun G=>some G)<|fun J=>some J)
structure f_C where
 spec_l11Read:b_->Int->(List UInt8)->Int->Option (Val×Int×Int)
 spec_l11Items:b_->e_->Int->Int->(List UInt8)->Int->Option (Val×Int×Int)
 spec_l11Choice:b_->e_->(List UInt8)->Int->Option (Val×Int×Int)
 spec_l11Option:b_->e_->(List UInt8)->Int->Option (Val×Int×Int)
 spec_l11Checked:b_->e_->(List UInt8)->Int->Option (Val×Int×Int)
def h_8 (n:Nat)(rec:f_C)(x1:b_)(x2:Int)(x3:List UInt8)(x4:Int):Option (Val×Int×Int) :=
 bd (idx x1.rules x2) fun G=>if (G.kind==1)=true then bd3 (c_a x1 x2 x3 x4) fun J L O=>if (!O)=true then some ((⟨0,([]:List UInt8),([]:List Val)⟩:Val),x4,1) else some ((⟨J,([]:List UInt8),([]:List Val)⟩:Val),L,0) else if (G.kind==2)=true then bd3 (h_5 G x3 x4) fun V W Y=>some (V,W,Y) else if (G.kind==3)=true then bd3 (f_B x3 x4 G.size) fun a0 a1 a2=>some (a0,a1,a2) else if (G.kind==10)=true then bd (idx G.bytes 0) fun a3=>bd3 (h_6 n x3 x4 a3) fun a4 a5 a6=>if (!a6)=true then some ((⟨0,([]:List UInt8),([]:List Val)⟩:Val),x4,1) else some ((⟨0,a4,([]:List Val)⟩:Val),a5,0) else if (G.kind==6)=true then bd3 (rec.spec_l11Items x1 G 0 (G.kids.length:Int) x3 x4) fun a7 a8 a9=>some (a7,a8,a9) else if (G.kind==7)=true then bd3 (rec.spec_l11Choice x1 G x3 x4) fun aa ab ad=>some (aa,ab,ad) else if (G.kind==8)=true then bd3 (rec.spec_l11Option x1 G x3 x4) fun ae af ah=>some (ae,af,ah) else if (G.kind==9)=true then bd3 (rec.spec_l11Checked x1 G x3 x4) fun ai aj ak=>some (ai,aj,ak) else bd (idx G.kids 0) fun al=>bd3 (c_a x1 al x3 x4) fun H I am=>if (!am)=true then some ((⟨0,([]:List UInt8),([]:List Val)⟩:Val),x4,1) else if (G.kind==4)=true then bd3 (f_B x3 I H) fun an ao ap=>some (an,ao,ap) else if (decide<|40<H)=true then some ((⟨0,([]:List UInt8),([]:List Val)⟩:Val),x4,6) else bd3 (rec.spec_l11Items x1 G 0 H x3 I) fun aq ar au=>some (aq,ar,au)
def h_9 (n:Nat)(rec:f_C)(x1:b_)(x2:e_)(x3:Int)(x4:Int)(x5:List UInt8)(x6:Int):Option (Val×Int×Int) :=
 bd (v_ (σ:=Int×(List Val)) (ρ:=Val×Int×Int) (fun O=>un2 fun G H=>bd (α:=Int×(List UInt8)×(List Val)×Int×Int) (bd (a_Z x2 x3 (O:Int)) fun V=>bd3 (rec.spec_l11Read x1 V x5 G) fun I W Y=>some (I.number,I.bytes,I.items,W,Y)) (un5 fun a0 a1 a2 J L=>if (L != 0)=true then some (.ret ((⟨0,([]:List UInt8),([]:List Val)⟩:Val),J,L)) else bd (psh H (⟨a0,a1,a2⟩:Val)) fun a3=>some<|.next (J,a3))) x4.toNat 0 (x6,([]:List Val))) (el (un2 fun G H=>some ((⟨0,([]:List UInt8),H⟩:Val),G,0))<|fun a4=>some a4)
def h_a (n:Nat)(rec:f_C)(x1:b_)(x2:e_)(x3:List UInt8)(x4:Int):Option (Val×Int×Int) :=
 bd (idx x2.kids 0) fun J=>bd3 (c_a x1 J x3 x4) fun G L O=>if (!O)=true then some ((⟨0,([]:List UInt8),([]:List Val)⟩:Val),x4,1) else bd (a_Z x2 G 0) fun V=>if (decide<|V<0)=true then some ((⟨0,([]:List UInt8),([]:List Val)⟩:Val),x4,3) else bd3 (rec.spec_l11Items x1 x2 G 1 x3 L) fun H W I=>bd (α:=Int) (if (I==0)=true then some G else some H.number)<|fun Y=>some ((⟨Y,H.bytes,H.items⟩:Val),W,I)
def h_b (n:Nat)(rec:f_C)(x1:b_)(x2:e_)(x3:List UInt8)(x4:Int):Option (Val×Int×Int) :=
 if (decide<|(x3.length:Int)<=x4)=true then some ((⟨0,([]:List UInt8),([]:List Val)⟩:Val),x4,1) else bd (idx x3 x4) fun G=>if (decide<|(byteI (1:UInt8))<(byteI G))=true then some ((⟨0,([]:List UInt8),([]:List Val)⟩:Val),x4,4) else bd (idx x3 x4) fun H=>bd3 (rec.spec_l11Items x1 x2 0 (byteI H) x3<|j_ x4 1) fun I J L=>some (I,J,L)
def h_c (n:Nat)(rec:f_C)(x1:b_)(x2:e_)(x3:List UInt8)(x4:Int):Option (Val×Int×Int) :=
 bd3 (rec.spec_l11Items x1 x2 0 1 x3 x4) fun H G I=>if (I != 0)=true then some (H,G,I) else if (decide<|(x3.length:Int)<=G)=true then some ((⟨0,([]:List UInt8),([]:List Val)⟩:Val),G,1) else bd (idx x3 G) fun J=>bd (slc x3 x4 G) fun L=>bd (h_7 L) fun O=>if ((byteI J) != O)=true then some ((⟨0,([]:List UInt8),([]:List Val)⟩:Val),G,5) else some (H,j_ G 1,0)
def a_m:Nat->f_C
 | 0=>⟨fun _ _ _ _=>none,fun _ _ _ _ _ _=>none,fun _ _ _ _=>none,fun _ _ _ _=>none,fun _ _ _ _=>none⟩
 | n+1=>⟨h_8 n<|a_m n,h_9 n<|a_m n,h_a n<|a_m n,h_b n<|a_m n,h_c n<|a_m n⟩
def d_b (n:Nat):=(a_m n).spec_l11Read
def e_J (n:Nat):=(a_m n).spec_l11Items
def c_q (n:Nat)(x1:b_)(x2:Int)(x3:List UInt8)(x4:Int)(x5:Str):Option (Int×Int×Bool) :=
 bd (idx x1.rules x2) fun G=>bd3 (e_7 x1 G x3 x4) fun L O V=>bd (v_ (σ:=Int) (ρ:=Int×Int×Bool) (fun I=>(fun H=>bd (a_Z G V (I:Int)) fun J=>bd (d_y n G (I:Int)) fun W=>if (W.b==x5.b)=true then some (.ret (J,H,true)) else bd3 (d_b n x1 J x3 H) fun a2 Y a0=>if (a0 != 0)=true then some (.ret (0,0,false)) else some (.next Y))) O.toNat 0 L)<|el (fun H=>some (0,0,false))<|fun a1=>some a1
def e_8 (n:Nat)(x1:b_)(x2:List UInt8)(x3:Str):Option (k_×Bool) :=
 bd2 (f_z n x3) fun I J=>bd (α:=Bool) (if (!J)=true then some true else bd (f_A x1) fun L=>if (!L)=true then some true else some (decide<|400<(x2.length:Int))) (fun O=>if O=true then some ((⟨(⟨[]⟩:Str),0,0,0⟩:k_),false) else bd (e_6 x1) fun V=>bd (v_ (σ:=Int×Int) (ρ:=k_×Bool) (fun W=>un2 fun G H=>bd (idx I (W:Int)) fun Y=>bd3 (c_q n x1 G x2 H Y) fun a0 a1 a2=>if (!a2)=true then some (.ret ((⟨(⟨[]⟩:Str),0,0,0⟩:k_),false)) else some (.next (a0,a1))) I.length 0 (V,0)) (el (un2 fun G H=>bd3 (d_b n x1 G x2 H) fun a6 a3 a4=>if (a4 != 0)=true then some ((⟨(⟨[]⟩:Str),0,0,0⟩:k_),false) else some ((⟨x3,G,H,a3⟩:k_),true))<|fun a5=>some a5))
def e_9 (x1:b_)(x2:Int):Option Bool :=
 bd (α:=Bool) (bd (a_K x2 0<|S_ (x1.rules.length:Int) 1) fun G=>if G=true then bd (f_A x1) fun H=>some H else some false) (fun I=>some I)
def h_d (n:Nat)(x1:b_)(x2:Int)(x3:List UInt8)(x4:Int):Option (Val×Int×Int) :=
 bd (α:=Bool) (bd (e_9 x1 x2) fun G=>if (!G)=true then some true else bd (a_K x4 0 (x3.length:Int)) fun H=>if (!H)=true then some true else some (decide<|400<(x3.length:Int))) (fun I=>if I=true then some ((⟨0,([]:List UInt8),([]:List Val)⟩:Val),0,8) else bd3 (d_b n x1 x2 x3 x4) fun J L O=>some (J,L,O))
def f_D (n:Nat)(x1:b_)(x2:List UInt8):Option (Val×Int×Int) :=
 bd (α:=Int×(List UInt8)×(List Val)×Int×Int) (bd (e_6 x1) fun J=>bd3 (h_d n x1 J x2 0) fun G L O=>some (G.number,G.bytes,G.items,L,O)) (un5 fun V W Y H I=>bd (α:=Bool) (if (I==0)=true then some (decide<|H<(x2.length:Int)) else some false) (fun a0=>if a0=true then some ((⟨0,([]:List UInt8),([]:List Val)⟩:Val),H,7) else some ((⟨V,W,Y⟩:Val),H,I)))
def h_e (n:Nat)(x1:b_)(x2:List UInt8):Option Bool :=
 bd3 (f_D n x1 x2) fun H I G=>some<|G==0
def f_E (x1:Str)(x2:UInt8):Option (List Str) :=
 bd (v_ (σ:=(List Str)×Int) (ρ:=List Str) (fun I=>un2 fun G H=>bd (idx x1.b (I:Int)) fun J=>bd (α:=(List Str)×Int) (if ((byteI J)==(byteI x2))=true then bd (b_A x1 H (I:Int)) fun L=>bd (psh G L) fun O=>some (O,((I+1:Nat):Int)) else some (G,H))<|un2 fun V W=>some<|.next (V,W)) x1.b.length 0 (([]:List Str),0)) (el (un2 fun G H=>bd (b_A x1 H (x1.b.length:Int)) fun Y=>bd (psh G Y) fun a0=>some a0)<|fun a1=>some a1)
def e_a (n:Nat)(x1:Str):Option Bool :=
 bd (α:=Bool) (if (decide<|(x1.b.length:Int)<1)=true then some true else some (decide<|12<(x1.b.length:Int))) (fun H=>if H=true then some false else bd (a_j (σ:=Nat) (ρ:=Bool) (fun G=>if (decide<|G<x1.b.length)=true then bd (α:=Bool) (if (decide<|97<=((dec x1 G).1))=true then some (decide<|((dec x1 G).1)<=122) else some false) (fun I=>bd (α:=Bool) (if (decide<|48<=((dec x1 G).1))=true then some (decide<|((dec x1 G).1)<=57) else some false) (fun J=>bd (α:=Bool) (if (!I)=true then if (!J)=true then some true else some ((G:Int)==0) else some false) (fun L=>if L=true then some (.ret false) else some (.next<|G+(dec x1 G).2)))) else some (.brk G)) n 0) (el (fun G=>some true)<|fun O=>some O))
def e_b (x1:Str):Option (Int×Bool) :=
 bd (α:=Bool) (if (x1.b==(⟨[]⟩:Str).b)=true then some true else if (decide<|13<(x1.b.length:Int))=true then some true else bd (idx x1.b 0) fun I=>if ((byteI I)==(byteI (48:UInt8)))=true then some (decide<|1<(x1.b.length:Int)) else some false) (fun J=>if J=true then some (0,false) else bd (v_ (σ:=Int) (ρ:=Int×Bool) (fun H=>(fun G=>bd (α:=Bool) (bd (idx x1.b (H:Int)) fun L=>if (decide<|(byteI L)<(byteI (48:UInt8)))=true then some true else bd (idx x1.b (H:Int)) fun O=>some<|decide<|(byteI (57:UInt8))<(byteI O)) (fun V=>if V=true then some (.ret (0,false)) else bd (idx x1.b (H:Int)) fun W=>some<|.next<|j_ (b_g 10 G)<|byteI<|mkB<|byteI W - byteI (48:UInt8)))) x1.b.length 0 0) (el (fun G=>if (decide<|1000000000000<G)=true then some (0,false) else some (G,true))<|fun Y=>some Y))
def e_K (n:Nat)(x1:Str):Option Bool :=
 bd (α:=Bool) (bd (e_a n x1) fun G=>if G=true then some true else if (x1.b==(⟨[42]⟩:Str).b)=true then some true else if (x1.b==(⟨[63]⟩:Str).b)=true then some true else some (x1.b==(⟨[43]⟩:Str).b)) (fun H=>if H=true then some true else bd2 (e_b x1) fun J I=>some I)
def j_a (n:Nat)(x1:Str):Option ((List Str)×Bool) :=
 if (x1.b==(⟨[]⟩:Str).b)=true then some ([],true) else bd (idx x1.b 0) fun c=>if (byteI c != byteI (47:UInt8))=true then some ([],false) else bd (f_E x1 (47:UInt8)) fun l=>bd (slc l 1 (l.length:Int)) fun parts=>bd (f_w (e_K n) parts) fun oks=>if parts.length<LIM then some (if oks.all id=true then (parts,true) else ([],false)) else none
def f_F (n:Nat)(x1:Str):Option ((List Str)×Bool) :=
 bd2 (j_a n x1) fun G H=>some (G,H)
def c_1 (x1:Int)(x2:Int)(x3:Int):Option Bool :=
 bd (α:=Bool) (if (decide<|x2<=x1)=true then some (decide<|x1<=x3) else some false) (fun G=>some G)
def e_c (x1:b_)(x2:Int):Option Bool :=
 bd (α:=Bool) (if (decide<|0<=x2)=true then some (decide<|x2<(x1.rules.length:Int)) else some false) (fun G=>some G)
def c_b (x1:e_)(x2:Bool)(x3:Bool)(x4:Bool)(x5:Bool)(x6:Int):Option Bool :=
 bd (α:=Bool) (bd (α:=Bool) (if x2=true then some true else some (x1.size==0)) fun G=>bd (α:=Bool) (if G=true then if x3=true then some true else some ((x1.bytes.length:Int)==0) else some false) fun H=>bd (α:=Bool) (if H=true then if x4=true then some true else some ((x1.names.length:Int)==0) else some false) fun I=>bd (α:=Bool) (if I=true then if x5=true then some true else some ((x1.tags.length:Int)==0) else some false) fun J=>if J=true then if (decide<|x6<0)=true then some true else some ((x1.kids.length:Int)==x6) else some false) (fun L=>some L)
def c_J (x1:b_)(x2:Int):Option Int :=
 bd (α:=Bool) (bd (e_c x1 x2) fun H=>if (!H)=true then some true else bd (idx x1.rules x2) fun I=>if (I.kind != 1)=true then some true else bd (idx x1.rules x2) fun J=>bd (c_1 J.size 1 4) fun L=>some (!L)) (fun O=>if O=true then some (-1) else bd (idx x1.rules x2) fun G=>bd (nn<|b_g 8 G.size) fun V=>some<|S_ (b_E .i64 1<|b_g 8 G.size) 1)
def e_L (x1:List Str)(x2:Str):Option Bool :=
 bd (v_ (σ:=Unit) (ρ:=Bool) (fun k10=>(fun (_:Unit)=>bd (idx x1 (k10:Int)) fun G=>if (G.b==x2.b)=true then some (.ret true) else some (.next ()))) x1.length 0 ()) (el (fun (_:Unit)=>some false)<|fun H=>some H)
def h_f (n:Nat)(x1:e_):Option Bool :=
 bd (α:=Bool) (bd (c_b x1 false false true false (-1)) fun H=>if (!H)=true then some true else if ((x1.kids.length:Int) != (x1.names.length:Int))=true then some true else bd (c_1 (x1.kids.length:Int) 1 8) fun I=>some (!I)) (fun J=>if J=true then some false else bd (v_ (σ:=Unit) (ρ:=Bool) (fun k10=>(fun (_:Unit)=>bd (idx x1.names (k10:Int)) fun G=>bd (α:=Bool) (bd (e_a n G) fun L=>if (!L)=true then some true else bd (slc x1.names 0 (k10:Int)) fun O=>bd (e_L O G) fun V=>some V) (fun W=>if W=true then some (.ret false) else some (.next ())))) x1.names.length 0 ()) (el (fun (_:Unit)=>some true)<|fun Y=>some Y))
def h_g (x1:b_)(x2:e_):Option Bool :=
 bd (α:=Bool) (bd (c_b x2 false false false true<|j_ (x2.tags.length:Int) 1) fun I=>if (!I)=true then some true else bd (c_1 (x2.tags.length:Int) 1 8) fun J=>some (!J)) (fun L=>if L=true then some false else bd (idx x2.kids 0) fun O=>bd (c_J x1 O) fun G=>bd (v_ (σ:=Unit) (ρ:=Bool) (fun k10=>(fun (_:Unit)=>bd (idx x2.tags (k10:Int)) fun H=>bd (α:=Bool) (bd (c_1 H 0 G) fun V=>if (!V)=true then some true else if (decide<|0<(k10:Int))=true then bd (idx x2.tags<|S_ (k10:Int) 1) fun W=>some (decide<|H<=W) else some false) (fun Y=>if Y=true then some (.ret false) else some (.next ())))) x2.tags.length 0 ())<|el (fun (_:Unit)=>some<|decide<|0<G)<|fun a0=>some a0)
def h_h (n:Nat)(x1:b_)(x2:e_):Option Bool :=
 if (x2.kind==1)=true then bd (α:=Bool) (bd (c_b x2 true false false false 0) fun G=>if G=true then bd (c_1 x2.size 1 4) fun H=>if H=true then if (!x2.little)=true then some true else some (decide<|1<x2.size) else some false else some false) (fun I=>some I) else if (x2.kind==2)=true then bd (α:=Bool) (bd (c_b x2 false true false false 0) fun J=>if J=true then bd (c_1 (x2.bytes.length:Int) 1 16) fun L=>some L else some false) (fun O=>some O) else if (x2.kind==3)=true then bd (α:=Bool) (bd (c_b x2 true false false false 0) fun V=>if V=true then bd (c_1 x2.size 1 64) fun W=>some W else some false) (fun Y=>some Y) else if (x2.kind==4)=true then bd (α:=Bool) (bd (c_b x2 false false false false 1) fun a0=>if a0=true then bd (idx x2.kids 0) fun a1=>bd (c_J x1 a1) fun a2=>some (decide<|0<a2) else some false) (fun a3=>some a3) else if (x2.kind==5)=true then bd (α:=Bool) (bd (c_b x2 false false false false 2) fun a4=>if a4=true then bd (idx x2.kids 0) fun a5=>bd (c_J x1 a5) fun a6=>some (decide<|0<a6) else some false) (fun a7=>some a7) else if (x2.kind==6)=true then bd (h_f n x2) fun a8=>some a8 else if (x2.kind==7)=true then bd (h_g x1 x2) fun a9=>some a9 else bd (α:=Bool) (if (x2.kind==8)=true then some (x2.kind==8) else some (x2.kind==9)) (fun aa=>if aa=true then bd (c_b x2 false false false false 1) fun ab=>some ab else if (x2.kind==10)=true then bd (α:=Bool) (bd (c_b x2 false true false false 0) fun ad=>if ad=true then if ((x2.bytes.length:Int)==1)=true then bd (idx x2.bytes 0) fun ae=>some ((byteI ae) != (byteI (92:UInt8))) else some false else some false) (fun af=>some af) else some false)
def h_i (n:Nat)(x1:b_)(x2:Int):Option Bool :=
 bd (e_c x1 x2) fun J=>if (!J)=true then some false else bd (idx x1.rules x2) fun G=>bd (α:=Bool) (bd (e_a n G.name) fun L=>if (!L)=true then some true else if G.little=true then some (G.kind != 1) else some false) (fun O=>if O=true then some false else bd (slc x1.rules 0 x2) fun H=>bd (v_ (σ:=Unit) (ρ:=Bool) (fun V=>(fun (_:Unit)=>bd (idx H (V:Int)) fun W=>if (W.name.b==G.name.b)=true then some (.ret false) else some (.next ()))) H.length 0 ()) (el (fun (_:Unit)=>bd (v_ (σ:=Unit) (ρ:=Bool) (fun Y=>(fun (_:Unit)=>bd (idx G.kids (Y:Int)) fun I=>bd (α:=Bool) (if (decide<|I<0)=true then some true else some (decide<|x2<=I)) (fun a0=>if a0=true then some (.ret false) else some (.next ())))) G.kids.length 0 ())<|el (fun (_:Unit)=>bd (h_h n x1 G) fun a1=>some a1)<|fun a2=>some a2)<|fun a3=>some a3))
def f_G (n:Nat)(x1:b_):Option Bool :=
 bd (c_1 (x1.rules.length:Int) 1 24) fun G=>if (!G)=true then some false else bd (v_ (σ:=Unit) (ρ:=Bool) (fun H=>(fun (_:Unit)=>bd (h_i n x1 (H:Int)) fun I=>if (!I)=true then some (.ret false) else some (.next ()))) x1.rules.length 0 ()) (el (fun (_:Unit)=>some true)<|fun J=>some J)
def d_z (x1:b_):Option Int :=
 some (S_ (x1.rules.length:Int) 1)
def d_A (n:Nat)(x1:b_)(x2:Int):Option Bool :=
 bd (α:=Bool) (bd (f_G n x1) fun G=>if G=true then bd (e_c x1 x2) fun H=>some H else some false) (fun I=>some I)
def d_B (x1:a_1)(x2:Int)(x3:Int):Option X_ :=
 if (decide<|(S_ (x1.b.length:Int) x2)<x3)=true then some (⟨x2,1⟩:X_) else some (⟨j_ x2 x3,0⟩:X_)
def e_M (x1:List UInt8)(x2:Bool):Option Int :=
 if (decide<|4<(x1.length:Int))=true then some 0 else bd (v_ (σ:=Int) (ρ:=Int) (fun H=>(fun G=>bd (α:=Int) (if x2=true then bd (idx x1<|S_ (S_ (x1.length:Int) 1) (H:Int)) fun I=>some (c_w .i64 (· ||| ·) (b_E .i64 G 8)<|byteI I) else bd (idx x1 (H:Int)) fun J=>some<|c_w .i64 (· ||| ·) (b_E .i64 G 8)<|byteI J)<|fun L=>some<|.next L)) x1.length 0 0) (el (fun G=>some G)<|fun O=>some O)
def e_d (x1:a_1)(x2:Int)(x3:Int):Option (Int×X_×Int) :=
 bd (idx x1.d.rules x2) fun H=>bd (d_B (⟨(⟨x1.d.rules⟩:b_),x1.b,j_ x1.applied 1⟩:a_1) x3 H.size) fun G=>if (G.code != 0)=true then some (0,G,j_ x1.applied 1) else bd (slc x1.b x3 G.at_) fun I=>bd (e_M I H.little) fun J=>some (J,G,j_ x1.applied 1)
def h_j (x1:a_1)(x2:e_)(x3:Int):Option X_ :=
 bd (v_ (σ:=Unit) (ρ:=X_) (fun k10=>(fun (_:Unit)=>bd (idx x2.bytes (k10:Int)) fun G=>if ((j_ x3 (k10:Int))==(x1.b.length:Int))=true then some (.ret (⟨x3,1⟩:X_)) else bd (idx x1.b<|j_ x3 (k10:Int)) fun H=>if ((byteI H) != (byteI G))=true then some (.ret (⟨j_ x3 (k10:Int),2⟩:X_)) else some (.next ()))) x2.bytes.length 0 ()) (el (fun (_:Unit)=>some (⟨j_ x3 (x2.bytes.length:Int),0⟩:X_))<|fun I=>some I)
def f_H (x1:List UInt8):Option Int :=
 bd (v_ (σ:=Int) (ρ:=Int) (fun H=>(fun G=>bd (idx x1 (H:Int)) fun I=>some<|.next<|j_ G<|byteI I)) x1.length 0 0) (el (fun G=>some<|b_r G 256)<|fun J=>some J)
def f_I (n:Nat)(x1:List UInt8)(x2:Int)(x3:UInt8):Option ((List UInt8)×Int×Bool) :=
 bd (α:=Bool) (if (decide<|x2<0)=true then some true else some (decide<|(x1.length:Int)<x2)) (fun J=>if J=true then some (([]:List UInt8),x2,false) else bd (a_j (σ:=(List UInt8)×Int) (ρ:=(List UInt8)×Int×Bool) (un2 fun H G=>if (decide<|G<(x1.length:Int))=true then bd (idx x1 G) fun L=>if ((byteI L)==(byteI x3))=true then some (.ret (H,j_ G 1,true)) else bd (idx x1 G) fun O=>bd (α:=Sum Int<|Out ((List UInt8)×Int)<|(List UInt8)×Int×Bool) (if ((byteI O)==(byteI (92:UInt8)))=true then if ((j_ G 1)==(x1.length:Int))=true then some (.inr<|.brk (H,j_ G 1)) else some (.inl<|j_ G 1) else some (.inl G)) (el (fun I=>bd (idx x1 I) fun V=>bd (psh H V) fun W=>some<|.next (W,j_ I 1)) some) else some (.brk (H,G))) n (([]:List UInt8),x2)) (el (un2 fun H G=>some (([]:List UInt8),x2,false))<|fun Y=>some Y))
structure f_J where
 impl_checker_value:a_1->Int->Int->Option (X_×Int)
 impl_checker_array:a_1->e_->Int->Option (X_×Int)
 impl_checker_choice:a_1->e_->Int->Option (X_×Int)
 impl_checker_option:a_1->e_->Int->Option (X_×Int)
 impl_checker_checked:a_1->e_->Int->Option (X_×Int)
def h_k (n:Nat)(rec:f_J)(x1:a_1)(x2:Int)(x3:Int):Option (X_×Int) :=
 bd (idx x1.d.rules x2) fun G=>if (G.kind==1)=true then bd3 (e_d x1 x2 x3) fun am Y a0=>some (Y,a0) else if (G.kind==2)=true then bd (h_j (⟨(⟨x1.d.rules⟩:b_),x1.b,j_ x1.applied 1⟩:a_1) G x3) fun a1=>some (a1,j_ x1.applied 1) else if (G.kind==3)=true then bd (d_B (⟨(⟨x1.d.rules⟩:b_),x1.b,j_ x1.applied 1⟩:a_1) x3 G.size) fun a2=>some (a2,j_ x1.applied 1) else if (G.kind==4)=true then bd (idx G.kids 0) fun a3=>bd3 (e_d (⟨(⟨x1.d.rules⟩:b_),x1.b,j_ x1.applied 1⟩:a_1) a3 x3) fun a4 I J=>if (I.code != 0)=true then some (I,J) else bd (d_B (⟨(⟨x1.d.rules⟩:b_),x1.b,J⟩:a_1) I.at_ a4) fun a5=>some (a5,J) else if (G.kind==5)=true then bd2 (rec.impl_checker_array (⟨(⟨x1.d.rules⟩:b_),x1.b,j_ x1.applied 1⟩:a_1) G x3) fun a6 a7=>some (a6,a7) else if (G.kind==6)=true then bd (v_ (σ:=Int×Int×Int) (ρ:=X_×Int) (fun a8=>un3 fun L O V=>bd (idx G.kids (a8:Int)) fun a9=>bd2 (rec.impl_checker_value (⟨(⟨x1.d.rules⟩:b_),x1.b,L⟩:a_1) a9 O) fun H W=>if (H.code != 0)=true then some (.brk (W,H.at_,H.code)) else some (.next (W,H.at_,H.code))) G.kids.length 0 (j_ x1.applied 1,x3,0)) (el (un3 fun L O V=>some ((⟨O,V⟩:X_),L))<|fun aa=>some aa) else if (G.kind==7)=true then bd2 (rec.impl_checker_choice (⟨(⟨x1.d.rules⟩:b_),x1.b,j_ x1.applied 1⟩:a_1) G x3) fun ab ad=>some (ab,ad) else if (G.kind==8)=true then bd2 (rec.impl_checker_option (⟨(⟨x1.d.rules⟩:b_),x1.b,j_ x1.applied 1⟩:a_1) G x3) fun ae af=>some (ae,af) else if (G.kind==9)=true then bd2 (rec.impl_checker_checked (⟨(⟨x1.d.rules⟩:b_),x1.b,j_ x1.applied 1⟩:a_1) G x3) fun ah ai=>some (ah,ai) else bd (idx G.bytes 0) fun aj=>bd3 (f_I n x1.b x3 aj) fun an ak al=>if (!al)=true then some ((⟨x3,1⟩:X_),j_ x1.applied 1) else some ((⟨ak,0⟩:X_),j_ x1.applied 1)
def h_l (n:Nat)(rec:f_J)(x1:a_1)(x2:e_)(x3:Int):Option (X_×Int) :=
 bd (idx x2.kids 0) fun Y=>bd3 (e_d x1 Y x3) fun O L V=>bd (α:=Bool) (if (L.code==0)=true then some (decide<|40<O) else some false) (fun a0=>if a0=true then some ((⟨x3,6⟩:X_),V) else bd (a_j (σ:=Int×Int×Int×Int) (ρ:=X_×Int) (un4 fun G H I J=>bd (α:=Bool) (if (decide<|0<G)=true then some (J==0) else some false) (fun a1=>if a1=true then bd (idx x2.kids 1) fun a2=>bd2 (rec.impl_checker_value (⟨(⟨x1.d.rules⟩:b_),x1.b,H⟩:a_1) a2 I) fun W a3=>some (.next (S_ G 1,a3,W.at_,W.code)) else some (.brk (G,H,I,J)))) n (O,V,L.at_,L.code)) (el (un4 fun G H I J=>some ((⟨I,J⟩:X_),H))<|fun a4=>some a4))
def h_m (n:Nat)(rec:f_J)(x1:a_1)(x2:e_)(x3:Int):Option (X_×Int) :=
 bd (idx x2.kids 0) fun J=>bd3 (e_d x1 J x3) fun L G H=>if (G.code != 0)=true then some (G,H) else bd (v_ (σ:=Unit) (ρ:=X_×Int) (fun I=>(fun (_:Unit)=>bd (idx x2.tags (I:Int)) fun O=>if (O==L)=true then bd (idx x2.kids ((I+1:Nat):Int)) fun V=>bd2 (rec.impl_checker_value (⟨(⟨x1.d.rules⟩:b_),x1.b,H⟩:a_1) V G.at_) fun W Y=>some (.ret (W,Y)) else some (.next ()))) x2.tags.length 0 ()) (el (fun (_:Unit)=>some ((⟨x3,3⟩:X_),H))<|fun a0=>some a0)
def h_n (n:Nat)(rec:f_J)(x1:a_1)(x2:e_)(x3:Int):Option (X_×Int) :=
 bd (d_B x1 x3 1) fun G=>bd (α:=Bool) (if (G.code != 0)=true then some true else bd (idx x1.b x3) fun H=>some<|(byteI H)==(byteI (0:UInt8))) (fun I=>if I=true then some (G,x1.applied) else bd (idx x1.b x3) fun J=>if (decide<|(byteI (1:UInt8))<(byteI J))=true then some ((⟨x3,4⟩:X_),x1.applied) else bd (idx x2.kids 0) fun L=>bd2 (rec.impl_checker_value x1 L G.at_) fun O V=>some (O,V))
def h_o (n:Nat)(rec:f_J)(x1:a_1)(x2:e_)(x3:Int):Option (X_×Int) :=
 bd (idx x2.kids 0) fun J=>bd2 (rec.impl_checker_value x1 J x3) fun G H=>if (G.code != 0)=true then some (G,H) else bd (d_B (⟨(⟨x1.d.rules⟩:b_),x1.b,H⟩:a_1) G.at_ 1) fun I=>bd (α:=Bool) (if (I.code==0)=true then bd (idx x1.b G.at_) fun L=>bd (slc x1.b x3 G.at_) fun O=>bd (f_H O) fun V=>some ((byteI L) != V) else some false) (fun W=>if W=true then some ((⟨G.at_,5⟩:X_),H) else some (I,H))
def a_y:Nat->f_J
 | 0=>⟨fun _ _ _=>none,fun _ _ _=>none,fun _ _ _=>none,fun _ _ _=>none,fun _ _ _=>none⟩
 | n+1=>⟨h_k n<|a_y n,h_l n<|a_y n,h_m n<|a_y n,h_n n<|a_y n,h_o n<|a_y n⟩
def n_Q (n:Nat):=(a_y n).impl_checker_value
def f_K (n:Nat)(x1:b_)(x2:Int)(x3:List UInt8)(x4:Int):Option (Int×Int) :=
 bd (α:=Bool) (bd (d_A n x1 x2) fun H=>if (!H)=true then some true else if (decide<|x4<0)=true then some true else if (decide<|(x3.length:Int)<x4)=true then some true else some (decide<|400<(x3.length:Int))) (fun I=>if I=true then some (0,8) else bd2 (n_Q n (⟨(⟨x1.rules⟩:b_),x3,0⟩:a_1) x2 x4) fun G J=>some (G.at_,G.code))
def c_K (n:Nat)(x1:a_P)(x2:Int):Option (Bool×Int) :=
 bd2 (f_K n (⟨x1.d.rules⟩:b_) x2 x1.b x1.at_) fun G H=>some (H==0,G)
def f_L (n:Nat)(x1:a_P)(x2:Int):Option (Int×Bool×Int) :=
 bd2 (c_K n x1 x2) fun H G=>if (!H)=true then some (0,false,G) else bd (slc x1.b x1.at_ G) fun I=>bd (idx x1.d.rules x2) fun J=>bd (e_M I J.little) fun L=>some (L,true,G)
def h_p (n:Nat)(x1:a_P)(x2:e_)(x3:Str):Option (Bool×Int×Int) :=
 bd2 (e_b x3) fun G V=>bd (idx x2.kids 0) fun W=>bd3 (f_L n x1 W) fun H Y I=>bd (α:=Bool) (if (!V)=true then some true else if (!Y)=true then some true else if (decide<|40<H)=true then some true else some (decide<|H<=G)) (fun a0=>if a0=true then some (false,x1.rule,I) else bd (a_j (σ:=Int×Int) (ρ:=Bool×Int×Int) (un2 fun J L=>if (decide<|0<J)=true then bd (idx x2.kids 1) fun a1=>bd2 (c_K n (⟨(⟨x1.d.rules⟩:b_),x1.b,x1.rule,L⟩:a_P) a1) fun a2 O=>if (!a2)=true then some (.ret (false,x1.rule,O)) else some (.next (S_ J 1,O)) else bd (idx x2.kids 1) fun a3=>some<|.ret (true,a3,L)) n (G,I)) (el (fun _=>none)<|fun a4=>some a4))
def h_q (n:Nat)(x1:a_P)(x2:e_)(x3:Str):Option (Bool×Int×Int) :=
 bd (v_ (σ:=Int) (ρ:=Bool×Int×Int) (fun H=>(fun G=>bd (idx x2.names (H:Int)) fun J=>if (J.b==x3.b)=true then bd (idx x2.kids (H:Int)) fun L=>some (.ret (true,L,G)) else bd (α:=Bool×Int) (bd (e_L x2.names x3) fun O=>if (!O)=true then some (true,G) else bd (idx x2.kids (H:Int)) fun V=>bd2 (c_K n (⟨(⟨x1.d.rules⟩:b_),x1.b,x1.rule,G⟩:a_P) V) fun W Y=>some (!W,Y)) (un2 fun a0 I=>if a0=true then some (.ret (false,x1.rule,I)) else some (.next I)))) x2.names.length 0 x1.at_) (el (fun G=>some (false,x1.rule,G))<|fun a1=>some a1)
def j_b (x1:Int)(x2:Int):Option Bool :=
 some (x1==x2)
def h_r (x1:List Int)(G:Int):Option Int :=
 bd (v_ (σ:=Unit) (ρ:=Int) (fun k10=>(fun (_:Unit)=>bd (idx x1 (k10:Int)) fun H=>bd (j_b H G) fun I=>if I=true then some (.ret (k10:Int)) else some (.next ()))) x1.length 0 ()) (el (fun (_:Unit)=>some (-1))<|fun J=>some J)
def h_s (n:Nat)(x1:a_P)(x2:e_):Option (Bool×Int×Int) :=
 bd (idx x2.kids 0) fun I=>bd3 (f_L n x1 I) fun J L G=>bd (h_r x2.tags J) fun H=>bd (α:=Bool) (if (!L)=true then some true else some (decide<|H<0)) (fun O=>if O=true then some (false,x1.rule,G) else bd (idx x2.kids<|j_ H 1) fun V=>some (true,V,G))
def f_M (n:Nat)(x1:a_P)(x2:Str):Option (Bool×Int×Int) :=
 bd (idx x1.d.rules x1.rule) fun G=>if (G.kind==5)=true then bd3 (h_p n x1 G x2) fun H I J=>some (H,I,J) else if (G.kind==6)=true then bd3 (h_q n x1 G x2) fun L O V=>some (L,O,V) else bd (α:=Bool) (if (G.kind==7)=true then some (x2.b==(⟨[42]⟩:Str).b) else some false) (fun W=>if W=true then bd3 (h_s n x1 G) fun Y a0 a1=>some (Y,a0,a1) else bd (α:=Bool) (if (G.kind==8)=true then some (x2.b==(⟨[63]⟩:Str).b) else some false) (fun a2=>bd (α:=Sum Int<|Bool×Int×Int) (if a2=true then bd (α:=Bool) (if (decide<|(x1.b.length:Int)<=x1.at_)=true then some true else bd (idx x1.b x1.at_) fun a3=>some<|(byteI a3) != (byteI (1:UInt8))) (fun a4=>if a4=true then some (.inr (false,x1.rule,x1.at_)) else some (.inl<|j_ x1.at_ 1)) else bd (α:=Bool) (if (G.kind==9)=true then some (x2.b==(⟨[43]⟩:Str).b) else some false) (fun a5=>if a5=true then some (.inl x1.at_) else some (.inr (false,x1.rule,x1.at_))))<|el (fun a6=>bd (idx G.kids 0) fun a7=>some (true,a7,a6)) some))
def f_N (n:Nat)(x1:b_)(x2:List UInt8)(x3:Str):Option (k_×Bool) :=
 bd2 (f_F n x3) fun I J=>bd (α:=Bool) (if (!J)=true then some true else bd (f_G n x1) fun L=>if (!L)=true then some true else some (decide<|400<(x2.length:Int))) (fun O=>if O=true then some ((⟨(⟨[]⟩:Str),0,0,0⟩:k_),false) else bd (d_z x1) fun V=>bd (v_ (σ:=Int×Int) (ρ:=k_×Bool) (fun W=>un2 fun G H=>bd (idx I (W:Int)) fun Y=>bd3 (f_M n (⟨(⟨x1.rules⟩:b_),x2,G,H⟩:a_P) Y) fun a0 a1 a2=>if (!a0)=true then some (.ret ((⟨(⟨[]⟩:Str),0,0,0⟩:k_),false)) else some (.next (a1,a2))) I.length 0 (V,0)) (el (un2 fun G H=>bd2 (c_K n (⟨(⟨x1.rules⟩:b_),x2,G,H⟩:a_P) G) fun a3 a4=>if (!a3)=true then some ((⟨(⟨[]⟩:Str),0,0,0⟩:k_),false) else some ((⟨x3,G,H,a4⟩:k_),true))<|fun a5=>some a5))
def b_K (x1:Int)(x2:Int):Option (Option<|Int×Int) :=
 some (some (x1,x2))
def e_e (x1:a_t)(x2:Int)(x3:Int):Option ((List UInt8)×(Option<|Int×Int)) :=
 if (decide<|(S_ (x1.b.length:Int) x2)<x3)=true then bd (b_K x2 1) fun G=>some (([]:List UInt8),G) else bd (slc x1.b x2<|j_ x2 x3) fun H=>some (H,none)
def e_f (x1:a_t)(x2:Int)(x3:Int):Option (Int×Int×(Option<|Int×Int)) :=
 bd (idx x1.d.rules x2) fun G=>bd2 (e_e x1 x3 G.size) fun I H=>if H.isSome=true then some (0,x3,H) else bd (e_M I G.little) fun J=>some (J,j_ x3 G.size,none)
def h_t (x1:a_t)(x2:e_)(x3:Int):Option (Int×(Option<|Int×Int)) :=
 bd (v_ (σ:=Unit) (ρ:=Int×(Option<|Int×Int)) (fun k10=>(fun (_:Unit)=>bd (idx x2.bytes (k10:Int)) fun G=>if (decide<|(x1.b.length:Int)<=(j_ x3 (k10:Int)))=true then bd (b_K x3 1) fun H=>some (.ret (x3,H)) else bd (idx x1.b<|j_ x3 (k10:Int)) fun I=>if ((byteI I) != (byteI G))=true then bd (b_K (j_ x3 (k10:Int)) 2) fun J=>some (.ret (x3,J)) else some (.next ()))) x2.bytes.length 0 ()) (el (fun (_:Unit)=>some (j_ x3 (x2.bytes.length:Int),none))<|fun L=>some L)
def f_O (x1:a_t)(x2:Int)(x3:Int):Option (Val×Int×(Option<|Int×Int)) :=
 bd2 (e_e x1 x2 x3) fun H G=>if G.isSome=true then some ((⟨0,([]:List UInt8),([]:List Val)⟩:Val),x2,G) else bd (app ([]:List UInt8) H) fun I=>some ((⟨0,I,([]:List Val)⟩:Val),j_ x2 x3,none)
structure e_N where
 impl_fileReader_value:a_t->Int->Int->Option (Val×Int×(Option<|Int×Int))
 impl_fileReader_array:a_t->e_->Int->Option (Val×Int×(Option<|Int×Int))
 impl_fileReader_items:a_t->Val->(List Int)->Int->Option (Val×Int×(Option<|Int×Int))
 impl_fileReader_choice:a_t->e_->Int->Option (Val×Int×(Option<|Int×Int))
 impl_fileReader_option:a_t->e_->Int->Option (Val×Int×(Option<|Int×Int))
 impl_fileReader_checked:a_t->e_->Int->Option (Val×Int×(Option<|Int×Int))
def h_u (n:Nat)(rec:e_N)(x1:a_t)(x2:Int)(x3:Int):Option (Val×Int×(Option<|Int×Int)) :=
 bd (idx x1.d.rules x2) fun G=>if (G.kind==1)=true then bd3 (e_f x1 x2 x3) fun I J L=>some ((⟨I,([]:List UInt8),([]:List Val)⟩:Val),J,L) else if (G.kind==2)=true then bd2 (h_t x1 G x3) fun O V=>some ((⟨0,([]:List UInt8),([]:List Val)⟩:Val),O,V) else if (G.kind==3)=true then bd3 (f_O x1 x3 G.size) fun W Y a0=>some (W,Y,a0) else if (G.kind==4)=true then bd (idx G.kids 0) fun a1=>bd3 (e_f x1 a1 x3) fun a2 a3 H=>if H.isSome=true then some ((⟨0,([]:List UInt8),([]:List Val)⟩:Val),x3,H) else bd3 (f_O x1 a3 a2) fun a4 a5 a6=>some (a4,a5,a6) else if (G.kind==5)=true then bd3 (rec.impl_fileReader_array x1 G x3) fun a7 a8 a9=>some (a7,a8,a9) else if (G.kind==6)=true then bd3 (rec.impl_fileReader_items x1 (⟨0,([]:List UInt8),([]:List Val)⟩:Val) G.kids x3) fun aa ab ad=>some (aa,ab,ad) else if (G.kind==7)=true then bd3 (rec.impl_fileReader_choice x1 G x3) fun ae af ah=>some (ae,af,ah) else if (G.kind==8)=true then bd3 (rec.impl_fileReader_option x1 G x3) fun ai aj ak=>some (ai,aj,ak) else if (G.kind==9)=true then bd3 (rec.impl_fileReader_checked x1 G x3) fun al am an=>some (al,am,an) else bd (idx G.bytes 0) fun ao=>bd3 (f_I n x1.b x3 ao) fun ap aq ar=>if (!ar)=true then bd (b_K x3 1) fun au=>some ((⟨0,([]:List UInt8),([]:List Val)⟩:Val),x3,au) else some ((⟨0,ap,([]:List Val)⟩:Val),aq,none)
def h_v (n:Nat)(rec:e_N)(x1:a_t)(x2:e_)(x3:Int):Option (Val×Int×(Option<|Int×Int)) :=
 bd (idx x2.kids 0) fun L=>bd3 (e_f x1 L x3) fun H O I=>if I.isSome=true then some ((⟨0,([]:List UInt8),([]:List Val)⟩:Val),x3,I) else if (decide<|40<H)=true then bd (b_K x3 6) fun V=>some ((⟨0,([]:List UInt8),([]:List Val)⟩:Val),x3,V) else bd (mk0 0 H) fun J=>bd (v_ (σ:=List Int) (ρ:=Val×Int×(Option<|Int×Int)) (fun W=>(fun G=>bd (idx x2.kids 1) fun Y=>bd (upd G (W:Int) Y) fun a0=>some<|.next a0)) J.length 0 J)<|el (fun G=>bd3 (rec.impl_fileReader_items x1 (⟨0,([]:List UInt8),([]:List Val)⟩:Val) G O) fun a1 a2 a3=>some (a1,a2,a3))<|fun a4=>some a4
def h_w (n:Nat)(rec:e_N)(x1:a_t)(x2:Val)(x3:List Int)(x4:Int):Option (Val×Int×(Option<|Int×Int)) :=
 bd (v_ (σ:=Int×(List Val)) (ρ:=Val×Int×(Option<|Int×Int)) (fun J=>un2 fun G H=>bd (idx x3 (J:Int)) fun L=>bd3 (rec.impl_fileReader_value x1 L G) fun O V I=>if I.isSome=true then some (.ret ((⟨0,([]:List UInt8),([]:List Val)⟩:Val),G,I)) else bd (psh H O) fun W=>some<|.next (V,W)) x3.length 0 (x4,x2.items)) (el (un2 fun G H=>some ((⟨x2.number,x2.bytes,H⟩:Val),G,none))<|fun Y=>some Y)
def h_x (n:Nat)(rec:e_N)(x1:a_t)(x2:e_)(x3:Int):Option (Val×Int×(Option<|Int×Int)) :=
 bd (idx x2.kids 0) fun I=>bd3 (e_f x1 I x3) fun G J H=>if H.isSome=true then some ((⟨0,([]:List UInt8),([]:List Val)⟩:Val),x3,H) else bd (v_ (σ:=Unit) (ρ:=Val×Int×(Option<|Int×Int)) (fun k10=>(fun (_:Unit)=>bd (idx x2.tags (k10:Int)) fun L=>if (L==G)=true then bd (slc x2.kids ((k10+1:Nat):Int)<|j_ (k10:Int) 2) fun O=>bd3 (rec.impl_fileReader_items x1 (⟨G,([]:List UInt8),([]:List Val)⟩:Val) O J) fun V W Y=>some (.ret (V,W,Y)) else some (.next ()))) x2.tags.length 0 ()) (el (fun (_:Unit)=>bd (b_K x3 3) fun a0=>some ((⟨0,([]:List UInt8),([]:List Val)⟩:Val),x3,a0))<|fun a1=>some a1)
def h_y (n:Nat)(rec:e_N)(x1:a_t)(x2:e_)(x3:Int):Option (Val×Int×(Option<|Int×Int)) :=
 bd2 (e_e x1 x3 1) fun G H=>if H.isSome=true then some ((⟨0,([]:List UInt8),([]:List Val)⟩:Val),x3,H) else bd (idx G 0) fun I=>if (decide<|(byteI (1:UInt8))<(byteI I))=true then bd (b_K x3 4) fun J=>some ((⟨0,([]:List UInt8),([]:List Val)⟩:Val),x3,J) else bd (idx G 0) fun L=>if ((byteI L)==(byteI (0:UInt8)))=true then some ((⟨0,([]:List UInt8),([]:List Val)⟩:Val),j_ x3 1,none) else bd3 (rec.impl_fileReader_items x1 (⟨0,([]:List UInt8),([]:List Val)⟩:Val) x2.kids<|j_ x3 1) fun O V W=>some (O,V,W)
def h_z (n:Nat)(rec:e_N)(x1:a_t)(x2:e_)(x3:Int):Option (Val×Int×(Option<|Int×Int)) :=
 bd3 (rec.impl_fileReader_items x1 (⟨0,([]:List UInt8),([]:List Val)⟩:Val) x2.kids x3) fun J G H=>if H.isSome=true then some ((⟨0,([]:List UInt8),([]:List Val)⟩:Val),x3,H) else bd2 (e_e x1 G 1) fun L I=>if I.isSome=true then some ((⟨0,([]:List UInt8),([]:List Val)⟩:Val),x3,I) else bd (idx L 0) fun O=>bd (slc x1.b x3 G) fun V=>bd (f_H V) fun W=>if ((byteI O) != W)=true then bd (b_K G 5) fun Y=>some ((⟨0,([]:List UInt8),([]:List Val)⟩:Val),x3,Y) else some (J,j_ G 1,none)
def a_c:Nat->e_N
 | 0=>⟨fun _ _ _=>none,fun _ _ _=>none,fun _ _ _ _=>none,fun _ _ _=>none,fun _ _ _=>none,fun _ _ _=>none⟩
 | n+1=>⟨h_u n<|a_c n,h_v n<|a_c n,h_w n<|a_c n,h_x n<|a_c n,h_y n<|a_c n,h_z n<|a_c n⟩
def j_c (n:Nat):=(a_c n).impl_fileReader_value
def e_O (n:Nat):=(a_c n).impl_fileReader_items
def f_P (n:Nat)(x1:b_)(x2:Int)(x3:List UInt8)(x4:Int):Option (Val×Int×Int) :=
 bd (α:=Bool) (bd (d_A n x1 x2) fun H=>if (!H)=true then some true else if (decide<|x4<0)=true then some true else if (decide<|(x3.length:Int)<x4)=true then some true else some (decide<|400<(x3.length:Int))) (fun I=>if I=true then some ((⟨0,([]:List UInt8),([]:List Val)⟩:Val),0,8) else bd3 (j_c n (⟨(⟨x1.rules⟩:b_),x3⟩:a_t) x2 x4) fun J L G=>if G.isSome=true then (bd2 G fun O V=>some ((⟨0,([]:List UInt8),([]:List Val)⟩:Val),O,V)) else some (J,L,0))
def f_Q (n:Nat)(x1:b_)(x2:List UInt8):Option (Val×Int×Int) :=
 bd (α:=Int×(List UInt8)×(List Val)×Int×Int) (bd (d_z x1) fun J=>bd3 (f_P n x1 J x2 0) fun G L O=>some (G.number,G.bytes,G.items,L,O)) (un5 fun V W Y H I=>bd (α:=Bool) (if (I==0)=true then some (decide<|H<(x2.length:Int)) else some false) (fun a0=>if a0=true then some ((⟨0,([]:List UInt8),([]:List Val)⟩:Val),H,7) else some ((⟨V,W,Y⟩:Val),H,I)))
def l_b (x1:List UInt8)(x2:List UInt8):Option Bool :=
 some ((⟨x1⟩:Str).b==(⟨x2⟩:Str).b)
def h_A (x1:List UInt8)(x2:List UInt8):Option Bool :=
 bd (l_b x1 x2) fun G=>some G
def f_R (x1:List UInt8)(x2:List UInt8):Option Bool :=
 if ((x1.length:Int) != (x2.length:Int))=true then some false else bd (v_ (σ:=Unit) (ρ:=Bool) (fun k10=>(fun (_:Unit)=>bd (idx x1 (k10:Int)) fun G=>bd (idx x2 (k10:Int)) fun H=>if ((byteI G) != (byteI H))=true then some (.ret false) else some (.next ()))) x1.length 0 ()) (el (fun (_:Unit)=>some true)<|fun I=>some I)
def h_B (x1:List Str)(x2:List Str):Option Bool :=
 if ((x1.length:Int) != (x2.length:Int))=true then some false else bd (v_ (σ:=Unit) (ρ:=Bool) (fun k10=>(fun (_:Unit)=>bd (idx x1 (k10:Int)) fun G=>bd (idx x2 (k10:Int)) fun H=>if (G.b != H.b)=true then some (.ret false) else some (.next ()))) x1.length 0 ()) (el (fun (_:Unit)=>some true)<|fun I=>some I)
def f_S (x1:List Int)(x2:List Int):Option Bool :=
 if ((x1.length:Int) != (x2.length:Int))=true then some false else bd (v_ (σ:=Unit) (ρ:=Bool) (fun k10=>(fun (_:Unit)=>bd (idx x1 (k10:Int)) fun G=>bd (idx x2 (k10:Int)) fun H=>if (G != H)=true then some (.ret false) else some (.next ()))) x1.length 0 ()) (el (fun (_:Unit)=>some true)<|fun I=>some I)
def h_C (x1:e_)(x2:e_):Option Bool :=
 if (x1.name.b != x2.name.b)=true then some false else if (x1.kind != x2.kind)=true then some false else if (x1.size != x2.size)=true then some false else if (x1.little != x2.little)=true then some false else bd (f_R x1.bytes x2.bytes) fun G=>if (!G)=true then some false else bd (h_B x1.names x2.names) fun H=>if (!H)=true then some false else bd (f_S x1.tags x2.tags) fun I=>if (!I)=true then some false else bd (f_S x1.kids x2.kids) fun J=>if (!J)=true then some false else some true
def j_d (x1:List e_)(x2:List e_):Option Bool :=
 if ((x1.length:Int) != (x2.length:Int))=true then some false else bd (v_ (σ:=Unit) (ρ:=Bool) (fun k10=>(fun (_:Unit)=>bd (idx x1 (k10:Int)) fun G=>bd (idx x2 (k10:Int)) fun H=>bd (h_C G H) fun I=>if (!I)=true then some (.ret false) else some (.next ()))) x1.length 0 ()) (el (fun (_:Unit)=>some true)<|fun J=>some J)
def h_D (x1:b_)(x2:b_):Option Bool :=
 bd (j_d x1.rules x2.rules) fun G=>if (!G)=true then some false else some true
def h_E (n:Nat)(x1:b_)(x2:List UInt8)(x3:Str):Option (Val×Bool) :=
 bd2 (e_8 n x1 x2 x3) fun G H=>if (!H)=true then some ((⟨0,([]:List UInt8),([]:List Val)⟩:Val),false) else bd3 (d_b n x1 G.rule x2 G.start) fun I J L=>some (I,true)
def h_F (n:Nat)(x1:b_)(x2:List UInt8)(x3:Str):Option (Val×Int×Bool) :=
 bd2 (f_N n x1 x2 x3) fun G H=>if (!H)=true then some ((⟨0,([]:List UInt8),([]:List Val)⟩:Val),(-1),false) else bd3 (f_P n x1 G.rule x2 G.start) fun I J L=>some (I,G.rule,true)
def h_G (n:Nat)(x1:b_)(x2:List UInt8)(x3:Str):Option (Val×Bool) :=
 bd3 (h_F n x1 x2 x3) fun G I H=>some (G,H)
structure n_R where
 spec_l19Build:b_->Int->(List UInt8)->Int->Str->Option ((List k_)×Int)
def h_H (n:Nat)(rec:n_R)(x1:b_)(x2:Int)(x3:List UInt8)(x4:Int)(x5:Str):Option ((List k_)×Int) :=
 bd (idx x1.rules x2) fun G=>bd3 (d_b n x1 x2 x3 x4) fun I J aa=>bd (α:=Bool) (if (G.kind==5)=true then some (G.kind==5) else some (G.kind==7)) (fun V=>bd (α:=Int) (if V=true then bd (idx G.kids 0) fun W=>bd3 (c_a x1 W x3 x4) fun ab Y ad=>some Y else bd (α:=Int) (if (G.kind==8)=true then some (j_ x4 1) else some x4) (fun a0=>some a0))<|fun a1=>bd (v_ (σ:=(List k_)×Int) (ρ:=(List k_)×Int) (fun L=>un2 fun H O=>bd (cat x5 (⟨[47]⟩:Str)) fun a2=>bd (a_Z G I.number (L:Int)) fun a3=>bd (d_y n G (L:Int)) fun a4=>bd (cat a2 a4) fun a5=>bd2 (rec.spec_l19Build x1 a3 x3 O a5) fun a6 a7=>bd (app H a6) fun a8=>some<|.next (a8,a7)) I.items.length 0 ([(⟨x5,x2,x4,J⟩:k_)],a1))<|el (un2 fun H O=>some (H,J))<|fun a9=>some a9)
def e_g:Nat->n_R
 | 0=>⟨fun _ _ _ _ _=>none⟩
 | n+1=>⟨h_H n<|e_g n⟩
def j_e (n:Nat):=(e_g n).spec_l19Build
def h_I (n:Nat)(x1:b_)(x2:List UInt8):Option ((List k_)×Bool) :=
 bd (h_e n x1 x2) fun G=>if (!G)=true then some (([]:List k_),false) else bd (e_6 x1) fun H=>bd2 (j_e n x1 H x2 0 (⟨[]⟩:Str)) fun I J=>some (I,true)
def j_f (x1:Int):Option Str :=
 bd (k_a x1) fun G=>some G
def e_h (n:Nat)(x1:b_)(x2:Int)(x3:Int):Option Str :=
 bd (α:=Bool) (bd (d_A n x1 x2) fun H=>if (!H)=true then some true else some (decide<|x3<0)) (fun I=>if I=true then some (⟨[]⟩:Str) else bd (idx x1.rules x2) fun G=>if (G.kind==5)=true then bd (j_f x3) fun J=>some J else bd (α:=Bool) (if (G.kind==6)=true then some (decide<|x3<(G.names.length:Int)) else some false) (fun L=>if L=true then bd (idx G.names x3) fun O=>some O else if (decide<|0<x3)=true then some (⟨[]⟩:Str) else if (G.kind==7)=true then some (⟨[42]⟩:Str) else if (G.kind==8)=true then some (⟨[63]⟩:Str) else if (G.kind==9)=true then some (⟨[43]⟩:Str) else some (⟨[]⟩:Str)))
def c_L (x1:b_)(x2:Int)(x3:Val)(x4:Int):Option Int :=
 bd (idx x1.rules x2) fun G=>if (G.kind==5)=true then bd (idx G.kids 1) fun I=>some I else bd (α:=Sum Unit Int) (if (G.kind==6)=true then if (decide<|x4<(G.kids.length:Int))=true then bd (idx G.kids x4) fun J=>some (.inr J) else some (.inl ()) else bd (α:=Sum Unit<|Sum Unit Int) (if (G.kind==7)=true then bd (v_ (σ:=Unit) (ρ:=Int) (fun H=>(fun (_:Unit)=>bd (idx G.tags (H:Int)) fun L=>if (L==x3.number)=true then bd (idx G.kids ((H+1:Nat):Int)) fun O=>some (.ret O) else some (.next ()))) G.tags.length 0 ()) (el (fun (_:Unit)=>some<|.inl ())<|fun V=>some<|.inr<|.inr V) else bd (α:=Bool) (if (G.kind==8)=true then some (G.kind==8) else some (G.kind==9)) (fun W=>if W=true then bd (idx G.kids 0) fun Y=>some (.inr<|.inr Y) else some (.inl ()))) (el (fun (_:Unit)=>some<|.inl ()) some)) (el (fun (_:Unit)=>some (-1)) some)
structure n_S where
 impl_indexer_part:c_V->Str->Int->Val->Int->Option (Int×(List k_))
def h_J (n:Nat)(rec:n_S)(x1:c_V)(x2:Str)(x3:Int)(x4:Val)(x5:Int):Option (Int×(List k_)) :=
 bd (psh x1.list_ (⟨x2,x3,x5,0⟩:k_)) fun V=>bd2 (f_K n (⟨x1.d.rules⟩:b_) x3 x1.b x5) fun L ad=>bd (idx x1.d.rules x3) fun G=>bd (α:=Bool) (if (G.kind==5)=true then some (G.kind==5) else some (G.kind==7)) (fun W=>bd (α:=Int) (if W=true then bd (idx G.kids 0) fun Y=>bd (idx x1.d.rules Y) fun a0=>some (j_ x5 a0.size) else bd (α:=Int) (if (G.kind==8)=true then some (j_ x5 1) else some x5) (fun a1=>some a1))<|fun a2=>bd (v_ (σ:=Int×(List k_)) (ρ:=Int×(List k_)) (fun I=>un2 fun O H=>bd (cat x2 (⟨[47]⟩:Str)) fun a3=>bd (idx x4.items (I:Int)) fun a4=>bd (e_h n (⟨x1.d.rules⟩:b_) x3 (I:Int)) fun a5=>bd (cat a3 a5) fun a6=>bd (c_L (⟨x1.d.rules⟩:b_) x3 x4 (I:Int)) fun a7=>bd2 (rec.impl_indexer_part (⟨(⟨x1.d.rules⟩:b_),x1.b,H⟩:c_V) a6 a7 a4 O) fun a8 a9=>some<|.next (a8,a9)) x4.items.length 0 (a2,V))<|el (un2 fun O H=>bd (idx H (x1.list_.length:Int)) fun J=>bd (upd H (x1.list_.length:Int) (⟨J.path,J.rule,J.start,L⟩:k_)) fun aa=>some (L,aa))<|fun ab=>some ab)
def e_i:Nat->n_S
 | 0=>⟨fun _ _ _ _ _=>none⟩
 | n+1=>⟨h_J n<|e_i n⟩
def h_K (n:Nat):=(e_i n).impl_indexer_part
def h_L (n:Nat)(x1:b_)(x2:List UInt8):Option ((List k_)×Bool) :=
 bd3 (f_Q n x1 x2) fun G L H=>if (H != 0)=true then some (([]:List k_),false) else bd (d_z x1) fun I=>bd2 (h_K n (⟨(⟨x1.rules⟩:b_),x2,([]:List k_)⟩:c_V) (⟨[]⟩:Str) I G 0) fun O J=>some (J,true)
def f_T (x1:Int)(x2:Int):Option Int :=
 if (decide<|x2<x1)=true then some x2 else some x1
def h_M (x1:List UInt8)(x2:List UInt8):Option Bool :=
 if ((x1.length:Int) != (x2.length:Int))=true then some false else bd (v_ (σ:=Unit) (ρ:=Bool) (fun k10=>(fun (_:Unit)=>bd (idx x1 (k10:Int)) fun G=>bd (idx x2 (k10:Int)) fun H=>if ((byteI G) != (byteI H))=true then some (.ret false) else some (.next ()))) x1.length 0 ()) (el (fun (_:Unit)=>some true)<|fun I=>some I)
def h_N (x1:Int)(x2:Int):Option Bool :=
 some (decide<|x1<x2)
def j_g (x2:Int)(x3:List Int):Option Int :=
 bd (v_ (σ:=Int) (ρ:=Int) (fun I=>(fun G=>bd (idx x3 (I:Int)) fun H=>bd (h_N H G) fun J=>bd (α:=Int) (if J=true then some H else some G)<|fun L=>some<|.next L)) x3.length 0 x2) (el (fun G=>some G)<|fun O=>some O)
def f_U (x1:Int)(x2:Int):Option Int :=
 bd (j_g x1 [x2]) fun G=>some G
end Go.Vw
namespace Go.Vw
def g_P (x1:b_)(x2:e_)(x3:Val):Option Bool :=
 if (x2.kind==1)=true then bd (α:=Bool) (bd (e_5 x2.size) fun G=>bd (a_K x3.number 0<|S_ G 1) fun H=>if H=true then if ((x3.bytes.length:Int)==0)=true then some ((x3.items.length:Int)==0) else some false else some false) (fun I=>some I) else if (x2.kind==2)=true then bd (α:=Bool) (if (x3.number==0)=true then if ((x3.bytes.length:Int)==0)=true then some ((x3.items.length:Int)==0) else some false else some false) (fun J=>some J) else if (x2.kind==3)=true then bd (α:=Bool) (if (x3.number==0)=true then if ((x3.bytes.length:Int)==x2.size)=true then some ((x3.items.length:Int)==0) else some false else some false) (fun L=>some L) else if (x2.kind==4)=true then bd (α:=Bool) (if (x3.number==0)=true then bd (idx x2.kids 0) fun O=>bd (d_x x1 O) fun V=>bd (f_T 400 V) fun W=>if (decide<|(x3.bytes.length:Int)<=W)=true then some ((x3.items.length:Int)==0) else some false else some false) (fun Y=>some Y) else if (x2.kind==10)=true then bd (α:=Bool) (if (x3.number==0)=true then if (decide<|(x3.bytes.length:Int)<=400)=true then some ((x3.items.length:Int)==0) else some false else some false) (fun a0=>some a0) else if (x2.kind==5)=true then bd (α:=Bool) (if (x3.number==0)=true then if ((x3.bytes.length:Int)==0)=true then bd (idx x2.kids 0) fun a1=>bd (d_x x1 a1) fun a2=>bd (f_T 40 a2) fun a3=>some (decide<|(x3.items.length:Int)<=a3) else some false else some false) (fun a4=>some a4) else if (x2.kind==6)=true then bd (α:=Bool) (if (x3.number==0)=true then if ((x3.bytes.length:Int)==0)=true then some ((x3.items.length:Int)==(x2.kids.length:Int)) else some false else some false) (fun a5=>some a5) else if (x2.kind==7)=true then bd (α:=Bool) (if ((x3.bytes.length:Int)==0)=true then if ((x3.items.length:Int)==1)=true then bd (a_Z x2 x3.number 0) fun a6=>some (decide<|0<=a6) else some false else some false) (fun a7=>some a7) else if (x2.kind==8)=true then bd (α:=Bool) (if (x3.number==0)=true then if ((x3.bytes.length:Int)==0)=true then some (decide<|(x3.items.length:Int)<=1) else some false else some false) (fun a8=>some a8) else bd (α:=Bool) (if (x3.number==0)=true then if ((x3.bytes.length:Int)==0)=true then some ((x3.items.length:Int)==1) else some false else some false) (fun a9=>some a9)
structure n_E where
 spec_l9Valid:b_->Int->Val->Option Bool
def g_Q (n:Nat)(rec:n_E)(x1:b_)(x2:Int)(x3:Val):Option Bool :=
 bd (idx x1.rules x2) fun G=>bd (g_P x1 G x3) fun I=>if (!I)=true then some false else bd (v_ (σ:=Unit) (ρ:=Bool) (fun H=>(fun (_:Unit)=>bd (idx x3.items (H:Int)) fun J=>bd (a_Z G x3.number (H:Int)) fun L=>bd (rec.spec_l9Valid x1 L J) fun O=>if (!O)=true then some (.ret false) else some (.next ()))) x3.items.length 0 ()) (el (fun (_:Unit)=>some true)<|fun V=>some V)
def e_F:Nat->n_E
 | 0=>⟨fun _ _ _=>none⟩
 | n+1=>⟨g_Q n<|e_F n⟩
def n_F (n:Nat):=(e_F n).spec_l9Valid
def g_R (n:Nat)(x1:b_)(x2:Int)(x3:Val):Option Bool :=
 bd (α:=Bool) (bd (e_9 x1 x2) fun G=>if G=true then bd (n_F n x1 x2 x3) fun H=>some H else some false) (fun I=>some I)
end Go.Vw
namespace Go.Vw
def h_O (x1:b_)(x2:Int)(x3:Val):Option Bool :=
 bd (idx x1.rules x2) fun G=>bd (α:=Sum (Int×Int×Int) Bool) (if (G.kind==1)=true then bd (c_J x1 x2) fun I=>some (.inl (I,0,0)) else bd (α:=Sum (Int×Int×Int)<|Sum (Int×Int×Int) Bool) (if (G.kind==3)=true then if ((x3.bytes.length:Int) != G.size)=true then some (.inr<|.inr false) else some (.inl (0,G.size,0)) else bd (α:=Int×Int×Int) (if (G.kind==4)=true then bd (idx G.kids 0) fun J=>bd (c_J x1 J) fun L=>bd (f_U 400 L) fun O=>some (0,O,0) else bd (α:=Int×Int×Int) (if (G.kind==10)=true then some (0,400,0) else bd (α:=Int×Int) (if (G.kind==5)=true then bd (idx G.kids 0) fun V=>bd (c_J x1 V) fun W=>bd (f_U 40 W) fun Y=>some (0,Y) else bd (α:=Int×Int) (if (G.kind==6)=true then some (0,(G.kids.length:Int)) else bd (α:=Int×Int) (if (G.kind==7)=true then bd (idx G.kids 0) fun a0=>bd (c_J x1 a0) fun a1=>some (a1,1) else bd (α:=Bool) (if (G.kind==8)=true then some (G.kind==8) else some (G.kind==9)) (fun a2=>bd (α:=Int) (if a2=true then some 1 else some 0)<|fun a3=>some (0,a3))) (un2 fun a4 a5=>some (a4,a5))) (un2 fun a6 a7=>some (a6,a7))) (un2 fun a8 a9=>some (a8,0,a9))) (un3 fun aa ab ad=>some (aa,ab,ad))) (un3 fun ae af ah=>some<|.inl (ae,af,ah))) (el (un3 fun ai aj ak=>some<|.inl (ai,aj,ak)) some)) (el (un3 fun al am H=>bd (α:=Bool) (if (G.kind==6)=true then some ((x3.items.length:Int) != H) else bd (α:=Bool) (if (G.kind==7)=true then some true else some (G.kind==9)) fun an=>if an=true then some ((x3.items.length:Int) != H) else some false) (fun ao=>if ao=true then some false else bd (α:=Bool) (bd (c_1 x3.number 0 al) fun ap=>if ap=true then if (decide<|(x3.bytes.length:Int)<=am)=true then some (decide<|(x3.items.length:Int)<=H) else some false else some false) (fun aq=>some aq))) some)
structure n_U where
 impl_validValue:b_->Int->Val->Option Bool
def h_P (n:Nat)(rec:n_U)(x1:b_)(x2:Int)(x3:Val):Option Bool :=
 bd (h_O x1 x2 x3) fun H=>if (!H)=true then some false else bd (v_ (σ:=Unit) (ρ:=Bool) (fun k10=>(fun (_:Unit)=>bd (c_L x1 x2 x3 (k10:Int)) fun G=>bd (α:=Bool) (if (decide<|G<0)=true then some true else bd (idx x3.items (k10:Int)) fun I=>bd (rec.impl_validValue x1 G I) fun J=>some (!J)) (fun L=>if L=true then some (.ret false) else some (.next ())))) x3.items.length 0 ()) (el (fun (_:Unit)=>some true)<|fun O=>some O)
def e_R:Nat->n_U
 | 0=>⟨fun _ _ _=>none⟩
 | n+1=>⟨h_P n<|e_R n⟩
def n_V (n:Nat):=(e_R n).impl_validValue
def h_Q (n:Nat)(x1:b_)(x2:Int)(x3:Val):Option Bool :=
 bd (α:=Bool) (bd (d_A n x1 x2) fun G=>if G=true then bd (n_V n x1 x2 x3) fun H=>some H else some false) (fun I=>some I)
end Go.Vw
namespace Go.Vw
def f_0 (n:Nat)(x1:b_)(x2:Int)(x3:Val)(x4:Str):Option Int :=
 bd (a_j (σ:=Int) (ρ:=Int) (fun G=>bd (α:=Bool) (if (decide<|G<(x3.items.length:Int))=true then bd (e_9 x1 x2) fun I=>some I else some false) (fun J=>if J=true then bd (idx x1.rules x2) fun L=>bd (d_y n L G) fun H=>bd (α:=Bool) (if (H.b != (⟨[]⟩:Str).b)=true then some (H.b==x4.b) else some false) (fun O=>if O=true then some (.ret G) else some (.next<|j_ G 1)) else some (.brk G))) n 0) (el (fun G=>some (-1))<|fun V=>some V)
structure l_R where
 spec_CopyValue:Val->Option Val
def e_o (n:Nat)(rec:l_R)(x1:Val):Option Val :=
 bd (α:=Int×(List UInt8)×(List Val)) (bd (app ([]:List UInt8) x1.bytes) fun H=>some (x1.number,H,([]:List Val))) (un3 fun I J L=>bd (v_ (σ:=List Val) (ρ:=Val) (fun O=>(fun G=>bd (idx x1.items (O:Int)) fun V=>bd (rec.spec_CopyValue V) fun W=>bd (psh G W) fun Y=>some<|.next Y)) x1.items.length 0 L)<|el (fun G=>some (⟨I,J,G⟩:Val))<|fun a0=>some a0)
def d_J:Nat->l_R
 | 0=>⟨fun _=>none⟩
 | n+1=>⟨e_o n<|d_J n⟩
def l_S (n:Nat):=(d_J n).spec_CopyValue
def f_1 (n:Nat)(x1:b_)(x2:Val)(x3:Str):Option (Val×Int×Bool) :=
 bd (e_6 x1) fun V=>bd2 (f_z n x3) fun W Y=>bd (α:=Bool) (if (!Y)=true then some true else bd (g_R n x1 V x2) fun a0=>some (!a0)) (fun a1=>if a1=true then some ((⟨0,([]:List UInt8),([]:List Val)⟩:Val),(-1),false) else bd (v_ (σ:=Int×Int×(List UInt8)×(List Val)) (ρ:=Val×Int×Bool) (fun a2=>un4 fun G H J I=>bd (idx W (a2:Int)) fun a3=>bd (f_0 n x1 G (⟨H,J,I⟩:Val) a3) fun L=>if (decide<|L<0)=true then some (.ret ((⟨0,([]:List UInt8),([]:List Val)⟩:Val),(-1),false)) else bd (idx x1.rules G) fun a4=>bd (a_Z a4 H L) fun a5=>bd (idx I L) fun O=>some<|.next (a5,O.number,O.bytes,O.items)) W.length 0 (V,x2.number,x2.bytes,x2.items)) (el (un4 fun G H J I=>bd (l_S n (⟨H,J,I⟩:Val)) fun a6=>some (a6,G,true))<|fun a7=>some a7))
structure l_T where
 spec_EqualValues:Val->Val->Option Bool
def e_p (n:Nat)(rec:l_T)(x1:Val)(x2:Val):Option Bool :=
 bd (α:=Bool) (if (x1.number != x2.number)=true then some true else bd (h_M x1.bytes x2.bytes) fun G=>if (!G)=true then some true else some ((x1.items.length:Int) != (x2.items.length:Int))) (fun H=>if H=true then some false else bd (v_ (σ:=Unit) (ρ:=Bool) (fun k10=>(fun (_:Unit)=>bd (idx x1.items (k10:Int)) fun I=>bd (idx x2.items (k10:Int)) fun J=>bd (rec.spec_EqualValues I J) fun L=>if (!L)=true then some (.ret false) else some (.next ()))) x1.items.length 0 ()) (el (fun (_:Unit)=>some true)<|fun O=>some O))
def d_K:Nat->l_T
 | 0=>⟨fun _ _=>none⟩
 | n+1=>⟨e_p n<|d_K n⟩
def k_3 (n:Nat):=(d_K n).spec_EqualValues
end Go.Vw
namespace Go.Vw
def g_l (n:Nat)(x1:b_)(x2:List UInt8):Option Bool :=
 bd2 (h_I n x1 x2) fun G ao=>bd3 (f_D n x1 x2) fun V ap aq=>bd (v_ (σ:=Unit) (ρ:=Bool) (fun H=>(fun (_:Unit)=>bd (α:=Str×Int×Int×Int×Bool) (bd (idx G (H:Int)) fun W=>bd2 (e_8 n x1 x2 W.path) fun I Y=>some (I.path,I.rule,I.start,I.end_,Y)) (un5 fun a0 O a1 a2 a3=>bd (α:=Int×(List UInt8)×(List Val)×Bool) (bd (idx G (H:Int)) fun a4=>bd2 (h_E n x1 x2 a4.path) fun J a5=>some (J.number,J.bytes,J.items,a5)) (un4 fun a6 a7 a8 a9=>bd (α:=Int×(List UInt8)×(List Val)×Int×Bool) (bd (idx G (H:Int)) fun aa=>bd3 (f_1 n x1 V aa.path) fun L ab ad=>some (L.number,L.bytes,L.items,ab,ad)) (un5 fun ae af ah ai aj=>bd (α:=Bool) (if (!a3)=true then some true else if (!a9)=true then some true else if (!aj)=true then some true else bd (idx G (H:Int)) fun ak=>if (!decide (((⟨a0,O,a1,a2⟩:k_):k_)=(ak:k_)))=true then some true else if (ai != O)=true then some true else bd (k_3 n (⟨a6,a7,a8⟩:Val) (⟨ae,af,ah⟩:Val)) fun al=>some (!al)) (fun am=>if am=true then some (.ret false) else some (.next ()))))))) G.length 0 ())<|el (fun (_:Unit)=>some true)<|fun an=>some an
def i_B (x1:Str)(x2:Str):Option Bool :=
 some (x1.b==x2.b)
def f_c (x1:List Str)(G:Str):Option Int :=
 bd (v_ (σ:=Unit) (ρ:=Int) (fun k10=>(fun (_:Unit)=>bd (idx x1 (k10:Int)) fun H=>bd (i_B H G) fun I=>if I=true then some (.ret (k10:Int)) else some (.next ()))) x1.length 0 ()) (el (fun (_:Unit)=>some (-1))<|fun J=>some J)
def e_t (n:Nat)(x1:b_)(x2:Int)(x3:Val)(x4:Str):Option Int :=
 bd (d_A n x1 x2) fun I=>if (!I)=true then some (-1) else bd (idx x1.rules x2) fun H=>bd (α:=Sum Int Int) (if (H.kind==5)=true then bd2 (e_b x4) fun J L=>if (!L)=true then some (.inr (-1)) else some (.inl J) else bd (α:=Int) (if (H.kind==6)=true then bd (f_c H.names x4) fun O=>some O else some 0) (fun V=>some<|.inl V)) (el (fun G=>bd (α:=Bool) (if (decide<|G<0)=true then some true else if (decide<|(x3.items.length:Int)<=G)=true then some true else bd (e_h n x1 x2 G) fun W=>if (W.b != x4.b)=true then some true else some (x4.b==(⟨[]⟩:Str).b)) (fun Y=>if Y=true then some (-1) else some G)) some)
def i_C (n:Nat)(x1:b_)(x2:Val)(x3:List Str):Option ((Option Val)×Int) :=
 bd (d_z x1) fun J=>bd (v_ (σ:=Val×Int) (ρ:=(Option Val)×Int) (fun L=>un2 fun G H=>bd (idx x3 (L:Int)) fun O=>bd (e_t n x1 H G O) fun I=>if (decide<|I<0)=true then some (.ret (none,(-1))) else bd (idx G.items I) fun V=>bd (c_L x1 H G I) fun W=>some<|.next (V,W)) x3.length 0 (x2,J))<|el (un2 fun G H=>some (some G,H))<|fun Y=>some Y
structure m_5 where
 impl_CopyValue:Val->Option Val
def e_u (n:Nat)(rec:m_5)(x1:Val):Option Val :=
 bd (α:=Int×(List UInt8)×(List Val)) (bd (app ([]:List UInt8) x1.bytes) fun H=>bd (mk0 () (x1.items.length:Int)) fun a1=>some (x1.number,H,([]:List Val))) (un3 fun I J L=>bd (v_ (σ:=List Val) (ρ:=Val) (fun O=>(fun G=>bd (idx x1.items (O:Int)) fun V=>bd (rec.impl_CopyValue V) fun W=>bd (psh G W) fun Y=>some<|.next Y)) x1.items.length 0 L)<|el (fun G=>some (⟨I,J,G⟩:Val))<|fun a0=>some a0)
def d_Q:Nat->m_5
 | 0=>⟨fun _=>none⟩
 | n+1=>⟨e_u n<|d_Q n⟩
def m_6 (n:Nat):=(d_Q n).impl_CopyValue
def f_d (n:Nat)(x1:b_)(x2:Val)(x3:Str):Option (Val×Int×Bool) :=
 bd2 (f_F n x3) fun G H=>bd (α:=Bool) (if (!H)=true then some true else bd (d_z x1) fun I=>bd (h_Q n x1 I x2) fun J=>some (!J)) (fun L=>if L=true then some ((⟨0,([]:List UInt8),([]:List Val)⟩:Val),(-1),false) else bd2 (i_C n x1 x2 G) fun O V=>opS O (some ((⟨0,([]:List UInt8),([]:List Val)⟩:Val),(-1),false))<|fun W=>bd (m_6 n W) fun Y=>some (Y,V,true))
structure m_7 where
 impl_EqualValues:Val->Val->Option Bool
def e_v (n:Nat)(rec:m_7)(x1:Val)(x2:Val):Option Bool :=
 bd (α:=Bool) (if (x1.number != x2.number)=true then some true else bd (h_A x1.bytes x2.bytes) fun G=>if (!G)=true then some true else some ((x1.items.length:Int) != (x2.items.length:Int))) (fun H=>if H=true then some false else bd (v_ (σ:=Unit) (ρ:=Bool) (fun k10=>(fun (_:Unit)=>bd (idx x1.items (k10:Int)) fun I=>bd (idx x2.items (k10:Int)) fun J=>bd (rec.impl_EqualValues I J) fun L=>if (!L)=true then some (.ret false) else some (.next ()))) x1.items.length 0 ()) (el (fun (_:Unit)=>some true)<|fun O=>some O))
def d_R:Nat->m_7
 | 0=>⟨fun _ _=>none⟩
 | n+1=>⟨e_v n<|d_R n⟩
def k_l (n:Nat):=(d_R n).impl_EqualValues
def g_m (n:Nat)(x1:b_)(x2:List UInt8):Option Bool :=
 bd2 (h_L n x1 x2) fun H a4=>bd3 (f_Q n x1 x2) fun I a5 a6=>bd (v_ (σ:=Unit) (ρ:=Bool) (fun J=>(fun (_:Unit)=>bd (idx H (J:Int)) fun G=>bd2 (f_N n x1 x2 G.path) fun L O=>bd2 (h_G n x1 x2 G.path) fun V W=>bd3 (f_d n x1 I G.path) fun Y a7 a0=>bd (α:=Bool) (if (!O)=true then some true else if (!decide ((L:k_)=(G:k_)))=true then some true else if (!W)=true then some true else if (!a0)=true then some true else bd (k_l n V Y) fun a1=>some (!a1)) (fun a2=>if a2=true then some (.ret false) else some (.next ())))) H.length 0 ())<|el (fun (_:Unit)=>some true)<|fun a3=>some a3
def g_n (n:Nat)(x1:b_)(x2:List UInt8):Option Bool :=
 if (decide<|1048576<(x2.length:Int))=true then some true else bd (g_U x1 1048576) fun I=>if (decide<|I<0)=true then some true else bd (e_G x1) fun J=>bd (e_4 x2) fun L=>bd (g_l n J L) fun O=>bd (e_G x1) fun G=>bd (e_4 x2) fun H=>bd (g_m n G H) fun V=>if (V != O)=true then some false else bd (e_G x1) fun W=>bd (h_D G W) fun Y=>if (!Y)=true then some false else bd (e_4 x2) fun a0=>bd (f_R H a0) fun a1=>if (!a1)=true then some false else some true
end Go.Vw
namespace Go.Vw
open Go.RowKit Dat
theorem o_V {P:Program}{o:Oper}{a:Act}{w:World}{K K' K1 K2:Act->World->Prop}{Q:Exit->Act->World->Prop}(h:∀a w,K a w->K' a w)(hh:o.wp P a w K (Exit.then K1 Q)):o.wp P a w K' (Exit.then K2 Q):=by
 unfold Oper.wp at *
 generalize (execOp a.eval o).run P w=r at *
 cases r with
 | ok n w' =>
  cases n <;> simp only [Oper.upon] at hh ⊢ <;>
   first
    | exact h _ _ hh
    | exact Calls.mono hh (fun e w'' he=>by cases e <;> first | exact h _ _ he | exact he)
    | exact Rows.mono hh<|fun _ _ he=>h _ _ he
 | halt x w'=>cases x <;> simp only [Oper.upon] at hh ⊢ <;> exact hh
theorem k_0 {P:Program}{ops:Array Oper}{K K1:Act->World->Prop}{Q:Exit->Act->World->Prop}{G:List Oper}(hk:∀a w,K1 a w->wpList P ops (Exit.then K Q) G a w):∀(l1:List Oper)(a:Act)(w:World),wpList P ops (Exit.then K1 Q) l1 a w->wpList P ops (Exit.then K Q) (l1++G) a w
 | [],a,w,h=>hk a w h
 | o::l1,a,w,h=>by
  rw [List.cons_append]
  unfold wpList at h ⊢
  split at h
  ·rename_i hw
   rw [if_pos hw]
   rcases h with h | ⟨h1,h2⟩
   ·exact .inl<|o_V (k_0 hk l1) h
   ·exact .inr ⟨h1,h2⟩
  ·rename_i hw
   rw [if_neg hw]
   exact k_0 hk l1 _ _ h
section
variable {P:Program}{N:Nat}{ops:Array Oper}{K:Act->World->Prop}{Q:Exit->Act->World->Prop}{e:Env}{w:World}{l:List Oper}
theorem o_W (k:Nat)(l:List Oper):l.take k++l.drop k=l:=List.take_append_drop k l
theorem c_U (d:Nat)(u:Bool)(k:Nat)(h1:WL P N ops (fun a w'=>w'=w/\Sat N ((d,vB u)::e) a) Q (l.take k) e w)(h2:WL P N ops K Q (l.drop k) ((d,vB u)::e) w):WL P N ops K Q l e w:=fun a ha=>by
 rw [← o_W k l]
 exact k_0 (fun a w' ⟨hw,hs⟩=>by subst hw;exact h2 a hs) _ a w<|h1 a ha
variable {d:Nat}{u c:Bool}
def k_1 (n:Nat)(e:Env):Bool:=(e.take n).all fun p=>(e.drop n).all fun q=>!Nat.beq p.1 q.1
theorem l_G:∀{e:Env}{t:Nat},(∀q∈e,Nat.beq t q.1=false)->y_ e t=none
 | [],_,_=>rfl
 | (k,v)::e,t,h=>by
  have h1:=h (k,v) List.mem_cons_self;have h2:Nat.beq k t=false:=by rw [← Bool.not_eq_true,Nat.beq_eq] at *;exact fun h=>h1 h.symm
  rw [y_,h2]
  exact l_G fun q hq=>h q<|List.mem_cons_of_mem _ hq
theorem l_H:∀{G H:Env}{t:Nat},(∀p∈G,Nat.beq p.1 t=false)->y_ (G++H) t=y_ H t
 | [],_,_,_=>rfl
 | (k,v)::G,H,t,h=>by
  rw [List.cons_append,y_,h (k,v) List.mem_cons_self]
  exact l_H fun p hp=>h p<|List.mem_cons_of_mem _ hp
theorem o_X {n:Nat}{e:Env}(h:k_1 n e=true){t:Nat}{v:Value}(hl:y_ (e.drop n) t=some v):y_ e t=some v:=by
 have:y_ (e.take n++e.drop n) t=y_ (e.drop n) t:=by
  refine l_H fun p hp=>?_
  cases hb:Nat.beq p.1 t with
  | false=>rfl
  | true =>
   exfalso
   have hpt:p.1=t:=Nat.eq_of_beq_eq_true hb;have h1:=List.all_eq_true.1 h p hp
   rw [List.all_eq_true] at h1
   have:=l_G (e:=e.drop n) (t:=t) fun q hq=>by
    have:=h1 q hq
    rw [Bool.not_eq_true'] at this
    rw [← hpt];exact this
   rw [this] at hl;cases hl
 rw [List.take_append_drop] at this
 rw [this];exact hl
theorem o_Y (n:Nat){e':Env}{a:Act}(hu:c=u)(G:y_ e' d=some (vB c))(hf:k_1 n e'=true)(he:e'.drop n=e)(ha:Sat N e' a):Sat N ((d,vB u)::e) a:=by
 subst hu;subst he;refine ⟨ha.defers,ha.size,fun t v ht=>?_⟩
 simp only [y_] at ht
 by_cases hk:d=t
 ·subst hk;have hb:Nat.beq d d=true:=by simp
  rw [hb] at ht
  simp only [cond_true,Option.some.injEq] at ht
  subst ht;exact ha.at_ d _ G
 ·have hb:Nat.beq d t=false:=by rw [← Bool.not_eq_true,Nat.beq_eq];exact hk
  rw [hb] at ht
  simp only [cond_false] at ht
  exact ha.at_ t v<|o_X hf ht
theorem WLq (n:Nat){e':Env}(hu:some c=some u)(G:y_ e' d=some (vB c))(hf:k_1 n e'=true)(he:e'.drop n=e):WL P N ops (fun a w'=>w'=w/\Sat N ((d,vB u)::e) a) Q [] e' w :=
 a_T fun _ ha=>⟨rfl,o_Y n (Option.some.inj hu) G hf he ha⟩
end
end Go.Vw
universe u
namespace Go.Vw
open Go.RowKit Dat
section
variable {P:Program}{N:Nat}{ops:Array Oper}{K:Act->World->Prop}{Q:Exit->Act->World->Prop}{e:Env}{w:World}{rest:List Oper}
variable {d:Nat}{op:Op}{ty:TypeId}{pos:String}{aft:Array Edge}{x:Operand}
theorem Wn {y:Code}{Q':Exit->Act->World->Prop}(h:WC P N y K Q e w):WL P N ops (KC P y K Q) Q' [] e w:=a_T<|WC.of_KC h
theorem Ws {id:Nat}{l:List Oper}{y:Code}(h:WL P N l.toArray (KC P y K Q) Q l e w):WC P N (.seq (.region id l.toArray false) y) K Q e w:=a_S<|b_o h
theorem Wk {y:Code}{Q':Exit->Act->World->Prop}(h:WC P N y K Q e w):WC P N .skip (KC P y K Q) Q' e w:=a_k<|WC.of_KC h
theorem d_a {b:Bool}{o:Option Value}{v:Value}(h:(bif b then o else none)=some v):b=true/\o=some v:=by
 cases b
 ·cases h
 ·exact ⟨rfl,h⟩
theorem Rm {v:Value}(h:(bif Nat.blt d N then ev e x else none)=some v)(k:WL P N ops K Q rest ((d,v)::e) w):WL P N ops K Q (⟨some d,.move x,ty,pos,aft,none⟩::rest) e w:=R (d_a h).1 (b_O (d_a h).2) k
theorem Ra {v:Value}(h:(bif Nat.blt d N then ev e x else none)=some v)(k:WL P N ops K Q rest ((d,v)::e) w):WL P N ops K Q (⟨some d,.assign x,ty,pos,aft,none⟩::rest) e w:=R (d_a h).1 (d_p (d_a h).2) k
section
variable {j:Nat}{want b:Bool}
theorem bind_some {o:Option Nat}{v:Value}(h:o.bind (y_ e)=some v):∃gd,o=some gd/\y_ e gd=some v:=by
 cases o with
 | none=>cases h
 | some g=>exact ⟨g,rfl,h⟩
theorem Rh {v:Value}(h:(bif Nat.blt d N then ((ops[j]?).bind (·.dst)).bind (y_ e) else none)=some (.bool b))(hw:b=want)(hr:Rd noX P N ⟨some d,op,ty,pos,aft,some (j,want)⟩ e w v)(k:WL P N ops K Q rest ((d,v)::e) w):WL P N ops K Q (⟨some d,op,ty,pos,aft,some (j,want)⟩::rest) e w:=by
 obtain ⟨gd,h1,h2⟩:=bind_some (d_a h).2;exact Rg h1 h2 hw (d_a h).1 hr k
theorem Nh (h:(bif Nat.blt d N then ((ops[j]?).bind (·.dst)).bind (y_ e) else none)=some (.bool b))(hw:b = !want)(k:WL P N ops K Q rest ((d,undef)::e) w):WL P N ops K Q (⟨some d,op,ty,pos,aft,some (j,want)⟩::rest) e w:=by
 obtain ⟨gd,h1,h2⟩:=bind_some (d_a h).2;exact Ng h1 h2 hw (d_a h).1 k
theorem Nv (h:(bif Nat.blt d N then ((ops[j]?).bind (·.dst)).bind (y_ e) else none)=some undef)(k:WL P N ops K Q rest ((d,undef)::e) w):WL P N ops K Q (⟨some d,op,ty,pos,aft,some (j,want)⟩::rest) e w:=by
 obtain ⟨gd,h1,h2⟩:=bind_some (d_a h).2;exact Nu h1 h2 (d_a h).1 k
end
end
theorem goF {P:Program}{f:FuncId}{G:Func}{c:Code}{N:Nat}{args:List Value}{w:World}{R:Value->World->Prop}(hf:P.funcs[f]? = some G)(hb:G.body=some c)(hN:G.ntmps=N)(hle:args.length<=N)(h:∀fn:Func,fn.results=G.results->WC P N c (b_W P fn R) (QR P fn R) (d_O 0 args) w):i_ P f args w R:=k_h hf hb hN hle<|h G rfl
theorem goG {P:Program}{f:FuncId}{G:Func}{c:Code}{N:Nat}{args:List Value}{w:World}{R:Value->World->Prop}(hf:P.funcs[f]? = some G)(hb:G.body=some c)(hN:G.ntmps=N)(hle:Nat.ble args.length N=true)(h:∀fn:Func,fn.results=G.results->WC P N c (b_W P fn R) (QR P fn R) (d_O 0 args) w):i_ P f args w R:=goF hf hb hN (Nat.le_of_ble_eq_true hle) h
section
variable {P:Program}{N:Nat}{e:Env}{w:World}{ty:TypeId}{pos:String}{aft:Array Edge}{gd:Option (Nat×Bool)}{x y:Operand}
theorem fs0 {T n g o:Nat}{v:Value}{cur cur':List Value}(hs:∀w,(sizeOf T).run P w = .ok n w)(hp:ev e x=some (.pointer<|some ⟨g,o,none⟩))(hv:ev e y=some v)(hB:Blk w g cur)(hn:v.cells.size=n)
  (ho:Nat.ble (o+n) cur.length=true) (h1:v.cells.toList.all Value.oneCell'=true) (hcur:cur.take o++v.cells.toList++cur.drop (o+v.cells.toList.length)=cur') :
  Ef P N ⟨none,.store T x y,ty,pos,aft,gd⟩ e w (fun _ w'=>Blk w' g cur'/\Chg (· = g) w w'):=b_z hs hp hv hB hn (Nat.le_of_ble_eq_true ho) (b_L h1) hcur
end
abbrev rQ {ρ:Type}(P:Program)(fn:Func)(Q:ρ->Value->World->Prop)(r:ρ)(ex:Exit)(a:Act)(w:World):Prop:=ex = .ret/\b_W P fn (Q r) a w
abbrev _root_.Go.World.z (w:World):Nat:=w.heap.size
abbrev sl (a:Option Addr)(n c:Nat):Value:=.slice a n c
abbrev pt (g:Nat):Value:=.pointer<|some ⟨g,0,none⟩
abbrev Bw (a b:World):Prop:=Below a.heap.size a b
abbrev vR (x:e_)(G:Option Addr)(H I:Nat)(a2:Option Addr)(J L:Nat)(O:Option Addr)(V W:Nat)(Y:Option Addr)(n4 c4:Nat):List Value:=[x.name.v,vI x.kind,vI x.size,vB x.little,.slice G H I,.slice a2 J L,.slice O V W,.slice Y n4 c4]
theorem z {α:Sort u}{a:α}:a=a:=rfl
theorem Sat.k {N:Nat}{e e':Env}{a:Act}(h:Sat N e a)(hs:sub e e'):Sat N e' a:=h.weaken hs
theorem fid {a:Prop}(h:a):a:=h
theorem lt_ {a b c:Nat}(h:a<=b)(h':b<=c):a<=c:=Nat.le_trans h h'
theorem lr {a:Nat}:a<=a:=Nat.le_refl a
theorem lb {a b:Nat}(h:Nat.ble a b=true):a<=b:=Nat.le_of_ble_eq_true h
theorem ii {x:Int}(h:(decide (-9223372036854775808<=x) && decide (x<=9223372036854775807))=true):inI x:=inI_of x h
section
variable {S T A M:List Nat}{m n g k:Nat}
theorem j_6 (h:m<=n):∀k∈[n],m<=k:=f_ h
theorem mno (h:∀ k∈T,k<m)(h':m<=n):∀k∈[n],k∉T:=f_<|fun ht=>absurd (h n ht)<|Nat.not_lt.2 h'
theorem mnr (h:∀ k∈T,k<m):∀k∈[m],k∉T:=mno h lr
theorem mm1 (h:g<m)(h':m<=n):∀k∈[n],k∉[g]:=mno (f_ h) h'
theorem mmr (h:g<m):∀k∈[m],k∉[g]:=mno (f_ h) lr
theorem mor (h:m<=n):∀k∈[n],k∈M∨m<=k:=f_<|.inr h
theorem p_ (hs:∀k∈S,n<=k)(h:m<=n):∀k∈S,m<=k:=or0 hs<|c_3 h
theorem n_ (hs:∀k∈S,n<=k)(h:g<m)(h':m<=n):∀k∈S,k∉[g]:=or0 hs<|a_f (f_ h) h'
theorem b_w (hs:∀k∈S,n<=k)(h:∀ k∈T,k<m)(h':m<=n):∀k∈S,k∉T:=or0 hs<|a_f h h'
theorem a_E (hs:∀k∈S,k∈A∨n<=k)(ha:∀k∈A,m<=k)(h:m<=n):∀k∈S,m<=k:=or1 hs ha<|c_3 h
theorem c_H (hs:∀k∈S,k∈A∨n<=k)(ha:∀k∈A,k∉T)(h:∀ k∈T,k<m)(h':m<=n):∀k∈S,k∉T:=or1 hs ha<|a_f h h'
theorem djs (h:∀k∈S,k∉[g]):g∉S:=fun hg=>h g hg<|List.mem_singleton.2 rfl
theorem atp {p:Nat->Prop}(h:∀k∈[g],p k):p g:=h g<|List.mem_singleton.2 rfl
theorem nd0:([]++[]:List Nat).Nodup:=g_e a_x a_x all_nil
theorem al0 {p:Nat->Prop}:∀k∈([]++[]:List Nat),p k:=g_d all_nil all_nil
end
section
variable {e e':Env}{v1 v2 v3 v4 v5 v6 v7 v8 v9:Value}{k1 k2 k3 k4 k5 k6 k7 k8 k9:Nat}
theorem s1 (h1:y_ e k1=some v1):sub e [(k1,v1)]:=⟨h1,trivial⟩
theorem s2 (h1:y_ e k1=some v1)(h2:y_ e k2=some v2):sub e [(k1,v1),(k2,v2)]:=⟨h1,s1 h2⟩
theorem s3 (h1:y_ e k1=some v1)(h2:y_ e k2=some v2)(h3:y_ e k3=some v3):sub e [(k1,v1),(k2,v2),(k3,v3)]:=⟨h1,s2 h2 h3⟩
theorem s4 (h1:y_ e k1=some v1)(h2:y_ e k2=some v2)(h3:y_ e k3=some v3)(h4:y_ e k4=some v4):sub e [(k1,v1),(k2,v2),(k3,v3),(k4,v4)]:=⟨h1,s3 h2 h3 h4⟩
theorem s5 (h1:y_ e k1=some v1)(h2:y_ e k2=some v2)(h3:y_ e k3=some v3)(h4:y_ e k4=some v4)(h5:y_ e k5=some v5):sub e [(k1,v1),(k2,v2),(k3,v3),(k4,v4),(k5,v5)]:=⟨h1,s4 h2 h3 h4 h5⟩
theorem s6 (h1:y_ e k1=some v1)(h2:y_ e k2=some v2)(h3:y_ e k3=some v3)(h4:y_ e k4=some v4)(h5:y_ e k5=some v5)(h6:y_ e k6=some v6):sub e [(k1,v1),(k2,v2),(k3,v3),(k4,v4),(k5,v5),(k6,v6)]:=⟨h1,s5 h2 h3 h4 h5 h6⟩
theorem s7 (h1:y_ e k1=some v1)(h2:y_ e k2=some v2)(h3:y_ e k3=some v3)(h4:y_ e k4=some v4)(h5:y_ e k5=some v5)(h6:y_ e k6=some v6)(G:y_ e k7=some v7):sub e [(k1,v1),(k2,v2),(k3,v3),(k4,v4),(k5,v5),(k6,v6),(k7,v7)]:=⟨h1,s6 h2 h3 h4 h5 h6 G⟩
theorem s8 (h1:y_ e k1=some v1)(h2:y_ e k2=some v2)(h3:y_ e k3=some v3)(h4:y_ e k4=some v4)(h5:y_ e k5=some v5)(h6:y_ e k6=some v6)(G:y_ e k7=some v7)(H:y_ e k8=some v8):sub e [(k1,v1),(k2,v2),(k3,v3),(k4,v4),(k5,v5),(k6,v6),(k7,v7),(k8,v8)]:=⟨h1,s7 h2 h3 h4 h5 h6 G H⟩
theorem s9 (h1:y_ e k1=some v1)(h2:y_ e k2=some v2)(h3:y_ e k3=some v3)(h4:y_ e k4=some v4)(h5:y_ e k5=some v5)(h6:y_ e k6=some v6)(G:y_ e k7=some v7)(H:y_ e k8=some v8)(I:y_ e k9=some v9):sub e [(k1,v1),(k2,v2),(k3,v3),(k4,v4),(k5,v5),(k6,v6),(k7,v7),(k8,v8),(k9,v9)]:=⟨h1,s8 h2 h3 h4 h5 h6 G H I⟩
end
theorem onL {α:Type}[Dat α]{w:World}:a_ w [] (.slice none 0 0) ([]:List α):=p_e w
theorem _root_.Go.RowKit.Below.s {b:Nat}{w w':World}(h:Below b w w'):w.heap.size<=w'.heap.size:=h.size
theorem Chg.s {X:Nat->Prop}{w w':World}(h:Chg X w w'):w.heap.size<=w'.heap.size:=h.size
abbrev Chg.e:=@Chg.ext
abbrev repS.e:=@repS.ext
abbrev repS.c:=@repS.chg
abbrev a_.e:=@a_.ext
abbrev a_.c:=@a_.chg
abbrev P_.e:=@P_.ext
abbrev P_.c:=@P_.chg
abbrev a_A.e:=@a_A.ext
abbrev a_A.c:=@a_A.chg
abbrev b_f.e:=@b_f.ext
abbrev b_f.c:=@b_f.chg
abbrev GlW.e:=@GlW.ext
abbrev GlW.c:=@GlW.chg
abbrev b_N.e:=@b_N.ext
abbrev b_N.c:=@b_N.chg
abbrev Blk.e:=@Blk.ext
abbrev Blk.c:=@Blk.chg
abbrev b_B.e:=@b_B.ext
abbrev b_B.c:=@b_B.chg
section
variable {P:Program}{N:Nat}{ops:Array Oper}{K:Act->World->Prop}{Q:Exit->Act->World->Prop}{e:Env}{w:World}{rest:List Oper}{X:Nat->Prop}{T:Nat}{p:a_s}
variable {d d':Nat}{ty ty':TypeId}{pos pos':String}{aft aft':Array Edge}{x x':Operand}{v v':Value}
theorem Rw {c:Code}{Q':Exit->Act->World->Prop}(h:(bif Nat.blt d N then ev e x else none)=some v)(k:WC P N c K Q ((d,v)::e) w):WL P N ops (KC P c K Q) Q' [⟨some d,.assign x,ty,pos,aft,none⟩] e w:=Ra h<|Wn k
theorem Wm {id:Nat}{l:List Oper}{c:Code}(h:(bif Nat.blt d N then ev e x else none)=some v)(k:WL P N (⟨some d,.move x,ty,pos,aft,none⟩::l).toArray (KC P c K Q) Q l ((d,v)::e) w):WC P N (.seq (.region id (⟨some d,.move x,ty,pos,aft,none⟩::l).toArray false) c) K Q e w:=Ws<|Rm h k
theorem RM (h:(bif Nat.blt d N then ev e x else none)=some v)(h':(bif Nat.blt d' N then ev ((d,v)::e) x' else none)=some v')(k:WL P N ops K Q rest ((d',v')::(d,v)::e) w):WL P N ops K Q (⟨some d,.move x,ty,pos,aft,none⟩::⟨some d',.move x',ty',pos',aft',none⟩::rest) e w:=Rm h<|Rm h' k
theorem RA (h:(bif Nat.blt d N then ev e x else none)=some v)(h':(bif Nat.blt d' N then ev ((d,v)::e) x' else none)=some v')(k:WL P N ops K Q rest ((d',v')::(d,v)::e) w):WL P N ops K Q (⟨some d,.assign x,ty,pos,aft,none⟩::⟨some d',.assign x',ty',pos',aft',none⟩::rest) e w:=Ra h<|Ra h' k
theorem dM {i:Nat}(ho:ops[i]? = some ⟨some d,.move x,ty,pos,aft,none⟩)(hf:Nat.blt d N=true)(h:ev e x=some v)(k:PR X P N ops T K p ((d,v)::e) w):PR X P N ops T K (.rd i p) e w:=dR ho hf (b_O h) k
theorem dQ {i:Nat}(ho:ops[i]? = some ⟨some d,.assign x,ty,pos,aft,none⟩)(hf:Nat.blt d N=true)(h:ev e x=some v)(k:PR X P N ops T K p ((d,v)::e) w):PR X P N ops T K (.rd i p) e w:=dR ho hf (d_p h) k
theorem Wx {y y':Code}{b:Bool}{Q':Exit->Act->World->Prop}(hc:ev e x=some (.bool b))(ht:b=true->WC P N y K Q e w)(hf:b=false->WC P N y' K Q e w):WL P N ops (KC P (.cond x y y') K Q) Q' [] e w:=Wn<|c_S hc ht hf
section
variable {t u i:Nat}{k:IntKind}{a b:Int}
theorem Rl (hf:Nat.blt d N=true)(h1:ev e x=some (.int k a))(h2:ev e x'=some (.int k b))(h:WL P N ops K Q rest ((d,vB<|decide<|a<b)::e) w):WL P N ops K Q (⟨some d,.binOp .lss t x x' u,ty,pos,aft,none⟩::rest) e w:=R hf (f_f h1 h2) h
theorem Rq (hf:Nat.blt d N=true)(h1:ev e x=some (.int k a))(h2:ev e x'=some (.int k b))(h:WL P N ops K Q rest ((d,vB<|a==b)::e) w):WL P N ops K Q (⟨some d,.binOp .eql t x x' u,ty,pos,aft,none⟩::rest) e w:=R hf (g_s h1 h2) h
theorem Rf {g o j:Nat}(hf:Nat.blt d N=true)(h1:Fld P t i j)(h2:ev e x=some (.pointer<|some ⟨g,o,none⟩))(h:WL P N ops K Q rest ((d,.pointer<|some ⟨g,o+j,none⟩)::e) w):WL P N ops K Q (⟨some d,.fieldAddr t x i,ty,pos,aft,none⟩::rest) e w:=R hf (g_o h1 h2) h
theorem Re {vs:Array Value}(hf:Nat.blt d N=true)(h1:ev e x=some (.tuple vs))(h2:vs[i]? = some v)(h:WL P N ops K Q rest ((d,v)::e) w):WL P N ops K Q (⟨some d,.extract x i,ty,pos,aft,none⟩::rest) e w:=R hf (g_p h1 h2) h
end
theorem l0 {t g o:Nat}{dst:Option Tmp}{gd:Option (Nat×Bool)}(hT:∀w,(isAgg t).run P w = .ok false w)(h:ev e x=some (.pointer<|some ⟨g,o,none⟩))(hc:w.cell? ⟨g,o,none⟩=some v):Rd noX P N ⟨dst,.load t x,ty,pos,aft,gd⟩ e w v:=c_g hT h (fun h=>h) hc
def plA:Nat->Nat->List Nat->a_s
 | _,0,_=>.done
 | i,n+1,l=>bif l.elem i then .ef i (plA (i+1) n l) else .rd i (plA (i+1) n l)
abbrev pl_ (n:Nat)(l:List Nat):a_s:=plA 0 n l
end
end Go.Vw
namespace Go.Vw
open Go.RowKit Dat Go.ChangeShapes Go.WideShapes Go.ChangeAt
structure IsT (P:Program)(t:TypeId)(α:Type)[Dat α](L:α->Prop):Prop where
 rd:∀{H:Type}(enc:TypeId×Value->H)(W:World)(fuel:Nat)(cs:List Value)(x:DataW H×List MemPlace),DataW.trod enc P W 0 (fun _=>true) true fuel t cs=some x->(x.1.weights P t).all (· <= reachBytes)=true->∃v:α,rep W W.heap.size cs v/\L v
section
variable {P:Program}{t:TypeId}
theorem p_E (ht:P.underlying t=some (.int .i64)):IsT P t Int (fun _=>True):=⟨fun enc W fuel cs x h _=>by
 obtain ⟨n,rfl,_,hw⟩:=DataW.trod_int ht h;have:=bounds_i64 hw
 exact ⟨n,⟨_,rfl,rfl,by unfold inI;omega⟩,trivial⟩⟩
theorem p_F (ht:P.underlying t=some (.int .u8)):IsT P t UInt8 (fun _=>True):=⟨fun enc W fuel cs x h _=>by
 obtain ⟨n,rfl,_,hw⟩:=DataW.trod_int ht h;have hb:=bounds_u8 hw
 have e:n=byteI (UInt8.ofNat n.toNat):=by
  unfold byteI
  rw [UInt8.toNat_ofNat']
  omega
 refine ⟨UInt8.ofNat n.toNat,⟨_,rfl,?_⟩,trivial⟩
 show Value.int .u8 n=vU (byteI<|UInt8.ofNat n.toNat)
 rw [← e]⟩
theorem p_G (ht:P.underlying t=some .bool):IsT P t Bool (fun _=>True):=⟨fun enc W fuel cs x h _=>by
 obtain ⟨b,rfl,_⟩:=DataW.trod_bool ht h
 exact ⟨b,⟨_,rfl,rfl⟩,trivial⟩⟩
theorem p_H (ht:P.underlying t=some .string):IsT P t Str (fun s=>s.b.length<=LEN):=⟨fun enc W fuel cs x h hw=>by
 obtain ⟨s,rfl,rfl,_⟩:=DataW.trod_string ht h
 simp only [DataW.weights,List.all_cons,List.all_nil,Bool.and_true,decide_eq_true_eq] at hw
 have hr:reachBytes=140737488351232:=rfl;have hL:LEN=140737488355328:=rfl;have hl:s.data.toList.length<=LEN:=by omega
 exact ⟨⟨s.data.toList⟩,⟨_,rfl,by simp [Str.v],hl⟩,hl⟩⟩
theorem m_0 {H:Type}{e:TypeId}:∀{l:List (DataW H)}{d:DataW H},(DataW.weightsAll P e l).all (· <= reachBytes)=true->d∈l->(d.weights P e).all (· <= reachBytes)=true
 | [],_,_,h=>by cases h
 | y::l,d,hw,h=>by
  unfold DataW.weightsAll at hw
  rw [List.all_append,Bool.and_eq_true] at hw
  rcases List.mem_cons.1 h with rfl | h
  ·exact hw.1
  ·exact m_0 hw.2 h
theorem i_v {H:Type}:∀{ts:List TypeId}{l:List (DataW H)}{i:Nat}{t:TypeId}{d:DataW H},(DataW.weightsEach P ts l).all (· <= reachBytes)=true->ts[i]? = some t->l[i]? = some d->(d.weights P t).all (· <= reachBytes)=true
 | [],_,_,_,_,_,h,_=>by simp at h
 | _::_,[],_,_,_,_,_,h=>by simp at h
 | t::ts,y::l,i,t',d,hw,h1,h2=>by
  unfold DataW.weightsEach at hw
  rw [List.all_append,Bool.and_eq_true] at hw
  cases i with
  | zero=>simp at h1 h2;subst h1 h2;exact hw.1
  | succ i=>simp at h1 h2;exact i_v hw.2 h1 h2
theorem cells?_spec {w:World}{a:Addr}{n:Nat}{cs:List Value}(h:w.cells? 0 a n=some cs):cs.length=n/\∀j v,cs[j]? = some v->w.cell? (a.add j)=some v:=by
 unfold World.cells? at h
 rw [if_pos (Nat.zero_le _)] at h
 refine ⟨by simpa using mapM_some_length h,fun j v hv=>?_⟩
 have hj:j<n:=by
  have h1:=(List.getElem?_eq_some_iff.1 hv).1;have h2:=mapM_some_length h
  simp at h2
  omega
 have:=mapM_some_get h j j (by rw [List.getElem?_range hj])
 rw [this];exact hv
theorem p_I {w:World}{a:Addr}{v:Value}(h:w.cell? a=some v):a.spot=none:=by
 unfold World.cell? at h
 split at h
 ·cases hs:a.spot with
  | none=>rfl
  | some x=>rw [hs] at h;simp at h
 ·cases h
theorem m_1 {α:Type}(Q:Nat->α->Prop):∀(len:Nat),(∀i,i<len->∃v,Q i v)->∃l:List α,l.length=len/\∀(i:Nat)(x:α),l[i]? = some x->Q i x
 | 0,_=>⟨[],rfl,fun i x h=>by simp at h⟩
 | n+1,h=>by
  obtain ⟨l,hl,hq⟩:=m_1 Q n<|fun i hi=>h i (by omega);obtain ⟨v,hv⟩:=h n (by omega);refine ⟨l++[v],by simp [hl],fun i x hx=>?_⟩
  by_cases hi:i<l.length
  ·rw [List.getElem?_append_left hi] at hx;exact hq i x hx
  ·rw [List.getElem?_append_right (by omega)] at hx
   have h1:=(List.getElem?_eq_some_iff.1 hx).1
   simp only [List.length_cons,List.length_nil] at h1
   have h2:i=n:=by omega
   subst h2
   rw [show i - l.length=0 by omega] at hx
   simp at hx
   exact hx ▸ hv
theorem i_w {α:Type}[Dat α]{L:α->Prop}{e:TypeId}(ht:P.underlying t=some (.slice e))(he:IsT P e α L)(hc:P.cellsOf e=sz α)(hb:1<=P.bytesOf e):IsT P t (List α) (fun l=>l.length<=LEN/\∀x∈l,L x):=⟨fun enc W fuel cs x h hw=>by
 have hr:reachBytes=140737488351232:=rfl;have hL:LEN=140737488355328:=rfl
 rcases DataW.trod_slice ht h with ⟨rfl,rfl⟩ | ⟨a,len,cap,elems,rest,n,_,rfl,rfl,_,hlc,_,hlen,hel,hsp,_⟩
 ·exact ⟨[],⟨_,rfl,none,0,rfl,Nat.le_refl _,Nat.zero_le _,fun _=>rfl,fun p hp=>by cases hp⟩,by simp,fun x hx=>by cases hx⟩
 ·obtain ⟨hrl,_⟩:=hsp rfl
  have hw':(elems.length+rest.length) * P.bytesOf e<=reachBytes/\(DataW.weightsAll P e<|elems.map (·.1)).all (· <= reachBytes)=true:=by
   unfold DataW.weights at hw
   rw [ht] at hw
   simp only [List.all_cons,List.all_append,Bool.and_eq_true,decide_eq_true_eq,List.length_map] at hw
   exact ⟨hw.1,hw.2.1⟩
  have hcap:cap<=LEN:=by
   have h1:elems.length+rest.length<=(elems.length+rest.length) * P.bytesOf e:=Nat.le_mul_of_pos_right _ hb
   omega
  have hone:∀i:Nat,i<len->∃v:α,a.spot=none/\a.block<W.heap.size/\(∃cs,P_ W a.block (a.off+i * sz α) cs/\rep W W.heap.size cs v)/\L v:=by
   intro i hi;have h1:=hel i hi;have hie:i<elems.length:=by omega
   rw [List.getElem?_eq_getElem hie] at h1
   cases hcs:W.cells? 0 (a.add<|i * P.cellsOf e) (P.cellsOf e) with
   | none=>rw [hcs] at h1;cases h1
   | some cs =>
    rw [hcs] at h1
    simp only [Option.bind_some] at h1
    obtain ⟨v,hv,hl⟩:=he.rd enc W n cs _ h1<|m_0 hw'.2<|List.mem_map_of_mem<|List.getElem_mem hie;obtain ⟨J,O⟩:=cells?_spec hcs;have hpos:0<cs.length:=by rw [J,hc];exact Dat.pos
    have hsp:a.spot=none:=by
     have G:=hel 0 (by omega)
     rw [List.getElem?_eq_getElem (show 0<elems.length by omega)] at G
     cases H:W.cells? 0 (a.add<|0 * P.cellsOf e) (P.cellsOf e) with
     | none=>rw [H] at G;cases G
     | some I =>
      obtain ⟨V,Y⟩:=cells?_spec H;have hpos0:0<I.length:=by rw [V,hc];exact Dat.pos
      have:=Y 0 I[0] (by rw [List.getElem?_eq_getElem hpos0]);have:=p_I this
      simpa [Addr.add] using this
    have ha:a=⟨a.block,a.off,none⟩:=by cases a;simp only at hsp;rw [hsp]
    have hcells:P_ W a.block (a.off+i * sz α) cs:=by
     intro j u hu;have:=O j u hu
     rw [ha,Addr.add_lit,Addr.add_lit,hc] at this
     exact this
    exact ⟨v,hsp,hcells.lt (by intro h;rw [h] at hpos;cases hpos),⟨cs,hcells,hv⟩,hl⟩
  obtain ⟨l,hll,hq⟩:=m_1 _ len hone;refine ⟨l,⟨_,rfl,some a,cap,by rw [hll],by omega,by omega,fun h=>(by cases h),fun p hp=>?_⟩,by omega,fun x hx=>?_⟩
  ·obtain rfl:=Option.some.inj hp;refine ⟨fun hne=>?_,fun hne=>?_,fun i x hx=>(hq i x hx).2.2.1⟩
   ·cases l with
    | nil=>exact absurd rfl hne
    | cons y l=>exact (hq 0 y rfl).1
   ·cases l with
    | nil=>exact absurd rfl hne
    | cons y l=>exact (hq 0 y rfl).2.1
  ·obtain ⟨i,hi⟩:=List.getElem?_of_mem hx
   exact (hq i x hi).2.2.2⟩
def cutC:Nat->List Nat->List Value->List (List Value)
 | _,[],_=>[]
 | o,n::r,cs=>(cs.drop o).take n::cutC (o+n) r cs
def k_d:List (List Value)->List Value
 | []=>[]
 | [p]=>p
 | p::q::r=>p++k_d (q::r)
theorem k_e:∀(ns:List Nat)(o:Nat)(cs:List Value),ns ≠ []->cs.length=o+ns.sum->k_d (cutC o ns cs)=cs.drop o
 | [],_,_,h,_=>absurd rfl h
 | [n],o,cs,_,h=>by
  show (cs.drop o).take n=_
  rw [List.take_of_length_le]
  simp at h ⊢;omega
 | n::m::r,o,cs,_,h=>by
  show (cs.drop o).take n++k_d (cutC (o+n) (m::r) cs)=_
  rw [k_e (m::r) (o+n) cs (by simp) (by simp at h ⊢;omega),← List.drop_drop,List.take_append_drop]
theorem m_2 {H:Type}{enc:TypeId×Value->H}{W:World}{fuel:Nat}{cs:List Value}{x:DataW H×List MemPlace}{fs:Array Field}(ht:P.underlying t=some (.struct fs))(h:DataW.trod enc P W 0 (fun _=>true) true fuel t cs=some x)(hw:(x.1.weights P t).all (· <= reachBytes)=true) :
  cs.length=P.cellsOf t/\∀(i:Nat)(f:Field),fs[i]? = some f->∀(α:Type)(_:Dat α)(L:α->Prop),IsT P f.type α L->∃v:α,rep W W.heap.size ((cs.drop f.offset).take (P.cellsOf f.type)) v/\L v:=by
 obtain ⟨xs,n,rfl,rfl,hl,hxl,hf⟩:=DataW.trod_struct ht h;refine ⟨hl,fun i f hi α _ L hα=>?_⟩;have h1:=hf i f hi;have hlt:=(Array.getElem?_eq_some_iff.1 hi).1
 rw [List.getElem?_eq_getElem (by omega)] at h1
 refine hα.rd enc W n _ _ h1 ?_;unfold DataW.weights at hw
 rw [ht] at hw
 refine i_v (i:=i) hw ?_ (by rw [List.getElem?_map,List.getElem?_eq_getElem (by omega)];rfl)
 rw [List.getElem?_map,Array.getElem?_toList,hi];rfl
structure OkW (P:Program)(W:World)(base:Nat)(t:TypeId)(v:Value):Prop where
 h:Value.okWide P W .any base t v
structure OkWs (P:Program)(W:World)(base:Nat)(ts:Array TypeId)(vs:Array Value):Prop where
 h:∀(j:Nat) t v,ts[j]? = some t->vs[j]? = some v->Value.okWide P W .any base t v
theorem OkWs.at {W:World}{base:Nat}{ts:Array TypeId}{vs:Array Value}(h:OkWs P W base ts vs)(j:Nat)(t:TypeId)(v:Value)(h1:ts[j]? = some t)(h2:vs[j]? = some v):OkW P W base t v:=⟨h.h j t v h1 h2⟩
theorem p_J {W:World}{base:Nat}{t:TypeId}{v:Value}{fs:Array Field}(ht:P.underlying t=some (.struct fs))(h:OkW P W base t v):∃cs,v = .agg cs/\cs.size=P.cellsOf t:=okWide_struct ht h.h
theorem p_K {W:World}{base:Nat}{t:TypeId}{v:Value}{e:TypeId}(ht:P.underlying t=some (.slice e))(h:OkW P W base t v):∃a n c,v = .slice a n c:=okWide_slice ht h.h
theorem m_3 {H:Type}{enc:TypeId×Value->H}(hl:laidOutB P=true){W W':World}(hb:Below W.heap.size W W'):∀(ts:List TypeId)(vs:List Value)(ds:List (DataW H))(ps:List MemPlace),(∀t∈ts,P.readableRec t=true/\t<P.types.size) ->
  DataW.TrodAll enc P W 0 (fun _=>true) true ts vs ds ps->(∀x∈ps,x.block<W.heap.size)->∀(sp:Nat->Bool),(∀b,b<W.heap.size->sp b=true)->DataW.TrodAll enc P W' 0 sp true ts vs ds ps
 | [],[],[],_,_,h,_,_,_=>h
 | t::ts,v::vs,d::ds,ps,hr,h,hlt,sp,hsp=>by
  obtain ⟨p,q,h1,h2,rfl⟩:=h;refine ⟨p,q,?_,m_3 hl hb ts vs ds q (fun t ht=>hr t<|List.mem_cons_of_mem _ ht) h2 (fun x hx=>hlt x<|List.mem_append_right _ hx) sp hsp,rfl⟩;have hlp:∀x∈p,x.block<W.heap.size:=fun x hx=>hlt x<|List.mem_append_left _ hx
  exact WideElems.Trod_stays hl (hr t List.mem_cons_self).1 (hr t List.mem_cons_self).2 h1 (fun x hx=>hb.same<|hlp x hx) (fun x hx=>hsp _<|hlp x hx)
 | [],_::_,_,_,_,h,_,_,_=>by cases h
 | [],[],_::_,_,_,h,_,_,_=>by cases h
 | _::_,[],_,_,_,h,_,_,_=>by cases h
 | _::_,_::_,[],_,_,h,_,_,_=>by cases h
theorem p_L {H:Type}{enc:TypeId×Value->H}{f:Func}{s:ChangeSpec}{apart fresh handsOn again:Bool}{W W':World}{args:Array Value}{ds gs:List (DataW H)}{before:List MemPlace}{tb:TypeId}(hl:laidOutB P=true)(hread:∀t∈f.params.toList,P.readableRec t=true/\t<P.types.size)
  (hb:Below W.heap.size W W') (hW:DataW.Whole enc P f.params.toList s.vars apart W args.toList ds gs before) (hres:f.resultTypes = #[tb]) (htb:P.underlying tb=some .bool) (hvars:s.vars=[]) (hfn:s.fn H (ds++gs)={ results:=[.lit (.bool true)],args:=ds }) :
  s.post enc P f apart fresh handsOn again W args (.bool true) W':=by
 have hlt:∀x∈before,x.block<W.heap.size:=fun p hp=>hW.lt p hp
 have hW':=hW;obtain ⟨p,q,hA,hV,rfl,hz,hn⟩:=hW
 rw [hvars] at hV
 obtain ⟨rfl,rfl⟩:=trodVars_none hV;have hA':=fun sp hsp=>m_3 hl hb _ _ _ _ hread hA (fun x hx=>hlt x (by simpa using hx)) sp hsp
 have hr:∀(b:Nat)(sp:Nat->Bool)(hd:Bool),DataW.TrodAll enc P W' b sp hd f.resultTypes.toList ((Value.bool true).resultList f.resultTypes.size) (s.fn H<|ds++[]).results []:=fun b sp hd=>by
  rw [hfn,hres];exact trodAll_cons_mk (shut_bool htb _) trodAll_mk0
 have hvs:∀sp:Nat->Bool,DataW.TrodVars enc P W' sp s.vars (s.fn H<|ds++[]).vars []:=fun sp=>by rw [hfn,hvars];rfl
 refine ⟨ds,[],p++[],[],p,[],hW',hr _ _ _,by rw [hfn];exact hA' _ (fun b hb=>by simpa using hb),hvs _,hb.frame _,fun _=>⟨?_,([.lit (.bool true)]:List (DataW H))++ds,[],([]++p)++[],⟨[]++p,[],?_,?_,rfl,?_,?_⟩,?_⟩⟩
 ·exact ok_one hres rfl<|okWide_bool_mk htb _
 ·have h1:=hr 0 (fun _=>true) true
  rw [hfn] at h1
  exact trodAll_append (hA' _<|fun _ _=>rfl) h1
 ·rw [hvars];rfl
 ·intro b off hp;have hp':MemPlace.cell b off∈p++[]:=by simpa using hp
  have:=hlt _ hp'
  rw [hb.frozen (p:=⟨b,off,none⟩) this]
  exact hz b off hp'
 ·intro ha;have:=hn ha;simpa using this
 ·intro x hx _;simpa using hx
end
end Go.Vw
namespace Go.Vw
open Go.RowKit Dat
theorem r_R {x y:Int}(h1 : -9223372036854775808<=x+y)(h2:x+y<=9223372036854775807):j_ x y=x+y:=by
 unfold j_;rw [IntKind.wrap_i64];omega
theorem b_e {x y:Int}(h1 : -9223372036854775808<=x - y)(h2:x - y<=9223372036854775807):S_ x y=x - y:=by
 unfold S_;rw [IntKind.wrap_i64];omega
theorem g_K {x y:Int}(h1 : -9223372036854775808<=x * y)(h2:x * y<=9223372036854775807):b_g x y=x * y:=by
 unfold b_g;rw [IntKind.wrap_i64];omega
theorem r_S {x y:Int}(G:0<=x)(hx:x<=9223372036854775807)(hy:0<y):d_S x y=x / y:=by
 unfold d_S
 rw [Int.tdiv_eq_ediv_of_nonneg G,IntKind.wrap_i64]
 have h1:=Int.ediv_nonneg G<|Int.le_of_lt hy;have h2:=Int.ediv_le_self y G
 omega
theorem l_4 {x y:Int}(G:0<=x):b_r x y=x % y:=by
 unfold b_r;exact Int.tmod_eq_emod_of_nonneg G
theorem r_T {a b:UInt8}:byteI a=byteI b ↔ a=b:=by
 unfold byteI
 constructor
 ·intro h;have:a.toNat=b.toNat:=by omega
  exact UInt8.toNat_inj.1 this
 ·rintro rfl;rfl
section
variable {α:Type}
theorem l_5 {l:List α}{k:Nat}(h:k<l.length):idx l (k:Int)=some l[k]:=by rw [l_U];simp [h]
theorem j_2 {l:List α}{i:Int}(G:0<=i)(h:i.toNat<l.length):idx l i=some l[i.toNat]:=by
 unfold idx;rw [if_pos G];simp [h]
theorem b_7 {l:List α}(h:0<l.length):idx l 0=some l[0]:=l_5 (k:=0) h
theorem j_3 {l:List α}(h:1<l.length):idx l 1=some l[1]:=l_5 (k:=1) h
theorem g_L {l:List α}{a b:Int}(G:0<=a)(h1:a<=b)(h2:b<=l.length):slc l a b=some ((l.take b.toNat).drop a.toNat):=by
 unfold slc;rw [if_pos ⟨G,h1,h2⟩]
theorem c_E {l:List α}{x:α}(h:l.length<LIM):psh l x=some (l++[x]):=by unfold psh;rw [if_pos h]
theorem e_E {l m:List α}(h:l.length+m.length<=LIM):app l m=some (l++m):=by unfold app;rw [if_pos h]
theorem g_M {s t:Str}(h:s.b.length+t.b.length<=LIM):cat s t=some ⟨s.b++t.b⟩:=by unfold cat;rw [if_pos h]
theorem f_t {l:List α}{k:Nat}{x:α}(h:k<l.length):upd l (k:Int) x=some (l.set k x):=by
 unfold upd;rw [if_pos ⟨by omega,by omega⟩];rfl
theorem g_N {z:α}{n:Nat}(h:n<=LIM):mk0 z (n:Int)=some (List.replicate n z):=by
 unfold mk0;rw [if_pos ⟨by omega,by omega⟩];simp
theorem r_U {z:α}{n:Int}(G:0<=n)(h:n<=LIM):mk0 z n=some (List.replicate n.toNat z):=by
 unfold mk0;rw [if_pos ⟨G,h⟩]
end
section
variable {σ ρ:Type}
theorem n_B {body:Nat->σ->Option (Out σ ρ)}(st:Nat->σ):∀n k,(∀j,k<=j->j<k+n->body j (st j)=some (.next<|st<|j+1))->v_ body n k (st k)=some (.inl<|st<|k+n)
 | 0,k,_=>rfl
 | n+1,k,h=>by
  have h1:=h k (Nat.le_refl _) (by omega);have h2:=n_B st n (k+1)<|fun j a b=>h j (by omega) (by omega);unfold v_
  rw [h1]
  simp only
  rw [h2,show k+1+n=k+(n+1) by omega]
theorem b_S {body:Nat->σ->Option (Out σ ρ)}(st:Nat->σ){n:Nat}(h:∀j,j<n->body j (st j)=some (.next<|st<|j+1)):v_ body n 0 (st 0)=some (.inl<|st n):=by
 have:=n_B st n 0<|fun j _ b=>h j (by omega)
 simpa using this
theorem forN_ret' {body:Nat->σ->Option (Out σ ρ)}(st:Nat->σ){r:ρ}:∀n k j0,k<=j0->j0<k+n->(∀j,k<=j->j<j0->body j (st j)=some (.next<|st<|j+1))->body j0 (st j0)=some (.ret r)->v_ body n k (st k)=some (.inr r)
 | 0,k,j0,a,b,_,_=>by omega
 | n+1,k,j0,a,b,h,hr=>by
  unfold v_
  by_cases hk:k=j0
  ·subst hk;rw [hr]
  ·rw [h k (Nat.le_refl _) (by omega)]
   exact forN_ret' st n (k+1) j0 (by omega) (by omega) (fun j c d=>h j (by omega) d) hr
theorem g_O {body:Nat->σ->Option (Out σ ρ)}(st:Nat->σ){r:ρ}{n j0:Nat}(G:j0<n)(h:∀j,j<j0->body j (st j)=some (.next<|st<|j+1))(hr:body j0 (st j0)=some (.ret r)):v_ body n 0 (st 0)=some (.inr r) :=
 forN_ret' st n 0 j0 (by omega) (by omega) (fun j _ b=>h j b) hr
theorem f_u {body:Nat->Unit->Option (Out Unit ρ)}{n:Nat}(p:Nat->Bool)(r:Nat->ρ)(h:∀k,k<n->(∀j,j<k->p j=false)->body k ()=some (if p k=true then .ret (r k) else .next ())) :
  v_ body n 0 ()=some (match (List.range n).find? p with | some k=>.inr (r k) | none=>.inl ()):=by
 cases hf:(List.range n).find? p with
 | none =>
  have hn:∀k,k<n->p k=false:=fun k hk=>by
   have:=List.find?_eq_none.1 hf k<|List.mem_range.2 hk
   simpa using this
  exact b_S (fun _=>()) (fun j hj=>by rw [h j hj (fun i hi=>hn i (by omega)),hn j hj];rfl)
 | some k =>
  obtain ⟨hp,as,bs,hl,has⟩:=List.find?_eq_some_iff_append.1 hf
  have hk:as.length<n/\as.length=k:=by
   have h1:as.length<(List.range n).length:=by rw [hl];simp
   simp at h1
   refine ⟨h1,?_⟩;have h2:(List.range n)[as.length]? = some k:=by rw [hl];simp
   rw [List.getElem?_range h1] at h2
   exact Option.some.inj h2
  obtain ⟨h1,rfl⟩:=hk
  have hb:∀j,j<as.length->p j=false:=fun j hj=>by
   have h2:(List.range n)[j]? = some (as[j]):=by rw [hl,List.getElem?_append_left hj];simp
   rw [List.getElem?_range (by omega)] at h2
   have h3:=has as[j] (List.getElem_mem hj)
   rw [← Option.some.inj h2] at h3
   simpa using h3
  exact g_O (fun _=>()) h1 (fun j hj=>by rw [h j (by omega) (fun i hi=>hb i (by omega)),hb j hj];rfl) (by rw [h _ h1 hb,if_pos hp])
theorem r_V {α:Type}(l:List α)(p:α->Bool)(q:Nat->Bool)(h:∀k (hk:k<l.length),q k=p l[k]):(List.range l.length).any q=l.any p:=by
 rw [Bool.eq_iff_iff]
 simp only [List.any_eq_true,List.mem_range]
 constructor
 ·rintro ⟨k,hk,hq⟩;exact ⟨l[k],List.getElem_mem hk,by rw [← h k hk];exact hq⟩
 ·rintro ⟨x,hx,hp⟩;obtain ⟨k,hk,rfl⟩:=List.getElem_of_mem hx;exact ⟨k,hk,by rw [h k hk];exact hp⟩
theorem e_3 {body:Nat->Unit->Option (Out Unit ρ)}{n:Nat}(p:Nat->Bool)(r:ρ)(h:∀k,k<n->(∀j,j<k->p j=false)->body k ()=some (if p k=true then .ret r else .next ())) :
  v_ body n 0 ()=some (if (List.range n).any p=true then .inr r else .inl ()):=by
 rw [f_u p (fun _=>r) h]
 cases hf:(List.range n).find? p with
 | none =>
  have:(List.range n).any p=false:=by
   rw [List.any_eq_false];exact fun x hx=>by simpa using List.find?_eq_none.1 hf x hx
  rw [this];rfl
 | some k =>
  have:(List.range n).any p=true:=List.any_eq_true.2 ⟨k,List.mem_of_find?_eq_some hf,List.find?_some hf⟩
  rw [this];rfl
theorem c_F {α:Type}{body:Nat->Unit->Option (Out Unit ρ)}{l:List α}(p:α->Bool)(r:ρ)(h:∀k (hk:k<l.length),body k ()=some (if p l[k]=true then .ret r else .next ())) :
  v_ body l.length 0 ()=some (if l.any p=true then .inr r else .inl ()):=by
 rw [e_3 (fun k=>if hk:k<l.length then p l[k] else false) r (fun k hk _=>by rw [dif_pos hk];exact h k hk)]
 rw [r_V l p _ (fun k hk=>by rw [dif_pos hk])]
theorem iter_brk' {step:σ->Option (Out σ ρ)}(st:Nat->σ){s:σ}:∀m k j0,k<=j0->j0<k+m->(∀j,k<=j->j<j0->step (st j)=some (.next<|st<|j+1))->step (st j0)=some (.brk s)->a_j step m (st k)=some (.inl s)
 | 0,k,j0,a,b,_,_=>by omega
 | m+1,k,j0,a,b,h,hr=>by
  unfold a_j
  by_cases hk:k=j0
  ·subst hk;rw [hr]
  ·rw [h k (Nat.le_refl _) (by omega)]
   exact iter_brk' st m (k+1) j0 (by omega) (by omega) (fun j c d=>h j (by omega) d) hr
theorem n_C {step:σ->Option (Out σ ρ)}(st:Nat->σ){s:σ}{m j0:Nat}(G:j0<m)(h:∀j,j<j0->step (st j)=some (.next<|st<|j+1))(hr:step (st j0)=some (.brk s)):a_j step m (st 0)=some (.inl s) :=
 iter_brk' st m 0 j0 (by omega) (by omega) (fun j _ b=>h j b) hr
theorem iter_ret' {step:σ->Option (Out σ ρ)}(st:Nat->σ){r:ρ}:∀m k j0,k<=j0->j0<k+m->(∀j,k<=j->j<j0->step (st j)=some (.next<|st<|j+1))->step (st j0)=some (.ret r)->a_j step m (st k)=some (.inr r)
 | 0,k,j0,a,b,_,_=>by omega
 | m+1,k,j0,a,b,h,hr=>by
  unfold a_j
  by_cases hk:k=j0
  ·subst hk;rw [hr]
  ·rw [h k (Nat.le_refl _) (by omega)]
   exact iter_ret' st m (k+1) j0 (by omega) (by omega) (fun j c d=>h j (by omega) d) hr
theorem l_6 {step:σ->Option (Out σ ρ)}(st:Nat->σ){r:ρ}{m j0:Nat}(G:j0<m)(h:∀j,j<j0->step (st j)=some (.next<|st<|j+1))(hr:step (st j0)=some (.ret r)):a_j step m (st 0)=some (.inr r) :=
 iter_ret' st m 0 j0 (by omega) (by omega) (fun j _ b=>h j b) hr
end
theorem n_D {s:Str}{p:Nat}(h:p<s.b.length)(ha:s.b[p].toNat<128):dec s p=((s.b[p].toNat:Int),1):=by
 have hq:p<(⟨s.b.toArray⟩:ByteArray).size:=by simpa [ByteArray.size] using h
 have hb:(⟨s.b.toArray⟩:ByteArray)[p]'hq=s.b[p]:=rfl;unfold dec
 rw [decode_ascii _ p hq (by rw [hb];exact ha),hb]
theorem r_W {s:Str}{p:Nat}(h:p<s.b.length)(ha:128<=s.b[p].toNat):128<=(dec s p).1:=by
 have hq:p<(⟨s.b.toArray⟩:ByteArray).size:=by simpa [ByteArray.size] using h
 have hb:(⟨s.b.toArray⟩:ByteArray)[p]'hq=s.b[p]:=rfl;unfold dec;have:=(decode_high _ p hq (by rw [hb];exact ha)).1
 simp only
 omega
abbrev bF_:=@Bool.false_eq_true
abbrev dT_:=@decide_eq_true
abbrev dF_:=@decide_eq_false
abbrev bQ_:=@beq_self_eq_true
abbrev mT_:=@List.mem_cons_of_mem
abbrev mS_:=@List.mem_cons_self
abbrev gE_:=@List.getElem_mem
abbrev oI_:=@Option.some.injEq
abbrev gG_:=@List.getElem?_eq_getElem
abbrev gD_:=@List.getD_eq_getElem?_getD
abbrev aE_:=@Bool.and_eq_true
abbrev dE_:=@decide_eq_true_eq
abbrev tN_:=@Int.toNat_natCast
abbrev gS_:=@List.getElem?_eq_some_iff
abbrev iP_:=@if_pos
abbrev iN_:=@if_neg
abbrev fF_:=@if_false
abbrev fT_:=@if_true
abbrev gN_:=@List.getElem?_eq_none
abbrev nT_:=@Bool.not_true
abbrev ix_:=@l_5
abbrev ia_:=@r_R
abbrev lC_:=@List.length_cons
abbrev bN_:=@bne_self_eq_false
abbrev dC_:=@List.drop_eq_getElem_cons
end Go.Vw
