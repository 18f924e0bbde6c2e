/- Texts of this claim, put together. -/
import Derived.Test.YtnncfaaebnkcbaaGreatDoorVmA
import Derived.Laws.CopyRow
import Derived.Laws.IdiomStrings
import Derived.Lib.AppendStr
import Derived.Lib.Join
import Derived.Carry
import Derived.Deep.DeepHandedRow
import Derived.WalkKit
import Derived.ProofKit
import Derived.OpenShut
import Derived.Laws.RangeAny
set_option linter.unusedVariables false
namespace Go.Vw
def f_K (x1:List UInt8)(x2:Int):Option Int :=
 if (decide<|(q_ x2 (x1.length:Int))<0)=true then some (-1) else some (q_ x2 (x1.length:Int))
def g_T (x1:List Str)(x2:Int):Option Int :=
 if (decide<|(q_ x2 (x1.length:Int))<0)=true then some (-1) else bd (w_ (σ:=Int) (ρ:=Int) (fun I=>(fun G=>bd (idx x1 (I:Int)) fun H=>if (decide<|(q_ G (H.b.length:Int))<0)=true then some (.ret (-1)) else some (.next<|q_ G (H.b.length:Int)))) x1.length 0<|q_ x2 (x1.length:Int)) (el (fun G=>some G)<|fun J=>some J)
def g_U (x1:List Int)(x2:Int):Option Int :=
 if (decide<|(q_ x2 (x1.length:Int))<0)=true then some (-1) else some (q_ x2 (x1.length:Int))
def f_L (x1:b_)(x2:Int):Option Int :=
 if (decide<|(q_ x2 (x1.name.b.length:Int))<0)=true then some (-1) else bd (f_K x1.bytes<|q_ x2 (x1.name.b.length:Int)) fun G=>if (decide<|G<0)=true then some (-1) else bd (g_T x1.names G) fun H=>if (decide<|H<0)=true then some (-1) else bd (g_U x1.tags H) fun I=>if (decide<|I<0)=true then some (-1) else bd (g_U x1.kids I) fun J=>if (decide<|J<0)=true then some (-1) else some J
def i_T (x1:List b_)(x2:Int):Option Int :=
 if (decide<|(q_ x2 (x1.length:Int))<0)=true then some (-1) else bd (w_ (σ:=Int) (ρ:=Int) (fun I=>(fun G=>bd (idx x1 (I:Int)) fun J=>bd (f_L J G) fun H=>if (decide<|H<0)=true then some (.ret (-1)) else some (.next H))) x1.length 0<|q_ x2 (x1.length:Int)) (el (fun G=>some G)<|fun L=>some L)
def g_V (x1:f_)(x2:Int):Option Int :=
 bd (i_T x1.rules x2) fun G=>if (decide<|G<0)=true then some (-1) else some G
def d_j (x1:List UInt8):Option (List UInt8) :=
 bd (mk0 (0:UInt8) (x1.length:Int)) fun I=>bd (w_ (σ:=List UInt8) (ρ:=List UInt8) (fun H=>(fun G=>bd (idx x1 (H:Int)) fun J=>bd (upd G (H:Int) J) fun L=>some<|.next L)) x1.length 0 I)<|el (fun G=>some G)<|fun O=>some O
def g_W (x1:List Str):Option (List Str) :=
 bd (mk0 (⟨[]⟩:Str) (x1.length:Int)) fun I=>bd (w_ (σ:=List Str) (ρ:=List Str) (fun H=>(fun G=>bd (idx x1 (H:Int)) fun J=>bd (upd G (H:Int) J) fun L=>some<|.next L)) x1.length 0 I)<|el (fun G=>some G)<|fun O=>some O
def f_M (x1:List Int):Option (List Int) :=
 bd (mk0 0 (x1.length:Int)) fun I=>bd (w_ (σ:=List Int) (ρ:=List Int) (fun H=>(fun G=>bd (idx x1 (H:Int)) fun J=>bd (upd G (H:Int) J) fun L=>some<|.next L)) x1.length 0 I)<|el (fun G=>some G)<|fun O=>some O
def g_X (x1:b_):Option b_ :=
 bd (d_j x1.bytes) fun G=>bd (g_W x1.names) fun H=>bd (f_M x1.tags) fun I=>bd (f_M x1.kids) fun J=>some (⟨x1.name,x1.kind,x1.size,x1.little,G,H,I,J⟩:b_)
def i_U (x1:List b_):Option (List b_) :=
 bd (mk0 (⟨(⟨[]⟩:Str),0,0,false,([]:List UInt8),([]:List Str),([]:List Int),([]:List Int)⟩:b_) (x1.length:Int)) fun I=>bd (w_ (σ:=List b_) (ρ:=List b_) (fun H=>(fun G=>bd (idx x1 (H:Int)) fun J=>bd (g_X J) fun L=>bd (upd G (H:Int) L) fun O=>some<|.next O)) x1.length 0 I)<|el (fun G=>some G)<|fun V=>some V
def e_f (x1:f_):Option f_ :=
 bd (i_U x1.rules) fun G=>some (⟨G⟩:f_)
def g_Y (n:Nat)(x1:Str)(x2:UInt8):Option (List Str) :=
 bd (H_ (σ:=(List Str)×Int×Int) (ρ:=List Str) (un3 fun H I G=>if (decide<|G<=(x1.b.length:Int))=true then bd (α:=Bool) (if (G==(x1.b.length:Int))=true then some true else bd (idx x1.b G) fun J=>some<|(byteI J)==(byteI x2)) (fun L=>bd (α:=(List Str)×Int) (if L=true then bd (b_u x1 I G) fun O=>bd (psh H O) fun V=>some (V,i_ G 1) else some (H,I))<|un2 fun W Y=>some<|.next (W,Y,i_ G 1)) else some (.brk (H,I,G))) n (([]:List Str),0,0)) (el (un3 fun H I G=>some H)<|fun a0=>some a0)
def a_L (x1:Int)(x2:Int)(x3:Int):Option Bool :=
 bd (α:=Bool) (if (decide<|x2<=x1)=true then some (decide<|x1<=x3) else some false) (fun G=>some G)
def f_4 (x1:Str):Option Bool :=
 bd (w_ (σ:=Unit) (ρ:=Bool) (fun k10=>(fun (_:Unit)=>bd (α:=Bool) (bd (idx x1.b (k10:Int)) fun G=>if (decide<|(byteI (97:UInt8))<=(byteI G))=true then bd (idx x1.b (k10:Int)) fun H=>some (decide<|(byteI H)<=(byteI (122:UInt8))) else some false) (fun I=>bd (α:=Bool) (bd (idx x1.b (k10:Int)) fun J=>if (decide<|(byteI (48:UInt8))<=(byteI J))=true then bd (idx x1.b (k10:Int)) fun L=>some (decide<|(byteI L)<=(byteI (57:UInt8))) else some false) (fun O=>bd (α:=Bool) (if (!I)=true then if (!O)=true then some true else some ((k10:Int)==0) else some false) (fun V=>if V=true then some (.ret false) else some (.next ())))))) x1.b.length 0 ()) (el (fun (_:Unit)=>bd (a_L (x1.b.length:Int) 1 12) fun W=>some W)<|fun Y=>some Y)
def c_R (n:Nat)(x1:Int):Option Str :=
 if (x1==0)=true then some (⟨[48]⟩:Str) else bd (H_ (σ:=Str×Int) (ρ:=Str) (un2 fun H G=>if (G != 0)=true then bd (α:=Int) (if (decide<|(a_R G 10)<0)=true then some (f_s<|a_R G 10) else some (a_R G 10)) (fun I=>bd (cat (⟨[mkB (i_ 48 I)]⟩:Str) H) fun J=>some<|.next (J,c_B G 10)) else some (.brk (H,G))) n ((⟨[]⟩:Str),x1)) (el (un2 fun H G=>if (decide<|x1<0)=true then bd (cat (⟨[45]⟩:Str) H) fun L=>some L else some H)<|fun O=>some O)
def g_Z (n:Nat)(x1:Str):Option (Int×Bool) :=
 bd (a_L (x1.b.length:Int) 1 13) fun I=>if (!I)=true then some (0,false) else bd (w_ (σ:=Int) (ρ:=Int×Bool) (fun H=>(fun G=>bd (idx x1.b (H:Int)) fun J=>bd (a_L (byteI J) 48 57) fun L=>if (!L)=true then some (.ret (0,false)) else bd (idx x1.b (H:Int)) fun O=>some<|.next<|i_ (a_m 10 G)<|byteI<|mkB<|byteI O - byteI (48:UInt8))) x1.b.length 0 0) (el (fun G=>bd (α:=Bool) (if (decide<|1000000000000<G)=true then some true else bd (c_R n G) fun V=>some<|V.b != x1.b) (fun W=>if W=true then some (0,false) else some (G,true)))<|fun Y=>some Y)
def f_5 (n:Nat)(x1:Str):Option Bool :=
 bd (α:=Bool) (bd (f_4 x1) fun G=>if G=true then some true else if (x1.b==(⟨[42]⟩:Str).b)=true then some true else if (x1.b==(⟨[63]⟩:Str).b)=true then some true else some (x1.b==(⟨[43]⟩:Str).b)) (fun H=>if H=true then some true else bd2 (g_Z n x1) fun I J=>bd (α:=Bool) (if J=true then bd (c_R n I) fun L=>some (L.b==x1.b) else some false)<|fun O=>some O)
def f_N (n:Nat)(x1:Str):Option ((List Str)×Bool) :=
 if (x1.b==(⟨[]⟩:Str).b)=true then some (([]:List Str),true) else bd (g_Y n x1 (47:UInt8)) fun G=>bd (idx G 0) fun I=>if (I.b != (⟨[]⟩:Str).b)=true then some (([]:List Str),false) else bd (H_ (σ:=Int) (ρ:=(List Str)×Bool) (fun H=>if (decide<|H<(G.length:Int))=true then bd (idx G H) fun J=>bd (f_5 n J) fun L=>if (!L)=true then some (.ret (([]:List Str),false)) else some (.next<|i_ H 1) else some (.brk H)) n 1) (el (fun H=>bd (slc G 1 (G.length:Int)) fun O=>some (O,decide<|1<(G.length:Int)))<|fun V=>some V)
def c_i (x1:b_)(x2:Bool)(x3:Bool)(x4:Bool)(x5:Bool)(x6:Int):Option Bool :=
 bd (α:=Bool) (bd (α:=Bool) (if x2=true then some true else some (x1.size==0)) fun G=>bd (α:=Bool) (if G=true then if x3=true then some true else some ((x1.bytes.length:Int)==0) else some false) fun H=>bd (α:=Bool) (if H=true then if x4=true then some true else some ((x1.names.length:Int)==0) else some false) fun I=>bd (α:=Bool) (if I=true then if x5=true then some true else some ((x1.tags.length:Int)==0) else some false) fun J=>bd (α:=Bool) (if J=true then if (decide<|x6<0)=true then some true else some ((x1.kids.length:Int)==x6) else some false) fun L=>if L=true then if (!x1.little)=true then some true else some (x1.kind==1) else some false) (fun O=>some O)
def d_E (x1:Int):Option Int :=
 bd (nn<|a_m 8 x1) fun G=>some<|b_j .i64 1<|a_m 8 x1
def d_F (x1:f_)(x2:Int):Option Int :=
 bd (α:=Bool) (bd (a_L x2 0<|q_ (x1.rules.length:Int) 1) fun G=>if (!G)=true then some true else bd (idx x1.rules x2) fun H=>if (H.kind != 1)=true then some true else bd (idx x1.rules x2) fun I=>bd (a_L I.size 1 4) fun J=>some (!J)) (fun L=>if L=true then some (-1) else bd (idx x1.rules x2) fun O=>bd (d_E O.size) fun V=>some<|q_ V 1)
def h_0 (x1:List Str)(x2:Str):Option Bool :=
 bd (w_ (σ:=Unit) (ρ:=Bool) (fun k10=>(fun (_:Unit)=>bd (idx x1 (k10:Int)) fun G=>if (G.b==x2.b)=true then some (.ret true) else some (.next ()))) x1.length 0 ()) (el (fun (_:Unit)=>some false)<|fun H=>some H)
def h_1 (x1:List Str):Option Bool :=
 bd (w_ (σ:=Unit) (ρ:=Bool) (fun k10=>(fun (_:Unit)=>bd (α:=Bool) (bd (idx x1 (k10:Int)) fun G=>bd (f_4 G) fun H=>if (!H)=true then some true else bd (slc x1 0 (k10:Int)) fun I=>bd (idx x1 (k10:Int)) fun J=>bd (h_0 I J) fun L=>some L) (fun O=>if O=true then some (.ret false) else some (.next ())))) x1.length 0 ()) (el (fun (_:Unit)=>bd (a_L (x1.length:Int) 1 8) fun V=>some V)<|fun W=>some W)
def h_2 (x1:f_)(x2:b_):Option Bool :=
 bd (α:=Bool) (if ((x2.kids.length:Int) != (i_ (x2.tags.length:Int) 1))=true then some true else bd (a_L (x2.tags.length:Int) 1 8) fun G=>some (!G)) (fun H=>if H=true then some false else bd (w_ (σ:=Unit) (ρ:=Bool) (fun k10=>(fun (_:Unit)=>bd (α:=Bool) (bd (idx x2.tags (k10:Int)) fun I=>bd (idx x2.kids 0) fun J=>bd (d_F x1 J) fun L=>bd (a_L I 0 L) fun O=>if (!O)=true then some true else if (decide<|0<(k10:Int))=true then bd (idx x2.tags<|q_ (k10:Int) 1) fun V=>bd (idx x2.tags (k10:Int)) fun W=>some (decide<|W<=V) else some false) (fun Y=>if Y=true then some (.ret false) else some (.next ())))) x2.tags.length 0 ()) (el (fun (_:Unit)=>some true)<|fun a0=>some a0))
def h_3 (x1:f_)(x2:b_):Option Bool :=
 if (x2.kind==1)=true then bd (α:=Bool) (bd (c_i x2 true false false false 0) fun G=>if G=true then bd (a_L x2.size 1 4) fun H=>if H=true then if (!x2.little)=true then some true else some (decide<|1<x2.size) else some false else some false) (fun I=>some I) else if (x2.kind==2)=true then bd (α:=Bool) (bd (c_i x2 false true false false 0) fun J=>if J=true then bd (a_L (x2.bytes.length:Int) 1 16) fun L=>some L else some false) (fun O=>some O) else if (x2.kind==3)=true then bd (α:=Bool) (bd (c_i x2 true false false false 0) fun V=>if V=true then bd (a_L x2.size 1 64) fun W=>some W else some false) (fun Y=>some Y) else if (x2.kind==4)=true then bd (α:=Bool) (bd (c_i x2 false false false false 1) fun a0=>if a0=true then bd (idx x2.kids 0) fun a1=>bd (d_F x1 a1) fun a2=>some (decide<|0<a2) else some false) (fun a3=>some a3) else if (x2.kind==5)=true then bd (α:=Bool) (bd (c_i x2 false false false false 2) fun a4=>if a4=true then bd (idx x2.kids 0) fun a5=>bd (d_F x1 a5) fun a6=>some (decide<|0<a6) else some false) (fun a7=>some a7) else if (x2.kind==6)=true then bd (α:=Bool) (bd (c_i x2 false false true false (x2.names.length:Int)) fun a8=>if a8=true then bd (h_1 x2.names) fun a9=>some a9 else some false) (fun aa=>some aa) else if (x2.kind==7)=true then bd (α:=Bool) (bd (c_i x2 false false false true (-1)) fun ab=>if ab=true then bd (h_2 x1 x2) fun ad=>some ad else some false) (fun ae=>some ae) else bd (α:=Bool) (if (x2.kind==8)=true then some (x2.kind==8) else some (x2.kind==9)) (fun af=>if af=true then bd (c_i x2 false false false false 1) fun ah=>some ah else if (x2.kind==10)=true then bd (α:=Bool) (bd (c_i x2 false true false false 0) fun ai=>if ai=true then if ((x2.bytes.length:Int)==1)=true then bd (idx x2.bytes 0) fun aj=>some ((byteI aj) != (byteI (92:UInt8))) else some false else some false) (fun ak=>some ak) else some false)
def h_4 (x1:f_)(x2:Int):Option Bool :=
 bd (a_L x2 0<|q_ (x1.rules.length:Int) 1) fun H=>if (!H)=true then some false else bd (idx x1.rules x2) fun G=>bd (w_ (σ:=Unit) (ρ:=Bool) (fun I=>(fun (_:Unit)=>bd (idx x1.rules (I:Int)) fun J=>if (J.name.b==G.name.b)=true then some (.ret false) else some (.next ()))) x2.toNat 0 ()) (el (fun (_:Unit)=>bd (w_ (σ:=Unit) (ρ:=Bool) (fun L=>(fun (_:Unit)=>bd (idx G.kids (L:Int)) fun O=>bd (a_L O 0<|q_ x2 1) fun V=>if (!V)=true then some (.ret false) else some (.next ()))) G.kids.length 0 ()) (el (fun (_:Unit)=>bd (α:=Bool) (bd (f_4 G.name) fun W=>if W=true then bd (h_3 x1 G) fun Y=>some Y else some false)<|fun a0=>some a0)<|fun a1=>some a1))<|fun a2=>some a2)
def h_5 (x1:f_):Option Bool :=
 bd (w_ (σ:=Unit) (ρ:=Bool) (fun k10=>(fun (_:Unit)=>bd (h_4 x1 (k10:Int)) fun G=>if (!G)=true then some (.ret false) else some (.next ()))) x1.rules.length 0 ()) (el (fun (_:Unit)=>bd (a_L (x1.rules.length:Int) 1 24) fun H=>some H)<|fun I=>some I)
def e_g (x1:f_):Option Int :=
 some (q_ (x1.rules.length:Int) 1)
def h_6 (x1:List UInt8)(x2:Bool):Option Int :=
 if (decide<|4<(x1.length:Int))=true then some 0 else bd (w_ (σ:=Int) (ρ:=Int) (fun H=>(fun G=>bd (α:=Int) (if x2=true then some (q_ (q_ (x1.length:Int) 1) (H:Int)) else some (H:Int))<|fun I=>bd (idx x1 I) fun J=>some<|.next<|i_ (a_m G 256)<|byteI J)) x1.length 0 0) (el (fun G=>some G)<|fun L=>some L)
def f_6 (x1:f_)(x2:Int)(x3:List UInt8)(x4:Int):Option (Int×Int×Bool) :=
 bd (idx x1.rules x2) fun G=>if (decide<|(q_ (x3.length:Int) x4)<G.size)=true then some (0,x4,false) else bd (slc x3 x4<|i_ x4 G.size) fun H=>bd (h_6 H G.little) fun I=>some (I,i_ x4 G.size,true)
def b_d (x1:b_)(x2:Int)(x3:Int):Option Int :=
 if (x1.kind==5)=true then bd (idx x1.kids 1) fun G=>some G else bd (α:=Sum Unit Int) (if (x1.kind==6)=true then if (decide<|x3<(x1.kids.length:Int))=true then bd (idx x1.kids x3) fun H=>some (.inr H) else some (.inl ()) else bd (α:=Sum Unit<|Sum Unit Int) (if (x1.kind==7)=true then bd (w_ (σ:=Unit) (ρ:=Int) (fun k10=>(fun (_:Unit)=>bd (idx x1.tags (k10:Int)) fun I=>if (I==x2)=true then bd (idx x1.kids ((k10+1:Nat):Int)) fun J=>some (.ret J) else some (.next ()))) x1.tags.length 0 ()) (el (fun (_:Unit)=>some<|.inl ())<|fun L=>some<|.inr<|.inr L) else bd (α:=Bool) (if (x1.kind==8)=true then some (x1.kind==8) else some (x1.kind==9)) (fun O=>if O=true then bd (idx x1.kids 0) fun V=>some (.inr<|.inr V) else some (.inl ()))) (el (fun (_:Unit)=>some<|.inl ()) some)) (el (fun (_:Unit)=>some (-1)) some)
def e_h (n:Nat)(x1:b_)(x2:Int):Option Str :=
 if (x1.kind==5)=true then bd (c_R n x2) fun G=>some G else bd (α:=Bool) (if (x1.kind==6)=true then some (decide<|x2<(x1.names.length:Int)) else some false) (fun H=>if H=true then bd (idx x1.names x2) fun I=>some I else bd (α:=Bool) (if (x1.kind==7)=true then some (x2==0) else some false) (fun J=>if J=true then some (⟨[42]⟩:Str) else bd (α:=Bool) (if (x1.kind==8)=true then some (x2==0) else some false) (fun L=>if L=true then some (⟨[63]⟩:Str) else bd (α:=Bool) (if (x1.kind==9)=true then some (x2==0) else some false) (fun O=>if O=true then some (⟨[43]⟩:Str) else some (⟨[]⟩:Str)))))
def h_7 (x1:b_)(x2:List UInt8)(x3:Int):Option (Val×Int×Int) :=
 bd (w_ (σ:=Unit) (ρ:=Val×Int×Int) (fun k10=>(fun (_:Unit)=>if (decide<|(x2.length:Int)<=(i_ x3 (k10:Int)))=true then some (.ret ((⟨0,([]:List UInt8),([]:List Val)⟩:Val),x3,1)) else bd (idx x2<|i_ x3 (k10:Int)) fun G=>bd (idx x1.bytes (k10:Int)) fun H=>if ((byteI G) != (byteI H))=true then some (.ret ((⟨0,([]:List UInt8),([]:List Val)⟩:Val),i_ x3 (k10:Int),2)) else some (.next ()))) x1.bytes.length 0 ()) (el (fun (_:Unit)=>some ((⟨0,([]:List UInt8),([]:List Val)⟩:Val),i_ x3 (x1.bytes.length:Int),0))<|fun I=>some I)
def f_O (x1:List UInt8)(x2:Int)(x3:Int):Option (Val×Int×Int) :=
 if (decide<|(q_ (x1.length:Int) x2)<x3)=true then some ((⟨0,([]:List UInt8),([]:List Val)⟩:Val),x2,1) else bd (slc x1 x2<|i_ x2 x3) fun G=>bd (app ([]:List UInt8) G) fun H=>some ((⟨0,H,([]:List Val)⟩:Val),i_ x2 x3,0)
def h_8 (n:Nat)(x1:List UInt8)(x2:Int)(x3:UInt8):Option ((List UInt8)×Int×Bool) :=
 bd (H_ (σ:=(List UInt8)×Int) (ρ:=(List UInt8)×Int×Bool) (un2 fun H G=>bd (α:=Bool) (bd (a_L x2 0 (x1.length:Int)) fun J=>if J=true then some (decide<|G<(x1.length:Int)) else some false) (fun L=>if L=true then bd (idx x1 G) fun O=>if ((byteI O)==(byteI x3))=true then some (.ret (H,i_ G 1,true)) else bd (idx x1 G) fun V=>bd (α:=Sum Int<|Out ((List UInt8)×Int)<|(List UInt8)×Int×Bool) (if ((byteI V)==(byteI (92:UInt8)))=true then if ((i_ G 1)==(x1.length:Int))=true then some (.inr<|.brk (H,i_ G 1)) else some (.inl<|i_ G 1) else some (.inl G)) (el (fun I=>bd (idx x1 I) fun W=>bd (psh H W) fun Y=>some<|.next (Y,i_ I 1)) some) else some (.brk (H,G)))) n (([]:List UInt8),x2)) (el (un2 fun H G=>some (([]:List UInt8),x2,false))<|fun a0=>some a0)
def f_P (x1:List UInt8):Option Int :=
 bd (w_ (σ:=Int) (ρ:=Int) (fun H=>(fun G=>bd (idx x1 (H:Int)) fun I=>some<|.next<|a_R (i_ G<|byteI I) 256)) x1.length 0 0) (el (fun G=>some G)<|fun J=>some J)
structure f_Q where
 spec_l11Read:f_->Int->(List UInt8)->Int->Option (Val×Int×Int)
 spec_l11Items:f_->b_->Int->Int->(List UInt8)->Int->Option (Val×Int×Int)
 spec_l11Choice:f_->b_->(List UInt8)->Int->Option (Val×Int×Int)
 spec_l11Option:f_->b_->(List UInt8)->Int->Option (Val×Int×Int)
 spec_l11Checked:f_->b_->(List UInt8)->Int->Option (Val×Int×Int)
def h_9 (n:Nat)(rec:f_Q)(x1:f_)(x2:Int)(x3:List UInt8)(x4:Int):Option (Val×Int×Int) :=
 bd (idx x1.rules x2) fun G=>if (G.kind==1)=true then bd3 (f_6 x1 x2 x3 x4) fun J L O=>if (!O)=true then some ((⟨0,([]:List UInt8),([]:List Val)⟩:Val),x4,1) else some ((⟨J,([]:List UInt8),([]:List Val)⟩:Val),L,0) else if (G.kind==2)=true then bd3 (h_7 G x3 x4) fun V W Y=>some (V,W,Y) else if (G.kind==3)=true then bd3 (f_O x3 x4 G.size) fun a0 a1 a2=>some (a0,a1,a2) else if (G.kind==10)=true then bd (idx G.bytes 0) fun a3=>bd3 (h_8 n x3 x4 a3) fun a4 a5 a6=>if (!a6)=true then some ((⟨0,([]:List UInt8),([]:List Val)⟩:Val),x4,1) else some ((⟨0,a4,([]:List Val)⟩:Val),a5,0) else if (G.kind==6)=true then bd3 (rec.spec_l11Items x1 G 0 (G.kids.length:Int) x3 x4) fun a7 a8 a9=>some (a7,a8,a9) else if (G.kind==7)=true then bd3 (rec.spec_l11Choice x1 G x3 x4) fun aa ab ad=>some (aa,ab,ad) else if (G.kind==8)=true then bd3 (rec.spec_l11Option x1 G x3 x4) fun ae af ah=>some (ae,af,ah) else if (G.kind==9)=true then bd3 (rec.spec_l11Checked x1 G x3 x4) fun ai aj ak=>some (ai,aj,ak) else bd (idx G.kids 0) fun al=>bd3 (f_6 x1 al x3 x4) fun H I am=>if (!am)=true then some ((⟨0,([]:List UInt8),([]:List Val)⟩:Val),x4,1) else if (G.kind==4)=true then bd3 (f_O x3 I H) fun an ao ap=>some (an,ao,ap) else if (decide<|40<H)=true then some ((⟨0,([]:List UInt8),([]:List Val)⟩:Val),x4,6) else bd3 (rec.spec_l11Items x1 G 0 H x3 I) fun aq ar au=>some (aq,ar,au)
def h_a (n:Nat)(rec:f_Q)(x1:f_)(x2:b_)(x3:Int)(x4:Int)(x5:List UInt8)(x6:Int):Option (Val×Int×Int) :=
 bd (w_ (σ:=Int×(List Val)) (ρ:=Val×Int×Int) (fun O=>un2 fun G H=>bd (α:=Int×(List UInt8)×(List Val)×Int×Int) (bd (b_d x2 x3 (O:Int)) fun V=>bd3 (rec.spec_l11Read x1 V x5 G) fun I W Y=>some (I.number,I.bytes,I.items,W,Y)) (un5 fun a0 a1 a2 J L=>if (L != 0)=true then some (.ret ((⟨0,([]:List UInt8),([]:List Val)⟩:Val),J,L)) else bd (psh H (⟨a0,a1,a2⟩:Val)) fun a3=>some<|.next (J,a3))) x4.toNat 0 (x6,([]:List Val))) (el (un2 fun G H=>some ((⟨0,([]:List UInt8),H⟩:Val),G,0))<|fun a4=>some a4)
def h_b (n:Nat)(rec:f_Q)(x1:f_)(x2:b_)(x3:List UInt8)(x4:Int):Option (Val×Int×Int) :=
 bd (idx x2.kids 0) fun J=>bd3 (f_6 x1 J x3 x4) fun G L O=>if (!O)=true then some ((⟨0,([]:List UInt8),([]:List Val)⟩:Val),x4,1) else bd (b_d x2 G 0) fun V=>if (decide<|V<0)=true then some ((⟨0,([]:List UInt8),([]:List Val)⟩:Val),x4,3) else bd3 (rec.spec_l11Items x1 x2 G 1 x3 L) fun H W I=>bd (α:=Int) (if (I==0)=true then some G else some H.number)<|fun Y=>some ((⟨Y,H.bytes,H.items⟩:Val),W,I)
def h_c (n:Nat)(rec:f_Q)(x1:f_)(x2:b_)(x3:List UInt8)(x4:Int):Option (Val×Int×Int) :=
 if (decide<|(x3.length:Int)<=x4)=true then some ((⟨0,([]:List UInt8),([]:List Val)⟩:Val),x4,1) else bd (idx x3 x4) fun G=>if (decide<|(byteI (1:UInt8))<(byteI G))=true then some ((⟨0,([]:List UInt8),([]:List Val)⟩:Val),x4,4) else bd (idx x3 x4) fun H=>bd3 (rec.spec_l11Items x1 x2 0 (byteI H) x3<|i_ x4 1) fun I J L=>some (I,J,L)
def h_d (n:Nat)(rec:f_Q)(x1:f_)(x2:b_)(x3:List UInt8)(x4:Int):Option (Val×Int×Int) :=
 bd3 (rec.spec_l11Items x1 x2 0 1 x3 x4) fun H G I=>if (I != 0)=true then some (H,G,I) else if (decide<|(x3.length:Int)<=G)=true then some ((⟨0,([]:List UInt8),([]:List Val)⟩:Val),G,1) else bd (idx x3 G) fun J=>bd (slc x3 x4 G) fun L=>bd (f_P L) fun O=>if ((byteI J) != O)=true then some ((⟨0,([]:List UInt8),([]:List Val)⟩:Val),G,5) else some (H,i_ G 1,0)
def a_l:Nat->f_Q
 | 0=>⟨fun _ _ _ _=>none,fun _ _ _ _ _ _=>none,fun _ _ _ _=>none,fun _ _ _ _=>none,fun _ _ _ _=>none⟩
 | n+1=>⟨h_9 n<|a_l n,h_a n<|a_l n,h_b n<|a_l n,h_c n<|a_l n,h_d n<|a_l n⟩
def i_V (n:Nat):=(a_l n).spec_l11Read
def f_7 (n:Nat):=(a_l n).spec_l11Items
def c_S (x1:f_)(x2:Int):Option Bool :=
 bd (α:=Bool) (bd (a_L x2 0<|q_ (x1.rules.length:Int) 1) fun G=>if G=true then bd (h_5 x1) fun H=>some H else some false) (fun I=>some I)
def h_e (n:Nat)(x1:f_)(x2:Int)(x3:List UInt8)(x4:Int):Option (Val×Int×Int) :=
 bd (α:=Bool) (bd (c_S x1 x2) fun G=>if (!G)=true then some true else bd (a_L x4 0 (x3.length:Int)) fun H=>if (!H)=true then some true else some (decide<|400<(x3.length:Int))) (fun I=>if I=true then some ((⟨0,([]:List UInt8),([]:List Val)⟩:Val),0,8) else bd3 (i_V n x1 x2 x3 x4) fun J L O=>some (J,L,O))
def h_f (n:Nat)(x1:f_)(x2:List UInt8):Option (Val×Int×Int) :=
 bd (α:=Int×(List UInt8)×(List Val)×Int×Int) (bd (e_g x1) fun J=>bd3 (h_e n x1 J x2 0) fun G L O=>some (G.number,G.bytes,G.items,L,O)) (un5 fun V W Y H I=>bd (α:=Bool) (if (I==0)=true then some (decide<|H<(x2.length:Int)) else some false) (fun a0=>if a0=true then some ((⟨0,([]:List UInt8),([]:List Val)⟩:Val),H,7) else some ((⟨V,W,Y⟩:Val),H,I)))
def f_R (x1:Str)(x2:UInt8):Option (List Str) :=
 bd (w_ (σ:=(List Str)×Int) (ρ:=List Str) (fun I=>un2 fun G H=>bd (idx x1.b (I:Int)) fun J=>bd (α:=(List Str)×Int) (if ((byteI J)==(byteI x2))=true then bd (b_u x1 H (I:Int)) fun L=>bd (psh G L) fun O=>some (O,((I+1:Nat):Int)) else some (G,H))<|un2 fun V W=>some<|.next (V,W)) x1.b.length 0 (([]:List Str),0)) (el (un2 fun G H=>bd (b_u x1 H (x1.b.length:Int)) fun Y=>bd (psh G Y) fun a0=>some a0)<|fun a1=>some a1)
def e_i (n:Nat)(x1:Str):Option Bool :=
 bd (α:=Bool) (if (decide<|(x1.b.length:Int)<1)=true then some true else some (decide<|12<(x1.b.length:Int))) (fun H=>if H=true then some false else bd (H_ (σ:=Nat) (ρ:=Bool) (fun G=>if (decide<|G<x1.b.length)=true then bd (α:=Bool) (if (decide<|97<=((dec x1 G).1))=true then some (decide<|((dec x1 G).1)<=122) else some false) (fun I=>bd (α:=Bool) (if (decide<|48<=((dec x1 G).1))=true then some (decide<|((dec x1 G).1)<=57) else some false) (fun J=>bd (α:=Bool) (if (!I)=true then if (!J)=true then some true else some ((G:Int)==0) else some false) (fun L=>if L=true then some (.ret false) else some (.next<|G+(dec x1 G).2)))) else some (.brk G)) n 0) (el (fun G=>some true)<|fun O=>some O))
def e_j (x1:Str):Option (Int×Bool) :=
 bd (α:=Bool) (if (x1.b==(⟨[]⟩:Str).b)=true then some true else if (decide<|13<(x1.b.length:Int))=true then some true else bd (idx x1.b 0) fun I=>if ((byteI I)==(byteI (48:UInt8)))=true then some (decide<|1<(x1.b.length:Int)) else some false) (fun J=>if J=true then some (0,false) else bd (w_ (σ:=Int) (ρ:=Int×Bool) (fun H=>(fun G=>bd (α:=Bool) (bd (idx x1.b (H:Int)) fun L=>if (decide<|(byteI L)<(byteI (48:UInt8)))=true then some true else bd (idx x1.b (H:Int)) fun O=>some<|decide<|(byteI (57:UInt8))<(byteI O)) (fun V=>if V=true then some (.ret (0,false)) else bd (idx x1.b (H:Int)) fun W=>some<|.next<|i_ (a_m 10 G)<|byteI<|mkB<|byteI W - byteI (48:UInt8)))) x1.b.length 0 0) (el (fun G=>if (decide<|1000000000000<G)=true then some (0,false) else some (G,true))<|fun Y=>some Y))
def f_8 (n:Nat)(x1:Str):Option Bool :=
 bd (α:=Bool) (bd (e_i n x1) fun G=>if G=true then some true else if (x1.b==(⟨[42]⟩:Str).b)=true then some true else if (x1.b==(⟨[63]⟩:Str).b)=true then some true else some (x1.b==(⟨[43]⟩:Str).b)) (fun H=>if H=true then some true else bd2 (e_j x1) fun J I=>some I)
def i_W (n:Nat)(x1:Str):Option ((List Str)×Bool) :=
 if (x1.b==(⟨[]⟩:Str).b)=true then some ([],true) else bd (idx x1.b 0) fun c=>if (byteI c != byteI (47:UInt8))=true then some ([],false) else bd (f_R x1 (47:UInt8)) fun l=>bd (slc l 1 (l.length:Int)) fun parts=>bd (f_J (f_8 n) parts) fun oks=>if parts.length<LIM then some (if oks.all id=true then (parts,true) else ([],false)) else none
def h_g (n:Nat)(x1:Str):Option ((List Str)×Bool) :=
 bd2 (i_W n x1) fun G H=>some (G,H)
def b_Z (x1:Int)(x2:Int)(x3:Int):Option Bool :=
 bd (α:=Bool) (if (decide<|x2<=x1)=true then some (decide<|x1<=x3) else some false) (fun G=>some G)
def e_k (x1:f_)(x2:Int):Option Bool :=
 bd (α:=Bool) (if (decide<|0<=x2)=true then some (decide<|x2<(x1.rules.length:Int)) else some false) (fun G=>some G)
def c_j (x1:b_)(x2:Bool)(x3:Bool)(x4:Bool)(x5:Bool)(x6:Int):Option Bool :=
 bd (α:=Bool) (bd (α:=Bool) (if x2=true then some true else some (x1.size==0)) fun G=>bd (α:=Bool) (if G=true then if x3=true then some true else some ((x1.bytes.length:Int)==0) else some false) fun H=>bd (α:=Bool) (if H=true then if x4=true then some true else some ((x1.names.length:Int)==0) else some false) fun I=>bd (α:=Bool) (if I=true then if x5=true then some true else some ((x1.tags.length:Int)==0) else some false) fun J=>if J=true then if (decide<|x6<0)=true then some true else some ((x1.kids.length:Int)==x6) else some false) (fun L=>some L)
def c_T (x1:f_)(x2:Int):Option Int :=
 bd (α:=Bool) (bd (e_k x1 x2) fun H=>if (!H)=true then some true else bd (idx x1.rules x2) fun I=>if (I.kind != 1)=true then some true else bd (idx x1.rules x2) fun J=>bd (b_Z J.size 1 4) fun L=>some (!L)) (fun O=>if O=true then some (-1) else bd (idx x1.rules x2) fun G=>bd (nn<|a_m 8 G.size) fun V=>some<|q_ (b_j .i64 1<|a_m 8 G.size) 1)
def f_S (x1:List Str)(x2:Str):Option Bool :=
 bd (w_ (σ:=Unit) (ρ:=Bool) (fun k10=>(fun (_:Unit)=>bd (idx x1 (k10:Int)) fun G=>if (G.b==x2.b)=true then some (.ret true) else some (.next ()))) x1.length 0 ()) (el (fun (_:Unit)=>some false)<|fun H=>some H)
def h_h (n:Nat)(x1:b_):Option Bool :=
 bd (α:=Bool) (bd (c_j x1 false false true false (-1)) fun H=>if (!H)=true then some true else if ((x1.kids.length:Int) != (x1.names.length:Int))=true then some true else bd (b_Z (x1.kids.length:Int) 1 8) fun I=>some (!I)) (fun J=>if J=true then some false else bd (w_ (σ:=Unit) (ρ:=Bool) (fun k10=>(fun (_:Unit)=>bd (idx x1.names (k10:Int)) fun G=>bd (α:=Bool) (bd (e_i n G) fun L=>if (!L)=true then some true else bd (slc x1.names 0 (k10:Int)) fun O=>bd (f_S O G) fun V=>some V) (fun W=>if W=true then some (.ret false) else some (.next ())))) x1.names.length 0 ()) (el (fun (_:Unit)=>some true)<|fun Y=>some Y))
def h_i (x1:f_)(x2:b_):Option Bool :=
 bd (α:=Bool) (bd (c_j x2 false false false true<|i_ (x2.tags.length:Int) 1) fun I=>if (!I)=true then some true else bd (b_Z (x2.tags.length:Int) 1 8) fun J=>some (!J)) (fun L=>if L=true then some false else bd (idx x2.kids 0) fun O=>bd (c_T x1 O) fun G=>bd (w_ (σ:=Unit) (ρ:=Bool) (fun k10=>(fun (_:Unit)=>bd (idx x2.tags (k10:Int)) fun H=>bd (α:=Bool) (bd (b_Z H 0 G) fun V=>if (!V)=true then some true else if (decide<|0<(k10:Int))=true then bd (idx x2.tags<|q_ (k10:Int) 1) fun W=>some (decide<|H<=W) else some false) (fun Y=>if Y=true then some (.ret false) else some (.next ())))) x2.tags.length 0 ())<|el (fun (_:Unit)=>some<|decide<|0<G)<|fun a0=>some a0)
def h_j (n:Nat)(x1:f_)(x2:b_):Option Bool :=
 if (x2.kind==1)=true then bd (α:=Bool) (bd (c_j x2 true false false false 0) fun G=>if G=true then bd (b_Z x2.size 1 4) fun H=>if H=true then if (!x2.little)=true then some true else some (decide<|1<x2.size) else some false else some false) (fun I=>some I) else if (x2.kind==2)=true then bd (α:=Bool) (bd (c_j x2 false true false false 0) fun J=>if J=true then bd (b_Z (x2.bytes.length:Int) 1 16) fun L=>some L else some false) (fun O=>some O) else if (x2.kind==3)=true then bd (α:=Bool) (bd (c_j x2 true false false false 0) fun V=>if V=true then bd (b_Z x2.size 1 64) fun W=>some W else some false) (fun Y=>some Y) else if (x2.kind==4)=true then bd (α:=Bool) (bd (c_j x2 false false false false 1) fun a0=>if a0=true then bd (idx x2.kids 0) fun a1=>bd (c_T x1 a1) fun a2=>some (decide<|0<a2) else some false) (fun a3=>some a3) else if (x2.kind==5)=true then bd (α:=Bool) (bd (c_j x2 false false false false 2) fun a4=>if a4=true then bd (idx x2.kids 0) fun a5=>bd (c_T x1 a5) fun a6=>some (decide<|0<a6) else some false) (fun a7=>some a7) else if (x2.kind==6)=true then bd (h_h n x2) fun a8=>some a8 else if (x2.kind==7)=true then bd (h_i x1 x2) fun a9=>some a9 else bd (α:=Bool) (if (x2.kind==8)=true then some (x2.kind==8) else some (x2.kind==9)) (fun aa=>if aa=true then bd (c_j x2 false false false false 1) fun ab=>some ab else if (x2.kind==10)=true then bd (α:=Bool) (bd (c_j x2 false true false false 0) fun ad=>if ad=true then if ((x2.bytes.length:Int)==1)=true then bd (idx x2.bytes 0) fun ae=>some ((byteI ae) != (byteI (92:UInt8))) else some false else some false) (fun af=>some af) else some false)
def h_k (n:Nat)(x1:f_)(x2:Int):Option Bool :=
 bd (e_k x1 x2) fun J=>if (!J)=true then some false else bd (idx x1.rules x2) fun G=>bd (α:=Bool) (bd (e_i n G.name) fun L=>if (!L)=true then some true else if G.little=true then some (G.kind != 1) else some false) (fun O=>if O=true then some false else bd (slc x1.rules 0 x2) fun H=>bd (w_ (σ:=Unit) (ρ:=Bool) (fun V=>(fun (_:Unit)=>bd (idx H (V:Int)) fun W=>if (W.name.b==G.name.b)=true then some (.ret false) else some (.next ()))) H.length 0 ()) (el (fun (_:Unit)=>bd (w_ (σ:=Unit) (ρ:=Bool) (fun Y=>(fun (_:Unit)=>bd (idx G.kids (Y:Int)) fun I=>bd (α:=Bool) (if (decide<|I<0)=true then some true else some (decide<|x2<=I)) (fun a0=>if a0=true then some (.ret false) else some (.next ())))) G.kids.length 0 ())<|el (fun (_:Unit)=>bd (h_j n x1 G) fun a1=>some a1)<|fun a2=>some a2)<|fun a3=>some a3))
def h_l (n:Nat)(x1:f_):Option Bool :=
 bd (b_Z (x1.rules.length:Int) 1 24) fun G=>if (!G)=true then some false else bd (w_ (σ:=Unit) (ρ:=Bool) (fun H=>(fun (_:Unit)=>bd (h_k n x1 (H:Int)) fun I=>if (!I)=true then some (.ret false) else some (.next ()))) x1.rules.length 0 ()) (el (fun (_:Unit)=>some true)<|fun J=>some J)
def e_l (x1:f_):Option Int :=
 some (q_ (x1.rules.length:Int) 1)
def e_m (n:Nat)(x1:f_)(x2:Int):Option Bool :=
 bd (α:=Bool) (bd (h_l n x1) fun G=>if G=true then bd (e_k x1 x2) fun H=>some H else some false) (fun I=>some I)
def h_m (x1:List UInt8)(x2:Bool):Option Int :=
 if (decide<|4<(x1.length:Int))=true then some 0 else bd (w_ (σ:=Int) (ρ:=Int) (fun H=>(fun G=>bd (α:=Int) (if x2=true then bd (idx x1<|q_ (q_ (x1.length:Int) 1) (H:Int)) fun I=>some (c_C .i64 (· ||| ·) (b_j .i64 G 8)<|byteI I) else bd (idx x1 (H:Int)) fun J=>some<|c_C .i64 (· ||| ·) (b_j .i64 G 8)<|byteI J)<|fun L=>some<|.next L)) x1.length 0 0) (el (fun G=>some G)<|fun O=>some O)
def f_9 (x1:List UInt8):Option Int :=
 bd (w_ (σ:=Int) (ρ:=Int) (fun H=>(fun G=>bd (idx x1 (H:Int)) fun I=>some<|.next<|i_ G<|byteI I)) x1.length 0 0) (el (fun G=>some<|a_R G 256)<|fun J=>some J)
def h_n (n:Nat)(x1:List UInt8)(x2:Int)(x3:UInt8):Option ((List UInt8)×Int×Bool) :=
 bd (α:=Bool) (if (decide<|x2<0)=true then some true else some (decide<|(x1.length:Int)<x2)) (fun J=>if J=true then some (([]:List UInt8),x2,false) else bd (H_ (σ:=(List UInt8)×Int) (ρ:=(List UInt8)×Int×Bool) (un2 fun H G=>if (decide<|G<(x1.length:Int))=true then bd (idx x1 G) fun L=>if ((byteI L)==(byteI x3))=true then some (.ret (H,i_ G 1,true)) else bd (idx x1 G) fun O=>bd (α:=Sum Int<|Out ((List UInt8)×Int)<|(List UInt8)×Int×Bool) (if ((byteI O)==(byteI (92:UInt8)))=true then if ((i_ G 1)==(x1.length:Int))=true then some (.inr<|.brk (H,i_ G 1)) else some (.inl<|i_ G 1) else some (.inl G)) (el (fun I=>bd (idx x1 I) fun V=>bd (psh H V) fun W=>some<|.next (W,i_ I 1)) some) else some (.brk (H,G))) n (([]:List UInt8),x2)) (el (un2 fun H G=>some (([]:List UInt8),x2,false))<|fun Y=>some Y))
def b_N (x1:Int)(x2:Int):Option (Option<|Int×Int) :=
 some (some (x1,x2))
def e_n (x1:a_u)(x2:Int)(x3:Int):Option ((List UInt8)×(Option<|Int×Int)) :=
 if (decide<|(q_ (x1.b.length:Int) x2)<x3)=true then bd (b_N x2 1) fun G=>some (([]:List UInt8),G) else bd (slc x1.b x2<|i_ x2 x3) fun H=>some (H,none)
def e_o (x1:a_u)(x2:Int)(x3:Int):Option (Int×Int×(Option<|Int×Int)) :=
 bd (idx x1.d.rules x2) fun G=>bd2 (e_n x1 x3 G.size) fun I H=>if H.isSome=true then some (0,x3,H) else bd (h_m I G.little) fun J=>some (J,i_ x3 G.size,none)
def h_o (x1:a_u)(x2:b_)(x3:Int):Option (Int×(Option<|Int×Int)) :=
 bd (w_ (σ:=Unit) (ρ:=Int×(Option<|Int×Int)) (fun k10=>(fun (_:Unit)=>bd (idx x2.bytes (k10:Int)) fun G=>if (decide<|(x1.b.length:Int)<=(i_ x3 (k10:Int)))=true then bd (b_N x3 1) fun H=>some (.ret (x3,H)) else bd (idx x1.b<|i_ x3 (k10:Int)) fun I=>if ((byteI I) != (byteI G))=true then bd (b_N (i_ x3 (k10:Int)) 2) fun J=>some (.ret (x3,J)) else some (.next ()))) x2.bytes.length 0 ()) (el (fun (_:Unit)=>some (i_ x3 (x2.bytes.length:Int),none))<|fun L=>some L)
def f_T (x1:a_u)(x2:Int)(x3:Int):Option (Val×Int×(Option<|Int×Int)) :=
 bd2 (e_n x1 x2 x3) fun H G=>if G.isSome=true then some ((⟨0,([]:List UInt8),([]:List Val)⟩:Val),x2,G) else bd (app ([]:List UInt8) H) fun I=>some ((⟨0,I,([]:List Val)⟩:Val),i_ x2 x3,none)
structure f_a where
 impl_fileReader_value:a_u->Int->Int->Option (Val×Int×(Option<|Int×Int))
 impl_fileReader_array:a_u->b_->Int->Option (Val×Int×(Option<|Int×Int))
 impl_fileReader_items:a_u->Val->(List Int)->Int->Option (Val×Int×(Option<|Int×Int))
 impl_fileReader_choice:a_u->b_->Int->Option (Val×Int×(Option<|Int×Int))
 impl_fileReader_option:a_u->b_->Int->Option (Val×Int×(Option<|Int×Int))
 impl_fileReader_checked:a_u->b_->Int->Option (Val×Int×(Option<|Int×Int))
def h_p (n:Nat)(rec:f_a)(x1:a_u)(x2:Int)(x3:Int):Option (Val×Int×(Option<|Int×Int)) :=
 bd (idx x1.d.rules x2) fun G=>if (G.kind==1)=true then bd3 (e_o x1 x2 x3) fun I J L=>some ((⟨I,([]:List UInt8),([]:List Val)⟩:Val),J,L) else if (G.kind==2)=true then bd2 (h_o x1 G x3) fun O V=>some ((⟨0,([]:List UInt8),([]:List Val)⟩:Val),O,V) else if (G.kind==3)=true then bd3 (f_T x1 x3 G.size) fun W Y a0=>some (W,Y,a0) else if (G.kind==4)=true then bd (idx G.kids 0) fun a1=>bd3 (e_o x1 a1 x3) fun a2 a3 H=>if H.isSome=true then some ((⟨0,([]:List UInt8),([]:List Val)⟩:Val),x3,H) else bd3 (f_T x1 a3 a2) fun a4 a5 a6=>some (a4,a5,a6) else if (G.kind==5)=true then bd3 (rec.impl_fileReader_array x1 G x3) fun a7 a8 a9=>some (a7,a8,a9) else if (G.kind==6)=true then bd3 (rec.impl_fileReader_items x1 (⟨0,([]:List UInt8),([]:List Val)⟩:Val) G.kids x3) fun aa ab ad=>some (aa,ab,ad) else if (G.kind==7)=true then bd3 (rec.impl_fileReader_choice x1 G x3) fun ae af ah=>some (ae,af,ah) else if (G.kind==8)=true then bd3 (rec.impl_fileReader_option x1 G x3) fun ai aj ak=>some (ai,aj,ak) else if (G.kind==9)=true then bd3 (rec.impl_fileReader_checked x1 G x3) fun al am an=>some (al,am,an) else bd (idx G.bytes 0) fun ao=>bd3 (h_n n x1.b x3 ao) fun ap aq ar=>if (!ar)=true then bd (b_N x3 1) fun au=>some ((⟨0,([]:List UInt8),([]:List Val)⟩:Val),x3,au) else some ((⟨0,ap,([]:List Val)⟩:Val),aq,none)
def h_q (n:Nat)(rec:f_a)(x1:a_u)(x2:b_)(x3:Int):Option (Val×Int×(Option<|Int×Int)) :=
 bd (idx x2.kids 0) fun L=>bd3 (e_o x1 L x3) fun H O I=>if I.isSome=true then some ((⟨0,([]:List UInt8),([]:List Val)⟩:Val),x3,I) else if (decide<|40<H)=true then bd (b_N x3 6) fun V=>some ((⟨0,([]:List UInt8),([]:List Val)⟩:Val),x3,V) else bd (mk0 0 H) fun J=>bd (w_ (σ:=List Int) (ρ:=Val×Int×(Option<|Int×Int)) (fun W=>(fun G=>bd (idx x2.kids 1) fun Y=>bd (upd G (W:Int) Y) fun a0=>some<|.next a0)) J.length 0 J)<|el (fun G=>bd3 (rec.impl_fileReader_items x1 (⟨0,([]:List UInt8),([]:List Val)⟩:Val) G O) fun a1 a2 a3=>some (a1,a2,a3))<|fun a4=>some a4
def h_r (n:Nat)(rec:f_a)(x1:a_u)(x2:Val)(x3:List Int)(x4:Int):Option (Val×Int×(Option<|Int×Int)) :=
 bd (w_ (σ:=Int×(List Val)) (ρ:=Val×Int×(Option<|Int×Int)) (fun J=>un2 fun G H=>bd (idx x3 (J:Int)) fun L=>bd3 (rec.impl_fileReader_value x1 L G) fun O V I=>if I.isSome=true then some (.ret ((⟨0,([]:List UInt8),([]:List Val)⟩:Val),G,I)) else bd (psh H O) fun W=>some<|.next (V,W)) x3.length 0 (x4,x2.items)) (el (un2 fun G H=>some ((⟨x2.number,x2.bytes,H⟩:Val),G,none))<|fun Y=>some Y)
def h_s (n:Nat)(rec:f_a)(x1:a_u)(x2:b_)(x3:Int):Option (Val×Int×(Option<|Int×Int)) :=
 bd (idx x2.kids 0) fun I=>bd3 (e_o x1 I x3) fun G J H=>if H.isSome=true then some ((⟨0,([]:List UInt8),([]:List Val)⟩:Val),x3,H) else bd (w_ (σ:=Unit) (ρ:=Val×Int×(Option<|Int×Int)) (fun k10=>(fun (_:Unit)=>bd (idx x2.tags (k10:Int)) fun L=>if (L==G)=true then bd (slc x2.kids ((k10+1:Nat):Int)<|i_ (k10:Int) 2) fun O=>bd3 (rec.impl_fileReader_items x1 (⟨G,([]:List UInt8),([]:List Val)⟩:Val) O J) fun V W Y=>some (.ret (V,W,Y)) else some (.next ()))) x2.tags.length 0 ()) (el (fun (_:Unit)=>bd (b_N x3 3) fun a0=>some ((⟨0,([]:List UInt8),([]:List Val)⟩:Val),x3,a0))<|fun a1=>some a1)
def h_t (n:Nat)(rec:f_a)(x1:a_u)(x2:b_)(x3:Int):Option (Val×Int×(Option<|Int×Int)) :=
 bd2 (e_n x1 x3 1) fun G H=>if H.isSome=true then some ((⟨0,([]:List UInt8),([]:List Val)⟩:Val),x3,H) else bd (idx G 0) fun I=>if (decide<|(byteI (1:UInt8))<(byteI I))=true then bd (b_N x3 4) fun J=>some ((⟨0,([]:List UInt8),([]:List Val)⟩:Val),x3,J) else bd (idx G 0) fun L=>if ((byteI L)==(byteI (0:UInt8)))=true then some ((⟨0,([]:List UInt8),([]:List Val)⟩:Val),i_ x3 1,none) else bd3 (rec.impl_fileReader_items x1 (⟨0,([]:List UInt8),([]:List Val)⟩:Val) x2.kids<|i_ x3 1) fun O V W=>some (O,V,W)
def h_u (n:Nat)(rec:f_a)(x1:a_u)(x2:b_)(x3:Int):Option (Val×Int×(Option<|Int×Int)) :=
 bd3 (rec.impl_fileReader_items x1 (⟨0,([]:List UInt8),([]:List Val)⟩:Val) x2.kids x3) fun J G H=>if H.isSome=true then some ((⟨0,([]:List UInt8),([]:List Val)⟩:Val),x3,H) else bd2 (e_n x1 G 1) fun L I=>if I.isSome=true then some ((⟨0,([]:List UInt8),([]:List Val)⟩:Val),x3,I) else bd (idx L 0) fun O=>bd (slc x1.b x3 G) fun V=>bd (f_9 V) fun W=>if ((byteI O) != W)=true then bd (b_N G 5) fun Y=>some ((⟨0,([]:List UInt8),([]:List Val)⟩:Val),x3,Y) else some (J,i_ G 1,none)
def a_e:Nat->f_a
 | 0=>⟨fun _ _ _=>none,fun _ _ _=>none,fun _ _ _ _=>none,fun _ _ _=>none,fun _ _ _=>none,fun _ _ _=>none⟩
 | n+1=>⟨h_p n<|a_e n,h_q n<|a_e n,h_r n<|a_e n,h_s n<|a_e n,h_t n<|a_e n,h_u n<|a_e n⟩
def i_X (n:Nat):=(a_e n).impl_fileReader_value
def f_b (n:Nat):=(a_e n).impl_fileReader_items
def h_v (n:Nat)(x1:f_)(x2:Int)(x3:List UInt8)(x4:Int):Option (Val×Int×Int) :=
 bd (α:=Bool) (bd (e_m n x1 x2) fun H=>if (!H)=true then some true else if (decide<|x4<0)=true then some true else if (decide<|(x3.length:Int)<x4)=true then some true else some (decide<|400<(x3.length:Int))) (fun I=>if I=true then some ((⟨0,([]:List UInt8),([]:List Val)⟩:Val),0,8) else bd3 (i_X n (⟨(⟨x1.rules⟩:f_),x3⟩:a_u) x2 x4) fun J L G=>if G.isSome=true then (bd2 G fun O V=>some ((⟨0,([]:List UInt8),([]:List Val)⟩:Val),O,V)) else some (J,L,0))
def h_w (n:Nat)(x1:f_)(x2:List UInt8):Option (Val×Int×Int) :=
 bd (α:=Int×(List UInt8)×(List Val)×Int×Int) (bd (e_l x1) fun J=>bd3 (h_v n x1 J x2 0) fun G L O=>some (G.number,G.bytes,G.items,L,O)) (un5 fun V W Y H I=>bd (α:=Bool) (if (I==0)=true then some (decide<|H<(x2.length:Int)) else some false) (fun a0=>if a0=true then some ((⟨0,([]:List UInt8),([]:List Val)⟩:Val),H,7) else some ((⟨V,W,Y⟩:Val),H,I)))
def d_k (x1:List UInt8)(x2:List UInt8):Option Bool :=
 if ((x1.length:Int) != (x2.length:Int))=true then some false else bd (w_ (σ:=Unit) (ρ:=Bool) (fun k10=>(fun (_:Unit)=>bd (idx x1 (k10:Int)) fun G=>bd (idx x2 (k10:Int)) fun H=>if ((byteI G) != (byteI H))=true then some (.ret false) else some (.next ()))) x1.length 0 ()) (el (fun (_:Unit)=>some true)<|fun I=>some I)
def h_x (x1:List Str)(x2:List Str):Option Bool :=
 if ((x1.length:Int) != (x2.length:Int))=true then some false else bd (w_ (σ:=Unit) (ρ:=Bool) (fun k10=>(fun (_:Unit)=>bd (idx x1 (k10:Int)) fun G=>bd (idx x2 (k10:Int)) fun H=>if (G.b != H.b)=true then some (.ret false) else some (.next ()))) x1.length 0 ()) (el (fun (_:Unit)=>some true)<|fun I=>some I)
def f_U (x1:List Int)(x2:List Int):Option Bool :=
 if ((x1.length:Int) != (x2.length:Int))=true then some false else bd (w_ (σ:=Unit) (ρ:=Bool) (fun k10=>(fun (_:Unit)=>bd (idx x1 (k10:Int)) fun G=>bd (idx x2 (k10:Int)) fun H=>if (G != H)=true then some (.ret false) else some (.next ()))) x1.length 0 ()) (el (fun (_:Unit)=>some true)<|fun I=>some I)
def h_y (x1:b_)(x2:b_):Option Bool :=
 if (x1.name.b != x2.name.b)=true then some false else if (x1.kind != x2.kind)=true then some false else if (x1.size != x2.size)=true then some false else if (x1.little != x2.little)=true then some false else bd (d_k x1.bytes x2.bytes) fun G=>if (!G)=true then some false else bd (h_x x1.names x2.names) fun H=>if (!H)=true then some false else bd (f_U x1.tags x2.tags) fun I=>if (!I)=true then some false else bd (f_U x1.kids x2.kids) fun J=>if (!J)=true then some false else some true
def i_Y (x1:List b_)(x2:List b_):Option Bool :=
 if ((x1.length:Int) != (x2.length:Int))=true then some false else bd (w_ (σ:=Unit) (ρ:=Bool) (fun k10=>(fun (_:Unit)=>bd (idx x1 (k10:Int)) fun G=>bd (idx x2 (k10:Int)) fun H=>bd (h_y G H) fun I=>if (!I)=true then some (.ret false) else some (.next ()))) x1.length 0 ()) (el (fun (_:Unit)=>some true)<|fun J=>some J)
def h_z (x1:f_)(x2:f_):Option Bool :=
 bd (i_Y x1.rules x2.rules) fun G=>if (!G)=true then some false else some true
def d_G (n:Nat)(x1:Int):Option Str :=
 if (decide<|x1<=0)=true then some (⟨[109,48]⟩:Str) else bd (H_ (σ:=Int×Str) (ρ:=Str) (un2 fun G H=>if (decide<|0<G)=true then bd (cat (⟨[mkB (i_ 48<|a_R G 10)]⟩:Str) H) fun I=>some (.next (c_B G 10,I)) else some (.brk (G,H))) n (x1,(⟨[]⟩:Str))) (el (un2 fun G H=>bd (cat (⟨[109]⟩:Str) H) fun J=>some J)<|fun L=>some L)
def c_u (n:Nat)(x1:List UInt8)(x2:Int):Option (Int×(List UInt8)) :=
 bd (H_ (σ:=(List UInt8)×Int×Int) (ρ:=Int×(List UInt8)) (un3 fun G H I=>if (decide<|I<(G.length:Int))=true then bd (upd G I<|mkB H) fun J=>some (.next (J,i_ H 1,i_ I 1)) else some (.brk (G,H,I))) n (x1,x2,0)) (el (un3 fun G H I=>some (H,G))<|fun L=>some L)
def f_c (n:Nat)(x1:List Str)(x2:Int):Option (Int×(List Str)) :=
 bd (H_ (σ:=(List Str)×Int×Int) (ρ:=Int×(List Str)) (un3 fun G H I=>if (decide<|I<(G.length:Int))=true then bd (d_G n H) fun J=>bd (upd G I J) fun L=>some (.next (L,i_ H 1,i_ I 1)) else some (.brk (G,H,I))) n (x1,x2,0)) (el (un3 fun G H I=>some (H,G))<|fun O=>some O)
def d_l (n:Nat)(x1:List Int)(x2:Int):Option (Int×(List Int)) :=
 bd (H_ (σ:=(List Int)×Int×Int) (ρ:=Int×(List Int)) (un3 fun G H I=>if (decide<|I<(G.length:Int))=true then bd (upd G I H) fun J=>some (.next (J,i_ H 1,i_ I 1)) else some (.brk (G,H,I))) n (x1,x2,0)) (el (un3 fun G H I=>some (H,G))<|fun L=>some L)
def h_A (n:Nat)(x1:List b_)(x2:Int):Option (Int×(List b_)) :=
 bd (H_ (σ:=(List b_)×Int×Int) (ρ:=Int×(List b_)) (un3 fun a1 L H=>if (decide<|H<(a1.length:Int))=true then bd (d_G n L) fun a9=>bd (idx a1 H) fun V=>bd (upd a1 H (⟨a9,V.kind,V.size,V.little,V.bytes,V.names,V.tags,V.kids⟩:b_)) fun a5=>bd (idx a5 H) fun W=>bd (upd a5 H (⟨W.name,i_ L 1,W.size,W.little,W.bytes,W.names,W.tags,W.kids⟩:b_)) fun a6=>bd (idx a6 H) fun Y=>bd (upd a6 H (⟨Y.name,Y.kind,i_ (i_ L 1) 1,Y.little,Y.bytes,Y.names,Y.tags,Y.kids⟩:b_)) fun a7=>bd (idx a7 H) fun a0=>bd (upd a7 H (⟨a0.name,a0.kind,a0.size,(a_R (i_ (i_ (i_ L 1) 1) 1) 3)==0,a0.bytes,a0.names,a0.tags,a0.kids⟩:b_)) fun a2=>bd (idx a2 H) fun G=>bd2 (c_u n G.bytes<|i_ (i_ (i_ (i_ L 1) 1) 1) 1) fun aa a3=>bd (idx (a2.set (H).toNat (⟨G.name,G.kind,G.size,G.little,a3,G.names,G.tags,G.kids⟩:b_)) H) fun I=>bd2 (f_c n I.names aa) fun ab a4=>bd (idx ((a2.set (H).toNat (⟨G.name,G.kind,G.size,G.little,a3,G.names,G.tags,G.kids⟩:b_)).set (H).toNat (⟨I.name,I.kind,I.size,I.little,I.bytes,a4,I.tags,I.kids⟩:b_)) H) fun J=>bd2 (d_l n J.tags ab) fun ad a8=>bd (idx (((a2.set (H).toNat (⟨G.name,G.kind,G.size,G.little,a3,G.names,G.tags,G.kids⟩:b_)).set (H).toNat (⟨I.name,I.kind,I.size,I.little,I.bytes,a4,I.tags,I.kids⟩:b_)).set (H).toNat (⟨J.name,J.kind,J.size,J.little,J.bytes,J.names,a8,J.kids⟩:b_)) H) fun O=>bd2 (d_l n O.kids ad) fun ae af=>some (.next ((((a2.set (H).toNat (⟨G.name,G.kind,G.size,G.little,a3,G.names,G.tags,G.kids⟩:b_)).set (H).toNat (⟨I.name,I.kind,I.size,I.little,I.bytes,a4,I.tags,I.kids⟩:b_)).set (H).toNat (⟨J.name,J.kind,J.size,J.little,J.bytes,J.names,a8,J.kids⟩:b_)).set (H).toNat (⟨O.name,O.kind,O.size,O.little,O.bytes,O.names,O.tags,af⟩:b_),ae,i_ H 1)) else some (.brk (a1,L,H))) n (x1,x2,0)) (el (un3 fun a1 L H=>some (L,a1))<|fun ah=>some ah)
def h_B (n:Nat)(x1:f_)(x2:Int):Option (Int×(List b_)) :=
 bd2 (h_A n x1.rules x2) fun G H=>some (G,H)
def f_V (x1:List UInt8)(x2:Int):Option Int :=
 bd (w_ (σ:=Int) (ρ:=Int) (fun H=>(fun G=>bd (idx x1 (H:Int)) fun I=>if ((byteI I) != (byteI<|mkB G))=true then some (.ret (-1)) else some (.next<|i_ G 1))) x1.length 0 x2) (el (fun G=>some G)<|fun J=>some J)
structure l_1 where
 laws_eqValue:Val->Val->Option Bool
 laws_eqValueS:(List Val)->(List Val)->Option Bool
def h_C (n:Nat)(rec:l_1)(x1:Val)(x2:Val):Option Bool :=
 if (x1.number != x2.number)=true then some false else bd (d_k x1.bytes x2.bytes) fun G=>if (!G)=true then some false else bd (rec.laws_eqValueS x1.items x2.items) fun H=>if (!H)=true then some false else some true
def h_D (n:Nat)(rec:l_1)(x1:List Val)(x2:List Val):Option Bool :=
 if ((x1.length:Int) != (x2.length:Int))=true then some false else bd (w_ (σ:=Unit) (ρ:=Bool) (fun k10=>(fun (_:Unit)=>bd (idx x1 (k10:Int)) fun G=>bd (idx x2 (k10:Int)) fun H=>bd (rec.laws_eqValue G H) fun I=>if (!I)=true then some (.ret false) else some (.next ()))) x1.length 0 ()) (el (fun (_:Unit)=>some true)<|fun J=>some J)
def c_9:Nat->l_1
 | 0=>⟨fun _ _=>none,fun _ _=>none⟩
 | n+1=>⟨h_C n<|c_9 n,h_D n<|c_9 n⟩
def l_2 (n:Nat):=(c_9 n).laws_eqValue
def n_t (n:Nat):=(c_9 n).laws_eqValueS
structure n_u where
 laws_markValueS:(List Val)->Int->Option (Int×(List Val))
def h_E (n:Nat)(rec:n_u)(x1:List Val)(x2:Int):Option (Int×(List Val)) :=
 bd (H_ (σ:=(List Val)×Int×Int) (ρ:=Int×(List Val)) (un3 fun H I G=>if (decide<|G<(H.length:Int))=true then bd (idx H G) fun V=>bd (upd H G (⟨I,V.bytes,V.items⟩:Val)) fun L=>bd (idx L G) fun J=>bd2 (c_u n J.bytes<|i_ I 1) fun Y W=>bd (idx (L.set (G).toNat (⟨J.number,W,J.items⟩:Val)) G) fun O=>bd2 (rec.laws_markValueS O.items Y) fun a0 a1=>some (.next ((L.set (G).toNat (⟨J.number,W,J.items⟩:Val)).set (G).toNat (⟨O.number,O.bytes,a1⟩:Val),a0,i_ G 1)) else some (.brk (H,I,G))) n (x1,x2,0)) (el (un3 fun H I G=>some (I,H))<|fun a2=>some a2)
def e_p:Nat->n_u
 | 0=>⟨fun _ _=>none⟩
 | n+1=>⟨h_E n<|e_p n⟩
def f_W (n:Nat):=(e_p n).laws_markValueS
def h_F (n:Nat)(x1:Val)(x2:Int):Option (Int×(List UInt8)×(List Val)) :=
 bd2 (c_u n x1.bytes x2) fun G H=>bd2 (f_W n x1.items G) fun I J=>some (I,H,J)
def i_Z (x1:Int):Option Str :=
 bd (j_r x1) fun G=>some G
def h_G (n:Nat)(x1:f_)(x2:Int)(x3:Int):Option Str :=
 bd (α:=Bool) (bd (e_m n x1 x2) fun H=>if (!H)=true then some true else some (decide<|x3<0)) (fun I=>if I=true then some (⟨[]⟩:Str) else bd (idx x1.rules x2) fun G=>if (G.kind==5)=true then bd (i_Z x3) fun J=>some J else bd (α:=Bool) (if (G.kind==6)=true then some (decide<|x3<(G.names.length:Int)) else some false) (fun L=>if L=true then bd (idx G.names x3) fun O=>some O else if (decide<|0<x3)=true then some (⟨[]⟩:Str) else if (G.kind==7)=true then some (⟨[42]⟩:Str) else if (G.kind==8)=true then some (⟨[63]⟩:Str) else if (G.kind==9)=true then some (⟨[43]⟩:Str) else some (⟨[]⟩:Str)))
def d_m (x1:f_)(x2:Int)(x3:Val)(x4:Int):Option Int :=
 bd (idx x1.rules x2) fun G=>if (G.kind==5)=true then bd (idx G.kids 1) fun I=>some I else bd (α:=Sum Unit Int) (if (G.kind==6)=true then if (decide<|x4<(G.kids.length:Int))=true then bd (idx G.kids x4) fun J=>some (.inr J) else some (.inl ()) else bd (α:=Sum Unit<|Sum Unit Int) (if (G.kind==7)=true then bd (w_ (σ:=Unit) (ρ:=Int) (fun H=>(fun (_:Unit)=>bd (idx G.tags (H:Int)) fun L=>if (L==x3.number)=true then bd (idx G.kids ((H+1:Nat):Int)) fun O=>some (.ret O) else some (.next ()))) G.tags.length 0 ()) (el (fun (_:Unit)=>some<|.inl ())<|fun V=>some<|.inr<|.inr V) else bd (α:=Bool) (if (G.kind==8)=true then some (G.kind==8) else some (G.kind==9)) (fun W=>if W=true then bd (idx G.kids 0) fun Y=>some (.inr<|.inr Y) else some (.inl ()))) (el (fun (_:Unit)=>some<|.inl ()) some)) (el (fun (_:Unit)=>some (-1)) some)
def f_X (x1:Int)(x2:Int):Option Int :=
 if (decide<|x2<x1)=true then some x2 else some x1
def f_d (n:Nat)(x1:Int)(x2:Int):Option (List UInt8) :=
 bd (α:=Bool) (bd (a_L x2 1 4) fun I=>if (!I)=true then some true else bd (d_E x2) fun J=>bd (a_L x1 0<|q_ J 1) fun L=>some (!L)) (fun O=>if O=true then some ([]:List UInt8) else bd (H_ (σ:=(List UInt8)×Int) (ρ:=List UInt8) (un2 fun H G=>if (decide<|0<=G)=true then bd (nn<|a_m 8 G) fun Y=>bd (psh H<|mkB<|a_H .i64 x1<|a_m 8 G) fun V=>some (.next (V,q_ G 1)) else some (.brk (H,G))) n (([]:List UInt8),q_ x2 1)) (el (un2 fun H G=>some H)<|fun W=>some W))
def h_H (x1:Int)(x2:Int):Option Bool :=
 some (decide<|x1<x2)
def j_0 (x2:Int)(x3:List Int):Option Int :=
 bd (w_ (σ:=Int) (ρ:=Int) (fun I=>(fun G=>bd (idx x3 (I:Int)) fun H=>bd (h_H H G) fun J=>bd (α:=Int) (if J=true then some H else some G)<|fun L=>some<|.next L)) x3.length 0 x2) (el (fun G=>some G)<|fun O=>some O)
def f_Y (x1:Int)(x2:Int):Option Int :=
 bd (j_0 x1 [x2]) fun G=>some G
end Go.Vw
namespace Go.Vw
open Go.RowKit Dat
structure Change where
 path:Str
 part:Val
deriving Inhabited
instance:Dat Change:=Dat.via<|fun r=>(r.path,r.part)
end Go.Vw
namespace Go.Vw
def g_2 (n:Nat)(x1:Int)(x2:Int):Option (List UInt8) :=
 bd (f_d n x1 x2) fun I=>bd (H_ (σ:=(List UInt8)×Int) (ρ:=List UInt8) (un2 fun H G=>if (decide<|0<=G)=true then bd (idx I G) fun J=>bd (psh H J) fun L=>some (.next (L,q_ G 1)) else some (.brk (H,G))) n (([]:List UInt8),q_ (I.length:Int) 1))<|el (un2 fun H G=>some H)<|fun O=>some O
def d_o (n:Nat)(x1:b_)(x2:Int):Option (List UInt8) :=
 if x1.little=true then bd (g_2 n x2 x1.size) fun G=>some G else bd (f_d n x2 x1.size) fun H=>some H
structure h_L where
 spec_l11Print:f_->Int->Val->Option (List UInt8)
def b_O (n:Nat)(rec:h_L)(x1:f_)(x2:Int)(x3:Val):Option (List UInt8) :=
 bd (idx x1.rules x2) fun G=>bd (w_ (σ:=List UInt8) (ρ:=List UInt8) (fun L=>(fun H=>bd (idx x3.items (L:Int)) fun O=>bd (b_d G x3.number (L:Int)) fun V=>bd (rec.spec_l11Print x1 V O) fun W=>bd (app H W) fun Y=>some<|.next Y)) x3.items.length 0 ([]:List UInt8)) (el (fun H=>if (G.kind==1)=true then bd (d_o n G x3.number) fun a0=>some a0 else if (G.kind==2)=true then bd (app ([]:List UInt8) G.bytes) fun a1=>some a1 else if (G.kind==4)=true then bd (idx G.kids 0) fun a2=>bd (idx x1.rules a2) fun a3=>bd (d_o n a3 (x3.bytes.length:Int)) fun a4=>bd (app a4 x3.bytes) fun a5=>some a5 else if (G.kind==5)=true then bd (idx G.kids 0) fun a6=>bd (idx x1.rules a6) fun a7=>bd (d_o n a7 (x3.items.length:Int)) fun a8=>bd (app a8 H) fun a9=>some a9 else if (G.kind==7)=true then bd (idx G.kids 0) fun aa=>bd (idx x1.rules aa) fun ab=>bd (d_o n ab x3.number) fun ad=>bd (app ad H) fun ae=>some ae else if (G.kind==8)=true then bd (app [mkB (x3.items.length:Int)] H) fun af=>some af else if (G.kind==9)=true then bd (f_P H) fun ah=>bd (psh H<|mkB ah) fun ai=>some ai else if (G.kind==10)=true then bd (w_ (σ:=List UInt8) (ρ:=List UInt8) (fun J=>(fun I=>bd (α:=Bool) (bd (idx x3.bytes (J:Int)) fun aj=>bd (idx G.bytes 0) fun ak=>if ((byteI aj)==(byteI ak))=true then some true else bd (idx x3.bytes (J:Int)) fun al=>some<|(byteI al)==(byteI (92:UInt8))) (fun am=>bd (α:=List UInt8) (if am=true then bd (psh I (92:UInt8)) fun an=>some an else some I)<|fun ao=>bd (idx x3.bytes (J:Int)) fun ap=>bd (psh ao ap) fun aq=>some<|.next aq))) x3.bytes.length 0 H) (el (fun I=>bd (idx G.bytes 0) fun ar=>bd (psh I ar) fun au=>some au)<|fun av=>some av) else if (G.kind==3)=true then bd (app ([]:List UInt8) x3.bytes) fun aw=>some aw else some H)<|fun ax=>some ax)
def e_s:Nat->h_L
 | 0=>⟨fun _ _ _=>none⟩
 | n+1=>⟨b_O n<|e_s n⟩
def g_6 (n:Nat):=(e_s n).spec_l11Print
end Go.Vw
namespace Go.Vw
def g_L (x1:f_)(x2:b_)(x3:Val):Option Bool :=
 if (x2.kind==1)=true then bd (α:=Bool) (bd (d_E x2.size) fun G=>bd (a_L x3.number 0<|q_ G 1) fun H=>if H=true then if ((x3.bytes.length:Int)==0)=true then some ((x3.items.length:Int)==0) else some false else some false) (fun I=>some I) else if (x2.kind==2)=true then bd (α:=Bool) (if (x3.number==0)=true then if ((x3.bytes.length:Int)==0)=true then some ((x3.items.length:Int)==0) else some false else some false) (fun J=>some J) else if (x2.kind==3)=true then bd (α:=Bool) (if (x3.number==0)=true then if ((x3.bytes.length:Int)==x2.size)=true then some ((x3.items.length:Int)==0) else some false else some false) (fun L=>some L) else if (x2.kind==4)=true then bd (α:=Bool) (if (x3.number==0)=true then bd (idx x2.kids 0) fun O=>bd (d_F x1 O) fun V=>bd (f_X 400 V) fun W=>if (decide<|(x3.bytes.length:Int)<=W)=true then some ((x3.items.length:Int)==0) else some false else some false) (fun Y=>some Y) else if (x2.kind==10)=true then bd (α:=Bool) (if (x3.number==0)=true then if (decide<|(x3.bytes.length:Int)<=400)=true then some ((x3.items.length:Int)==0) else some false else some false) (fun a0=>some a0) else if (x2.kind==5)=true then bd (α:=Bool) (if (x3.number==0)=true then if ((x3.bytes.length:Int)==0)=true then bd (idx x2.kids 0) fun a1=>bd (d_F x1 a1) fun a2=>bd (f_X 40 a2) fun a3=>some (decide<|(x3.items.length:Int)<=a3) else some false else some false) (fun a4=>some a4) else if (x2.kind==6)=true then bd (α:=Bool) (if (x3.number==0)=true then if ((x3.bytes.length:Int)==0)=true then some ((x3.items.length:Int)==(x2.kids.length:Int)) else some false else some false) (fun a5=>some a5) else if (x2.kind==7)=true then bd (α:=Bool) (if ((x3.bytes.length:Int)==0)=true then if ((x3.items.length:Int)==1)=true then bd (b_d x2 x3.number 0) fun a6=>some (decide<|0<=a6) else some false else some false) (fun a7=>some a7) else if (x2.kind==8)=true then bd (α:=Bool) (if (x3.number==0)=true then if ((x3.bytes.length:Int)==0)=true then some (decide<|(x3.items.length:Int)<=1) else some false else some false) (fun a8=>some a8) else bd (α:=Bool) (if (x3.number==0)=true then if ((x3.bytes.length:Int)==0)=true then some ((x3.items.length:Int)==1) else some false else some false) (fun a9=>some a9)
structure n_8 where
 spec_l9Valid:f_->Int->Val->Option Bool
def g_M (n:Nat)(rec:n_8)(x1:f_)(x2:Int)(x3:Val):Option Bool :=
 bd (idx x1.rules x2) fun G=>bd (g_L x1 G x3) fun I=>if (!I)=true then some false else bd (w_ (σ:=Unit) (ρ:=Bool) (fun H=>(fun (_:Unit)=>bd (idx x3.items (H:Int)) fun J=>bd (b_d G x3.number (H:Int)) fun L=>bd (rec.spec_l9Valid x1 L J) fun O=>if (!O)=true then some (.ret false) else some (.next ()))) x3.items.length 0 ()) (el (fun (_:Unit)=>some true)<|fun V=>some V)
def e_c:Nat->n_8
 | 0=>⟨fun _ _ _=>none⟩
 | n+1=>⟨g_M n<|e_c n⟩
def n_9 (n:Nat):=(e_c n).spec_l9Valid
def d_A (n:Nat)(x1:f_)(x2:Int)(x3:Val):Option Bool :=
 bd (α:=Bool) (bd (c_S x1 x2) fun G=>if G=true then bd (n_9 n x1 x2 x3) fun H=>some H else some false) (fun I=>some I)
def i_E (n:Nat)(x1:f_)(x2:Int)(x3:Val):Option ((List UInt8)×Bool) :=
 bd (d_A n x1 x2 x3) fun H=>if (!H)=true then some (([]:List UInt8),false) else bd (g_6 n x1 x2 x3) fun G=>if (decide<|400<(G.length:Int))=true then some (([]:List UInt8),false) else some (G,true)
def g_N (n:Nat)(x1:f_)(x2:Val):Option ((List UInt8)×Bool) :=
 bd (e_g x1) fun G=>bd2 (i_E n x1 G x2) fun H I=>some (H,I)
end Go.Vw
namespace Go.Vw
def h_I (x1:f_)(x2:Int)(x3:Val):Option Bool :=
 bd (idx x1.rules x2) fun G=>bd (α:=Sum (Int×Int×Int) Bool) (if (G.kind==1)=true then bd (c_T x1 x2) fun I=>some (.inl (I,0,0)) else bd (α:=Sum (Int×Int×Int)<|Sum (Int×Int×Int) Bool) (if (G.kind==3)=true then if ((x3.bytes.length:Int) != G.size)=true then some (.inr<|.inr false) else some (.inl (0,G.size,0)) else bd (α:=Int×Int×Int) (if (G.kind==4)=true then bd (idx G.kids 0) fun J=>bd (c_T x1 J) fun L=>bd (f_Y 400 L) fun O=>some (0,O,0) else bd (α:=Int×Int×Int) (if (G.kind==10)=true then some (0,400,0) else bd (α:=Int×Int) (if (G.kind==5)=true then bd (idx G.kids 0) fun V=>bd (c_T x1 V) fun W=>bd (f_Y 40 W) fun Y=>some (0,Y) else bd (α:=Int×Int) (if (G.kind==6)=true then some (0,(G.kids.length:Int)) else bd (α:=Int×Int) (if (G.kind==7)=true then bd (idx G.kids 0) fun a0=>bd (c_T x1 a0) fun a1=>some (a1,1) else bd (α:=Bool) (if (G.kind==8)=true then some (G.kind==8) else some (G.kind==9)) (fun a2=>bd (α:=Int) (if a2=true then some 1 else some 0)<|fun a3=>some (0,a3))) (un2 fun a4 a5=>some (a4,a5))) (un2 fun a6 a7=>some (a6,a7))) (un2 fun a8 a9=>some (a8,0,a9))) (un3 fun aa ab ad=>some (aa,ab,ad))) (un3 fun ae af ah=>some<|.inl (ae,af,ah))) (el (un3 fun ai aj ak=>some<|.inl (ai,aj,ak)) some)) (el (un3 fun al am H=>bd (α:=Bool) (if (G.kind==6)=true then some ((x3.items.length:Int) != H) else bd (α:=Bool) (if (G.kind==7)=true then some true else some (G.kind==9)) fun an=>if an=true then some ((x3.items.length:Int) != H) else some false) (fun ao=>if ao=true then some false else bd (α:=Bool) (bd (b_Z x3.number 0 al) fun ap=>if ap=true then if (decide<|(x3.bytes.length:Int)<=am)=true then some (decide<|(x3.items.length:Int)<=H) else some false else some false) (fun aq=>some aq))) some)
structure n_w where
 impl_validValue:f_->Int->Val->Option Bool
def h_J (n:Nat)(rec:n_w)(x1:f_)(x2:Int)(x3:Val):Option Bool :=
 bd (h_I x1 x2 x3) fun H=>if (!H)=true then some false else bd (w_ (σ:=Unit) (ρ:=Bool) (fun k10=>(fun (_:Unit)=>bd (d_m x1 x2 x3 (k10:Int)) fun G=>bd (α:=Bool) (if (decide<|G<0)=true then some true else bd (idx x3.items (k10:Int)) fun I=>bd (rec.impl_validValue x1 G I) fun J=>some (!J)) (fun L=>if L=true then some (.ret false) else some (.next ())))) x3.items.length 0 ()) (el (fun (_:Unit)=>some true)<|fun O=>some O)
def e_q:Nat->n_w
 | 0=>⟨fun _ _ _=>none⟩
 | n+1=>⟨h_J n<|e_q n⟩
def n_x (n:Nat):=(e_q n).impl_validValue
def d_n (n:Nat)(x1:f_)(x2:Int)(x3:Val):Option Bool :=
 bd (α:=Bool) (bd (e_m n x1 x2) fun G=>if G=true then bd (n_x n x1 x2 x3) fun H=>some H else some false) (fun I=>some I)
end Go.Vw
namespace Go.Vw
def e_t (n:Nat)(x1:f_)(x2:Int)(x3:Val)(x4:Str):Option Int :=
 bd (H_ (σ:=Int) (ρ:=Int) (fun G=>bd (α:=Bool) (if (decide<|G<(x3.items.length:Int))=true then bd (c_S x1 x2) fun I=>some I else some false) (fun J=>if J=true then bd (idx x1.rules x2) fun L=>bd (e_h n L G) fun H=>bd (α:=Bool) (if (H.b != (⟨[]⟩:Str).b)=true then some (H.b==x4.b) else some false) (fun O=>if O=true then some (.ret G) else some (.next<|i_ G 1)) else some (.brk G))) n 0) (el (fun G=>some (-1))<|fun V=>some V)
structure l_l where
 spec_CopyValue:Val->Option Val
def e_u (n:Nat)(rec:l_l)(x1:Val):Option Val :=
 bd (α:=Int×(List UInt8)×(List Val)) (bd (app ([]:List UInt8) x1.bytes) fun H=>some (x1.number,H,([]:List Val))) (un3 fun I J L=>bd (w_ (σ:=List Val) (ρ:=Val) (fun O=>(fun G=>bd (idx x1.items (O:Int)) fun V=>bd (rec.spec_CopyValue V) fun W=>bd (psh G W) fun Y=>some<|.next Y)) x1.items.length 0 L)<|el (fun G=>some (⟨I,J,G⟩:Val))<|fun a0=>some a0)
def d_M:Nat->l_l
 | 0=>⟨fun _=>none⟩
 | n+1=>⟨e_u n<|d_M n⟩
def e_v (n:Nat):=(d_M n).spec_CopyValue
def h_P (n:Nat)(x1:f_)(x2:Val)(x3:Str):Option (Val×Int×Bool) :=
 bd (e_g x1) fun V=>bd2 (f_N n x3) fun W Y=>bd (α:=Bool) (if (!Y)=true then some true else bd (d_A n x1 V x2) fun a0=>some (!a0)) (fun a1=>if a1=true then some ((⟨0,([]:List UInt8),([]:List Val)⟩:Val),(-1),false) else bd (w_ (σ:=Int×Int×(List UInt8)×(List Val)) (ρ:=Val×Int×Bool) (fun a2=>un4 fun G H J I=>bd (idx W (a2:Int)) fun a3=>bd (e_t n x1 G (⟨H,J,I⟩:Val) a3) fun L=>if (decide<|L<0)=true then some (.ret ((⟨0,([]:List UInt8),([]:List Val)⟩:Val),(-1),false)) else bd (idx x1.rules G) fun a4=>bd (b_d a4 H L) fun a5=>bd (idx I L) fun O=>some<|.next (a5,O.number,O.bytes,O.items)) W.length 0 (V,x2.number,x2.bytes,x2.items)) (el (un4 fun G H J I=>bd (e_v n (⟨H,J,I⟩:Val)) fun a6=>some (a6,G,true))<|fun a7=>some a7))
end Go.Vw
namespace Go.Vw
def f_r (x1:Str)(x2:Str):Option Bool :=
 some (x1.b==x2.b)
def d_r (x1:List Str)(G:Str):Option Int :=
 bd (w_ (σ:=Unit) (ρ:=Int) (fun k10=>(fun (_:Unit)=>bd (idx x1 (k10:Int)) fun H=>bd (f_r H G) fun I=>if I=true then some (.ret (k10:Int)) else some (.next ()))) x1.length 0 ()) (el (fun (_:Unit)=>some (-1))<|fun J=>some J)
def d_X (n:Nat)(x1:f_)(x2:Int)(x3:Val)(x4:Str):Option Int :=
 bd (e_m n x1 x2) fun I=>if (!I)=true then some (-1) else bd (idx x1.rules x2) fun H=>bd (α:=Sum Int Int) (if (H.kind==5)=true then bd2 (e_j x4) fun J L=>if (!L)=true then some (.inr (-1)) else some (.inl J) else bd (α:=Int) (if (H.kind==6)=true then bd (d_r H.names x4) fun O=>some O else some 0) (fun V=>some<|.inl V)) (el (fun G=>bd (α:=Bool) (if (decide<|G<0)=true then some true else if (decide<|(x3.items.length:Int)<=G)=true then some true else bd (h_G n x1 x2 G) fun W=>if (W.b != x4.b)=true then some true else some (x4.b==(⟨[]⟩:Str).b)) (fun Y=>if Y=true then some (-1) else some G)) some)
structure l_N where
 impl_CopyValue:Val->Option Val
def e_L (n:Nat)(rec:l_N)(x1:Val):Option Val :=
 bd (α:=Int×(List UInt8)×(List Val)) (bd (app ([]:List UInt8) x1.bytes) fun H=>bd (mk0 () (x1.items.length:Int)) fun a1=>some (x1.number,H,([]:List Val))) (un3 fun I J L=>bd (w_ (σ:=List Val) (ρ:=Val) (fun O=>(fun G=>bd (idx x1.items (O:Int)) fun V=>bd (rec.impl_CopyValue V) fun W=>bd (psh G W) fun Y=>some<|.next Y)) x1.items.length 0 L)<|el (fun G=>some (⟨I,J,G⟩:Val))<|fun a0=>some a0)
def d_Y:Nat->l_N
 | 0=>⟨fun _=>none⟩
 | n+1=>⟨e_L n<|d_Y n⟩
def d_2 (n:Nat):=(d_Y n).impl_CopyValue
end Go.Vw
namespace Go.Vw
open Go.RowKit Dat
structure a_O where
 d:f_
 out:List UInt8
deriving Inhabited
end Go.Vw
namespace Go.Vw
structure j_s where
 laws_szValue:Val->Int->Option Int
 laws_szValueS:(List Val)->Int->Option Int
def g_e (n:Nat)(rec:j_s)(x1:Val)(x2:Int):Option Int :=
 bd (f_K x1.bytes x2) fun G=>if (decide<|G<0)=true then some (-1) else bd (rec.laws_szValueS x1.items G) fun H=>if (decide<|H<0)=true then some (-1) else some H
def g_f (n:Nat)(rec:j_s)(x1:List Val)(x2:Int):Option Int :=
 if (decide<|(q_ x2 (x1.length:Int))<0)=true then some (-1) else bd (w_ (σ:=Int) (ρ:=Int) (fun I=>(fun G=>bd (idx x1 (I:Int)) fun J=>bd (rec.laws_szValue J G) fun H=>if (decide<|H<0)=true then some (.ret (-1)) else some (.next H))) x1.length 0<|q_ x2 (x1.length:Int)) (el (fun G=>some G)<|fun L=>some L)
def c_1:Nat->j_s
 | 0=>⟨fun _ _=>none,fun _ _=>none⟩
 | n+1=>⟨g_e n<|c_1 n,g_f n<|c_1 n⟩
def l_A (n:Nat):=(c_1 n).laws_szValue
structure j_t where
 laws_toValue:Val->Option Val
 laws_toValueS:(List Val)->Option (List Val)
def e_B (n:Nat)(rec:j_t)(x1:Val):Option Val :=
 bd (d_j x1.bytes) fun G=>bd (rec.laws_toValueS x1.items) fun H=>some (⟨x1.number,G,H⟩:Val)
def e_C (n:Nat)(rec:j_t)(x1:List Val):Option (List Val) :=
 bd (mk0 (⟨0,([]:List UInt8),([]:List Val)⟩:Val) (x1.length:Int)) fun I=>bd (w_ (σ:=List Val) (ρ:=List Val) (fun H=>(fun G=>bd (idx x1 (H:Int)) fun J=>bd (rec.laws_toValue J) fun L=>bd (upd G (H:Int) L) fun O=>some<|.next O)) x1.length 0 I)<|el (fun G=>some G)<|fun V=>some V
def b_I:Nat->j_t
 | 0=>⟨fun _=>none,fun _=>none⟩
 | n+1=>⟨e_B n<|b_I n,e_C n<|b_I n⟩
def g_g (n:Nat):=(b_I n).laws_toValue
structure l_B where
 spec_l22Put:f_->Int->Val->(List Str)->Val->Option Val
def e_D (n:Nat)(rec:l_B)(x1:f_)(x2:Int)(x3:Val)(x4:List Str)(x5:Val):Option Val :=
 if ((x4.length:Int)==0)=true then bd (e_v n x5) fun I=>some I else bd (e_v n x3) fun G=>bd (idx x4 0) fun J=>bd (e_t n x1 x2 x3 J) fun H=>bd (idx x1.rules x2) fun L=>bd (idx x3.items H) fun O=>bd (slc x4 1 (x4.length:Int)) fun V=>bd (b_d L x3.number H) fun W=>bd (rec.spec_l22Put x1 W O V x5) fun Y=>bd (upd G.items H Y) fun a0=>some (⟨G.number,G.bytes,a0⟩:Val)
def d_S:Nat->l_B
 | 0=>⟨fun _ _ _ _ _=>none⟩
 | n+1=>⟨e_D n<|d_S n⟩
def l_C (n:Nat):=(d_S n).spec_l22Put
def g_h (n:Nat)(x1:f_)(x2:Val)(x3:Str)(x4:Val):Option (Val×Bool) :=
 bd3 (h_P n x1 x2 x3) fun Y G H=>bd (α:=Bool) (if (!H)=true then some true else bd (d_A n x1 G x4) fun I=>some (!I)) (fun J=>if J=true then bd (e_v n x2) fun L=>some (L,false) else bd2 (f_N n x3) fun O a0=>bd (e_g x1) fun V=>bd (l_C n x1 V x2 O x4) fun W=>some (W,true))
def g_i (n:Nat)(x1:f_)(x2:List UInt8)(x3:Str)(x4:Val):Option ((List UInt8)×Bool) :=
 bd3 (h_f n x1 x2) fun G a0 H=>bd2 (g_h n x1 G x3 x4) fun I J=>bd (α:=Bool) (if (H != 0)=true then some true else some (!J)) (fun L=>if L=true then bd (app ([]:List UInt8) x2) fun O=>some (O,false) else bd2 (g_N n x1 I) fun V W=>if (!W)=true then bd (app ([]:List UInt8) x2) fun Y=>some (Y,false) else some (V,true))
def i_1 (n:Nat)(x1:f_)(x2:Val)(x3:List Str):Option ((Option<|Val×(Val->Val))×Int) :=
 bd (e_l x1) fun J=>bd (w_ (σ:=(Val×(Val->Val))×Int) (ρ:=(Option<|Val×(Val->Val))×Int) (fun L=>un2 fun G H=>bd (idx x3 (L:Int)) fun O=>bd (d_X n x1 H G.1 O) fun I=>if (decide<|I<0)=true then some (.ret (none,(-1))) else bd (idx G.1.items I) fun V=>bd (d_m x1 H G.1 I) fun W=>some<|.next ((V,fun z=>G.2<|.mk G.1.number G.1.bytes<|G.1.items.set I.toNat z),W)) x3.length 0 ((x2,fun y=>y),J))<|el (un2 fun G H=>some (some G,H))<|fun Y=>some Y
def f_m (n:Nat)(x1:f_)(x2:Val)(x3:Str)(x4:Val):Option (Val×Bool) :=
 bd2 (h_g n x3) fun G H=>bd (α:=Bool) (if (!H)=true then some true else bd (e_l x1) fun I=>bd (d_n n x1 I x2) fun J=>some (!J)) fun L=>if L=true then bd (d_2 n x2) fun O=>some (O,false) else bd (d_2 n x2) fun V=>bd2 (i_1 n x1 V G) fun W Y=>opS W (bd (d_2 n x2) fun a0=>some (a0,false)) fun a1=>bd (d_n n x1 Y x4) fun a2=>if a2=true then bd (d_2 n x4) fun a3=>some (a1.2 a3,true) else bd (d_2 n x2) fun a4=>some (a4,false)
def c_2 (x1:a_O)(x2:List UInt8):Option (List UInt8) :=
 bd (app x1.out x2) fun G=>some G
def g_j (x1:List UInt8)(x2:UInt8):Option (List UInt8) :=
 bd (mk0 ()<|i_ (x1.length:Int) 1) fun a0=>bd (w_ (σ:=List UInt8) (ρ:=List UInt8) (fun I=>(fun G=>bd (idx x1 (I:Int)) fun H=>bd (α:=Bool) (if ((byteI H)==(byteI x2))=true then some true else some ((byteI H)==(byteI (92:UInt8)))) (fun J=>bd (α:=List UInt8) (if J=true then bd (psh G (92:UInt8)) fun L=>some L else some G)<|fun O=>bd (psh O H) fun V=>some<|.next V))) x1.length 0 ([]:List UInt8))<|el (fun G=>bd (psh G x2) fun W=>some W)<|fun Y=>some Y
def e_E (x1:a_O):Option Bool :=
 some (decide<|400<(x1.out.length:Int))
def e_F (n:Nat)(x1:Int)(x2:Int):Option (List UInt8) :=
 bd (α:=Bool) (bd (b_Z x2 1 4) fun J=>if (!J)=true then some true else if (decide<|x1<0)=true then some true else bd (nn<|a_m 8 x2) fun Y=>some<|decide<|(b_j .i64 1<|a_m 8 x2)<=x1) (fun L=>if L=true then some ([]:List UInt8) else bd (mk0 (0:UInt8) x2) fun O=>bd (H_ (σ:=Int×(List UInt8)×Int) (ρ:=List UInt8) (un3 fun H I G=>if (decide<|0<=G)=true then bd (upd I G<|mkB H) fun V=>some (.next (a_H .i64 H 8,V,q_ G 1)) else some (.brk (H,I,G))) n (x1,O,q_ x2 1))<|el (un3 fun H I G=>some I)<|fun W=>some W)
def g_k (n:Nat)(x1:Int)(x2:Int):Option (List UInt8) :=
 bd (e_F n x1 x2) fun J=>bd (H_ (σ:=(List UInt8)×Int×Int) (ρ:=List UInt8) (un3 fun G H I=>if (decide<|H<I)=true then bd (α:=List UInt8) (bd (idx G I) fun L=>bd (idx G H) fun O=>bd (upd G H L) fun V=>bd (upd V I O) fun W=>some W) (fun Y=>some<|.next (Y,i_ H 1,q_ I 1)) else some (.brk (G,H,I))) n (J,0,q_ (J.length:Int) 1))<|el (un3 fun G H I=>some G)<|fun a0=>some a0
def e_G (n:Nat)(x1:b_)(x2:Int):Option (List UInt8) :=
 if x1.little=true then bd (g_k n x2 x1.size) fun G=>some G else bd (e_F n x2 x1.size) fun H=>some H
def d_T (n:Nat)(x1:Int)(x2:Int)(x3:a_O):Option (List UInt8) :=
 bd (idx x3.d.rules x1) fun G=>bd (e_G n G x2) fun H=>bd (c_2 x3 H) fun I=>some I
structure g_l where
 impl_printer_value:a_O->Int->Val->Option (List UInt8)
 impl_printer_items:a_O->Int->Val->Option (List UInt8)
def b_R (n:Nat)(rec:g_l)(x1:a_O)(x2:Int)(x3:Val):Option (List UInt8) :=
 bd (idx x1.d.rules x2) fun G=>bd (α:=List UInt8) (if (G.kind==1)=true then bd (d_T n x2 x3.number x1) fun J=>some J else bd (α:=List UInt8) (if (G.kind==2)=true then bd (c_2 x1 G.bytes) fun L=>some L else bd (α:=List UInt8) (if (G.kind==3)=true then bd (c_2 x1 x3.bytes) fun O=>some O else bd (α:=List UInt8) (if (G.kind==4)=true then bd (idx G.kids 0) fun V=>bd (d_T n V (x3.bytes.length:Int) x1) fun W=>bd (c_2 (⟨(⟨x1.d.rules⟩:f_),W⟩:a_O) x3.bytes) fun Y=>some Y else bd (α:=List UInt8) (if (G.kind==5)=true then bd (idx G.kids 0) fun a0=>bd (d_T n a0 (x3.items.length:Int) x1) fun a1=>some a1 else bd (α:=List UInt8) (if (G.kind==7)=true then bd (idx G.kids 0) fun a2=>bd (d_T n a2 x3.number x1) fun a3=>some a3 else bd (α:=List UInt8) (if (G.kind==8)=true then bd (c_2 x1 [mkB (x3.items.length:Int)]) fun a4=>some a4 else bd (α:=List UInt8) (if (G.kind==10)=true then bd (idx G.bytes 0) fun a5=>bd (g_j x3.bytes a5) fun a6=>bd (c_2 x1 a6) fun a7=>some a7 else some x1.out) (fun a8=>some a8)) (fun a9=>some a9)) (fun aa=>some aa)) (fun ab=>some ab)) (fun ad=>some ad)) (fun ae=>some ae)) (fun af=>some af)) (fun I=>bd (rec.impl_printer_items (⟨(⟨x1.d.rules⟩:f_),I⟩:a_O) x2 x3) fun H=>bd (α:=List UInt8) (if (G.kind==9)=true then bd (slc H (I.length:Int) (H.length:Int)) fun ah=>bd (f_9 ah) fun ai=>bd (c_2 (⟨(⟨x1.d.rules⟩:f_),H⟩:a_O) [mkB ai]) fun aj=>some aj else some H)<|fun ak=>some ak)
def g_m (n:Nat)(rec:g_l)(x1:a_O)(x2:Int)(x3:Val):Option (List UInt8) :=
 bd (w_ (σ:=List UInt8) (ρ:=List UInt8) (fun H=>(fun G=>bd (e_E (⟨(⟨x1.d.rules⟩:f_),G⟩:a_O)) fun I=>if I=true then some (.ret G) else bd (idx x3.items (H:Int)) fun J=>bd (d_m (⟨x1.d.rules⟩:f_) x2 x3 (H:Int)) fun L=>bd (rec.impl_printer_value (⟨(⟨x1.d.rules⟩:f_),G⟩:a_O) L J) fun O=>some<|.next O)) x3.items.length 0 x1.out) (el (fun G=>some G)<|fun V=>some V)
def c_b:Nat->g_l
 | 0=>⟨fun _ _ _=>none,fun _ _ _=>none⟩
 | n+1=>⟨b_R n<|c_b n,g_m n<|c_b n⟩
def g_n (n:Nat):=(c_b n).impl_printer_value
def i_2 (n:Nat)(x1:f_)(x2:Int)(x3:Val):Option ((List UInt8)×Bool) :=
 bd (d_n n x1 x2 x3) fun H=>if (!H)=true then some (([]:List UInt8),false) else bd (g_n n (⟨(⟨x1.rules⟩:f_),([]:List UInt8)⟩:a_O) x2 x3) fun G=>bd (e_E (⟨(⟨x1.rules⟩:f_),G⟩:a_O)) fun I=>if I=true then some (([]:List UInt8),false) else some (G,true)
def g_o (n:Nat)(x1:f_)(x2:Val):Option ((List UInt8)×Bool) :=
 bd (e_l x1) fun G=>bd2 (i_2 n x1 G x2) fun H I=>some (H,I)
def f_n (n:Nat)(x1:f_)(x2:List UInt8)(x3:Str)(x4:Val):Option ((List UInt8)×Bool) :=
 bd3 (h_w n x1 x2) fun G W H=>bd (α:=Sum Unit<|(List UInt8)×Bool) (if (H==0)=true then bd2 (f_m n x1 G x3 x4) fun I J=>bd (α:=Sum Unit<|Sum Unit<|(List UInt8)×Bool) (if J=true then bd2 (g_o n x1 I) fun L O=>if O=true then some (.inr<|.inr (L,true)) else some (.inl ()) else some (.inl ())) (el (fun (_:Unit)=>some<|.inl ()) some) else some (.inl ()))<|el (fun (_:Unit)=>bd (app ([]:List UInt8) x2) fun V=>some (V,false)) some
def g_p (n:Nat)(x1:f_)(x2:List UInt8)(x3:Str)(x4:Val):Option Bool :=
 if (decide<|1048576<(x2.length:Int))=true then some true else if (decide<|1048576<(x3.b.length:Int))=true then some true else bd (g_V x1 1048576) fun V=>if (decide<|V<0)=true then some true else bd (l_A n x4 V) fun a3=>if (decide<|a3<0)=true then some true else bd (e_f x1) fun a4=>bd (d_j x2) fun a5=>bd (g_g n x4) fun a6=>bd2 (g_i n a4 a5 x3 a6) fun G H=>bd (e_f x1) fun I=>bd (d_j x2) fun J=>bd (g_g n x4) fun L=>bd2 (f_n n I J x3 L) fun O W=>bd (α:=Bool) (bd (d_k O G) fun a7=>if (!a7)=true then some true else some (W != H)) (fun a8=>if a8=true then some false else bd (e_f x1) fun a9=>bd (h_z I a9) fun aa=>if (!aa)=true then some false else bd (d_j x2) fun ab=>bd (d_k J ab) fun ad=>if (!ad)=true then some false else bd (g_g n x4) fun ae=>bd (l_2 n L ae) fun af=>if (!af)=true then some false else bd2 (h_B n I 1) fun ah av=>bd2 (c_u n J ah) fun ai aw=>bd3 (h_F n L ai) fun aj ax ay=>bd (α:=Bool) (if (decide<|aj<0)=true then some true else bd (d_k O G) fun ak=>if (!ak)=true then some true else some (W != H)) (fun al=>if al=true then some false else bd2 (c_u n O 1) fun Y a0=>bd (f_V a0 1) fun a1=>if (decide<|a1<0)=true then some false else if (a1 != Y)=true then some false else bd (e_f x1) fun am=>bd (d_j x2) fun an=>bd (g_g n x4) fun ao=>bd2 (f_n n am an x3 ao) fun ap aq=>bd (α:=Bool) (bd (d_k ap G) fun ar=>if (!ar)=true then some true else some (aq != H)) (fun au=>if au=true then some false else bd (f_V a0 1) fun a2=>if (decide<|a2<0)=true then some false else if (a2 != Y)=true then some false else some true)))
end Go.Vw
namespace Go.Vw
open Go.RowKit Dat
theorem n_P {P:Program}{o:Oper}{a:Act}{w:World}{K K' K1 K2:Act->World->Prop}{Q:Exit->Act->World->Prop}(h:∀a w,K a w->K' a w)(hh:o.wp P a w K (Exit.then K1 Q)):o.wp P a w K' (Exit.then K2 Q):=by
 unfold Oper.wp at *
 generalize (execOp a.eval o).run P w=r at *
 cases r with
 | ok n w' =>
  cases n <;> simp only [Oper.upon] at hh ⊢ <;>
   first
    | exact h _ _ hh
    | exact Calls.mono hh (fun e w'' he=>by cases e <;> first | exact h _ _ he | exact he)
    | exact Rows.mono hh<|fun _ _ he=>h _ _ he
 | halt x w'=>cases x <;> simp only [Oper.upon] at hh ⊢ <;> exact hh
theorem j_5 {P:Program}{ops:Array Oper}{K K1:Act->World->Prop}{Q:Exit->Act->World->Prop}{G:List Oper}(hk:∀a w,K1 a w->wpList P ops (Exit.then K Q) G a w):∀(l1:List Oper)(a:Act)(w:World),wpList P ops (Exit.then K1 Q) l1 a w->wpList P ops (Exit.then K Q) (l1++G) a w
 | [],a,w,h=>hk a w h
 | o::l1,a,w,h=>by
  rw [List.cons_append]
  unfold wpList at h ⊢
  split at h
  ·rename_i hw
   rw [if_pos hw]
   rcases h with h | ⟨h1,h2⟩
   ·exact .inl<|n_P (j_5 hk l1) h
   ·exact .inr ⟨h1,h2⟩
  ·rename_i hw
   rw [if_neg hw]
   exact j_5 hk l1 _ _ h
section
variable {P:Program}{N:Nat}{ops:Array Oper}{K:Act->World->Prop}{Q:Exit->Act->World->Prop}{e:Env}{w:World}{l:List Oper}
theorem n_Q (k:Nat)(l:List Oper):l.take k++l.drop k=l:=List.take_append_drop k l
theorem c_V (d:Nat)(u:Bool)(k:Nat)(h1:WL P N ops (fun a w'=>w'=w/\Sat N ((d,vB u)::e) a) Q (l.take k) e w)(h2:WL P N ops K Q (l.drop k) ((d,vB u)::e) w):WL P N ops K Q l e w:=fun a ha=>by
 rw [← n_Q k l]
 exact j_5 (fun a w' ⟨hw,hs⟩=>by subst hw;exact h2 a hs) _ a w<|h1 a ha
variable {d:Nat}{u c:Bool}
def j_6 (n:Nat)(e:Env):Bool:=(e.take n).all fun p=>(e.drop n).all fun q=>!Nat.beq p.1 q.1
theorem l_a:∀{e:Env}{t:Nat},(∀q∈e,Nat.beq t q.1=false)->t_ e t=none
 | [],_,_=>rfl
 | (k,v)::e,t,h=>by
  have h1:=h (k,v) List.mem_cons_self;have h2:Nat.beq k t=false:=by rw [← Bool.not_eq_true,Nat.beq_eq] at *;exact fun h=>h1 h.symm
  rw [t_,h2]
  exact l_a fun q hq=>h q<|List.mem_cons_of_mem _ hq
theorem l_b:∀{G H:Env}{t:Nat},(∀p∈G,Nat.beq p.1 t=false)->t_ (G++H) t=t_ H t
 | [],_,_,_=>rfl
 | (k,v)::G,H,t,h=>by
  rw [List.cons_append,t_,h (k,v) List.mem_cons_self]
  exact l_b fun p hp=>h p<|List.mem_cons_of_mem _ hp
theorem n_R {n:Nat}{e:Env}(h:j_6 n e=true){t:Nat}{v:Value}(hl:t_ (e.drop n) t=some v):t_ e t=some v:=by
 have:t_ (e.take n++e.drop n) t=t_ (e.drop n) t:=by
  refine l_b fun p hp=>?_
  cases hb:Nat.beq p.1 t with
  | false=>rfl
  | true =>
   exfalso
   have hpt:p.1=t:=Nat.eq_of_beq_eq_true hb;have h1:=List.all_eq_true.1 h p hp
   rw [List.all_eq_true] at h1
   have:=l_a (e:=e.drop n) (t:=t) fun q hq=>by
    have:=h1 q hq
    rw [Bool.not_eq_true'] at this
    rw [← hpt];exact this
   rw [this] at hl;cases hl
 rw [List.take_append_drop] at this
 rw [this];exact hl
theorem n_S (n:Nat){e':Env}{a:Act}(hu:c=u)(G:t_ e' d=some (vB c))(hf:j_6 n e'=true)(he:e'.drop n=e)(ha:Sat N e' a):Sat N ((d,vB u)::e) a:=by
 subst hu;subst he;refine ⟨ha.defers,ha.size,fun t v ht=>?_⟩
 simp only [t_] at ht
 by_cases hk:d=t
 ·subst hk;have hb:Nat.beq d d=true:=by simp
  rw [hb] at ht
  simp only [cond_true,Option.some.injEq] at ht
  subst ht;exact ha.at_ d _ G
 ·have hb:Nat.beq d t=false:=by rw [← Bool.not_eq_true,Nat.beq_eq];exact hk
  rw [hb] at ht
  simp only [cond_false] at ht
  exact ha.at_ t v<|n_R hf ht
theorem WLq (n:Nat){e':Env}(hu:some c=some u)(G:t_ e' d=some (vB c))(hf:j_6 n e'=true)(he:e'.drop n=e):WL P N ops (fun a w'=>w'=w/\Sat N ((d,vB u)::e) a) Q [] e' w :=
 a_0 fun _ ha=>⟨rfl,n_S n (Option.some.inj hu) G hf he ha⟩
end
end Go.Vw
universe u
namespace Go.Vw
open Go.RowKit Dat
section
variable {P:Program}{N:Nat}{ops:Array Oper}{K:Act->World->Prop}{Q:Exit->Act->World->Prop}{e:Env}{w:World}{rest:List Oper}
variable {d:Nat}{op:Op}{ty:TypeId}{pos:String}{aft:Array Edge}{x:Operand}
theorem Wn {y:Code}{Q':Exit->Act->World->Prop}(h:WC P N y K Q e w):WL P N ops (KC P y K Q) Q' [] e w:=a_0<|WC.of_KC h
theorem Ws {id:Nat}{l:List Oper}{y:Code}(h:WL P N l.toArray (KC P y K Q) Q l e w):WC P N (.seq (.region id l.toArray false) y) K Q e w:=O_<|a_b h
theorem Wk {y:Code}{Q':Exit->Act->World->Prop}(h:WC P N y K Q e w):WC P N .skip (KC P y K Q) Q' e w:=a_h<|WC.of_KC h
theorem d_i {b:Bool}{o:Option Value}{v:Value}(h:(bif b then o else none)=some v):b=true/\o=some v:=by
 cases b
 ·cases h
 ·exact ⟨rfl,h⟩
theorem Rm {v:Value}(h:(bif Nat.blt d N then ev e x else none)=some v)(k:WL P N ops K Q rest ((d,v)::e) w):WL P N ops K Q (⟨some d,.move x,ty,pos,aft,none⟩::rest) e w:=R (d_i h).1 (a_c (d_i h).2) k
theorem Ra {v:Value}(h:(bif Nat.blt d N then ev e x else none)=some v)(k:WL P N ops K Q rest ((d,v)::e) w):WL P N ops K Q (⟨some d,.assign x,ty,pos,aft,none⟩::rest) e w:=R (d_i h).1 (a_y (d_i h).2) k
section
variable {j:Nat}{want b:Bool}
theorem bind_some {o:Option Nat}{v:Value}(h:o.bind (t_ e)=some v):∃gd,o=some gd/\t_ e gd=some v:=by
 cases o with
 | none=>cases h
 | some g=>exact ⟨g,rfl,h⟩
theorem Rh {v:Value}(h:(bif Nat.blt d N then ((ops[j]?).bind (·.dst)).bind (t_ e) else none)=some (.bool b))(hw:b=want)(hr:Rd noX P N ⟨some d,op,ty,pos,aft,some (j,want)⟩ e w v)(k:WL P N ops K Q rest ((d,v)::e) w):WL P N ops K Q (⟨some d,op,ty,pos,aft,some (j,want)⟩::rest) e w:=by
 obtain ⟨gd,h1,h2⟩:=bind_some (d_i h).2;exact Rg h1 h2 hw (d_i h).1 hr k
theorem Nh (h:(bif Nat.blt d N then ((ops[j]?).bind (·.dst)).bind (t_ e) else none)=some (.bool b))(hw:b = !want)(k:WL P N ops K Q rest ((d,undef)::e) w):WL P N ops K Q (⟨some d,op,ty,pos,aft,some (j,want)⟩::rest) e w:=by
 obtain ⟨gd,h1,h2⟩:=bind_some (d_i h).2;exact Ng h1 h2 hw (d_i h).1 k
theorem Nv (h:(bif Nat.blt d N then ((ops[j]?).bind (·.dst)).bind (t_ e) else none)=some undef)(k:WL P N ops K Q rest ((d,undef)::e) w):WL P N ops K Q (⟨some d,op,ty,pos,aft,some (j,want)⟩::rest) e w:=by
 obtain ⟨gd,h1,h2⟩:=bind_some (d_i h).2;exact Nu h1 h2 (d_i h).1 k
end
end
theorem goF {P:Program}{f:FuncId}{G:Func}{c:Code}{N:Nat}{args:List Value}{w:World}{R:Value->World->Prop}(hf:P.funcs[f]? = some G)(hb:G.body=some c)(hN:G.ntmps=N)(hle:args.length<=N)(h:∀fn:Func,fn.results=G.results->WC P N c (b_S P fn R) (QR P fn R) (d_V 0 args) w):k_ P f args w R:=e_J hf hb hN hle<|h G rfl
theorem goG {P:Program}{f:FuncId}{G:Func}{c:Code}{N:Nat}{args:List Value}{w:World}{R:Value->World->Prop}(hf:P.funcs[f]? = some G)(hb:G.body=some c)(hN:G.ntmps=N)(hle:Nat.ble args.length N=true)(h:∀fn:Func,fn.results=G.results->WC P N c (b_S P fn R) (QR P fn R) (d_V 0 args) w):k_ P f args w R:=goF hf hb hN (Nat.le_of_ble_eq_true hle) h
section
variable {P:Program}{N:Nat}{e:Env}{w:World}{ty:TypeId}{pos:String}{aft:Array Edge}{gd:Option (Nat×Bool)}{x y:Operand}
theorem fs0 {T n g o:Nat}{v:Value}{cur cur':List Value}(hs:∀w,(sizeOf T).run P w = .ok n w)(hp:ev e x=some (.pointer<|some ⟨g,o,none⟩))(hv:ev e y=some v)(hB:Blk w g cur)(hn:v.cells.size=n)
  (ho:Nat.ble (o+n) cur.length=true) (h1:v.cells.toList.all Value.oneCell'=true) (hcur:cur.take o++v.cells.toList++cur.drop (o+v.cells.toList.length)=cur') :
  Ef P N ⟨none,.store T x y,ty,pos,aft,gd⟩ e w (fun _ w'=>Blk w' g cur'/\Chg (· = g) w w'):=a_X hs hp hv hB hn (Nat.le_of_ble_eq_true ho) (b_3 h1) hcur
end
abbrev rQ {ρ:Type}(P:Program)(fn:Func)(Q:ρ->Value->World->Prop)(r:ρ)(ex:Exit)(a:Act)(w:World):Prop:=ex = .ret/\b_S P fn (Q r) a w
abbrev _root_.Go.World.z (w:World):Nat:=w.heap.size
abbrev sl (a:Option Addr)(n c:Nat):Value:=.slice a n c
abbrev pt (g:Nat):Value:=.pointer<|some ⟨g,0,none⟩
abbrev Bw (a b:World):Prop:=Below a.heap.size a b
abbrev vR (x:b_)(G:Option Addr)(H I:Nat)(a2:Option Addr)(J L:Nat)(O:Option Addr)(V W:Nat)(Y:Option Addr)(n4 c4:Nat):List Value:=[x.name.v,vI x.kind,vI x.size,vB x.little,.slice G H I,.slice a2 J L,.slice O V W,.slice Y n4 c4]
theorem z {α:Sort u}{a:α}:a=a:=rfl
theorem Sat.k {N:Nat}{e e':Env}{a:Act}(h:Sat N e a)(hs:sub e e'):Sat N e' a:=h.weaken hs
theorem fid {a:Prop}(h:a):a:=h
theorem lt_ {a b c:Nat}(h:a<=b)(h':b<=c):a<=c:=Nat.le_trans h h'
theorem lr {a:Nat}:a<=a:=Nat.le_refl a
theorem lb {a b:Nat}(h:Nat.ble a b=true):a<=b:=Nat.le_of_ble_eq_true h
theorem ii {x:Int}(h:(decide (-9223372036854775808<=x) && decide (x<=9223372036854775807))=true):inI x:=l_p x h
section
variable {S T A M:List Nat}{m n g k:Nat}
theorem l_0 (h:m<=n):∀k∈[n],m<=k:=e_ h
theorem mno (h:∀ k∈T,k<m)(h':m<=n):∀k∈[n],k∉T:=e_<|fun ht=>absurd (h n ht)<|Nat.not_lt.2 h'
theorem mnr (h:∀ k∈T,k<m):∀k∈[m],k∉T:=mno h lr
theorem mm1 (h:g<m)(h':m<=n):∀k∈[n],k∉[g]:=mno (e_ h) h'
theorem mmr (h:g<m):∀k∈[m],k∉[g]:=mno (e_ h) lr
theorem mor (h:m<=n):∀k∈[n],k∈M∨m<=k:=e_<|.inr h
theorem h_ (hs:∀k∈S,n<=k)(h:m<=n):∀k∈S,m<=k:=or0 hs<|b_4 h
theorem n_ (hs:∀k∈S,n<=k)(h:g<m)(h':m<=n):∀k∈S,k∉[g]:=or0 hs<|X_ (e_ h) h'
theorem a_4 (hs:∀k∈S,n<=k)(h:∀ k∈T,k<m)(h':m<=n):∀k∈S,k∉T:=or0 hs<|X_ h h'
theorem a_8 (hs:∀k∈S,k∈A∨n<=k)(ha:∀k∈A,m<=k)(h:m<=n):∀k∈S,m<=k:=or1 hs ha<|b_4 h
theorem a_N (hs:∀k∈S,k∈A∨n<=k)(ha:∀k∈A,k∉T)(h:∀ k∈T,k<m)(h':m<=n):∀k∈S,k∉T:=or1 hs ha<|X_ h h'
theorem djs (h:∀k∈S,k∉[g]):g∉S:=fun hg=>h g hg<|List.mem_singleton.2 rfl
theorem atp {p:Nat->Prop}(h:∀k∈[g],p k):p g:=h g<|List.mem_singleton.2 rfl
theorem nd0:([]++[]:List Nat).Nodup:=h_W a_2 a_2 all_nil
theorem al0 {p:Nat->Prop}:∀k∈([]++[]:List Nat),p k:=h_V all_nil all_nil
end
section
variable {e e':Env}{v1 v2 v3 v4 v5 v6 v7 v8 v9:Value}{k1 k2 k3 k4 k5 k6 k7 k8 k9:Nat}
theorem s1 (h1:t_ e k1=some v1):sub e [(k1,v1)]:=⟨h1,trivial⟩
theorem s2 (h1:t_ e k1=some v1)(h2:t_ e k2=some v2):sub e [(k1,v1),(k2,v2)]:=⟨h1,s1 h2⟩
theorem s3 (h1:t_ e k1=some v1)(h2:t_ e k2=some v2)(h3:t_ e k3=some v3):sub e [(k1,v1),(k2,v2),(k3,v3)]:=⟨h1,s2 h2 h3⟩
theorem s4 (h1:t_ e k1=some v1)(h2:t_ e k2=some v2)(h3:t_ e k3=some v3)(h4:t_ e k4=some v4):sub e [(k1,v1),(k2,v2),(k3,v3),(k4,v4)]:=⟨h1,s3 h2 h3 h4⟩
theorem s5 (h1:t_ e k1=some v1)(h2:t_ e k2=some v2)(h3:t_ e k3=some v3)(h4:t_ e k4=some v4)(h5:t_ e k5=some v5):sub e [(k1,v1),(k2,v2),(k3,v3),(k4,v4),(k5,v5)]:=⟨h1,s4 h2 h3 h4 h5⟩
theorem s6 (h1:t_ e k1=some v1)(h2:t_ e k2=some v2)(h3:t_ e k3=some v3)(h4:t_ e k4=some v4)(h5:t_ e k5=some v5)(h6:t_ e k6=some v6):sub e [(k1,v1),(k2,v2),(k3,v3),(k4,v4),(k5,v5),(k6,v6)]:=⟨h1,s5 h2 h3 h4 h5 h6⟩
theorem s7 (h1:t_ e k1=some v1)(h2:t_ e k2=some v2)(h3:t_ e k3=some v3)(h4:t_ e k4=some v4)(h5:t_ e k5=some v5)(h6:t_ e k6=some v6)(G:t_ e k7=some v7):sub e [(k1,v1),(k2,v2),(k3,v3),(k4,v4),(k5,v5),(k6,v6),(k7,v7)]:=⟨h1,s6 h2 h3 h4 h5 h6 G⟩
theorem s8 (h1:t_ e k1=some v1)(h2:t_ e k2=some v2)(h3:t_ e k3=some v3)(h4:t_ e k4=some v4)(h5:t_ e k5=some v5)(h6:t_ e k6=some v6)(G:t_ e k7=some v7)(H:t_ e k8=some v8):sub e [(k1,v1),(k2,v2),(k3,v3),(k4,v4),(k5,v5),(k6,v6),(k7,v7),(k8,v8)]:=⟨h1,s7 h2 h3 h4 h5 h6 G H⟩
theorem s9 (h1:t_ e k1=some v1)(h2:t_ e k2=some v2)(h3:t_ e k3=some v3)(h4:t_ e k4=some v4)(h5:t_ e k5=some v5)(h6:t_ e k6=some v6)(G:t_ e k7=some v7)(H:t_ e k8=some v8)(I:t_ e k9=some v9):sub e [(k1,v1),(k2,v2),(k3,v3),(k4,v4),(k5,v5),(k6,v6),(k7,v7),(k8,v8),(k9,v9)]:=⟨h1,s8 h2 h3 h4 h5 h6 G H I⟩
end
theorem onL {α:Type}[Dat α]{w:World}:a_ w [] (.slice none 0 0) ([]:List α):=l_r w
theorem _root_.Go.RowKit.Below.s {b:Nat}{w w':World}(h:Below b w w'):w.heap.size<=w'.heap.size:=h.size
theorem Chg.s {X:Nat->Prop}{w w':World}(h:Chg X w w'):w.heap.size<=w'.heap.size:=h.size
abbrev Chg.e:=@Chg.ext
abbrev repS.e:=@repS.ext
abbrev repS.c:=@repS.chg
abbrev a_.e:=@a_.ext
abbrev a_.c:=@a_.chg
abbrev I_.e:=@I_.ext
abbrev I_.c:=@I_.chg
abbrev a_C.e:=@a_C.ext
abbrev a_C.c:=@a_C.chg
abbrev b_i.e:=@b_i.ext
abbrev b_i.c:=@b_i.chg
abbrev GlW.e:=@GlW.ext
abbrev GlW.c:=@GlW.chg
abbrev b_T.e:=@b_T.ext
abbrev b_T.c:=@b_T.chg
abbrev Blk.e:=@Blk.ext
abbrev Blk.c:=@Blk.chg
abbrev b_D.e:=@b_D.ext
abbrev b_D.c:=@b_D.chg
section
variable {P:Program}{N:Nat}{ops:Array Oper}{K:Act->World->Prop}{Q:Exit->Act->World->Prop}{e:Env}{w:World}{rest:List Oper}{X:Nat->Prop}{T:Nat}{p:a_t}
variable {d d':Nat}{ty ty':TypeId}{pos pos':String}{aft aft':Array Edge}{x x':Operand}{v v':Value}
theorem Rw {c:Code}{Q':Exit->Act->World->Prop}(h:(bif Nat.blt d N then ev e x else none)=some v)(k:WC P N c K Q ((d,v)::e) w):WL P N ops (KC P c K Q) Q' [⟨some d,.assign x,ty,pos,aft,none⟩] e w:=Ra h<|Wn k
theorem Wm {id:Nat}{l:List Oper}{c:Code}(h:(bif Nat.blt d N then ev e x else none)=some v)(k:WL P N (⟨some d,.move x,ty,pos,aft,none⟩::l).toArray (KC P c K Q) Q l ((d,v)::e) w):WC P N (.seq (.region id (⟨some d,.move x,ty,pos,aft,none⟩::l).toArray false) c) K Q e w:=Ws<|Rm h k
theorem RM (h:(bif Nat.blt d N then ev e x else none)=some v)(h':(bif Nat.blt d' N then ev ((d,v)::e) x' else none)=some v')(k:WL P N ops K Q rest ((d',v')::(d,v)::e) w):WL P N ops K Q (⟨some d,.move x,ty,pos,aft,none⟩::⟨some d',.move x',ty',pos',aft',none⟩::rest) e w:=Rm h<|Rm h' k
theorem RA (h:(bif Nat.blt d N then ev e x else none)=some v)(h':(bif Nat.blt d' N then ev ((d,v)::e) x' else none)=some v')(k:WL P N ops K Q rest ((d',v')::(d,v)::e) w):WL P N ops K Q (⟨some d,.assign x,ty,pos,aft,none⟩::⟨some d',.assign x',ty',pos',aft',none⟩::rest) e w:=Ra h<|Ra h' k
theorem dM {i:Nat}(ho:ops[i]? = some ⟨some d,.move x,ty,pos,aft,none⟩)(hf:Nat.blt d N=true)(h:ev e x=some v)(k:PR X P N ops T K p ((d,v)::e) w):PR X P N ops T K (.rd i p) e w:=dR ho hf (a_c h) k
theorem dQ {i:Nat}(ho:ops[i]? = some ⟨some d,.assign x,ty,pos,aft,none⟩)(hf:Nat.blt d N=true)(h:ev e x=some v)(k:PR X P N ops T K p ((d,v)::e) w):PR X P N ops T K (.rd i p) e w:=dR ho hf (a_y h) k
theorem Wx {y y':Code}{b:Bool}{Q':Exit->Act->World->Prop}(hc:ev e x=some (.bool b))(ht:b=true->WC P N y K Q e w)(hf:b=false->WC P N y' K Q e w):WL P N ops (KC P (.cond x y y') K Q) Q' [] e w:=Wn<|b_F hc ht hf
section
variable {t u i:Nat}{k:IntKind}{a b:Int}
theorem Rl (hf:Nat.blt d N=true)(h1:ev e x=some (.int k a))(h2:ev e x'=some (.int k b))(h:WL P N ops K Q rest ((d,vB<|decide<|a<b)::e) w):WL P N ops K Q (⟨some d,.binOp .lss t x x' u,ty,pos,aft,none⟩::rest) e w:=R hf (d_Z h1 h2) h
theorem Rq (hf:Nat.blt d N=true)(h1:ev e x=some (.int k a))(h2:ev e x'=some (.int k b))(h:WL P N ops K Q rest ((d,vB<|a==b)::e) w):WL P N ops K Q (⟨some d,.binOp .eql t x x' u,ty,pos,aft,none⟩::rest) e w:=R hf (i_c h1 h2) h
theorem Rf {g o j:Nat}(hf:Nat.blt d N=true)(h1:Fld P t i j)(h2:ev e x=some (.pointer<|some ⟨g,o,none⟩))(h:WL P N ops K Q rest ((d,.pointer<|some ⟨g,o+j,none⟩)::e) w):WL P N ops K Q (⟨some d,.fieldAddr t x i,ty,pos,aft,none⟩::rest) e w:=R hf (g_t h1 h2) h
theorem Re {vs:Array Value}(hf:Nat.blt d N=true)(h1:ev e x=some (.tuple vs))(h2:vs[i]? = some v)(h:WL P N ops K Q rest ((d,v)::e) w):WL P N ops K Q (⟨some d,.extract x i,ty,pos,aft,none⟩::rest) e w:=R hf (d_6 h1 h2) h
end
theorem l0 {t g o:Nat}{dst:Option Tmp}{gd:Option (Nat×Bool)}(hT:∀w,(isAgg t).run P w = .ok false w)(h:ev e x=some (.pointer<|some ⟨g,o,none⟩))(hc:w.cell? ⟨g,o,none⟩=some v):Rd noX P N ⟨dst,.load t x,ty,pos,aft,gd⟩ e w v:=c_c hT h (fun h=>h) hc
def plA:Nat->Nat->List Nat->a_t
 | _,0,_=>.done
 | i,n+1,l=>bif l.elem i then .ef i (plA (i+1) n l) else .rd i (plA (i+1) n l)
abbrev pl_ (n:Nat)(l:List Nat):a_t:=plA 0 n l
end
end Go.Vw
namespace Go.Vw
open Go.RowKit Dat Go.ChangeShapes Go.WideShapes Go.ChangeAt
structure IsT (P:Program)(t:TypeId)(α:Type)[Dat α](L:α->Prop):Prop where
 rd:∀{H:Type}(enc:TypeId×Value->H)(W:World)(fuel:Nat)(cs:List Value)(x:DataW H×List MemPlace),DataW.trod enc P W 0 (fun _=>true) true fuel t cs=some x->(x.1.weights P t).all (· <= reachBytes)=true->∃v:α,rep W W.heap.size cs v/\L v
section
variable {P:Program}{t:TypeId}
theorem o_y (ht:P.underlying t=some (.int .i64)):IsT P t Int (fun _=>True):=⟨fun enc W fuel cs x h _=>by
 obtain ⟨n,rfl,_,hw⟩:=DataW.trod_int ht h;have:=bounds_i64 hw
 exact ⟨n,⟨_,rfl,rfl,by unfold inI;omega⟩,trivial⟩⟩
theorem o_z (ht:P.underlying t=some (.int .u8)):IsT P t UInt8 (fun _=>True):=⟨fun enc W fuel cs x h _=>by
 obtain ⟨n,rfl,_,hw⟩:=DataW.trod_int ht h;have hb:=bounds_u8 hw
 have e:n=byteI (UInt8.ofNat n.toNat):=by
  unfold byteI
  rw [UInt8.toNat_ofNat']
  omega
 refine ⟨UInt8.ofNat n.toNat,⟨_,rfl,?_⟩,trivial⟩
 show Value.int .u8 n=vU (byteI<|UInt8.ofNat n.toNat)
 rw [← e]⟩
theorem o_A (ht:P.underlying t=some .bool):IsT P t Bool (fun _=>True):=⟨fun enc W fuel cs x h _=>by
 obtain ⟨b,rfl,_⟩:=DataW.trod_bool ht h
 exact ⟨b,⟨_,rfl,rfl⟩,trivial⟩⟩
theorem o_B (ht:P.underlying t=some .string):IsT P t Str (fun s=>s.b.length<=LEN):=⟨fun enc W fuel cs x h hw=>by
 obtain ⟨s,rfl,rfl,_⟩:=DataW.trod_string ht h
 simp only [DataW.weights,List.all_cons,List.all_nil,Bool.and_true,decide_eq_true_eq] at hw
 have hr:reachBytes=140737488351232:=rfl;have hL:LEN=140737488355328:=rfl;have hl:s.data.toList.length<=LEN:=by omega
 exact ⟨⟨s.data.toList⟩,⟨_,rfl,by simp [Str.v],hl⟩,hl⟩⟩
theorem j_u {H:Type}{e:TypeId}:∀{l:List (DataW H)}{d:DataW H},(DataW.weightsAll P e l).all (· <= reachBytes)=true->d∈l->(d.weights P e).all (· <= reachBytes)=true
 | [],_,_,h=>by cases h
 | y::l,d,hw,h=>by
  unfold DataW.weightsAll at hw
  rw [List.all_append,Bool.and_eq_true] at hw
  rcases List.mem_cons.1 h with rfl | h
  ·exact hw.1
  ·exact j_u hw.2 h
theorem e_H {H:Type}:∀{ts:List TypeId}{l:List (DataW H)}{i:Nat}{t:TypeId}{d:DataW H},(DataW.weightsEach P ts l).all (· <= reachBytes)=true->ts[i]? = some t->l[i]? = some d->(d.weights P t).all (· <= reachBytes)=true
 | [],_,_,_,_,_,h,_=>by simp at h
 | _::_,[],_,_,_,_,_,h=>by simp at h
 | t::ts,y::l,i,t',d,hw,h1,h2=>by
  unfold DataW.weightsEach at hw
  rw [List.all_append,Bool.and_eq_true] at hw
  cases i with
  | zero=>simp at h1 h2;subst h1 h2;exact hw.1
  | succ i=>simp at h1 h2;exact e_H hw.2 h1 h2
theorem cells?_spec {w:World}{a:Addr}{n:Nat}{cs:List Value}(h:w.cells? 0 a n=some cs):cs.length=n/\∀j v,cs[j]? = some v->w.cell? (a.add j)=some v:=by
 unfold World.cells? at h
 rw [if_pos (Nat.zero_le _)] at h
 refine ⟨by simpa using mapM_some_length h,fun j v hv=>?_⟩
 have hj:j<n:=by
  have h1:=(List.getElem?_eq_some_iff.1 hv).1;have h2:=mapM_some_length h
  simp at h2
  omega
 have:=mapM_some_get h j j (by rw [List.getElem?_range hj])
 rw [this];exact hv
theorem l_D {w:World}{a:Addr}{v:Value}(h:w.cell? a=some v):a.spot=none:=by
 unfold World.cell? at h
 split at h
 ·cases hs:a.spot with
  | none=>rfl
  | some x=>rw [hs] at h;simp at h
 ·cases h
theorem i_3 {α:Type}(Q:Nat->α->Prop):∀(len:Nat),(∀i,i<len->∃v,Q i v)->∃l:List α,l.length=len/\∀(i:Nat)(x:α),l[i]? = some x->Q i x
 | 0,_=>⟨[],rfl,fun i x h=>by simp at h⟩
 | n+1,h=>by
  obtain ⟨l,hl,hq⟩:=i_3 Q n<|fun i hi=>h i (by omega);obtain ⟨v,hv⟩:=h n (by omega);refine ⟨l++[v],by simp [hl],fun i x hx=>?_⟩
  by_cases hi:i<l.length
  ·rw [List.getElem?_append_left hi] at hx;exact hq i x hx
  ·rw [List.getElem?_append_right (by omega)] at hx
   have h1:=(List.getElem?_eq_some_iff.1 hx).1
   simp only [List.length_cons,List.length_nil] at h1
   have h2:i=n:=by omega
   subst h2
   rw [show i - l.length=0 by omega] at hx
   simp at hx
   exact hx ▸ hv
theorem i_4 {α:Type}[Dat α]{L:α->Prop}{e:TypeId}(ht:P.underlying t=some (.slice e))(he:IsT P e α L)(hc:P.cellsOf e=sz α)(hb:1<=P.bytesOf e):IsT P t (List α) (fun l=>l.length<=LEN/\∀x∈l,L x):=⟨fun enc W fuel cs x h hw=>by
 have hr:reachBytes=140737488351232:=rfl;have hL:LEN=140737488355328:=rfl
 rcases DataW.trod_slice ht h with ⟨rfl,rfl⟩ | ⟨a,len,cap,elems,rest,n,_,rfl,rfl,_,hlc,_,hlen,hel,hsp,_⟩
 ·exact ⟨[],⟨_,rfl,none,0,rfl,Nat.le_refl _,Nat.zero_le _,fun _=>rfl,fun p hp=>by cases hp⟩,by simp,fun x hx=>by cases hx⟩
 ·obtain ⟨hrl,_⟩:=hsp rfl
  have hw':(elems.length+rest.length) * P.bytesOf e<=reachBytes/\(DataW.weightsAll P e<|elems.map (·.1)).all (· <= reachBytes)=true:=by
   unfold DataW.weights at hw
   rw [ht] at hw
   simp only [List.all_cons,List.all_append,Bool.and_eq_true,decide_eq_true_eq,List.length_map] at hw
   exact ⟨hw.1,hw.2.1⟩
  have hcap:cap<=LEN:=by
   have h1:elems.length+rest.length<=(elems.length+rest.length) * P.bytesOf e:=Nat.le_mul_of_pos_right _ hb
   omega
  have hone:∀i:Nat,i<len->∃v:α,a.spot=none/\a.block<W.heap.size/\(∃cs,I_ W a.block (a.off+i * sz α) cs/\rep W W.heap.size cs v)/\L v:=by
   intro i hi;have h1:=hel i hi;have hie:i<elems.length:=by omega
   rw [List.getElem?_eq_getElem hie] at h1
   cases hcs:W.cells? 0 (a.add<|i * P.cellsOf e) (P.cellsOf e) with
   | none=>rw [hcs] at h1;cases h1
   | some cs =>
    rw [hcs] at h1
    simp only [Option.bind_some] at h1
    obtain ⟨v,hv,hl⟩:=he.rd enc W n cs _ h1<|j_u hw'.2<|List.mem_map_of_mem<|List.getElem_mem hie;obtain ⟨J,O⟩:=cells?_spec hcs;have hpos:0<cs.length:=by rw [J,hc];exact Dat.pos
    have hsp:a.spot=none:=by
     have G:=hel 0 (by omega)
     rw [List.getElem?_eq_getElem (show 0<elems.length by omega)] at G
     cases H:W.cells? 0 (a.add<|0 * P.cellsOf e) (P.cellsOf e) with
     | none=>rw [H] at G;cases G
     | some I =>
      obtain ⟨V,Y⟩:=cells?_spec H;have hpos0:0<I.length:=by rw [V,hc];exact Dat.pos
      have:=Y 0 I[0] (by rw [List.getElem?_eq_getElem hpos0]);have:=l_D this
      simpa [Addr.add] using this
    have ha:a=⟨a.block,a.off,none⟩:=by cases a;simp only at hsp;rw [hsp]
    have hcells:I_ W a.block (a.off+i * sz α) cs:=by
     intro j u hu;have:=O j u hu
     rw [ha,Addr.add_lit,Addr.add_lit,hc] at this
     exact this
    exact ⟨v,hsp,hcells.lt (by intro h;rw [h] at hpos;cases hpos),⟨cs,hcells,hv⟩,hl⟩
  obtain ⟨l,hll,hq⟩:=i_3 _ len hone;refine ⟨l,⟨_,rfl,some a,cap,by rw [hll],by omega,by omega,fun h=>(by cases h),fun p hp=>?_⟩,by omega,fun x hx=>?_⟩
  ·obtain rfl:=Option.some.inj hp;refine ⟨fun hne=>?_,fun hne=>?_,fun i x hx=>(hq i x hx).2.2.1⟩
   ·cases l with
    | nil=>exact absurd rfl hne
    | cons y l=>exact (hq 0 y rfl).1
   ·cases l with
    | nil=>exact absurd rfl hne
    | cons y l=>exact (hq 0 y rfl).2.1
  ·obtain ⟨i,hi⟩:=List.getElem?_of_mem hx
   exact (hq i x hi).2.2.2⟩
def e_I:Nat->List Nat->List Value->List (List Value)
 | _,[],_=>[]
 | o,n::r,cs=>(cs.drop o).take n::e_I (o+n) r cs
def f_o:List (List Value)->List Value
 | []=>[]
 | [p]=>p
 | p::q::r=>p++f_o (q::r)
theorem i_5:∀(ns:List Nat)(o:Nat)(cs:List Value),ns ≠ []->cs.length=o+ns.sum->f_o (e_I o ns cs)=cs.drop o
 | [],_,_,h,_=>absurd rfl h
 | [n],o,cs,_,h=>by
  show (cs.drop o).take n=_
  rw [List.take_of_length_le]
  simp at h ⊢;omega
 | n::m::r,o,cs,_,h=>by
  show (cs.drop o).take n++f_o (e_I (o+n) (m::r) cs)=_
  rw [i_5 (m::r) (o+n) cs (by simp) (by simp at h ⊢;omega),← List.drop_drop,List.take_append_drop]
theorem l_E {H:Type}{enc:TypeId×Value->H}{W:World}{fuel:Nat}{cs:List Value}{x:DataW H×List MemPlace}{fs:Array Field}(ht:P.underlying t=some (.struct fs))(h:DataW.trod enc P W 0 (fun _=>true) true fuel t cs=some x)(hw:(x.1.weights P t).all (· <= reachBytes)=true) :
  cs.length=P.cellsOf t/\∀(i:Nat)(f:Field),fs[i]? = some f->∀(α:Type)(_:Dat α)(L:α->Prop),IsT P f.type α L->∃v:α,rep W W.heap.size ((cs.drop f.offset).take (P.cellsOf f.type)) v/\L v:=by
 obtain ⟨xs,n,rfl,rfl,hl,hxl,hf⟩:=DataW.trod_struct ht h;refine ⟨hl,fun i f hi α _ L hα=>?_⟩;have h1:=hf i f hi;have hlt:=(Array.getElem?_eq_some_iff.1 hi).1
 rw [List.getElem?_eq_getElem (by omega)] at h1
 refine hα.rd enc W n _ _ h1 ?_;unfold DataW.weights at hw
 rw [ht] at hw
 refine e_H (i:=i) hw ?_ (by rw [List.getElem?_map,List.getElem?_eq_getElem (by omega)];rfl)
 rw [List.getElem?_map,Array.getElem?_toList,hi];rfl
structure OkW (P:Program)(W:World)(base:Nat)(t:TypeId)(v:Value):Prop where
 h:Value.okWide P W .any base t v
structure OkWs (P:Program)(W:World)(base:Nat)(ts:Array TypeId)(vs:Array Value):Prop where
 h:∀(j:Nat) t v,ts[j]? = some t->vs[j]? = some v->Value.okWide P W .any base t v
theorem OkWs.at {W:World}{base:Nat}{ts:Array TypeId}{vs:Array Value}(h:OkWs P W base ts vs)(j:Nat)(t:TypeId)(v:Value)(h1:ts[j]? = some t)(h2:vs[j]? = some v):OkW P W base t v:=⟨h.h j t v h1 h2⟩
theorem l_F {W:World}{base:Nat}{t:TypeId}{v:Value}{fs:Array Field}(ht:P.underlying t=some (.struct fs))(h:OkW P W base t v):∃cs,v = .agg cs/\cs.size=P.cellsOf t:=okWide_struct ht h.h
theorem o_C {W:World}{base:Nat}{t:TypeId}{v:Value}{e:TypeId}(ht:P.underlying t=some (.slice e))(h:OkW P W base t v):∃a n c,v = .slice a n c:=okWide_slice ht h.h
theorem o_D {W:World}{base:Nat}{t:TypeId}{v:Value}(ht:P.underlying t=some .string)(h:OkW P W base t v):∃z,v = .string z:=okWide_string ht h.h
theorem l_G {H:Type}{enc:TypeId×Value->H}(hl:laidOutB P=true){W W':World}(hb:Below W.heap.size W W'):∀(ts:List TypeId)(vs:List Value)(ds:List (DataW H))(ps:List MemPlace),(∀t∈ts,P.readableRec t=true/\t<P.types.size) ->
  DataW.TrodAll enc P W 0 (fun _=>true) true ts vs ds ps->(∀x∈ps,x.block<W.heap.size)->∀(sp:Nat->Bool),(∀b,b<W.heap.size->sp b=true)->DataW.TrodAll enc P W' 0 sp true ts vs ds ps
 | [],[],[],_,_,h,_,_,_=>h
 | t::ts,v::vs,d::ds,ps,hr,h,hlt,sp,hsp=>by
  obtain ⟨p,q,h1,h2,rfl⟩:=h;refine ⟨p,q,?_,l_G hl hb ts vs ds q (fun t ht=>hr t<|List.mem_cons_of_mem _ ht) h2 (fun x hx=>hlt x<|List.mem_append_right _ hx) sp hsp,rfl⟩;have hlp:∀x∈p,x.block<W.heap.size:=fun x hx=>hlt x<|List.mem_append_left _ hx
  exact WideElems.Trod_stays hl (hr t List.mem_cons_self).1 (hr t List.mem_cons_self).2 h1 (fun x hx=>hb.same<|hlp x hx) (fun x hx=>hsp _<|hlp x hx)
 | [],_::_,_,_,_,h,_,_,_=>by cases h
 | [],[],_::_,_,_,h,_,_,_=>by cases h
 | _::_,[],_,_,_,h,_,_,_=>by cases h
 | _::_,_::_,[],_,_,h,_,_,_=>by cases h
theorem o_E {H:Type}{enc:TypeId×Value->H}{f:Func}{s:ChangeSpec}{apart fresh handsOn again:Bool}{W W':World}{args:Array Value}{ds gs:List (DataW H)}{before:List MemPlace}{tb:TypeId}(hl:laidOutB P=true)(hread:∀t∈f.params.toList,P.readableRec t=true/\t<P.types.size)
  (hb:Below W.heap.size W W') (hW:DataW.Whole enc P f.params.toList s.vars apart W args.toList ds gs before) (hres:f.resultTypes = #[tb]) (htb:P.underlying tb=some .bool) (hvars:s.vars=[]) (hfn:s.fn H (ds++gs)={ results:=[.lit (.bool true)],args:=ds }) :
  s.post enc P f apart fresh handsOn again W args (.bool true) W':=by
 have hlt:∀x∈before,x.block<W.heap.size:=fun p hp=>hW.lt p hp
 have hW':=hW;obtain ⟨p,q,hA,hV,rfl,hz,hn⟩:=hW
 rw [hvars] at hV
 obtain ⟨rfl,rfl⟩:=trodVars_none hV;have hA':=fun sp hsp=>l_G hl hb _ _ _ _ hread hA (fun x hx=>hlt x (by simpa using hx)) sp hsp
 have hr:∀(b:Nat)(sp:Nat->Bool)(hd:Bool),DataW.TrodAll enc P W' b sp hd f.resultTypes.toList ((Value.bool true).resultList f.resultTypes.size) (s.fn H<|ds++[]).results []:=fun b sp hd=>by
  rw [hfn,hres];exact trodAll_cons_mk (shut_bool htb _) trodAll_mk0
 have hvs:∀sp:Nat->Bool,DataW.TrodVars enc P W' sp s.vars (s.fn H<|ds++[]).vars []:=fun sp=>by rw [hfn,hvars];rfl
 refine ⟨ds,[],p++[],[],p,[],hW',hr _ _ _,by rw [hfn];exact hA' _ (fun b hb=>by simpa using hb),hvs _,hb.frame _,fun _=>⟨?_,([.lit (.bool true)]:List (DataW H))++ds,[],([]++p)++[],⟨[]++p,[],?_,?_,rfl,?_,?_⟩,?_⟩⟩
 ·exact ok_one hres rfl<|okWide_bool_mk htb _
 ·have h1:=hr 0 (fun _=>true) true
  rw [hfn] at h1
  exact trodAll_append (hA' _<|fun _ _=>rfl) h1
 ·rw [hvars];rfl
 ·intro b off hp;have hp':MemPlace.cell b off∈p++[]:=by simpa using hp
  have:=hlt _ hp'
  rw [hb.frozen (p:=⟨b,off,none⟩) this]
  exact hz b off hp'
 ·intro ha;have:=hn ha;simpa using this
 ·intro x hx _;simpa using hx
end
end Go.Vw
namespace Go.Vw
open Go.RowKit Dat
theorem q_V {x y:Int}(h1 : -9223372036854775808<=x+y)(h2:x+y<=9223372036854775807):i_ x y=x+y:=by
 unfold i_;rw [IntKind.wrap_i64];omega
theorem b_s {x y:Int}(h1 : -9223372036854775808<=x - y)(h2:x - y<=9223372036854775807):q_ x y=x - y:=by
 unfold q_;rw [IntKind.wrap_i64];omega
theorem g_K {x y:Int}(h1 : -9223372036854775808<=x * y)(h2:x * y<=9223372036854775807):a_m x y=x * y:=by
 unfold a_m;rw [IntKind.wrap_i64];omega
theorem m_Q {x y:Int}(G:0<=x)(hx:x<=9223372036854775807)(hy:0<y):c_B x y=x / y:=by
 unfold c_B
 rw [Int.tdiv_eq_ediv_of_nonneg G,IntKind.wrap_i64]
 have h1:=Int.ediv_nonneg G<|Int.le_of_lt hy;have h2:=Int.ediv_le_self y G
 omega
theorem i_y {x y:Int}(G:0<=x):a_R x y=x % y:=by
 unfold a_R;exact Int.tmod_eq_emod_of_nonneg G
theorem q_W {a b:UInt8}:byteI a=byteI b ↔ a=b:=by
 unfold byteI
 constructor
 ·intro h;have:a.toNat=b.toNat:=by omega
  exact UInt8.toNat_inj.1 this
 ·rintro rfl;rfl
section
variable {α:Type}
theorem k_8 {l:List α}{k:Nat}(h:k<l.length):idx l (k:Int)=some l[k]:=by rw [l_m];simp [h]
theorem i_z {l:List α}{i:Int}(G:0<=i)(h:i.toNat<l.length):idx l i=some l[i.toNat]:=by
 unfold idx;rw [if_pos G];simp [h]
theorem b_8 {l:List α}(h:0<l.length):idx l 0=some l[0]:=k_8 (k:=0) h
theorem m_R {l:List α}(h:1<l.length):idx l 1=some l[1]:=k_8 (k:=1) h
theorem e_X {l:List α}{a b:Int}(G:0<=a)(h1:a<=b)(h2:b<=l.length):slc l a b=some ((l.take b.toNat).drop a.toNat):=by
 unfold slc;rw [if_pos ⟨G,h1,h2⟩]
theorem a_Z {l:List α}{x:α}(h:l.length<LIM):psh l x=some (l++[x]):=by unfold psh;rw [if_pos h]
theorem b_C {l m:List α}(h:l.length+m.length<=LIM):app l m=some (l++m):=by unfold app;rw [if_pos h]
theorem k_9 {s t:Str}(h:s.b.length+t.b.length<=LIM):cat s t=some ⟨s.b++t.b⟩:=by unfold cat;rw [if_pos h]
theorem c_f {l:List α}{k:Nat}{x:α}(h:k<l.length):upd l (k:Int) x=some (l.set k x):=by
 unfold upd;rw [if_pos ⟨by omega,by omega⟩];rfl
theorem e_Y {z:α}{n:Nat}(h:n<=LIM):mk0 z (n:Int)=some (List.replicate n z):=by
 unfold mk0;rw [if_pos ⟨by omega,by omega⟩];simp
theorem q_X {z:α}{n:Int}(G:0<=n)(h:n<=LIM):mk0 z n=some (List.replicate n.toNat z):=by
 unfold mk0;rw [if_pos ⟨G,h⟩]
end
section
variable {σ ρ:Type}
theorem m_S {body:Nat->σ->Option (Out σ ρ)}(st:Nat->σ):∀n k,(∀j,k<=j->j<k+n->body j (st j)=some (.next<|st<|j+1))->w_ body n k (st k)=some (.inl<|st<|k+n)
 | 0,k,_=>rfl
 | n+1,k,h=>by
  have h1:=h k (Nat.le_refl _) (by omega);have h2:=m_S st n (k+1)<|fun j a b=>h j (by omega) (by omega);unfold w_
  rw [h1]
  simp only
  rw [h2,show k+1+n=k+(n+1) by omega]
theorem c_g {body:Nat->σ->Option (Out σ ρ)}(st:Nat->σ){n:Nat}(h:∀j,j<n->body j (st j)=some (.next<|st<|j+1)):w_ body n 0 (st 0)=some (.inl<|st n):=by
 have:=m_S st n 0<|fun j _ b=>h j (by omega)
 simpa using this
theorem forN_ret' {body:Nat->σ->Option (Out σ ρ)}(st:Nat->σ){r:ρ}:∀n k j0,k<=j0->j0<k+n->(∀j,k<=j->j<j0->body j (st j)=some (.next<|st<|j+1))->body j0 (st j0)=some (.ret r)->w_ body n k (st k)=some (.inr r)
 | 0,k,j0,a,b,_,_=>by omega
 | n+1,k,j0,a,b,h,hr=>by
  unfold w_
  by_cases hk:k=j0
  ·subst hk;rw [hr]
  ·rw [h k (Nat.le_refl _) (by omega)]
   exact forN_ret' st n (k+1) j0 (by omega) (by omega) (fun j c d=>h j (by omega) d) hr
theorem k_a {body:Nat->σ->Option (Out σ ρ)}(st:Nat->σ){r:ρ}{n j0:Nat}(G:j0<n)(h:∀j,j<j0->body j (st j)=some (.next<|st<|j+1))(hr:body j0 (st j0)=some (.ret r)):w_ body n 0 (st 0)=some (.inr r) :=
 forN_ret' st n 0 j0 (by omega) (by omega) (fun j _ b=>h j b) hr
theorem i_A {body:Nat->Unit->Option (Out Unit ρ)}{n:Nat}(p:Nat->Bool)(r:Nat->ρ)(h:∀k,k<n->(∀j,j<k->p j=false)->body k ()=some (if p k=true then .ret (r k) else .next ())) :
  w_ body n 0 ()=some (match (List.range n).find? p with | some k=>.inr (r k) | none=>.inl ()):=by
 cases hf:(List.range n).find? p with
 | none =>
  have hn:∀k,k<n->p k=false:=fun k hk=>by
   have:=List.find?_eq_none.1 hf k<|List.mem_range.2 hk
   simpa using this
  exact c_g (fun _=>()) (fun j hj=>by rw [h j hj (fun i hi=>hn i (by omega)),hn j hj];rfl)
 | some k =>
  obtain ⟨hp,as,bs,hl,has⟩:=List.find?_eq_some_iff_append.1 hf
  have hk:as.length<n/\as.length=k:=by
   have h1:as.length<(List.range n).length:=by rw [hl];simp
   simp at h1
   refine ⟨h1,?_⟩;have h2:(List.range n)[as.length]? = some k:=by rw [hl];simp
   rw [List.getElem?_range h1] at h2
   exact Option.some.inj h2
  obtain ⟨h1,rfl⟩:=hk
  have hb:∀j,j<as.length->p j=false:=fun j hj=>by
   have h2:(List.range n)[j]? = some (as[j]):=by rw [hl,List.getElem?_append_left hj];simp
   rw [List.getElem?_range (by omega)] at h2
   have h3:=has as[j] (List.getElem_mem hj)
   rw [← Option.some.inj h2] at h3
   simpa using h3
  exact k_a (fun _=>()) h1 (fun j hj=>by rw [h j (by omega) (fun i hi=>hb i (by omega)),hb j hj];rfl) (by rw [h _ h1 hb,if_pos hp])
theorem q_Y {α:Type}(l:List α)(p:α->Bool)(q:Nat->Bool)(h:∀k (hk:k<l.length),q k=p l[k]):(List.range l.length).any q=l.any p:=by
 rw [Bool.eq_iff_iff]
 simp only [List.any_eq_true,List.mem_range]
 constructor
 ·rintro ⟨k,hk,hq⟩;exact ⟨l[k],List.getElem_mem hk,by rw [← h k hk];exact hq⟩
 ·rintro ⟨x,hx,hp⟩;obtain ⟨k,hk,rfl⟩:=List.getElem_of_mem hx;exact ⟨k,hk,by rw [h k hk];exact hp⟩
theorem e_9 {body:Nat->Unit->Option (Out Unit ρ)}{n:Nat}(p:Nat->Bool)(r:ρ)(h:∀k,k<n->(∀j,j<k->p j=false)->body k ()=some (if p k=true then .ret r else .next ())) :
  w_ body n 0 ()=some (if (List.range n).any p=true then .inr r else .inl ()):=by
 rw [i_A p (fun _=>r) h]
 cases hf:(List.range n).find? p with
 | none =>
  have:(List.range n).any p=false:=by
   rw [List.any_eq_false];exact fun x hx=>by simpa using List.find?_eq_none.1 hf x hx
  rw [this];rfl
 | some k =>
  have:(List.range n).any p=true:=List.any_eq_true.2 ⟨k,List.mem_of_find?_eq_some hf,List.find?_some hf⟩
  rw [this];rfl
theorem f_C {α:Type}{body:Nat->Unit->Option (Out Unit ρ)}{l:List α}(p:α->Bool)(r:ρ)(h:∀k (hk:k<l.length),body k ()=some (if p l[k]=true then .ret r else .next ())) :
  w_ body l.length 0 ()=some (if l.any p=true then .inr r else .inl ()):=by
 rw [e_9 (fun k=>if hk:k<l.length then p l[k] else false) r (fun k hk _=>by rw [dif_pos hk];exact h k hk)]
 rw [q_Y l p _ (fun k hk=>by rw [dif_pos hk])]
theorem iter_brk' {step:σ->Option (Out σ ρ)}(st:Nat->σ){s:σ}:∀m k j0,k<=j0->j0<k+m->(∀j,k<=j->j<j0->step (st j)=some (.next<|st<|j+1))->step (st j0)=some (.brk s)->H_ step m (st k)=some (.inl s)
 | 0,k,j0,a,b,_,_=>by omega
 | m+1,k,j0,a,b,h,hr=>by
  unfold H_
  by_cases hk:k=j0
  ·subst hk;rw [hr]
  ·rw [h k (Nat.le_refl _) (by omega)]
   exact iter_brk' st m (k+1) j0 (by omega) (by omega) (fun j c d=>h j (by omega) d) hr
theorem i_B {step:σ->Option (Out σ ρ)}(st:Nat->σ){s:σ}{m j0:Nat}(G:j0<m)(h:∀j,j<j0->step (st j)=some (.next<|st<|j+1))(hr:step (st j0)=some (.brk s)):H_ step m (st 0)=some (.inl s) :=
 iter_brk' st m 0 j0 (by omega) (by omega) (fun j _ b=>h j b) hr
theorem iter_ret' {step:σ->Option (Out σ ρ)}(st:Nat->σ){r:ρ}:∀m k j0,k<=j0->j0<k+m->(∀j,k<=j->j<j0->step (st j)=some (.next<|st<|j+1))->step (st j0)=some (.ret r)->H_ step m (st k)=some (.inr r)
 | 0,k,j0,a,b,_,_=>by omega
 | m+1,k,j0,a,b,h,hr=>by
  unfold H_
  by_cases hk:k=j0
  ·subst hk;rw [hr]
  ·rw [h k (Nat.le_refl _) (by omega)]
   exact iter_ret' st m (k+1) j0 (by omega) (by omega) (fun j c d=>h j (by omega) d) hr
theorem m_T {step:σ->Option (Out σ ρ)}(st:Nat->σ){r:ρ}{m j0:Nat}(G:j0<m)(h:∀j,j<j0->step (st j)=some (.next<|st<|j+1))(hr:step (st j0)=some (.ret r)):H_ step m (st 0)=some (.inr r) :=
 iter_ret' st m 0 j0 (by omega) (by omega) (fun j _ b=>h j b) hr
end
theorem m_U {s:Str}{p:Nat}(h:p<s.b.length)(ha:s.b[p].toNat<128):dec s p=((s.b[p].toNat:Int),1):=by
 have hq:p<(⟨s.b.toArray⟩:ByteArray).size:=by simpa [ByteArray.size] using h
 have hb:(⟨s.b.toArray⟩:ByteArray)[p]'hq=s.b[p]:=rfl;unfold dec
 rw [decode_ascii _ p hq (by rw [hb];exact ha),hb]
theorem q_Z {s:Str}{p:Nat}(h:p<s.b.length)(ha:128<=s.b[p].toNat):128<=(dec s p).1:=by
 have hq:p<(⟨s.b.toArray⟩:ByteArray).size:=by simpa [ByteArray.size] using h
 have hb:(⟨s.b.toArray⟩:ByteArray)[p]'hq=s.b[p]:=rfl;unfold dec;have:=(decode_high _ p hq (by rw [hb];exact ha)).1
 simp only
 omega
abbrev bF_:=@Bool.false_eq_true
abbrev dT_:=@decide_eq_true
abbrev dF_:=@decide_eq_false
abbrev bQ_:=@beq_self_eq_true
abbrev mT_:=@List.mem_cons_of_mem
abbrev mS_:=@List.mem_cons_self
abbrev gE_:=@List.getElem_mem
abbrev oI_:=@Option.some.injEq
abbrev gG_:=@List.getElem?_eq_getElem
abbrev gD_:=@List.getD_eq_getElem?_getD
abbrev aE_:=@Bool.and_eq_true
abbrev dE_:=@decide_eq_true_eq
abbrev tN_:=@Int.toNat_natCast
abbrev gS_:=@List.getElem?_eq_some_iff
abbrev iP_:=@if_pos
abbrev iN_:=@if_neg
abbrev fF_:=@if_false
abbrev fT_:=@if_true
abbrev gN_:=@List.getElem?_eq_none
abbrev nT_:=@Bool.not_true
abbrev ix_:=@k_8
abbrev ia_:=@q_V
abbrev lC_:=@List.length_cons
abbrev bN_:=@bne_self_eq_false
abbrev dC_:=@List.drop_eq_getElem_cons
end Go.Vw
namespace Go.Vw
open Go.RowKit Dat Go.ChangeShapes Go.WideShapes Go.ChangeAt
structure d_U (P:Program)(t:TypeId)(α:Type)[Dat α](L:α->Prop)(F:Nat):Prop where
 rd:∀{H:Type}(enc:TypeId×Value->H)(W:World)(fuel:Nat)(cs:List Value)(x:DataW H×List MemPlace),fuel<F->DataW.trod enc P W 0 (fun _=>true) true fuel t cs=some x->(x.1.weights P t).all (· <= reachBytes)=true->∃v:α,rep W W.heap.size cs v/\L v
section
variable {P:Program}{t:TypeId}
theorem IsT.f {α:Type}[Dat α]{L:α->Prop}(h:IsT P t α L)(F:Nat):d_U P t α L F:=⟨fun enc W fuel cs x _=>h.rd enc W fuel cs x⟩
theorem l_H {α:Type}[Dat α]{L:α->Prop}(h:∀F,d_U P t α L F):IsT P t α L:=⟨fun enc W fuel cs x=>(h<|fuel+1).rd enc W fuel cs x (Nat.lt_succ_self _)⟩
theorem l_I {α:Type}[Dat α]{L:α->Prop}:d_U P t α L 0:=⟨fun enc W fuel cs x h=>absurd h<|Nat.not_lt_zero _⟩
theorem o_F {α:Type}[Dat α]{L:α->Prop}{e:TypeId}{F:Nat}(ht:P.underlying t=some (.slice e))(he:d_U P e α L F)(hc:P.cellsOf e=sz α)(hb:1<=P.bytesOf e):d_U P t (List α) (fun l=>l.length<=LEN/\∀x∈l,L x) (F+1):=⟨fun enc W fuel cs x hF h hw=>by
 have hr:reachBytes=140737488351232:=rfl;have hL:LEN=140737488355328:=rfl
 rcases DataW.trod_slice ht h with ⟨rfl,rfl⟩ | ⟨a,len,cap,elems,rest,n,hn,rfl,rfl,_,hlc,_,hlen,hel,hsp,_⟩
 ·exact ⟨[],⟨_,rfl,none,0,rfl,Nat.le_refl _,Nat.zero_le _,fun _=>rfl,fun p hp=>by cases hp⟩,by simp,fun x hx=>by cases hx⟩
 ·obtain ⟨hrl,_⟩:=hsp rfl
  have hw':(elems.length+rest.length) * P.bytesOf e<=reachBytes/\(DataW.weightsAll P e<|elems.map (·.1)).all (· <= reachBytes)=true:=by
   unfold DataW.weights at hw
   rw [ht] at hw
   simp only [List.all_cons,List.all_append,Bool.and_eq_true,decide_eq_true_eq,List.length_map] at hw
   exact ⟨hw.1,hw.2.1⟩
  have hcap:cap<=LEN:=by
   have h1:elems.length+rest.length<=(elems.length+rest.length) * P.bytesOf e:=Nat.le_mul_of_pos_right _ hb
   omega
  have hone:∀i:Nat,i<len->∃v:α,a.spot=none/\a.block<W.heap.size/\(∃cs,I_ W a.block (a.off+i * sz α) cs/\rep W W.heap.size cs v)/\L v:=by
   intro i hi;have h1:=hel i hi;have hie:i<elems.length:=by omega
   rw [List.getElem?_eq_getElem hie] at h1
   cases hcs:W.cells? 0 (a.add<|i * P.cellsOf e) (P.cellsOf e) with
   | none=>rw [hcs] at h1;cases h1
   | some cs =>
    rw [hcs] at h1
    simp only [Option.bind_some] at h1
    obtain ⟨v,hv,hl⟩:=he.rd enc W n cs _ (by omega) h1<|j_u hw'.2<|List.mem_map_of_mem<|List.getElem_mem hie;obtain ⟨J,O⟩:=cells?_spec hcs;have hpos:0<cs.length:=by rw [J,hc];exact Dat.pos
    have hsp:a.spot=none:=by
     have G:=hel 0 (by omega)
     rw [List.getElem?_eq_getElem (show 0<elems.length by omega)] at G
     cases H:W.cells? 0 (a.add<|0 * P.cellsOf e) (P.cellsOf e) with
     | none=>rw [H] at G;cases G
     | some I =>
      obtain ⟨V,Y⟩:=cells?_spec H;have hpos0:0<I.length:=by rw [V,hc];exact Dat.pos
      have:=Y 0 I[0] (by rw [List.getElem?_eq_getElem hpos0]);have:=l_D this
      simpa [Addr.add] using this
    have ha:a=⟨a.block,a.off,none⟩:=by cases a;simp only at hsp;rw [hsp]
    have hcells:I_ W a.block (a.off+i * sz α) cs:=by
     intro j u hu;have:=O j u hu
     rw [ha,Addr.add_lit,Addr.add_lit,hc] at this
     exact this
    exact ⟨v,hsp,hcells.lt (by intro h;rw [h] at hpos;cases hpos),⟨cs,hcells,hv⟩,hl⟩
  obtain ⟨l,hll,hq⟩:=i_3 _ len hone;refine ⟨l,⟨_,rfl,some a,cap,by rw [hll],by omega,by omega,fun h=>(by cases h),fun p hp=>?_⟩,by omega,fun x hx=>?_⟩
  ·obtain rfl:=Option.some.inj hp;refine ⟨fun hne=>?_,fun hne=>?_,fun i x hx=>(hq i x hx).2.2.1⟩
   ·cases l with
    | nil=>exact absurd rfl hne
    | cons y l=>exact (hq 0 y rfl).1
   ·cases l with
    | nil=>exact absurd rfl hne
    | cons y l=>exact (hq 0 y rfl).2.1
  ·obtain ⟨i,hi⟩:=List.getElem?_of_mem hx
   exact (hq i x hi).2.2.2⟩
theorem o_G {H:Type}{F:Nat}{enc:TypeId×Value->H}{W:World}{fuel:Nat}{cs:List Value}{x:DataW H×List MemPlace}{fs:Array Field}(ht:P.underlying t=some (.struct fs))(hF:fuel<F+1)(h:DataW.trod enc P W 0 (fun _=>true) true fuel t cs=some x)(hw:(x.1.weights P t).all (· <= reachBytes)=true) :
  cs.length=P.cellsOf t/\∀(i:Nat)(f:Field),fs[i]? = some f->∀(α:Type)(_:Dat α)(L:α->Prop),d_U P f.type α L F->∃v:α,rep W W.heap.size ((cs.drop f.offset).take (P.cellsOf f.type)) v/\L v:=by
 obtain ⟨xs,n,hn,rfl,hl,hxl,hf⟩:=DataW.trod_struct ht h;refine ⟨hl,fun i f hi α _ L hα=>?_⟩;have h1:=hf i f hi;have hlt:=(Array.getElem?_eq_some_iff.1 hi).1
 rw [List.getElem?_eq_getElem (by omega)] at h1
 refine hα.rd enc W n _ _ (by omega) h1 ?_;unfold DataW.weights at hw
 rw [ht] at hw
 refine e_H (i:=i) hw ?_ (by rw [List.getElem?_map,List.getElem?_eq_getElem (by omega)];rfl)
 rw [List.getElem?_map,Array.getElem?_toList,hi];rfl
end
end Go.Vw
