/- Texts of this claim, put together. -/
import Derived.Test.YtdaajhjijbcdcaaGreatDoorVmA
import Derived.Laws.CopyRow
import Derived.Laws.IdiomStrings
import Derived.Lib.AppendStr
import Derived.Carry
import Derived.Deep.DeepHandedRow
import Derived.WalkKit
import Derived.ProofKit
import Derived.OpenShut
import Derived.Laws.RangeAny
set_option linter.unusedVariables false
namespace Go.Vw
def f_Q (n:Nat)(x1:Str)(x2:UInt8):Option (List Str) :=
 bd (a_8 (σ:=(List Str)×Int×Int) (ρ:=List Str) (un3 λH I G=>if (decide<|G<=(x1.b.length:Int)) then bd (α:=Bool) (if (G==(x1.b.length:Int)) then some true else bd (idx x1.b G) λJ=>some<|(byteI J)==(byteI x2)) (λL=>bd (α:=(List Str)×Int) (if L then bd (b_N x1 I G) λO=>bd (psh H O) λV=>some (V,h_ G 1) else some (H,I))<|un2 λW Y=>some<|.next (W,Y,h_ G 1)) else some (.brk (H,I,G))) n (([]:List Str),0,0)) (el (un3 λH I G=>some H)<|λa0=>some a0)
def b_a (x1:Int)(x2:Int)(x3:Int):Option Bool :=
 bd (α:=Bool) (if (decide<|x2<=x1) then some (decide<|x1<=x3) else some false) (λG=>some G)
def f_0 (x1:Str):Option Bool :=
 bd (C_ (σ:=Unit) (ρ:=Bool) (λk10=>(λ(_:Unit)=>bd (α:=Bool) (bd (idx x1.b (k10:Int)) λG=>if (decide<|(byteI (97:UInt8))<=(byteI G)) then bd (idx x1.b (k10:Int)) λH=>some (decide<|(byteI H)<=(byteI (122:UInt8))) else some false) (λI=>bd (α:=Bool) (bd (idx x1.b (k10:Int)) λJ=>if (decide<|(byteI (48:UInt8))<=(byteI J)) then bd (idx x1.b (k10:Int)) λL=>some (decide<|(byteI L)<=(byteI (57:UInt8))) else some false) (λO=>bd (α:=Bool) (if (!I) then if (!O) then some true else some ((k10:Int)==0) else some false) (λV=>if V then some (.ret false) else some (.next ())))))) x1.b.length 0 ()) (el (λ(_:Unit)=>bd (b_a (x1.b.length:Int) 1 12) λW=>some W)<|λY=>some Y)
def c_i (n:Nat)(x1:Int):Option Str :=
 if (x1==0) then some (⟨[48]⟩:Str) else bd (a_8 (σ:=Str×Int) (ρ:=Str) (un2 λH G=>if (G != 0) then bd (α:=Int) (if (decide<|(b_q G 10)<0) then some (f_B<|b_q G 10) else some (b_q G 10)) (λI=>bd (cat (⟨[mkB (h_ 48 I)]⟩:Str) H) λJ=>some<|.next (J,c_l G 10)) else some (.brk (H,G))) n ((⟨[]⟩:Str),x1)) (el (un2 λH G=>if (decide<|x1<0) then bd (cat (⟨[45]⟩:Str) H) λL=>some L else some H)<|λO=>some O)
def f_R (n:Nat)(x1:Str):Option (Int×Bool) :=
 bd (b_a (x1.b.length:Int) 1 13) λI=>if (!I) then some (0,false) else bd (C_ (σ:=Int) (ρ:=Int×Bool) (λH=>(λG=>bd (idx x1.b (H:Int)) λJ=>bd (b_a (byteI J) 48 57) λL=>if (!L) then some (.ret (0,false)) else bd (idx x1.b (H:Int)) λO=>some<|.next<|h_ (a_j 10 G)<|byteI<|mkB<|byteI O - byteI (48:UInt8))) x1.b.length 0 0) (el (λG=>bd (α:=Bool) (if (decide<|1000000000000<G) then some true else bd (c_i n G) λV=>some<|V.b != x1.b) (λW=>if W then some (0,false) else some (G,true)))<|λY=>some Y)
def e_0 (n:Nat)(x1:Str):Option Bool :=
 bd (α:=Bool) (bd (f_0 x1) λG=>if G then some true else if (x1.b==(⟨[42]⟩:Str).b) then some true else if (x1.b==(⟨[63]⟩:Str).b) then some true else some (x1.b==(⟨[43]⟩:Str).b)) (λH=>if H then some true else bd2 (f_R n x1) λI J=>bd (α:=Bool) (if J then bd (c_i n I) λL=>some (L.b==x1.b) else some false)<|λO=>some O)
def f_1 (n:Nat)(x1:Str):Option ((List Str)×Bool) :=
 if (x1.b==(⟨[]⟩:Str).b) then some (([]:List Str),true) else bd (f_Q n x1 (47:UInt8)) λG=>bd (idx G 0) λI=>if (I.b != (⟨[]⟩:Str).b) then some (([]:List Str),false) else bd (a_8 (σ:=Int) (ρ:=(List Str)×Bool) (λH=>if (decide<|H<(G.length:Int)) then bd (idx G H) λJ=>bd (e_0 n J) λL=>if (!L) then some (.ret (([]:List Str),false)) else some (.next<|h_ H 1) else some (.brk H)) n 1) (el (λH=>bd (slc G 1 (G.length:Int)) λO=>some (O,decide<|1<(G.length:Int)))<|λV=>some V)
def c_B (x1:d_)(x2:Bool)(x3:Bool)(x4:Bool)(x5:Bool)(x6:Int):Option Bool :=
 bd (α:=Bool) (bd (α:=Bool) (if x2 then some true else some (x1.size==0)) λG=>bd (α:=Bool) (if G then if x3 then some true else some ((x1.bytes.length:Int)==0) else some false) λH=>bd (α:=Bool) (if H then if x4 then some true else some ((x1.names.length:Int)==0) else some false) λI=>bd (α:=Bool) (if I then if x5 then some true else some ((x1.tags.length:Int)==0) else some false) λJ=>bd (α:=Bool) (if J then if (decide<|x6<0) then some true else some ((x1.kids.length:Int)==x6) else some false) λL=>if L then if (!x1.little) then some true else some (x1.kind==1) else some false) (λO=>some O)
def e_1 (x1:Int):Option Int :=
 bd (nn<|a_j 8 x1) λG=>some<|b_O .i64 1<|a_j 8 x1
def f_2 (x1:g_)(x2:Int):Option Int :=
 bd (α:=Bool) (bd (b_a x2 0<|I_ (x1.rules.length:Int) 1) λG=>if (!G) then some true else bd (idx x1.rules x2) λH=>if (H.kind != 1) then some true else bd (idx x1.rules x2) λI=>bd (b_a I.size 1 4) λJ=>some (!J)) (λL=>if L then some (-1) else bd (idx x1.rules x2) λO=>bd (e_1 O.size) λV=>some<|I_ V 1)
def h_1 (x1:List Str)(x2:Str):Option Bool :=
 bd (C_ (σ:=Unit) (ρ:=Bool) (λk10=>(λ(_:Unit)=>bd (idx x1 (k10:Int)) λG=>if (G.b==x2.b) then some (.ret true) else some (.next ()))) x1.length 0 ()) (el (λ(_:Unit)=>some false)<|λH=>some H)
def h_2 (x1:List Str):Option Bool :=
 bd (C_ (σ:=Unit) (ρ:=Bool) (λk10=>(λ(_:Unit)=>bd (α:=Bool) (bd (idx x1 (k10:Int)) λG=>bd (f_0 G) λH=>if (!H) then some true else bd (slc x1 0 (k10:Int)) λI=>bd (idx x1 (k10:Int)) λJ=>bd (h_1 I J) λL=>some L) (λO=>if O then some (.ret false) else some (.next ())))) x1.length 0 ()) (el (λ(_:Unit)=>bd (b_a (x1.length:Int) 1 8) λV=>some V)<|λW=>some W)
def h_3 (x1:g_)(x2:d_):Option Bool :=
 bd (α:=Bool) (if ((x2.kids.length:Int) != (h_ (x2.tags.length:Int) 1)) then some true else bd (b_a (x2.tags.length:Int) 1 8) λG=>some (!G)) (λH=>if H then some false else bd (C_ (σ:=Unit) (ρ:=Bool) (λk10=>(λ(_:Unit)=>bd (α:=Bool) (bd (idx x2.tags (k10:Int)) λI=>bd (idx x2.kids 0) λJ=>bd (f_2 x1 J) λL=>bd (b_a I 0 L) λO=>if (!O) then some true else if (decide<|0<(k10:Int)) then bd (idx x2.tags<|I_ (k10:Int) 1) λV=>bd (idx x2.tags (k10:Int)) λW=>some (decide<|W<=V) else some false) (λY=>if Y then some (.ret false) else some (.next ())))) x2.tags.length 0 ()) (el (λ(_:Unit)=>some true)<|λa0=>some a0))
def h_4 (x1:g_)(x2:d_):Option Bool :=
 if (x2.kind==1) then bd (α:=Bool) (bd (c_B x2 true false false false 0) λG=>if G then bd (b_a x2.size 1 4) λH=>if H then if (!x2.little) then some true else some (decide<|1<x2.size) else some false else some false) (λI=>some I) else if (x2.kind==2) then bd (α:=Bool) (bd (c_B x2 false true false false 0) λJ=>if J then bd (b_a (x2.bytes.length:Int) 1 16) λL=>some L else some false) (λO=>some O) else if (x2.kind==3) then bd (α:=Bool) (bd (c_B x2 true false false false 0) λV=>if V then bd (b_a x2.size 1 64) λW=>some W else some false) (λY=>some Y) else if (x2.kind==4) then bd (α:=Bool) (bd (c_B x2 false false false false 1) λa0=>if a0 then bd (idx x2.kids 0) λa1=>bd (f_2 x1 a1) λa2=>some (decide<|0<a2) else some false) (λa3=>some a3) else if (x2.kind==5) then bd (α:=Bool) (bd (c_B x2 false false false false 2) λa4=>if a4 then bd (idx x2.kids 0) λa5=>bd (f_2 x1 a5) λa6=>some (decide<|0<a6) else some false) (λa7=>some a7) else if (x2.kind==6) then bd (α:=Bool) (bd (c_B x2 false false true false (x2.names.length:Int)) λa8=>if a8 then bd (h_2 x2.names) λa9=>some a9 else some false) (λaa=>some aa) else if (x2.kind==7) then bd (α:=Bool) (bd (c_B x2 false false false true (-1)) λab=>if ab then bd (h_3 x1 x2) λad=>some ad else some false) (λae=>some ae) else bd (α:=Bool) (if (x2.kind==8) then some (x2.kind==8) else some (x2.kind==9)) (λaf=>if af then bd (c_B x2 false false false false 1) λah=>some ah else if (x2.kind==10) then bd (α:=Bool) (bd (c_B x2 false true false false 0) λai=>if ai then if ((x2.bytes.length:Int)==1) then bd (idx x2.bytes 0) λaj=>some ((byteI aj) != (byteI (92:UInt8))) else some false else some false) (λak=>some ak) else some false)
def h_5 (x1:g_)(x2:Int):Option Bool :=
 bd (b_a x2 0<|I_ (x1.rules.length:Int) 1) λH=>if (!H) then some false else bd (idx x1.rules x2) λG=>bd (C_ (σ:=Unit) (ρ:=Bool) (λI=>(λ(_:Unit)=>bd (idx x1.rules (I:Int)) λJ=>if (J.name.b==G.name.b) then some (.ret false) else some (.next ()))) x2.toNat 0 ()) (el (λ(_:Unit)=>bd (C_ (σ:=Unit) (ρ:=Bool) (λL=>(λ(_:Unit)=>bd (idx G.kids (L:Int)) λO=>bd (b_a O 0<|I_ x2 1) λV=>if (!V) then some (.ret false) else some (.next ()))) G.kids.length 0 ()) (el (λ(_:Unit)=>bd (α:=Bool) (bd (f_0 G.name) λW=>if W then bd (h_4 x1 G) λY=>some Y else some false)<|λa0=>some a0)<|λa1=>some a1))<|λa2=>some a2)
def f_S (x1:g_):Option Bool :=
 bd (C_ (σ:=Unit) (ρ:=Bool) (λk10=>(λ(_:Unit)=>bd (h_5 x1 (k10:Int)) λG=>if (!G) then some (.ret false) else some (.next ()))) x1.rules.length 0 ()) (el (λ(_:Unit)=>bd (b_a (x1.rules.length:Int) 1 24) λH=>some H)<|λI=>some I)
def f_3 (x1:g_):Option Int :=
 some (I_ (x1.rules.length:Int) 1)
def h_6 (x1:Bt)(x2:Bool):Option Int :=
 if (decide<|4<(x1.length:Int)) then some 0 else bd (C_ (σ:=Int) (ρ:=Int) (λH=>(λG=>bd (α:=Int) (if x2 then some (I_ (I_ (x1.length:Int) 1) (H:Int)) else some (H:Int))<|λI=>bd (idx x1 I) λJ=>some<|.next<|h_ (a_j G 256)<|byteI J)) x1.length 0 0) (el (λG=>some G)<|λL=>some L)
def c_C (x1:g_)(x2:Int)(x3:Bt)(x4:Int):Option (Int×Int×Bool) :=
 bd (idx x1.rules x2) λG=>if (decide<|(I_ (x3.length:Int) x4)<G.size) then some (0,x4,false) else bd (slc x3 x4<|h_ x4 G.size) λH=>bd (h_6 H G.little) λI=>some (I,h_ x4 G.size,true)
def b_E (x1:d_)(x2:Int)(x3:Int):Option Int :=
 if (x1.kind==5) then bd (idx x1.kids 1) λG=>some G else bd (α:=Sum Unit Int) (if (x1.kind==6) then if (decide<|x3<(x1.kids.length:Int)) then bd (idx x1.kids x3) λH=>some (.inr H) else some (.inl ()) else bd (α:=Sum Unit<|Sum Unit Int) (if (x1.kind==7) then bd (C_ (σ:=Unit) (ρ:=Int) (λk10=>(λ(_:Unit)=>bd (idx x1.tags (k10:Int)) λI=>if (I==x2) then bd (idx x1.kids ((k10+1:Nat):Int)) λJ=>some (.ret J) else some (.next ()))) x1.tags.length 0 ()) (el (λ(_:Unit)=>some<|.inl ())<|λL=>some<|.inr<|.inr L) else bd (α:=Bool) (if (x1.kind==8) then some (x1.kind==8) else some (x1.kind==9)) (λO=>if O then bd (idx x1.kids 0) λV=>some (.inr<|.inr V) else some (.inl ()))) (el (λ(_:Unit)=>some<|.inl ()) some)) (el (λ(_:Unit)=>some (-1)) some)
def h_7 (x1:g_)(x2:d_)(x3:Bt)(x4:Int):Option (Int×Int×Int) :=
 if (x2.kind==6) then some (x4,(x2.kids.length:Int),0) else if (x2.kind==9) then some (x4,1,0) else bd (α:=Sum Unit<|Int×Int×Int) (if (x2.kind==8) then bd (α:=Bool) (if (decide<|x4<(x3.length:Int)) then bd (idx x3 x4) λI=>some ((byteI I)==(byteI (1:UInt8))) else some false) (λJ=>if J then some (.inr (h_ x4 1,1,0)) else some (.inl ())) else bd (α:=Bool) (if (x2.kind==5) then some (x2.kind==5) else some (x2.kind==7)) (λL=>bd (α:=Sum Unit<|Sum Unit<|Int×Int×Int) (if L then bd (idx x2.kids 0) λO=>bd3 (c_C x1 O x3 x4) λG H V=>bd (α:=Sum Unit<|Sum Unit<|Sum Unit<|Int×Int×Int) (if (!V) then some (.inl ()) else bd (α:=Bool) (if (x2.kind==5) then some (decide<|G<=40) else some false) (λW=>if W then some (.inr<|.inr<|.inr (H,G,0)) else bd (α:=Bool) (if (x2.kind==7) then bd (b_E x2 G 0) λY=>some (decide<|0<=Y) else some false) (λa0=>if a0 then some (.inr<|.inr<|.inr (H,1,G)) else some (.inl ())))) (el (λ(_:Unit)=>some<|.inl ()) some) else some (.inl ()))<|el (λ(_:Unit)=>some<|.inl ()) some)) (el (λ(_:Unit)=>some (x4,(-1),0)) some)
def e_2 (n:Nat)(x1:d_)(x2:Int):Option Str :=
 if (x1.kind==5) then bd (c_i n x2) λG=>some G else bd (α:=Bool) (if (x1.kind==6) then some (decide<|x2<(x1.names.length:Int)) else some false) (λH=>if H then bd (idx x1.names x2) λI=>some I else bd (α:=Bool) (if (x1.kind==7) then some (x2==0) else some false) (λJ=>if J then some (⟨[42]⟩:Str) else bd (α:=Bool) (if (x1.kind==8) then some (x2==0) else some false) (λL=>if L then some (⟨[63]⟩:Str) else bd (α:=Bool) (if (x1.kind==9) then some (x2==0) else some false) (λO=>if O then some (⟨[43]⟩:Str) else some (⟨[]⟩:Str)))))
def h_8 (x1:d_)(x2:Bt)(x3:Int):Option (Val×Int×Int) :=
 bd (C_ (σ:=Unit) (ρ:=Val×Int×Int) (λk10=>(λ(_:Unit)=>if (decide<|(x2.length:Int)<=(h_ x3 (k10:Int))) then some (.ret ((⟨0,([]:Bt),([]:List Val)⟩:Val),x3,1)) else bd (idx x2<|h_ x3 (k10:Int)) λG=>bd (idx x1.bytes (k10:Int)) λH=>if ((byteI G) != (byteI H)) then some (.ret ((⟨0,([]:Bt),([]:List Val)⟩:Val),h_ x3 (k10:Int),2)) else some (.next ()))) x1.bytes.length 0 ()) (el (λ(_:Unit)=>some ((⟨0,([]:Bt),([]:List Val)⟩:Val),h_ x3 (x1.bytes.length:Int),0))<|λI=>some I)
def f_T (x1:Bt)(x2:Int)(x3:Int):Option (Val×Int×Int) :=
 if (decide<|(I_ (x1.length:Int) x2)<x3) then some ((⟨0,([]:Bt),([]:List Val)⟩:Val),x2,1) else bd (slc x1 x2<|h_ x2 x3) λG=>bd (app ([]:Bt) G) λH=>some ((⟨0,H,([]:List Val)⟩:Val),h_ x2 x3,0)
def h_9 (n:Nat)(x1:Bt)(x2:Int)(x3:UInt8):Option (Bt×Int×Bool) :=
 bd (a_8 (σ:=Bt×Int) (ρ:=Bt×Int×Bool) (un2 λH G=>bd (α:=Bool) (bd (b_a x2 0 (x1.length:Int)) λJ=>if J then some (decide<|G<(x1.length:Int)) else some false) (λL=>if L then bd (idx x1 G) λO=>if ((byteI O)==(byteI x3)) then some (.ret (H,h_ G 1,true)) else bd (idx x1 G) λV=>bd (α:=Sum Int<|Out (Bt×Int)<|Bt×Int×Bool) (if ((byteI V)==(byteI (92:UInt8))) then if ((h_ G 1)==(x1.length:Int)) then some (.inr<|.brk (H,h_ G 1)) else some (.inl<|h_ G 1) else some (.inl G)) (el (λI=>bd (idx x1 I) λW=>bd (psh H W) λY=>some<|.next (Y,h_ I 1)) some) else some (.brk (H,G)))) n (([]:Bt),x2)) (el (un2 λH G=>some (([]:Bt),x2,false))<|λa0=>some a0)
def f_U (x1:Bt):Option Int :=
 bd (C_ (σ:=Int) (ρ:=Int) (λH=>(λG=>bd (idx x1 (H:Int)) λI=>some<|.next<|b_q (h_ G<|byteI I) 256)) x1.length 0 0) (el (λG=>some G)<|λJ=>some J)
structure f_V where
 spec_l11Read:g_->Int->Bt->Int->Option (Val×Int×Int)
 spec_l11Items:g_->d_->Int->Int->Bt->Int->Option (Val×Int×Int)
 spec_l11Choice:g_->d_->Bt->Int->Option (Val×Int×Int)
 spec_l11Option:g_->d_->Bt->Int->Option (Val×Int×Int)
 spec_l11Checked:g_->d_->Bt->Int->Option (Val×Int×Int)
def h_a (n:Nat)(rec:f_V)(x1:g_)(x2:Int)(x3:Bt)(x4:Int):Option (Val×Int×Int) :=
 bd (idx x1.rules x2) λG=>if (G.kind==1) then bd3 (c_C x1 x2 x3 x4) λJ L O=>if (!O) then some ((⟨0,([]:Bt),([]:List Val)⟩:Val),x4,1) else some ((⟨J,([]:Bt),([]:List Val)⟩:Val),L,0) else if (G.kind==2) then bd3 (h_8 G x3 x4) λV W Y=>some (V,W,Y) else if (G.kind==3) then bd3 (f_T x3 x4 G.size) λa0 a1 a2=>some (a0,a1,a2) else if (G.kind==10) then bd (idx G.bytes 0) λa3=>bd3 (h_9 n x3 x4 a3) λa4 a5 a6=>if (!a6) then some ((⟨0,([]:Bt),([]:List Val)⟩:Val),x4,1) else some ((⟨0,a4,([]:List Val)⟩:Val),a5,0) else if (G.kind==6) then bd3 (rec.spec_l11Items x1 G 0 (G.kids.length:Int) x3 x4) λa7 a8 a9=>some (a7,a8,a9) else if (G.kind==7) then bd3 (rec.spec_l11Choice x1 G x3 x4) λaa ab ad=>some (aa,ab,ad) else if (G.kind==8) then bd3 (rec.spec_l11Option x1 G x3 x4) λae af ah=>some (ae,af,ah) else if (G.kind==9) then bd3 (rec.spec_l11Checked x1 G x3 x4) λai aj ak=>some (ai,aj,ak) else bd (idx G.kids 0) λal=>bd3 (c_C x1 al x3 x4) λH I am=>if (!am) then some ((⟨0,([]:Bt),([]:List Val)⟩:Val),x4,1) else if (G.kind==4) then bd3 (f_T x3 I H) λan ao ap=>some (an,ao,ap) else if (decide<|40<H) then some ((⟨0,([]:Bt),([]:List Val)⟩:Val),x4,6) else bd3 (rec.spec_l11Items x1 G 0 H x3 I) λaq ar au=>some (aq,ar,au)
def h_b (n:Nat)(rec:f_V)(x1:g_)(x2:d_)(x3:Int)(x4:Int)(x5:Bt)(x6:Int):Option (Val×Int×Int) :=
 bd (C_ (σ:=Int×(List Val)) (ρ:=Val×Int×Int) (λO=>un2 λG H=>bd (α:=Int×Bt×(List Val)×Int×Int) (bd (b_E x2 x3 (O:Int)) λV=>bd3 (rec.spec_l11Read x1 V x5 G) λI W Y=>some (I.number,I.bytes,I.items,W,Y)) (un5 λa0 a1 a2 J L=>if (L != 0) then some (.ret ((⟨0,([]:Bt),([]:List Val)⟩:Val),J,L)) else bd (psh H (⟨a0,a1,a2⟩:Val)) λa3=>some<|.next (J,a3))) x4.toNat 0 (x6,([]:List Val))) (el (un2 λG H=>some ((⟨0,([]:Bt),H⟩:Val),G,0))<|λa4=>some a4)
def h_c (n:Nat)(rec:f_V)(x1:g_)(x2:d_)(x3:Bt)(x4:Int):Option (Val×Int×Int) :=
 bd (idx x2.kids 0) λJ=>bd3 (c_C x1 J x3 x4) λG L O=>if (!O) then some ((⟨0,([]:Bt),([]:List Val)⟩:Val),x4,1) else bd (b_E x2 G 0) λV=>if (decide<|V<0) then some ((⟨0,([]:Bt),([]:List Val)⟩:Val),x4,3) else bd3 (rec.spec_l11Items x1 x2 G 1 x3 L) λH W I=>bd (α:=Int) (if (I==0) then some G else some H.number)<|λY=>some ((⟨Y,H.bytes,H.items⟩:Val),W,I)
def h_d (n:Nat)(rec:f_V)(x1:g_)(x2:d_)(x3:Bt)(x4:Int):Option (Val×Int×Int) :=
 if (decide<|(x3.length:Int)<=x4) then some ((⟨0,([]:Bt),([]:List Val)⟩:Val),x4,1) else bd (idx x3 x4) λG=>if (decide<|(byteI (1:UInt8))<(byteI G)) then some ((⟨0,([]:Bt),([]:List Val)⟩:Val),x4,4) else bd (idx x3 x4) λH=>bd3 (rec.spec_l11Items x1 x2 0 (byteI H) x3<|h_ x4 1) λI J L=>some (I,J,L)
def h_e (n:Nat)(rec:f_V)(x1:g_)(x2:d_)(x3:Bt)(x4:Int):Option (Val×Int×Int) :=
 bd3 (rec.spec_l11Items x1 x2 0 1 x3 x4) λH G I=>if (I != 0) then some (H,G,I) else if (decide<|(x3.length:Int)<=G) then some ((⟨0,([]:Bt),([]:List Val)⟩:Val),G,1) else bd (idx x3 G) λJ=>bd (slc x3 x4 G) λL=>bd (f_U L) λO=>if ((byteI J) != O) then some ((⟨0,([]:Bt),([]:List Val)⟩:Val),G,5) else some (H,h_ G 1,0)
def a_y:Nat->f_V
 | 0=>⟨λ_ _ _ _=>none,λ_ _ _ _ _ _=>none,λ_ _ _ _=>none,λ_ _ _ _=>none,λ_ _ _ _=>none⟩
 | n+1=>⟨h_a n<|a_y n,h_b n<|a_y n,h_c n<|a_y n,h_d n<|a_y n,h_e n<|a_y n⟩
def e_s (n:Nat):=(a_y n).spec_l11Read
def f_4 (n:Nat):=(a_y n).spec_l11Items
def f_5 (n:Nat)(x1:g_)(x2:Int)(x3:Bt)(x4:Int)(x5:Str):Option (Int×Int×Bool) :=
 bd (idx x1.rules x2) λG=>bd3 (h_7 x1 G x3 x4) λL O V=>bd (C_ (σ:=Int) (ρ:=Int×Int×Bool) (λI=>(λH=>bd (b_E G V (I:Int)) λJ=>bd (e_2 n G (I:Int)) λW=>if (W.b==x5.b) then some (.ret (J,H,true)) else bd3 (e_s n x1 J x3 H) λa2 Y a0=>if (a0 != 0) then some (.ret (0,0,false)) else some (.next Y))) O.toNat 0 L)<|el (λH=>some (0,0,false))<|λa1=>some a1
def j_9 (n:Nat)(x1:g_)(x2:Bt)(x3:Str):Option (s_×Bool) :=
 bd2 (f_1 n x3) λI J=>bd (α:=Bool) (if (!J) then some true else bd (f_S x1) λL=>if (!L) then some true else some (decide<|400<(x2.length:Int))) (λO=>if O then some ((⟨(⟨[]⟩:Str),0,0,0⟩:s_),false) else bd (f_3 x1) λV=>bd (C_ (σ:=Int×Int) (ρ:=s_×Bool) (λW=>un2 λG H=>bd (idx I (W:Int)) λY=>bd3 (f_5 n x1 G x2 H Y) λa0 a1 a2=>if (!a2) then some (.ret ((⟨(⟨[]⟩:Str),0,0,0⟩:s_),false)) else some (.next (a0,a1))) I.length 0 (V,0)) (el (un2 λG H=>bd3 (e_s n x1 G x2 H) λa6 a3 a4=>if (a4 != 0) then some ((⟨(⟨[]⟩:Str),0,0,0⟩:s_),false) else some ((⟨x3,G,H,a3⟩:s_),true))<|λa5=>some a5))
def h_f (x1:g_)(x2:Int):Option Bool :=
 bd (α:=Bool) (bd (b_a x2 0<|I_ (x1.rules.length:Int) 1) λG=>if G then bd (f_S x1) λH=>some H else some false) (λI=>some I)
def h_g (n:Nat)(x1:g_)(x2:Int)(x3:Bt)(x4:Int):Option (Val×Int×Int) :=
 bd (α:=Bool) (bd (h_f x1 x2) λG=>if (!G) then some true else bd (b_a x4 0 (x3.length:Int)) λH=>if (!H) then some true else some (decide<|400<(x3.length:Int))) (λI=>if I then some ((⟨0,([]:Bt),([]:List Val)⟩:Val),0,8) else bd3 (e_s n x1 x2 x3 x4) λJ L O=>some (J,L,O))
def h_h (n:Nat)(x1:g_)(x2:Bt):Option (Val×Int×Int) :=
 bd (α:=Int×Bt×(List Val)×Int×Int) (bd (f_3 x1) λJ=>bd3 (h_g n x1 J x2 0) λG L O=>some (G.number,G.bytes,G.items,L,O)) (un5 λV W Y H I=>bd (α:=Bool) (if (I==0) then some (decide<|H<(x2.length:Int)) else some false) (λa0=>if a0 then some ((⟨0,([]:Bt),([]:List Val)⟩:Val),H,7) else some ((⟨V,W,Y⟩:Val),H,I)))
def h_i (n:Nat)(x1:g_)(x2:Bt):Option Bool :=
 bd3 (h_h n x1 x2) λH I G=>some<|G==0
def e_t (x1:Str)(x2:UInt8):Option (List Str) :=
 bd (C_ (σ:=(List Str)×Int) (ρ:=List Str) (λI=>un2 λG H=>bd (idx x1.b (I:Int)) λJ=>bd (α:=(List Str)×Int) (if ((byteI J)==(byteI x2)) then bd (b_N x1 H (I:Int)) λL=>bd (psh G L) λO=>some (O,((I+1:Nat):Int)) else some (G,H))<|un2 λV W=>some<|.next (V,W)) x1.b.length 0 (([]:List Str),0)) (el (un2 λG H=>bd (b_N x1 H (x1.b.length:Int)) λY=>bd (psh G Y) λa0=>some a0)<|λa1=>some a1)
def e_u (n:Nat)(x1:Str):Option Bool :=
 bd (α:=Bool) (if (decide<|(x1.b.length:Int)<1) then some true else some (decide<|12<(x1.b.length:Int))) (λH=>if H then some false else bd (a_8 (σ:=Nat) (ρ:=Bool) (λG=>if (decide<|G<x1.b.length) then bd (α:=Bool) (if (decide<|97<=((dec x1 G).1)) then some (decide<|((dec x1 G).1)<=122) else some false) (λI=>bd (α:=Bool) (if (decide<|48<=((dec x1 G).1)) then some (decide<|((dec x1 G).1)<=57) else some false) (λJ=>bd (α:=Bool) (if (!I) then if (!J) then some true else some ((G:Int)==0) else some false) (λL=>if L then some (.ret false) else some (.next<|G+(dec x1 G).2)))) else some (.brk G)) n 0) (el (λG=>some true)<|λO=>some O))
def f_W (x1:Str):Option (Int×Bool) :=
 bd (α:=Bool) (if (x1.b==(⟨[]⟩:Str).b) then some true else if (decide<|13<(x1.b.length:Int)) then some true else bd (idx x1.b 0) λI=>if ((byteI I)==(byteI (48:UInt8))) then some (decide<|1<(x1.b.length:Int)) else some false) (λJ=>if J then some (0,false) else bd (C_ (σ:=Int) (ρ:=Int×Bool) (λH=>(λG=>bd (α:=Bool) (bd (idx x1.b (H:Int)) λL=>if (decide<|(byteI L)<(byteI (48:UInt8))) then some true else bd (idx x1.b (H:Int)) λO=>some<|decide<|(byteI (57:UInt8))<(byteI O)) (λV=>if V then some (.ret (0,false)) else bd (idx x1.b (H:Int)) λW=>some<|.next<|h_ (a_j 10 G)<|byteI<|mkB<|byteI W - byteI (48:UInt8)))) x1.b.length 0 0) (el (λG=>if (decide<|1000000000000<G) then some (0,false) else some (G,true))<|λY=>some Y))
def e_v (n:Nat)(x1:Str):Option Bool :=
 bd (α:=Bool) (bd (e_u n x1) λG=>if G then some true else if (x1.b==(⟨[42]⟩:Str).b) then some true else if (x1.b==(⟨[63]⟩:Str).b) then some true else some (x1.b==(⟨[43]⟩:Str).b)) (λH=>if H then some true else bd2 (f_W x1) λJ I=>some I)
def j_a (n:Nat)(x1:Str):Option ((List Str)×Bool) :=
 if (x1.b==(⟨[]⟩:Str).b) then some ([],true) else bd (idx x1.b 0) λc=>if (byteI c != byteI (47:UInt8)) then some ([],false) else bd (e_t x1 (47:UInt8)) λl=>bd (slc l 1 (l.length:Int)) λparts=>bd (e_Z (e_v n) parts) λoks=>if parts.length<LIM then some (if oks.all id then (parts,true) else ([],false)) else none
def h_j (n:Nat)(x1:Str):Option ((List Str)×Bool) :=
 bd2 (j_a n x1) λG H=>some (G,H)
def c_D (x1:Int)(x2:Int)(x3:Int):Option Bool :=
 bd (α:=Bool) (if (decide<|x2<=x1) then some (decide<|x1<=x3) else some false) (λG=>some G)
def e_w (x1:g_)(x2:Int):Option Bool :=
 bd (α:=Bool) (if (decide<|0<=x2) then some (decide<|x2<(x1.rules.length:Int)) else some false) (λG=>some G)
def c_E (x1:d_)(x2:Bool)(x3:Bool)(x4:Bool)(x5:Bool)(x6:Int):Option Bool :=
 bd (α:=Bool) (bd (α:=Bool) (if x2 then some true else some (x1.size==0)) λG=>bd (α:=Bool) (if G then if x3 then some true else some ((x1.bytes.length:Int)==0) else some false) λH=>bd (α:=Bool) (if H then if x4 then some true else some ((x1.names.length:Int)==0) else some false) λI=>bd (α:=Bool) (if I then if x5 then some true else some ((x1.tags.length:Int)==0) else some false) λJ=>if J then if (decide<|x6<0) then some true else some ((x1.kids.length:Int)==x6) else some false) (λL=>some L)
def f_6 (x1:g_)(x2:Int):Option Int :=
 bd (α:=Bool) (bd (e_w x1 x2) λH=>if (!H) then some true else bd (idx x1.rules x2) λI=>if (I.kind != 1) then some true else bd (idx x1.rules x2) λJ=>bd (c_D J.size 1 4) λL=>some (!L)) (λO=>if O then some (-1) else bd (idx x1.rules x2) λG=>bd (nn<|a_j 8 G.size) λV=>some<|I_ (b_O .i64 1<|a_j 8 G.size) 1)
def f_X (x1:List Str)(x2:Str):Option Bool :=
 bd (C_ (σ:=Unit) (ρ:=Bool) (λk10=>(λ(_:Unit)=>bd (idx x1 (k10:Int)) λG=>if (G.b==x2.b) then some (.ret true) else some (.next ()))) x1.length 0 ()) (el (λ(_:Unit)=>some false)<|λH=>some H)
def h_k (n:Nat)(x1:d_):Option Bool :=
 bd (α:=Bool) (bd (c_E x1 false false true false (-1)) λH=>if (!H) then some true else if ((x1.kids.length:Int) != (x1.names.length:Int)) then some true else bd (c_D (x1.kids.length:Int) 1 8) λI=>some (!I)) (λJ=>if J then some false else bd (C_ (σ:=Unit) (ρ:=Bool) (λk10=>(λ(_:Unit)=>bd (idx x1.names (k10:Int)) λG=>bd (α:=Bool) (bd (e_u n G) λL=>if (!L) then some true else bd (slc x1.names 0 (k10:Int)) λO=>bd (f_X O G) λV=>some V) (λW=>if W then some (.ret false) else some (.next ())))) x1.names.length 0 ()) (el (λ(_:Unit)=>some true)<|λY=>some Y))
def h_l (x1:g_)(x2:d_):Option Bool :=
 bd (α:=Bool) (bd (c_E x2 false false false true<|h_ (x2.tags.length:Int) 1) λI=>if (!I) then some true else bd (c_D (x2.tags.length:Int) 1 8) λJ=>some (!J)) (λL=>if L then some false else bd (idx x2.kids 0) λO=>bd (f_6 x1 O) λG=>bd (C_ (σ:=Unit) (ρ:=Bool) (λk10=>(λ(_:Unit)=>bd (idx x2.tags (k10:Int)) λH=>bd (α:=Bool) (bd (c_D H 0 G) λV=>if (!V) then some true else if (decide<|0<(k10:Int)) then bd (idx x2.tags<|I_ (k10:Int) 1) λW=>some (decide<|H<=W) else some false) (λY=>if Y then some (.ret false) else some (.next ())))) x2.tags.length 0 ())<|el (λ(_:Unit)=>some<|decide<|0<G)<|λa0=>some a0)
def h_m (n:Nat)(x1:g_)(x2:d_):Option Bool :=
 if (x2.kind==1) then bd (α:=Bool) (bd (c_E x2 true false false false 0) λG=>if G then bd (c_D x2.size 1 4) λH=>if H then if (!x2.little) then some true else some (decide<|1<x2.size) else some false else some false) (λI=>some I) else if (x2.kind==2) then bd (α:=Bool) (bd (c_E x2 false true false false 0) λJ=>if J then bd (c_D (x2.bytes.length:Int) 1 16) λL=>some L else some false) (λO=>some O) else if (x2.kind==3) then bd (α:=Bool) (bd (c_E x2 true false false false 0) λV=>if V then bd (c_D x2.size 1 64) λW=>some W else some false) (λY=>some Y) else if (x2.kind==4) then bd (α:=Bool) (bd (c_E x2 false false false false 1) λa0=>if a0 then bd (idx x2.kids 0) λa1=>bd (f_6 x1 a1) λa2=>some (decide<|0<a2) else some false) (λa3=>some a3) else if (x2.kind==5) then bd (α:=Bool) (bd (c_E x2 false false false false 2) λa4=>if a4 then bd (idx x2.kids 0) λa5=>bd (f_6 x1 a5) λa6=>some (decide<|0<a6) else some false) (λa7=>some a7) else if (x2.kind==6) then bd (h_k n x2) λa8=>some a8 else if (x2.kind==7) then bd (h_l x1 x2) λa9=>some a9 else bd (α:=Bool) (if (x2.kind==8) then some (x2.kind==8) else some (x2.kind==9)) (λaa=>if aa then bd (c_E x2 false false false false 1) λab=>some ab else if (x2.kind==10) then bd (α:=Bool) (bd (c_E x2 false true false false 0) λad=>if ad then if ((x2.bytes.length:Int)==1) then bd (idx x2.bytes 0) λae=>some ((byteI ae) != (byteI (92:UInt8))) else some false else some false) (λaf=>some af) else some false)
def h_n (n:Nat)(x1:g_)(x2:Int):Option Bool :=
 bd (e_w x1 x2) λJ=>if (!J) then some false else bd (idx x1.rules x2) λG=>bd (α:=Bool) (bd (e_u n G.name) λL=>if (!L) then some true else if G.little then some (G.kind != 1) else some false) (λO=>if O then some false else bd (slc x1.rules 0 x2) λH=>bd (C_ (σ:=Unit) (ρ:=Bool) (λV=>(λ(_:Unit)=>bd (idx H (V:Int)) λW=>if (W.name.b==G.name.b) then some (.ret false) else some (.next ()))) H.length 0 ()) (el (λ(_:Unit)=>bd (C_ (σ:=Unit) (ρ:=Bool) (λY=>(λ(_:Unit)=>bd (idx G.kids (Y:Int)) λI=>bd (α:=Bool) (if (decide<|I<0) then some true else some (decide<|x2<=I)) (λa0=>if a0 then some (.ret false) else some (.next ())))) G.kids.length 0 ())<|el (λ(_:Unit)=>bd (h_m n x1 G) λa1=>some a1)<|λa2=>some a2)<|λa3=>some a3))
def h_o (n:Nat)(x1:g_):Option Bool :=
 bd (c_D (x1.rules.length:Int) 1 24) λG=>if (!G) then some false else bd (C_ (σ:=Unit) (ρ:=Bool) (λH=>(λ(_:Unit)=>bd (h_n n x1 (H:Int)) λI=>if (!I) then some (.ret false) else some (.next ()))) x1.rules.length 0 ()) (el (λ(_:Unit)=>some true)<|λJ=>some J)
def f_Y (x1:g_):Option Int :=
 some (I_ (x1.rules.length:Int) 1)
def f_7 (n:Nat)(x1:g_)(x2:Int):Option Bool :=
 bd (α:=Bool) (bd (h_o n x1) λG=>if G then bd (e_w x1 x2) λH=>some H else some false) (λI=>some I)
def e_3 (x1:a_a)(x2:Int)(x3:Int):Option W_ :=
 if (decide<|(I_ (x1.b.length:Int) x2)<x3) then some (⟨x2,1⟩:W_) else some (⟨h_ x2 x3,0⟩:W_)
def f_8 (x1:Bt)(x2:Bool):Option Int :=
 if (decide<|4<(x1.length:Int)) then some 0 else bd (C_ (σ:=Int) (ρ:=Int) (λH=>(λG=>bd (α:=Int) (if x2 then bd (idx x1<|I_ (I_ (x1.length:Int) 1) (H:Int)) λI=>some (a_Q .i64 (· ||| ·) (b_O .i64 G 8)<|byteI I) else bd (idx x1 (H:Int)) λJ=>some<|a_Q .i64 (· ||| ·) (b_O .i64 G 8)<|byteI J)<|λL=>some<|.next L)) x1.length 0 0) (el (λG=>some G)<|λO=>some O)
def e_x (x1:a_a)(x2:Int)(x3:Int):Option (Int×W_×Int) :=
 bd (idx x1.d.rules x2) λH=>bd (e_3 (⟨(⟨x1.d.rules⟩:g_),x1.b,h_ x1.applied 1⟩:a_a) x3 H.size) λG=>if (G.code != 0) then some (0,G,h_ x1.applied 1) else bd (slc x1.b x3 G.at_) λI=>bd (f_8 I H.little) λJ=>some (J,G,h_ x1.applied 1)
def h_p (x1:a_a)(x2:d_)(x3:Int):Option W_ :=
 bd (C_ (σ:=Unit) (ρ:=W_) (λk10=>(λ(_:Unit)=>bd (idx x2.bytes (k10:Int)) λG=>if ((h_ x3 (k10:Int))==(x1.b.length:Int)) then some (.ret (⟨x3,1⟩:W_)) else bd (idx x1.b<|h_ x3 (k10:Int)) λH=>if ((byteI H) != (byteI G)) then some (.ret (⟨h_ x3 (k10:Int),2⟩:W_)) else some (.next ()))) x2.bytes.length 0 ()) (el (λ(_:Unit)=>some (⟨h_ x3 (x2.bytes.length:Int),0⟩:W_))<|λI=>some I)
def f_Z (x1:Bt):Option Int :=
 bd (C_ (σ:=Int) (ρ:=Int) (λH=>(λG=>bd (idx x1 (H:Int)) λI=>some<|.next<|h_ G<|byteI I)) x1.length 0 0) (el (λG=>some<|b_q G 256)<|λJ=>some J)
def g_0 (n:Nat)(x1:Bt)(x2:Int)(x3:UInt8):Option (Bt×Int×Bool) :=
 bd (α:=Bool) (if (decide<|x2<0) then some true else some (decide<|(x1.length:Int)<x2)) (λJ=>if J then some (([]:Bt),x2,false) else bd (a_8 (σ:=Bt×Int) (ρ:=Bt×Int×Bool) (un2 λH G=>if (decide<|G<(x1.length:Int)) then bd (idx x1 G) λL=>if ((byteI L)==(byteI x3)) then some (.ret (H,h_ G 1,true)) else bd (idx x1 G) λO=>bd (α:=Sum Int<|Out (Bt×Int)<|Bt×Int×Bool) (if ((byteI O)==(byteI (92:UInt8))) then if ((h_ G 1)==(x1.length:Int)) then some (.inr<|.brk (H,h_ G 1)) else some (.inl<|h_ G 1) else some (.inl G)) (el (λI=>bd (idx x1 I) λV=>bd (psh H V) λW=>some<|.next (W,h_ I 1)) some) else some (.brk (H,G))) n (([]:Bt),x2)) (el (un2 λH G=>some (([]:Bt),x2,false))<|λY=>some Y))
structure g_1 where
 impl_checker_value:a_a->Int->Int->Option (W_×Int)
 impl_checker_array:a_a->d_->Int->Option (W_×Int)
 impl_checker_choice:a_a->d_->Int->Option (W_×Int)
 impl_checker_option:a_a->d_->Int->Option (W_×Int)
 impl_checker_checked:a_a->d_->Int->Option (W_×Int)
def h_q (n:Nat)(rec:g_1)(x1:a_a)(x2:Int)(x3:Int):Option (W_×Int) :=
 bd (idx x1.d.rules x2) λG=>if (G.kind==1) then bd3 (e_x x1 x2 x3) λam Y a0=>some (Y,a0) else if (G.kind==2) then bd (h_p (⟨(⟨x1.d.rules⟩:g_),x1.b,h_ x1.applied 1⟩:a_a) G x3) λa1=>some (a1,h_ x1.applied 1) else if (G.kind==3) then bd (e_3 (⟨(⟨x1.d.rules⟩:g_),x1.b,h_ x1.applied 1⟩:a_a) x3 G.size) λa2=>some (a2,h_ x1.applied 1) else if (G.kind==4) then bd (idx G.kids 0) λa3=>bd3 (e_x (⟨(⟨x1.d.rules⟩:g_),x1.b,h_ x1.applied 1⟩:a_a) a3 x3) λa4 I J=>if (I.code != 0) then some (I,J) else bd (e_3 (⟨(⟨x1.d.rules⟩:g_),x1.b,J⟩:a_a) I.at_ a4) λa5=>some (a5,J) else if (G.kind==5) then bd2 (rec.impl_checker_array (⟨(⟨x1.d.rules⟩:g_),x1.b,h_ x1.applied 1⟩:a_a) G x3) λa6 a7=>some (a6,a7) else if (G.kind==6) then bd (C_ (σ:=Int×Int×Int) (ρ:=W_×Int) (λa8=>un3 λL O V=>bd (idx G.kids (a8:Int)) λa9=>bd2 (rec.impl_checker_value (⟨(⟨x1.d.rules⟩:g_),x1.b,L⟩:a_a) a9 O) λH W=>if (H.code != 0) then some (.brk (W,H.at_,H.code)) else some (.next (W,H.at_,H.code))) G.kids.length 0 (h_ x1.applied 1,x3,0)) (el (un3 λL O V=>some ((⟨O,V⟩:W_),L))<|λaa=>some aa) else if (G.kind==7) then bd2 (rec.impl_checker_choice (⟨(⟨x1.d.rules⟩:g_),x1.b,h_ x1.applied 1⟩:a_a) G x3) λab ad=>some (ab,ad) else if (G.kind==8) then bd2 (rec.impl_checker_option (⟨(⟨x1.d.rules⟩:g_),x1.b,h_ x1.applied 1⟩:a_a) G x3) λae af=>some (ae,af) else if (G.kind==9) then bd2 (rec.impl_checker_checked (⟨(⟨x1.d.rules⟩:g_),x1.b,h_ x1.applied 1⟩:a_a) G x3) λah ai=>some (ah,ai) else bd (idx G.bytes 0) λaj=>bd3 (g_0 n x1.b x3 aj) λan ak al=>if (!al) then some ((⟨x3,1⟩:W_),h_ x1.applied 1) else some ((⟨ak,0⟩:W_),h_ x1.applied 1)
def h_r (n:Nat)(rec:g_1)(x1:a_a)(x2:d_)(x3:Int):Option (W_×Int) :=
 bd (idx x2.kids 0) λY=>bd3 (e_x x1 Y x3) λO L V=>bd (α:=Bool) (if (L.code==0) then some (decide<|40<O) else some false) (λa0=>if a0 then some ((⟨x3,6⟩:W_),V) else bd (a_8 (σ:=Int×Int×Int×Int) (ρ:=W_×Int) (un4 λG H I J=>bd (α:=Bool) (if (decide<|0<G) then some (J==0) else some false) (λa1=>if a1 then bd (idx x2.kids 1) λa2=>bd2 (rec.impl_checker_value (⟨(⟨x1.d.rules⟩:g_),x1.b,H⟩:a_a) a2 I) λW a3=>some (.next (I_ G 1,a3,W.at_,W.code)) else some (.brk (G,H,I,J)))) n (O,V,L.at_,L.code)) (el (un4 λG H I J=>some ((⟨I,J⟩:W_),H))<|λa4=>some a4))
def h_s (n:Nat)(rec:g_1)(x1:a_a)(x2:d_)(x3:Int):Option (W_×Int) :=
 bd (idx x2.kids 0) λJ=>bd3 (e_x x1 J x3) λL G H=>if (G.code != 0) then some (G,H) else bd (C_ (σ:=Unit) (ρ:=W_×Int) (λI=>(λ(_:Unit)=>bd (idx x2.tags (I:Int)) λO=>if (O==L) then bd (idx x2.kids ((I+1:Nat):Int)) λV=>bd2 (rec.impl_checker_value (⟨(⟨x1.d.rules⟩:g_),x1.b,H⟩:a_a) V G.at_) λW Y=>some (.ret (W,Y)) else some (.next ()))) x2.tags.length 0 ()) (el (λ(_:Unit)=>some ((⟨x3,3⟩:W_),H))<|λa0=>some a0)
def h_t (n:Nat)(rec:g_1)(x1:a_a)(x2:d_)(x3:Int):Option (W_×Int) :=
 bd (e_3 x1 x3 1) λG=>bd (α:=Bool) (if (G.code != 0) then some true else bd (idx x1.b x3) λH=>some<|(byteI H)==(byteI (0:UInt8))) (λI=>if I then some (G,x1.applied) else bd (idx x1.b x3) λJ=>if (decide<|(byteI (1:UInt8))<(byteI J)) then some ((⟨x3,4⟩:W_),x1.applied) else bd (idx x2.kids 0) λL=>bd2 (rec.impl_checker_value x1 L G.at_) λO V=>some (O,V))
def h_u (n:Nat)(rec:g_1)(x1:a_a)(x2:d_)(x3:Int):Option (W_×Int) :=
 bd (idx x2.kids 0) λJ=>bd2 (rec.impl_checker_value x1 J x3) λG H=>if (G.code != 0) then some (G,H) else bd (e_3 (⟨(⟨x1.d.rules⟩:g_),x1.b,H⟩:a_a) G.at_ 1) λI=>bd (α:=Bool) (if (I.code==0) then bd (idx x1.b G.at_) λL=>bd (slc x1.b x3 G.at_) λO=>bd (f_Z O) λV=>some ((byteI L) != V) else some false) (λW=>if W then some ((⟨G.at_,5⟩:W_),H) else some (I,H))
def a_N:Nat->g_1
 | 0=>⟨λ_ _ _=>none,λ_ _ _=>none,λ_ _ _=>none,λ_ _ _=>none,λ_ _ _=>none⟩
 | n+1=>⟨h_q n<|a_N n,h_r n<|a_N n,h_s n<|a_N n,h_t n<|a_N n,h_u n<|a_N n⟩
def n_e (n:Nat):=(a_N n).impl_checker_value
def h_v (n:Nat)(x1:g_)(x2:Int)(x3:Bt)(x4:Int):Option (Int×Int) :=
 bd (α:=Bool) (bd (f_7 n x1 x2) λH=>if (!H) then some true else if (decide<|x4<0) then some true else if (decide<|(x3.length:Int)<x4) then some true else some (decide<|400<(x3.length:Int))) (λI=>if I then some (0,8) else bd2 (n_e n (⟨(⟨x1.rules⟩:g_),x3,0⟩:a_a) x2 x4) λG J=>some (G.at_,G.code))
def c_4 (x1:Int)(x2:Int):Option (Option<|Int×Int) :=
 some (some (x1,x2))
def e_y (x1:a_I)(x2:Int)(x3:Int):Option (Bt×(Option<|Int×Int)) :=
 if (decide<|(I_ (x1.b.length:Int) x2)<x3) then bd (c_4 x2 1) λG=>some (([]:Bt),G) else bd (slc x1.b x2<|h_ x2 x3) λH=>some (H,none)
def e_z (x1:a_I)(x2:Int)(x3:Int):Option (Int×Int×(Option<|Int×Int)) :=
 bd (idx x1.d.rules x2) λG=>bd2 (e_y x1 x3 G.size) λI H=>if H.isSome then some (0,x3,H) else bd (f_8 I G.little) λJ=>some (J,h_ x3 G.size,none)
def h_w (x1:a_I)(x2:d_)(x3:Int):Option (Int×(Option<|Int×Int)) :=
 bd (C_ (σ:=Unit) (ρ:=Int×(Option<|Int×Int)) (λk10=>(λ(_:Unit)=>bd (idx x2.bytes (k10:Int)) λG=>if (decide<|(x1.b.length:Int)<=(h_ x3 (k10:Int))) then bd (c_4 x3 1) λH=>some (.ret (x3,H)) else bd (idx x1.b<|h_ x3 (k10:Int)) λI=>if ((byteI I) != (byteI G)) then bd (c_4 (h_ x3 (k10:Int)) 2) λJ=>some (.ret (x3,J)) else some (.next ()))) x2.bytes.length 0 ()) (el (λ(_:Unit)=>some (h_ x3 (x2.bytes.length:Int),none))<|λL=>some L)
def g_2 (x1:a_I)(x2:Int)(x3:Int):Option (Val×Int×(Option<|Int×Int)) :=
 bd2 (e_y x1 x2 x3) λH G=>if G.isSome then some ((⟨0,([]:Bt),([]:List Val)⟩:Val),x2,G) else bd (app ([]:Bt) H) λI=>some ((⟨0,I,([]:List Val)⟩:Val),h_ x2 x3,none)
structure f_9 where
 impl_fileReader_value:a_I->Int->Int->Option (Val×Int×(Option<|Int×Int))
 impl_fileReader_array:a_I->d_->Int->Option (Val×Int×(Option<|Int×Int))
 impl_fileReader_items:a_I->Val->(List Int)->Int->Option (Val×Int×(Option<|Int×Int))
 impl_fileReader_choice:a_I->d_->Int->Option (Val×Int×(Option<|Int×Int))
 impl_fileReader_option:a_I->d_->Int->Option (Val×Int×(Option<|Int×Int))
 impl_fileReader_checked:a_I->d_->Int->Option (Val×Int×(Option<|Int×Int))
def h_x (n:Nat)(rec:f_9)(x1:a_I)(x2:Int)(x3:Int):Option (Val×Int×(Option<|Int×Int)) :=
 bd (idx x1.d.rules x2) λG=>if (G.kind==1) then bd3 (e_z x1 x2 x3) λI J L=>some ((⟨I,([]:Bt),([]:List Val)⟩:Val),J,L) else if (G.kind==2) then bd2 (h_w x1 G x3) λO V=>some ((⟨0,([]:Bt),([]:List Val)⟩:Val),O,V) else if (G.kind==3) then bd3 (g_2 x1 x3 G.size) λW Y a0=>some (W,Y,a0) else if (G.kind==4) then bd (idx G.kids 0) λa1=>bd3 (e_z x1 a1 x3) λa2 a3 H=>if H.isSome then some ((⟨0,([]:Bt),([]:List Val)⟩:Val),x3,H) else bd3 (g_2 x1 a3 a2) λa4 a5 a6=>some (a4,a5,a6) else if (G.kind==5) then bd3 (rec.impl_fileReader_array x1 G x3) λa7 a8 a9=>some (a7,a8,a9) else if (G.kind==6) then bd3 (rec.impl_fileReader_items x1 (⟨0,([]:Bt),([]:List Val)⟩:Val) G.kids x3) λaa ab ad=>some (aa,ab,ad) else if (G.kind==7) then bd3 (rec.impl_fileReader_choice x1 G x3) λae af ah=>some (ae,af,ah) else if (G.kind==8) then bd3 (rec.impl_fileReader_option x1 G x3) λai aj ak=>some (ai,aj,ak) else if (G.kind==9) then bd3 (rec.impl_fileReader_checked x1 G x3) λal am an=>some (al,am,an) else bd (idx G.bytes 0) λao=>bd3 (g_0 n x1.b x3 ao) λap aq ar=>if (!ar) then bd (c_4 x3 1) λau=>some ((⟨0,([]:Bt),([]:List Val)⟩:Val),x3,au) else some ((⟨0,ap,([]:List Val)⟩:Val),aq,none)
def h_y (n:Nat)(rec:f_9)(x1:a_I)(x2:d_)(x3:Int):Option (Val×Int×(Option<|Int×Int)) :=
 bd (idx x2.kids 0) λL=>bd3 (e_z x1 L x3) λH O I=>if I.isSome then some ((⟨0,([]:Bt),([]:List Val)⟩:Val),x3,I) else if (decide<|40<H) then bd (c_4 x3 6) λV=>some ((⟨0,([]:Bt),([]:List Val)⟩:Val),x3,V) else bd (mk0 0 H) λJ=>bd (C_ (σ:=List Int) (ρ:=Val×Int×(Option<|Int×Int)) (λW=>(λG=>bd (idx x2.kids 1) λY=>bd (upd G (W:Int) Y) λa0=>some<|.next a0)) J.length 0 J)<|el (λG=>bd3 (rec.impl_fileReader_items x1 (⟨0,([]:Bt),([]:List Val)⟩:Val) G O) λa1 a2 a3=>some (a1,a2,a3))<|λa4=>some a4
def h_z (n:Nat)(rec:f_9)(x1:a_I)(x2:Val)(x3:List Int)(x4:Int):Option (Val×Int×(Option<|Int×Int)) :=
 bd (C_ (σ:=Int×(List Val)) (ρ:=Val×Int×(Option<|Int×Int)) (λJ=>un2 λG H=>bd (idx x3 (J:Int)) λL=>bd3 (rec.impl_fileReader_value x1 L G) λO V I=>if I.isSome then some (.ret ((⟨0,([]:Bt),([]:List Val)⟩:Val),G,I)) else bd (psh H O) λW=>some<|.next (V,W)) x3.length 0 (x4,x2.items)) (el (un2 λG H=>some ((⟨x2.number,x2.bytes,H⟩:Val),G,none))<|λY=>some Y)
def h_A (n:Nat)(rec:f_9)(x1:a_I)(x2:d_)(x3:Int):Option (Val×Int×(Option<|Int×Int)) :=
 bd (idx x2.kids 0) λI=>bd3 (e_z x1 I x3) λG J H=>if H.isSome then some ((⟨0,([]:Bt),([]:List Val)⟩:Val),x3,H) else bd (C_ (σ:=Unit) (ρ:=Val×Int×(Option<|Int×Int)) (λk10=>(λ(_:Unit)=>bd (idx x2.tags (k10:Int)) λL=>if (L==G) then bd (slc x2.kids ((k10+1:Nat):Int)<|h_ (k10:Int) 2) λO=>bd3 (rec.impl_fileReader_items x1 (⟨G,([]:Bt),([]:List Val)⟩:Val) O J) λV W Y=>some (.ret (V,W,Y)) else some (.next ()))) x2.tags.length 0 ()) (el (λ(_:Unit)=>bd (c_4 x3 3) λa0=>some ((⟨0,([]:Bt),([]:List Val)⟩:Val),x3,a0))<|λa1=>some a1)
def h_B (n:Nat)(rec:f_9)(x1:a_I)(x2:d_)(x3:Int):Option (Val×Int×(Option<|Int×Int)) :=
 bd2 (e_y x1 x3 1) λG H=>if H.isSome then some ((⟨0,([]:Bt),([]:List Val)⟩:Val),x3,H) else bd (idx G 0) λI=>if (decide<|(byteI (1:UInt8))<(byteI I)) then bd (c_4 x3 4) λJ=>some ((⟨0,([]:Bt),([]:List Val)⟩:Val),x3,J) else bd (idx G 0) λL=>if ((byteI L)==(byteI (0:UInt8))) then some ((⟨0,([]:Bt),([]:List Val)⟩:Val),h_ x3 1,none) else bd3 (rec.impl_fileReader_items x1 (⟨0,([]:Bt),([]:List Val)⟩:Val) x2.kids<|h_ x3 1) λO V W=>some (O,V,W)
def h_C (n:Nat)(rec:f_9)(x1:a_I)(x2:d_)(x3:Int):Option (Val×Int×(Option<|Int×Int)) :=
 bd3 (rec.impl_fileReader_items x1 (⟨0,([]:Bt),([]:List Val)⟩:Val) x2.kids x3) λJ G H=>if H.isSome then some ((⟨0,([]:Bt),([]:List Val)⟩:Val),x3,H) else bd2 (e_y x1 G 1) λL I=>if I.isSome then some ((⟨0,([]:Bt),([]:List Val)⟩:Val),x3,I) else bd (idx L 0) λO=>bd (slc x1.b x3 G) λV=>bd (f_Z V) λW=>if ((byteI O) != W) then bd (c_4 G 5) λY=>some ((⟨0,([]:Bt),([]:List Val)⟩:Val),x3,Y) else some (J,h_ G 1,none)
def a_m:Nat->f_9
 | 0=>⟨λ_ _ _=>none,λ_ _ _=>none,λ_ _ _ _=>none,λ_ _ _=>none,λ_ _ _=>none,λ_ _ _=>none⟩
 | n+1=>⟨h_x n<|a_m n,h_y n<|a_m n,h_z n<|a_m n,h_A n<|a_m n,h_B n<|a_m n,h_C n<|a_m n⟩
def j_b (n:Nat):=(a_m n).impl_fileReader_value
def f_a (n:Nat):=(a_m n).impl_fileReader_items
def g_6 (n:Nat)(x1:g_)(x2:Int)(x3:Bt)(x4:Int):Option (Val×Int×Int) :=
 bd (α:=Bool) (bd (f_7 n x1 x2) λH=>if (!H) then some true else if (decide<|x4<0) then some true else if (decide<|(x3.length:Int)<x4) then some true else some (decide<|400<(x3.length:Int))) (λI=>if I then some ((⟨0,([]:Bt),([]:List Val)⟩:Val),0,8) else bd3 (j_b n (⟨(⟨x1.rules⟩:g_),x3⟩:a_I) x2 x4) λJ L G=>if G.isSome then (bd2 G λO V=>some ((⟨0,([]:Bt),([]:List Val)⟩:Val),O,V)) else some (J,L,0))
def h_D (n:Nat)(x1:g_)(x2:Bt):Option (Val×Int×Int) :=
 bd (α:=Int×Bt×(List Val)×Int×Int) (bd (f_Y x1) λJ=>bd3 (g_6 n x1 J x2 0) λG L O=>some (G.number,G.bytes,G.items,L,O)) (un5 λV W Y H I=>bd (α:=Bool) (if (I==0) then some (decide<|H<(x2.length:Int)) else some false) (λa0=>if a0 then some ((⟨0,([]:Bt),([]:List Val)⟩:Val),H,7) else some ((⟨V,W,Y⟩:Val),H,I)))
def g_7 (n:Nat)(x1:g_)(x2:Bt)(x3:Str):Option (Val×Bool) :=
 bd2 (j_9 n x1 x2 x3) λG H=>if (!H) then some ((⟨0,([]:Bt),([]:List Val)⟩:Val),false) else bd3 (e_s n x1 G.rule x2 G.start) λI J L=>some (I,true)
structure n_f where
 spec_l19Build:g_->Int->Bt->Int->Str->Option ((List s_)×Int)
def h_E (n:Nat)(rec:n_f)(x1:g_)(x2:Int)(x3:Bt)(x4:Int)(x5:Str):Option ((List s_)×Int) :=
 bd (idx x1.rules x2) λG=>bd3 (e_s n x1 x2 x3 x4) λI J aa=>bd (α:=Bool) (if (G.kind==5) then some (G.kind==5) else some (G.kind==7)) (λV=>bd (α:=Int) (if V then bd (idx G.kids 0) λW=>bd3 (c_C x1 W x3 x4) λab Y ad=>some Y else bd (α:=Int) (if (G.kind==8) then some (h_ x4 1) else some x4) (λa0=>some a0))<|λa1=>bd (C_ (σ:=(List s_)×Int) (ρ:=(List s_)×Int) (λL=>un2 λH O=>bd (cat x5 (⟨[47]⟩:Str)) λa2=>bd (b_E G I.number (L:Int)) λa3=>bd (e_2 n G (L:Int)) λa4=>bd (cat a2 a4) λa5=>bd2 (rec.spec_l19Build x1 a3 x3 O a5) λa6 a7=>bd (app H a6) λa8=>some<|.next (a8,a7)) I.items.length 0 ([(⟨x5,x2,x4,J⟩:s_)],a1))<|el (un2 λH O=>some (H,J))<|λa9=>some a9)
def e_A:Nat->n_f
 | 0=>⟨λ_ _ _ _ _=>none⟩
 | n+1=>⟨h_E n<|e_A n⟩
def j_c (n:Nat):=(e_A n).spec_l19Build
def h_F (n:Nat)(x1:g_)(x2:Bt):Option ((List s_)×Bool) :=
 bd (h_i n x1 x2) λG=>if (!G) then some (([]:List s_),false) else bd (f_3 x1) λH=>bd2 (j_c n x1 H x2 0 (⟨[]⟩:Str)) λI J=>some (I,true)
def j_d (x1:Int):Option Str :=
 bd (j_K x1) λG=>some G
def f_b (n:Nat)(x1:g_)(x2:Int)(x3:Int):Option Str :=
 bd (α:=Bool) (bd (f_7 n x1 x2) λH=>if (!H) then some true else some (decide<|x3<0)) (λI=>if I then some (⟨[]⟩:Str) else bd (idx x1.rules x2) λG=>if (G.kind==5) then bd (j_d x3) λJ=>some J else bd (α:=Bool) (if (G.kind==6) then some (decide<|x3<(G.names.length:Int)) else some false) (λL=>if L then bd (idx G.names x3) λO=>some O else if (decide<|0<x3) then some (⟨[]⟩:Str) else if (G.kind==7) then some (⟨[42]⟩:Str) else if (G.kind==8) then some (⟨[63]⟩:Str) else if (G.kind==9) then some (⟨[43]⟩:Str) else some (⟨[]⟩:Str)))
def f_c (x1:g_)(x2:Int)(x3:Val)(x4:Int):Option Int :=
 bd (idx x1.rules x2) λG=>if (G.kind==5) then bd (idx G.kids 1) λI=>some I else bd (α:=Sum Unit Int) (if (G.kind==6) then if (decide<|x4<(G.kids.length:Int)) then bd (idx G.kids x4) λJ=>some (.inr J) else some (.inl ()) else bd (α:=Sum Unit<|Sum Unit Int) (if (G.kind==7) then bd (C_ (σ:=Unit) (ρ:=Int) (λH=>(λ(_:Unit)=>bd (idx G.tags (H:Int)) λL=>if (L==x3.number) then bd (idx G.kids ((H+1:Nat):Int)) λO=>some (.ret O) else some (.next ()))) G.tags.length 0 ()) (el (λ(_:Unit)=>some<|.inl ())<|λV=>some<|.inr<|.inr V) else bd (α:=Bool) (if (G.kind==8) then some (G.kind==8) else some (G.kind==9)) (λW=>if W then bd (idx G.kids 0) λY=>some (.inr<|.inr Y) else some (.inl ()))) (el (λ(_:Unit)=>some<|.inl ()) some)) (el (λ(_:Unit)=>some (-1)) some)
structure n_g where
 impl_indexer_part:d_i->Str->Int->Val->Int->Option (Int×(List s_))
def h_G (n:Nat)(rec:n_g)(x1:d_i)(x2:Str)(x3:Int)(x4:Val)(x5:Int):Option (Int×(List s_)) :=
 bd (psh x1.list_ (⟨x2,x3,x5,0⟩:s_)) λV=>bd2 (h_v n (⟨x1.d.rules⟩:g_) x3 x1.b x5) λL ad=>bd (idx x1.d.rules x3) λG=>bd (α:=Bool) (if (G.kind==5) then some (G.kind==5) else some (G.kind==7)) (λW=>bd (α:=Int) (if W then bd (idx G.kids 0) λY=>bd (idx x1.d.rules Y) λa0=>some (h_ x5 a0.size) else bd (α:=Int) (if (G.kind==8) then some (h_ x5 1) else some x5) (λa1=>some a1))<|λa2=>bd (C_ (σ:=Int×(List s_)) (ρ:=Int×(List s_)) (λI=>un2 λO H=>bd (cat x2 (⟨[47]⟩:Str)) λa3=>bd (idx x4.items (I:Int)) λa4=>bd (f_b n (⟨x1.d.rules⟩:g_) x3 (I:Int)) λa5=>bd (cat a3 a5) λa6=>bd (f_c (⟨x1.d.rules⟩:g_) x3 x4 (I:Int)) λa7=>bd2 (rec.impl_indexer_part (⟨(⟨x1.d.rules⟩:g_),x1.b,H⟩:d_i) a6 a7 a4 O) λa8 a9=>some<|.next (a8,a9)) x4.items.length 0 (a2,V))<|el (un2 λO H=>bd (idx H (x1.list_.length:Int)) λJ=>bd (upd H (x1.list_.length:Int) (⟨J.path,J.rule,J.start,L⟩:s_)) λaa=>some (L,aa))<|λab=>some ab)
def e_B:Nat->n_g
 | 0=>⟨λ_ _ _ _ _=>none⟩
 | n+1=>⟨h_G n<|e_B n⟩
def h_H (n:Nat):=(e_B n).impl_indexer_part
def h_I (n:Nat)(x1:g_)(x2:Bt):Option ((List s_)×Bool) :=
 bd3 (h_D n x1 x2) λG L H=>if (H != 0) then some (([]:List s_),false) else bd (f_Y x1) λI=>bd2 (h_H n (⟨(⟨x1.rules⟩:g_),x2,([]:List s_)⟩:d_i) (⟨[]⟩:Str) I G 0) λO J=>some (J,true)
def h_J (n:Nat)(x1:Str):Option ((List Str)×Bool) :=
 if (x1.b==(⟨[]⟩:Str).b) then some (([]:List Str),true) else bd (f_Q n x1 (47:UInt8)) λG=>bd (a_8 (σ:=Int) (ρ:=(List Str)×Bool) (λH=>if (decide<|H<(G.length:Int)) then bd (α:=Bool) (bd (idx G H) λJ=>bd (e_0 n J) λL=>if (!L) then bd (idx G H) λO=>if (O.b != (⟨[35]⟩:Str).b) then bd (idx G H) λV=>some (V.b != (⟨[46,46]⟩:Str).b) else some false else some false) (λW=>if W then some (.ret (([]:List Str),false)) else some (.next<|h_ H 1)) else some (.brk H)) n 1) (el (λH=>bd (α:=(List Str)×Bool) (bd (slc G 1 (G.length:Int)) λI=>bd (idx G 0) λY=>if (Y.b==(⟨[]⟩:Str).b) then some (I,decide<|1<(G.length:Int)) else some (I,false))<|un2 λa0 a1=>some (a0,a1))<|λa2=>some a2)
def h_K (n:Nat)(x1:List Str)(x2:List Str):Option Bool :=
 bd (mk0 false<|h_ (x2.length:Int) 1) λL=>bd (upd L 0 true) λO=>bd (C_ (σ:=List Bool) (ρ:=Bool) (λI=>(λJ=>bd (mk0 false<|h_ (x2.length:Int) 1) λV=>bd (a_8 (σ:=(List Bool)×Int) (ρ:=Bool) (un2 λH G=>if (decide<|G<=(x2.length:Int)) then bd (α:=List Bool) (bd (idx x1 (I:Int)) λW=>if (W.b==(⟨[46,46]⟩:Str).b) then bd (α:=List Bool) (bd (idx J G) λY=>if Y then bd (upd H G true) λa0=>some a0 else if (decide<|0<G) then bd (idx H<|I_ G 1) λa1=>bd (upd H G a1) λa2=>some a2 else bd (upd H G false) λa3=>some a3) (λa4=>some a4) else bd (α:=Bool) (if (G==0) then some true else bd (idx J<|I_ G 1) λa5=>some (!a5)) (λa6=>if a6 then some H else bd (idx x2<|I_ G 1) λa7=>bd2 (f_R n a7) λau a8=>bd (α:=List Bool) (bd (idx x1 (I:Int)) λa9=>if (a9.b==(⟨[35]⟩:Str).b) then if a8 then bd (upd H G true) λaa=>some aa else bd (idx x1 (I:Int)) λab=>bd (idx x2<|I_ G 1) λad=>if (ab.b==ad.b) then bd (idx x1 (I:Int)) λae=>bd (upd H G<|ae.b != (⟨[35]⟩:Str).b) λaf=>some af else bd (upd H G false) λah=>some ah else bd (idx x1 (I:Int)) λai=>bd (idx x2<|I_ G 1) λaj=>if (ai.b==aj.b) then bd (idx x1 (I:Int)) λak=>bd (upd H G<|ak.b != (⟨[35]⟩:Str).b) λal=>some al else bd (upd H G false) λam=>some am)<|λan=>some an)) (λao=>some<|.next (ao,h_ G 1)) else some (.brk (H,G))) n (V,0))<|el (un2 λH G=>some<|.next H)<|λap=>some<|.ret ap)) x1.length 0 O)<|el (λJ=>bd (idx J (x2.length:Int)) λaq=>some aq)<|λar=>some ar
def h_L (n:Nat)(x1:Str)(x2:Str):Option Bool :=
 bd2 (h_J n x1) λG H=>bd2 (f_1 n x2) λI J=>bd (α:=Bool) (if H then if J then bd (h_K n G I) λL=>some L else some false else some false)<|λO=>some O
def f_d (n:Nat)(x1:Str):Option Bool :=
 bd (α:=Bool) (bd (e_v n x1) λG=>if G then some true else if (x1.b==(⟨[35]⟩:Str).b) then some true else some (x1.b==(⟨[46,46]⟩:Str).b)) (λH=>some H)
def j_e (n:Nat)(x1:Str):Option ((List Str)×Bool) :=
 if (x1.b==(⟨[]⟩:Str).b) then some ([],true) else bd (idx x1.b 0) λc=>if (byteI c != byteI (47:UInt8)) then some ([],false) else bd (e_t x1 (47:UInt8)) λl=>bd (slc l 1 (l.length:Int)) λparts=>bd (e_Z (f_d n) parts) λoks=>if parts.length<LIM then some (if oks.all id then (parts,true) else ([],false)) else none
def h_M (n:Nat)(x1:Str):Option ((List Str)×Bool) :=
 bd2 (j_e n x1) λG H=>some (G,H)
def h_N (x1:List Str)(x2:Int)(x3:Str):Option Bool :=
 bd (idx x1 x2) λG=>if (G.b==(⟨[35]⟩:Str).b) then bd2 (f_W x3) λJ H=>some H else bd (idx x1 x2) λI=>some<|I.b==x3.b
def j_f (x1:List Str)(x2:List Str):Option Bool :=
 bd (mk0 false<|h_ (x2.length:Int) 1) λJ=>bd (upd J 0 true) λL=>bd (C_ (σ:=List Bool) (ρ:=Bool) (λI=>(λH=>bd (mk0 false<|h_ (x2.length:Int) 1) λO=>bd (C_ (σ:=List Bool) (ρ:=Bool) (λk10=>(λG=>bd (idx x1 (I:Int)) λV=>bd (α:=List Bool) (if (V.b==(⟨[46,46]⟩:Str).b) then bd (α:=List Bool) (bd (idx H (k10:Int)) λW=>if W then bd (upd G (k10:Int) true) λY=>some Y else if (decide<|0<(k10:Int)) then bd (idx G<|I_ (k10:Int) 1) λa0=>bd (upd G (k10:Int) a0) λa1=>some a1 else bd (upd G (k10:Int) false) λa2=>some a2) (λa3=>some a3) else bd (α:=List Bool) (if (decide<|0<(k10:Int)) then bd (α:=List Bool) (bd (idx H<|I_ (k10:Int) 1) λa4=>if a4 then bd (idx x2<|I_ (k10:Int) 1) λa5=>bd (h_N x1 (I:Int) a5) λa6=>bd (upd G (k10:Int) a6) λa7=>some a7 else bd (upd G (k10:Int) false) λa8=>some a8) (λa9=>some a9) else some G) (λaa=>some aa))<|λab=>some<|.next ab)) H.length 0 O)<|el (λG=>some<|.next G)<|λad=>some<|.ret ad)) x1.length 0 L)<|el (λH=>bd (idx H (x2.length:Int)) λae=>some ae)<|λaf=>some af
def h_O (x1:List Str)(x2:List Str):Option Bool :=
 bd (j_f x1 x2) λG=>some G
def h_P (n:Nat)(x1:Str)(x2:Str):Option Bool :=
 bd2 (h_M n x1) λG H=>bd2 (h_j n x2) λI J=>bd (α:=Bool) (if H then if J then bd (h_O G I) λL=>some L else some false else some false)<|λO=>some O
def j_g (n:Nat)(x1:s_)(x2:Str):Option Bool :=
 bd (h_P n x2 x1.path) λG=>some G
def j_h (n:Nat)(x1:List s_)(I:Str):Option (List s_) :=
 bd (C_ (σ:=List s_) (ρ:=List s_) (λJ=>(λG=>bd (idx x1 (J:Int)) λH=>bd (j_g n H I) λL=>bd (α:=List s_) (if L then bd (psh G H) λO=>some O else some G)<|λV=>some<|.next V)) x1.length 0 ([]:List s_)) (el (λG=>some G)<|λW=>some W)
def f_e (n:Nat)(x1:g_)(x2:Bt)(x3:Str):Option (List s_) :=
 bd2 (h_I n x1 x2) λG H=>if (!H) then some ([]:List s_) else bd (j_h n G x3) λI=>some I
def h_Q (n:Nat)(x1:g_)(x2:Bt)(x3:Str):Option Int :=
 bd (f_e n x1 x2 x3) λI=>bd (C_ (σ:=Int) (ρ:=Int) (λJ=>(λG=>bd (idx I (J:Int)) λH=>bd (idx x1.rules H.rule) λL=>bd (α:=Int) (if (L.kind==1) then bd (slc x2 H.start H.end_) λO=>bd (idx x1.rules H.rule) λV=>bd (f_8 O V.little) λW=>some (h_ G W) else some G)<|λY=>some<|.next Y)) I.length 0 0)<|el (λG=>some G)<|λa0=>some a0
def f_f (x1:Int)(x2:Int):Option Int :=
 if (decide<|x2<x1) then some x2 else some x1
def g_8 (n:Nat)(x1:Int)(x2:Int):Option Bt :=
 bd (α:=Bool) (bd (b_a x2 1 4) λI=>if (!I) then some true else bd (e_1 x2) λJ=>bd (b_a x1 0<|I_ J 1) λL=>some (!L)) (λO=>if O then some ([]:Bt) else bd (a_8 (σ:=Bt×Int) (ρ:=Bt) (un2 λH G=>if (decide<|0<=G) then bd (nn<|a_j 8 G) λY=>bd (psh H<|mkB<|c_s .i64 x1<|a_j 8 G) λV=>some (.next (V,I_ G 1)) else some (.brk (H,G))) n (([]:Bt),I_ x2 1)) (el (un2 λH G=>some H)<|λW=>some W))
end Go.Vw
namespace Go.Vw
def i_1 (x1:Bt):Option Bool :=
 some (decide<|1048576<(x1.length:Int))
def f_l (n:Nat)(x1:Bt):Option u_ :=
 bd (a_8 (σ:=Int×Int) (ρ:=u_) (un2 λH G=>bd (α:=Bool) (if (decide<|G<(x1.length:Int)) then some (decide<|G<4000) else some false) (λI=>if I then bd (idx x1 G) λJ=>some (.next (a_Q .i64 (· &&& ·) (h_ (h_ (a_j H 137)<|byteI J) 11) 1073741823,h_ G 1)) else some (.brk (H,G)))) n (h_ 193017 (x1.length:Int),0)) (el (un2 λH G=>some (⟨x1,0,H⟩:u_))<|λL=>some L)
def d_h (x1:u_):Option (Int×Int×Int) :=
 bd (α:=Int×Int) (if (decide<|x1.i<(x1.b.length:Int)) then bd (idx x1.b x1.i) λG=>some (a_Q .i64 (· &&& ·) (h_ (a_Q .i64 (· &&& ·) (a_Q .i64 (· ^^^ ·) (c_s .i64 (h_ (a_j x1.h 6364136223846793005) 1442695040888963407) 33)<|c_s .i64 (h_ (a_j x1.h 6364136223846793005) 1442695040888963407) 47) 255)<|byteI G) 255,h_ x1.i 1) else some (a_Q .i64 (· &&& ·) (a_Q .i64 (· ^^^ ·) (c_s .i64 (h_ (a_j x1.h 6364136223846793005) 1442695040888963407) 33)<|c_s .i64 (h_ (a_j x1.h 6364136223846793005) 1442695040888963407) 47) 255,x1.i)) (un2 λH I=>some (H,I,h_ (a_j x1.h 6364136223846793005) 1442695040888963407))
def a_n (x1:u_)(x2:Int):Option (Int×Int×Int) :=
 if (decide<|x2<=0) then some (0,x1.i,x1.h) else if (decide<|x2<=256) then bd3 (d_h x1) λG H I=>bd (nz x2) λa3=>some (b_q G x2,H,I) else bd3 (d_h x1) λJ L O=>bd3 (d_h (⟨x1.b,L,O⟩:u_)) λV W Y=>bd3 (d_h (⟨x1.b,W,Y⟩:u_)) λa0 a1 a2=>bd (nz x2) λa4=>some (b_q (h_ (h_ (a_j J 65536)<|a_j V 256) a0) x2,a1,a2)
def c_q (x1:u_)(x2:List Str):Option (Str×Int×Int) :=
 bd3 (a_n x1 (x2.length:Int)) λG H I=>bd (idx x2 G) λJ=>some (J,H,I)
def c_X (x1:u_)(x2:Int):Option (Bool×Int×Int) :=
 bd3 (a_n x1 x2) λG H I=>some (G==0,H,I)
def e_H (x1:u_)(x2:Int):Option (Bt×Int×Int) :=
 bd (C_ (σ:=Bt×Int×Int) (ρ:=Bt×Int×Int) (λY=>un3 λG H I=>bd3 (d_h (⟨x1.b,H,I⟩:u_)) λJ L O=>bd (psh G<|mkB J) λV=>some<|.next (V,L,O)) x2.toNat 0 (([]:Bt),x1.i,x1.h)) (el (un3 λG H I=>some (G,H,I))<|λW=>some W)
def c_Y (x1:u_)(x2:List Int):Option (Int×Int×Int) :=
 bd3 (a_n x1 (x2.length:Int)) λG H I=>bd (idx x2 G) λJ=>some (J,H,I)
def e_I (x1:u_)(x2:g_):Option (Int×Int×Int) :=
 bd (C_ (σ:=List Int) (ρ:=Int×Int×Int) (λH=>(λG=>bd (idx x2.rules (H:Int)) λI=>bd (α:=List Int) (if (I.kind==1) then bd (psh G (H:Int)) λJ=>some J else some G)<|λL=>some<|.next L)) x2.rules.length 0 ([]:List Int)) (el (λG=>bd3 (c_Y x1 G) λO V W=>some (O,V,W))<|λY=>some Y)
def e_J (n:Nat)(x1:u_)(x2:g_)(x3:Int):Option (d_×Int×Int) :=
 bd3 (c_q x1 [(⟨[97]⟩:Str),(⟨[105,116,101,109]⟩:Str),(⟨[98]⟩:Str),(⟨[104,101,97,100]⟩:Str),(⟨[120]⟩:Str)]) λa6 G H=>bd (c_i n (x2.rules.length:Int)) λa7=>bd (cat a6 a7) λa8=>bd (α:=Sum (Int×Int×Int×Bool×Bt×(List Str)×(List Int)×(List Int))<|d_×Int×Int) (if (x3==1) then bd3 (a_n (⟨x1.b,G,H⟩:u_) 3) λa3 a4 a5=>bd (α:=Int×Int×Bool) (if (decide<|1<(h_ 1 a3)) then bd3 (c_X (⟨x1.b,a4,a5⟩:u_) 2) λa9 aa ab=>some (aa,ab,a9) else some (a4,a5,false)) (un3 λad ae af=>some<|.inl (ad,ae,h_ 1 a3,af,([]:Bt),([]:List Str),([]:List Int),([]:List Int))) else bd (α:=Sum (Int×Int×Int×Bt×(List Str)×(List Int)×(List Int))<|Sum (Int×Int×Int×Bool×Bt×(List Str)×(List Int)×(List Int))<|d_×Int×Int) (if (x3==2) then bd3 (a_n (⟨x1.b,G,H⟩:u_) 3) λah ai aj=>bd3 (e_H (⟨x1.b,ai,aj⟩:u_)<|h_ 1 ah) λak al am=>some (.inl (al,am,0,ak,([]:List Str),([]:List Int),([]:List Int))) else bd (α:=Sum (Int×Int×Int×Bt×(List Str)×(List Int)×(List Int))<|Sum (Int×Int×Int×Bt×(List Str)×(List Int)×(List Int))<|Sum (Int×Int×Int×Bool×Bt×(List Str)×(List Int)×(List Int))<|d_×Int×Int) (if (x3==3) then bd3 (a_n (⟨x1.b,G,H⟩:u_) 4) λan ao ap=>some (.inl (ao,ap,h_ 1 an,([]:Bt),([]:List Str),([]:List Int),([]:List Int))) else bd (α:=Sum (Int×Int×Bt×(List Str)×(List Int)×(List Int))<|Sum (Int×Int×Int×Bt×(List Str)×(List Int)×(List Int))<|Sum (Int×Int×Int×Bt×(List Str)×(List Int)×(List Int))<|Sum (Int×Int×Int×Bool×Bt×(List Str)×(List Int)×(List Int))<|d_×Int×Int) (if (x3==4) then bd3 (e_I (⟨x1.b,G,H⟩:u_) x2) λaq ar au=>some (.inl (ar,au,([]:Bt),([]:List Str),([]:List Int),[aq])) else bd (α:=Sum (Int×Int×Bt×(List Str)×(List Int)×(List Int))<|Sum (Int×Int×Bt×(List Str)×(List Int)×(List Int))<|Sum (Int×Int×Int×Bt×(List Str)×(List Int)×(List Int))<|Sum (Int×Int×Int×Bt×(List Str)×(List Int)×(List Int))<|Sum (Int×Int×Int×Bool×Bt×(List Str)×(List Int)×(List Int))<|d_×Int×Int) (if (x3==5) then bd3 (e_I (⟨x1.b,G,H⟩:u_) x2) λav aw ax=>bd3 (a_n (⟨x1.b,aw,ax⟩:u_) (x2.rules.length:Int)) λay az aA=>some (.inl (az,aA,([]:Bt),([]:List Str),([]:List Int),[av,ay])) else bd (α:=Sum (Int×Int×Bt×(List Str)×(List Int)×(List Int))<|Sum (Int×Int×Bt×(List Str)×(List Int)×(List Int))<|Sum (Int×Int×Bt×(List Str)×(List Int)×(List Int))<|Sum (Int×Int×Int×Bt×(List Str)×(List Int)×(List Int))<|Sum (Int×Int×Int×Bt×(List Str)×(List Int)×(List Int))<|Sum (Int×Int×Int×Bool×Bt×(List Str)×(List Int)×(List Int))<|d_×Int×Int) (if (x3==6) then bd3 (a_n (⟨x1.b,G,H⟩:u_) 3) λaB aC aD=>bd (a_8 (σ:=Int×Int×Int×(List Str)×(List Int)) (ρ:=d_×Int×Int) (un5 λI L O V W=>if (decide<|0<I) then bd3 (c_q (⟨x1.b,L,O⟩:u_) [(⟨[112]⟩:Str),(⟨[113]⟩:Str),(⟨[114]⟩:Str)]) λaE aF aG=>bd (c_i n I) λaH=>bd (cat aE aH) λaI=>bd (psh V aI) λaJ=>bd3 (a_n (⟨x1.b,aF,aG⟩:u_) (x2.rules.length:Int)) λaK aL aM=>bd (psh W aK) λaN=>some (.next (I_ I 1,aL,aM,aJ,aN)) else some (.brk (I,L,O,V,W))) n (h_ 1 aB,aC,aD,([]:List Str),([]:List Int))) (el (un5 λI L O V W=>some<|.inl (L,O,([]:Bt),V,([]:List Int),W))<|λaO=>some<|.inr<|.inr<|.inr<|.inr<|.inr<|.inr aO) else bd (α:=Sum (Int×Int×Bt×(List Int)×(List Int))<|Sum (Int×Int×Bt×(List Str)×(List Int)×(List Int))<|Sum (Int×Int×Bt×(List Str)×(List Int)×(List Int))<|Sum (Int×Int×Bt×(List Str)×(List Int)×(List Int))<|Sum (Int×Int×Int×Bt×(List Str)×(List Int)×(List Int))<|Sum (Int×Int×Int×Bt×(List Str)×(List Int)×(List Int))<|Sum (Int×Int×Int×Bool×Bt×(List Str)×(List Int)×(List Int))<|d_×Int×Int) (if (x3==7) then bd3 (e_I (⟨x1.b,G,H⟩:u_) x2) λaP aQ aR=>bd3 (a_n (⟨x1.b,aQ,aR⟩:u_) 3) λaS aT aU=>bd (a_8 (σ:=Int×Int×Int×(List Int)×(List Int)) (ρ:=d_×Int×Int) (un5 λY a0 a1 J a2=>if (decide<|0<Y) then bd3 (a_n (⟨x1.b,a0,a1⟩:u_) 4) λaV aW aX=>bd (psh J<|h_ (a_j 4 (J.length:Int)) aV) λaY=>bd3 (a_n (⟨x1.b,aW,aX⟩:u_) (x2.rules.length:Int)) λaZ b0 b1=>bd (psh a2 aZ) λb2=>some (.next (I_ Y 1,b0,b1,aY,b2)) else some (.brk (Y,a0,a1,J,a2))) n (h_ 1 aS,aT,aU,([]:List Int),[aP])) (el (un5 λY a0 a1 J a2=>some<|.inl (a0,a1,([]:Bt),J,a2))<|λb3=>some<|.inr<|.inr<|.inr<|.inr<|.inr<|.inr<|.inr b3) else bd (α:=Bool) (if (x3==8) then some (x3==8) else some (x3==9)) (λb4=>bd (α:=Int×Int×Bt×(List Int)) (if b4 then bd3 (a_n (⟨x1.b,G,H⟩:u_) (x2.rules.length:Int)) λb5 b6 b7=>some (b6,b7,([]:Bt),[b5]) else bd (α:=Int×Int×Bt) (if (x3==10) then bd3 (c_Y (⟨x1.b,G,H⟩:u_) [0,10,59,255]) λb8 b9 ba=>some (b9,ba,[mkB b8]) else some (G,H,([]:Bt))) (un3 λbb bc be=>some (bb,bc,be,([]:List Int))))<|un4 λbf bg bh bi=>some<|.inl (bf,bg,bh,([]:List Int),bi))) (el (un5 λbj bk bm bn bo=>some<|.inl (bj,bk,bm,([]:List Str),bn,bo)) some)) (el (un6 λbp bq br bs bt bu=>some<|.inl (bp,bq,br,bs,bt,bu)) some)) (el (un6 λbv bw bx bz bA bB=>some<|.inl (bv,bw,bx,bz,bA,bB)) some)) (el (un6 λbC bD bE bF bG bH=>some<|.inl (bC,bD,0,bE,bF,bG,bH)) some)) (el (un7 λbI bJ bK bL bM bN bO=>some<|.inl (bI,bJ,bK,bL,bM,bN,bO)) some)) (el (un7 λbP bQ bR bS bT bU bV=>some<|.inl (bP,bQ,bR,false,bS,bT,bU,bV)) some))<|el (un8 λbW bX bY bZ c0 c1 c2 c3=>some ((⟨a8,x3,bY,bZ,c0,c1,c2,c3⟩:d_),bW,bX)) some
def f_m (n:Nat)(x1:u_):Option (g_×Int×Int) :=
 bd3 (e_J n x1 (⟨([]:List d_)⟩:g_) 1) λL O V=>bd (psh ([]:List d_) L) λW=>bd3 (a_n (⟨x1.b,O,V⟩:u_) 6) λY a0 a1=>bd (a_8 (σ:=Int×Int×Int×(List d_)) (ρ:=g_×Int×Int) (un4 λH I J G=>if (decide<|0<H) then bd3 (a_n (⟨x1.b,I,J⟩:u_) 10) λa2 a3 a4=>bd3 (e_J n (⟨x1.b,a3,a4⟩:u_) (⟨G⟩:g_)<|h_ 1 a2) λa5 a6 a7=>bd (psh G a5) λa8=>some (.next (I_ H 1,a6,a7,a8)) else some (.brk (H,I,J,G))) n (Y,a0,a1,W))<|el (un4 λH I J G=>some ((⟨G⟩:g_),I,J))<|λa9=>some a9
structure i_2 where
 spec_l9Make:u_->g_->Int->Int->Option (Val×Int×Int)
def g_i (n:Nat)(rec:i_2)(x1:u_)(x2:g_)(x3:Int)(x4:Int):Option (Val×Int×Int) :=
 bd (idx x2.rules x3) λG=>bd (α:=Sum (Int×Int×Int×Bt×(List Val))<|Val×Int×Int) (if (G.kind==1) then bd (e_1 G.size) λa7=>bd (f_f a7 70000) λa8=>bd3 (a_n x1 a8) λa9 aa ab=>some (.inl (aa,ab,a9,([]:Bt),([]:List Val))) else bd (α:=Sum (Int×Int×Int×Bt×(List Val))<|Sum (Int×Int×Int×Bt×(List Val))<|Val×Int×Int) (if (G.kind==3) then bd3 (e_H x1 G.size) λad ae af=>some (.inl (ae,af,0,ad,([]:List Val))) else bd (α:=Bool) (if (G.kind==4) then some (G.kind==4) else some (G.kind==10)) (λah=>bd (α:=Sum (Int×Int×Int×Bt×(List Val))<|Sum (Int×Int×Int×Bt×(List Val))<|Sum (Int×Int×Int×Bt×(List Val))<|Val×Int×Int) (if ah then bd (f_f x4 6) λai=>bd3 (a_n x1<|h_ ai 1) λaj ak al=>bd3 (e_H (⟨x1.b,ak,al⟩:u_) aj) λO V W=>bd (α:=Bool×Int×Int) (if (G.kind==10) then if (decide<|0<(O.length:Int)) then bd3 (c_X (⟨x1.b,V,W⟩:u_) 2) λam an ao=>some (am,an,ao) else some (false,V,W) else some (false,V,W)) (un3 λap a2 a3=>bd (α:=Int×Int×Bt) (if ap then bd (idx G.bytes 0) λaq=>bd3 (c_Y (⟨x1.b,a2,a3⟩:u_) [byteI aq,92]) λar au av=>bd (upd O 0<|mkB ar) λaw=>some (au,av,aw) else some (a2,a3,O))<|un3 λax ay az=>some<|.inl (ax,ay,0,az,([]:List Val))) else bd (α:=Sum (Int×Int×Int×(List Val))<|Sum (Int×Int×Int×Bt×(List Val))<|Sum (Int×Int×Int×Bt×(List Val))<|Sum (Int×Int×Int×Bt×(List Val))<|Val×Int×Int) (if (G.kind==5) then bd (f_f x4 3) λaA=>bd3 (a_n x1<|h_ aA 1) λaB aC aD=>bd (a_8 (σ:=Int×Int×Int×(List Val)) (ρ:=Val×Int×Int) (un4 λH I J L=>if (decide<|0<H) then bd (idx G.kids 1) λaE=>bd3 (rec.spec_l9Make (⟨x1.b,I,J⟩:u_) x2 aE<|c_l x4 2) λaF aG aH=>bd (psh L aF) λaI=>some (.next (I_ H 1,aG,aH,aI)) else some (.brk (H,I,J,L))) n (aB,aC,aD,([]:List Val))) (el (un4 λH I J L=>some<|.inl (I,J,0,L))<|λaJ=>some<|.inr<|.inr<|.inr<|.inr aJ) else bd (α:=Sum (Int×Int×Int×(List Val))<|Sum (Int×Int×Int×(List Val))<|Sum (Int×Int×Int×Bt×(List Val))<|Sum (Int×Int×Int×Bt×(List Val))<|Sum (Int×Int×Int×Bt×(List Val))<|Val×Int×Int) (if (G.kind==6) then bd (C_ (σ:=Int×Int×(List Val)) (ρ:=Val×Int×Int) (λaK=>un3 λY a0 a1=>bd (idx G.kids (aK:Int)) λaL=>bd3 (rec.spec_l9Make (⟨x1.b,Y,a0⟩:u_) x2 aL<|c_l x4 2) λaM aN aO=>bd (psh a1 aM) λaP=>some<|.next (aN,aO,aP)) G.kids.length 0 (x1.i,x1.h,([]:List Val))) (el (un3 λY a0 a1=>some<|.inl (Y,a0,0,a1))<|λaQ=>some<|.inr<|.inr<|.inr<|.inr<|.inr aQ) else bd (α:=Int×Int×Int×(List Val)) (if (G.kind==7) then bd3 (a_n x1 (G.tags.length:Int)) λa4 aR aS=>bd (idx G.tags a4) λaT=>bd (idx G.kids<|h_ a4 1) λaU=>bd3 (rec.spec_l9Make (⟨x1.b,aR,aS⟩:u_) x2 aU<|c_l x4 2) λaV aW aX=>some (aW,aX,aT,[aV]) else bd (α:=Int×Int×(List Val)) (if (G.kind==8) then bd3 (c_X x1 2) λaY a5 a6=>bd (α:=Int×Int×(List Val)) (if aY then bd (idx G.kids 0) λaZ=>bd3 (rec.spec_l9Make (⟨x1.b,a5,a6⟩:u_) x2 aZ<|c_l x4 2) λb0 b1 b2=>some (b1,b2,[b0]) else some (a5,a6,([]:List Val))) (un3 λb3 b4 b5=>some (b3,b4,b5)) else bd (α:=Int×Int×(List Val)) (if (G.kind==9) then bd (idx G.kids 0) λb6=>bd3 (rec.spec_l9Make x1 x2 b6<|c_l x4 2) λb7 b8 b9=>some (b8,b9,[b7]) else some (x1.i,x1.h,([]:List Val))) (un3 λba bb bc=>some (ba,bb,bc))) (un3 λbe bf bg=>some (be,bf,0,bg))) (un4 λbh bi bj bk=>some<|.inl (bh,bi,bj,bk))) (el (un4 λbm bn bo bp=>some<|.inl (bm,bn,bo,bp)) some)) (el (un4 λbq br bs bt=>some<|.inl (bq,br,bs,([]:Bt),bt)) some))<|el (un5 λbu bv bw bx bz=>some<|.inl (bu,bv,bw,bx,bz)) some)) (el (un5 λbA bB bC bD bE=>some<|.inl (bA,bB,bC,bD,bE)) some))<|el (un5 λbF bG bH bI bJ=>some ((⟨bH,bI,bJ⟩:Val),bF,bG)) some
def e_K:Nat->i_2
 | 0=>⟨λ_ _ _ _=>none⟩
 | n+1=>⟨g_i n<|e_K n⟩
def l_l (n:Nat):=(e_K n).spec_l9Make
def g_j (n:Nat)(x1:Int)(x2:Int):Option Bt :=
 bd (g_8 n x1 x2) λI=>bd (a_8 (σ:=Bt×Int) (ρ:=Bt) (un2 λH G=>if (decide<|0<=G) then bd (idx I G) λJ=>bd (psh H J) λL=>some (.next (L,I_ G 1)) else some (.brk (H,G))) n (([]:Bt),I_ (I.length:Int) 1))<|el (un2 λH G=>some H)<|λO=>some O
def e_a (n:Nat)(x1:d_)(x2:Int):Option Bt :=
 if x1.little then bd (g_j n x2 x1.size) λG=>some G else bd (g_8 n x2 x1.size) λH=>some H
structure l_m where
 spec_l11Print:g_->Int->Val->Option Bt
def g_k (n:Nat)(rec:l_m)(x1:g_)(x2:Int)(x3:Val):Option Bt :=
 bd (idx x1.rules x2) λG=>bd (C_ (σ:=Bt) (ρ:=Bt) (λL=>(λH=>bd (idx x3.items (L:Int)) λO=>bd (b_E G x3.number (L:Int)) λV=>bd (rec.spec_l11Print x1 V O) λW=>bd (app H W) λY=>some<|.next Y)) x3.items.length 0 ([]:Bt)) (el (λH=>if (G.kind==1) then bd (e_a n G x3.number) λa0=>some a0 else if (G.kind==2) then bd (app ([]:Bt) G.bytes) λa1=>some a1 else if (G.kind==4) then bd (idx G.kids 0) λa2=>bd (idx x1.rules a2) λa3=>bd (e_a n a3 (x3.bytes.length:Int)) λa4=>bd (app a4 x3.bytes) λa5=>some a5 else if (G.kind==5) then bd (idx G.kids 0) λa6=>bd (idx x1.rules a6) λa7=>bd (e_a n a7 (x3.items.length:Int)) λa8=>bd (app a8 H) λa9=>some a9 else if (G.kind==7) then bd (idx G.kids 0) λaa=>bd (idx x1.rules aa) λab=>bd (e_a n ab x3.number) λad=>bd (app ad H) λae=>some ae else if (G.kind==8) then bd (app [mkB (x3.items.length:Int)] H) λaf=>some af else if (G.kind==9) then bd (f_U H) λah=>bd (psh H<|mkB ah) λai=>some ai else if (G.kind==10) then bd (C_ (σ:=Bt) (ρ:=Bt) (λJ=>(λI=>bd (α:=Bool) (bd (idx x3.bytes (J:Int)) λaj=>bd (idx G.bytes 0) λak=>if ((byteI aj)==(byteI ak)) then some true else bd (idx x3.bytes (J:Int)) λal=>some<|(byteI al)==(byteI (92:UInt8))) (λam=>bd (α:=Bt) (if am then bd (psh I (92:UInt8)) λan=>some an else some I)<|λao=>bd (idx x3.bytes (J:Int)) λap=>bd (psh ao ap) λaq=>some<|.next aq))) x3.bytes.length 0 H) (el (λI=>bd (idx G.bytes 0) λar=>bd (psh I ar) λau=>some au)<|λav=>some av) else if (G.kind==3) then bd (app ([]:Bt) x3.bytes) λaw=>some aw else some H)<|λax=>some ax)
def e_b:Nat->l_m
 | 0=>⟨λ_ _ _=>none⟩
 | n+1=>⟨g_k n<|e_b n⟩
def l_n (n:Nat):=(e_b n).spec_l11Print
structure l_o where
 spec_l18Paths:g_->Int->Val->Str->Option (List Str)
def g_l (n:Nat)(rec:l_o)(x1:g_)(x2:Int)(x3:Val)(x4:Str):Option (List Str) :=
 bd (C_ (σ:=List Str) (ρ:=List Str) (λk10=>(λG=>bd (idx x1.rules x2) λH=>bd (idx x3.items (k10:Int)) λI=>bd (cat x4 (⟨[47]⟩:Str)) λJ=>bd (b_E H x3.number (k10:Int)) λL=>bd (e_2 n H (k10:Int)) λO=>bd (cat J O) λV=>bd (rec.spec_l18Paths x1 L I V) λW=>bd (app G W) λY=>some<|.next Y)) x3.items.length 0 [x4]) (el (λG=>some G)<|λa0=>some a0)
def e_c:Nat->l_o
 | 0=>⟨λ_ _ _ _=>none⟩
 | n+1=>⟨g_l n<|e_c n⟩
def l_p (n:Nat):=(e_c n).spec_l18Paths
def g_m (n:Nat)(x1:u_)(x2:g_)(x3:Val):Option (Str×Int×Int) :=
 bd (l_p n x2 (I_ (x2.rules.length:Int) 1) x3 (⟨[]⟩:Str)) λI=>bd3 (a_n x1 (I.length:Int)) λO V W=>bd (idx I O) λJ=>bd3 (a_n (⟨x1.b,V,W⟩:u_) 8) λL G H=>if (L==0) then bd3 (c_q (⟨x1.b,G,H⟩:u_) [(⟨[47,48]⟩:Str),(⟨[47,42]⟩:Str),(⟨[47,63]⟩:Str),(⟨[47,43]⟩:Str),(⟨[47,112,49]⟩:Str),(⟨[47,48,48]⟩:Str),(⟨[47]⟩:Str),(⟨[120]⟩:Str),(⟨[47,57]⟩:Str)]) λY a0 a1=>bd (cat J Y) λa2=>some (a2,a0,a1) else if (L==1) then bd3 (c_q (⟨x1.b,G,H⟩:u_) [(⟨[112,49]⟩:Str),(⟨[47]⟩:Str),(⟨[47,47]⟩:Str),(⟨[47,112,49]⟩:Str),(⟨[47,48]⟩:Str)]) λa3 a4 a5=>some (a3,a4,a5) else some (J,G,H)
end Go.Vw
namespace Go.Vw
def g_n (x1:u_)(x2:Bt):Option (Bt×Int×Int) :=
 bd (app ([]:Bt) x2) λG=>bd3 (a_n x1 6) λJ H I=>bd (α:=Bt×Int×Int) (if (J==0) then bd (α:=Bt×Int×Int) (if (decide<|0<(G.length:Int)) then bd3 (a_n (⟨x1.b,H,I⟩:u_) (G.length:Int)) λL O V=>bd3 (a_n (⟨x1.b,O,V⟩:u_) 256) λW Y a0=>bd (upd G L<|mkB W) λa1=>some (a1,Y,a0) else some (G,H,I)) (un3 λa2 a3 a4=>some (a2,a3,a4)) else bd (α:=Bt×Int×Int) (if (J==1) then bd3 (a_n (⟨x1.b,H,I⟩:u_)<|h_ (G.length:Int) 1) λa5 a6 a7=>bd (slc G 0 a5) λa8=>some (a8,a6,a7) else bd (α:=Bt×Int×Int) (if (J==2) then bd3 (c_Y (⟨x1.b,H,I⟩:u_) [0,1,128,255]) λa9 aa ab=>bd (psh G<|mkB a9) λad=>some (ad,aa,ab) else some (G,H,I)) (un3 λae af ah=>some (ae,af,ah))) (un3 λai aj ak=>some (ai,aj,ak)))<|un3 λal am an=>some (al,am,an)
def f_o (n:Nat)(x1:u_):Option (g_×Int×Int) :=
 bd3 (f_m n x1) λG a4 a5=>bd3 (a_n (⟨x1.b,a4,a5⟩:u_) (G.rules.length:Int)) λH a6 a7=>bd3 (a_n (⟨x1.b,a6,a7⟩:u_) 16) λL I J=>bd (α:=Sum (Int×Int×(List d_))<|g_×Int×Int) (if (L==0) then bd (idx G.rules 0) λa8=>bd3 (c_q (⟨x1.b,I,J⟩:u_) [(⟨[]⟩:Str),(⟨[65]⟩:Str),a8.name,(⟨[118,101,114,121,108,111,110,103,110,97,109,101,105,110,100,101,101,100]⟩:Str)]) λa9 aa ab=>bd (idx G.rules H) λa0=>bd (upd G.rules H (⟨a9,a0.kind,a0.size,a0.little,a0.bytes,a0.names,a0.tags,a0.kids⟩:d_)) λad=>some (.inl (aa,ab,ad)) else bd (α:=Sum (Int×Int×(List d_))<|Sum (Int×Int×(List d_))<|g_×Int×Int) (if (L==1) then bd3 (a_n (⟨x1.b,I,J⟩:u_) 13) λae af ah=>bd (idx G.rules H) λa1=>bd (upd G.rules H (⟨a1.name,I_ ae 1,a1.size,a1.little,a1.bytes,a1.names,a1.tags,a1.kids⟩:d_)) λai=>some (.inl (af,ah,ai)) else bd (α:=Sum (Int×Int×(List d_))<|Sum (Int×Int×(List d_))<|Sum (Int×Int×(List d_))<|g_×Int×Int) (if (L==2) then bd3 (c_Y (⟨x1.b,I,J⟩:u_) [(-1),0,1,4,5,64,65]) λaj ak al=>bd (idx G.rules H) λa2=>bd (upd G.rules H (⟨a2.name,a2.kind,aj,a2.little,a2.bytes,a2.names,a2.tags,a2.kids⟩:d_)) λam=>some (.inl (ak,al,am)) else bd (α:=Sum (Int×Int×(List d_))<|Sum (Int×Int×(List d_))<|Sum (Int×Int×(List d_))<|Sum (Int×Int×(List d_))<|g_×Int×Int) (if (L==3) then bd (idx G.rules H) λan=>bd (idx G.rules H) λa3=>bd (upd G.rules H (⟨a3.name,a3.kind,a3.size,!an.little,a3.bytes,a3.names,a3.tags,a3.kids⟩:d_)) λao=>some (.inl (I,J,ao)) else bd (α:=Sum (Int×Int×(List d_))<|Sum (Int×Int×(List d_))<|Sum (Int×Int×(List d_))<|Sum (Int×Int×(List d_))<|Sum (Int×Int×(List d_))<|g_×Int×Int) (if (L==4) then bd (α:=Int×Int×(List d_)) (bd (idx G.rules H) λO=>bd3 (a_n (⟨x1.b,I,J⟩:u_) 8) λap aq ar=>bd (psh O.kids<|I_ ap 1) λau=>some (aq,ar,G.rules.set (H).toNat (⟨O.name,O.kind,O.size,O.little,O.bytes,O.names,O.tags,au⟩:d_))) (un3 λav aw ax=>some<|.inl (av,aw,ax)) else bd (α:=Sum (Int×Int×(List d_))<|Sum (Int×Int×(List d_))<|Sum (Int×Int×(List d_))<|Sum (Int×Int×(List d_))<|Sum (Int×Int×(List d_))<|Sum (Int×Int×(List d_))<|g_×Int×Int) (if (L==5) then bd (α:=Int×Int×(List d_)) (bd (idx G.rules H) λV=>bd3 (c_Y (⟨x1.b,I,J⟩:u_) [0,92]) λay az aA=>bd (psh V.bytes<|mkB ay) λaB=>some (az,aA,G.rules.set (H).toNat (⟨V.name,V.kind,V.size,V.little,aB,V.names,V.tags,V.kids⟩:d_))) (un3 λaC aD aE=>some<|.inl (aC,aD,aE)) else bd (α:=Sum (Int×Int×(List d_))<|Sum (Int×Int×(List d_))<|Sum (Int×Int×(List d_))<|Sum (Int×Int×(List d_))<|Sum (Int×Int×(List d_))<|Sum (Int×Int×(List d_))<|Sum (Int×Int×(List d_))<|g_×Int×Int) (if (L==6) then bd (α:=Int×Int×(List d_)) (bd (idx G.rules H) λW=>bd3 (c_q (⟨x1.b,I,J⟩:u_) [(⟨[112,49]⟩:Str),(⟨[81]⟩:Str),(⟨[122]⟩:Str)]) λaF aG aH=>bd (psh W.names aF) λaI=>some (aG,aH,G.rules.set (H).toNat (⟨W.name,W.kind,W.size,W.little,W.bytes,aI,W.tags,W.kids⟩:d_))) (un3 λaJ aK aL=>some<|.inl (aJ,aK,aL)) else bd (α:=Sum (Int×Int×(List d_))<|Sum (Int×Int×(List d_))<|Sum (Int×Int×(List d_))<|Sum (Int×Int×(List d_))<|Sum (Int×Int×(List d_))<|Sum (Int×Int×(List d_))<|Sum (Int×Int×(List d_))<|Sum (Int×Int×(List d_))<|g_×Int×Int) (if (L==7) then bd (α:=Int×Int×(List d_)) (bd (idx G.rules H) λY=>bd3 (c_Y (⟨x1.b,I,J⟩:u_) [(-1),0,5,256,70000]) λaM aN aO=>bd (psh Y.tags aM) λaP=>some (aN,aO,G.rules.set (H).toNat (⟨Y.name,Y.kind,Y.size,Y.little,Y.bytes,Y.names,aP,Y.kids⟩:d_))) (un3 λaQ aR aS=>some<|.inl (aQ,aR,aS)) else if (L==8) then some (.inr<|.inr<|.inr<|.inr<|.inr<|.inr<|.inr<|.inr ((⟨([]:List d_)⟩:g_),I,J)) else some (.inl (I,J,G.rules))) (el (un3 λaT aU aV=>some<|.inl (aT,aU,aV)) some)) (el (un3 λaW aX aY=>some<|.inl (aW,aX,aY)) some)) (el (un3 λaZ b0 b1=>some<|.inl (aZ,b0,b1)) some)) (el (un3 λb2 b3 b4=>some<|.inl (b2,b3,b4)) some)) (el (un3 λb5 b6 b7=>some<|.inl (b5,b6,b7)) some)) (el (un3 λb8 b9 ba=>some<|.inl (b8,b9,ba)) some)) (el (un3 λbb bc be=>some<|.inl (bb,bc,be)) some))<|el (un3 λbf bg bh=>some ((⟨bh⟩:g_),bf,bg)) some
def g_o (n:Nat)(x1:Bt):Option (g_×Bt×Str) :=
 bd (f_l n x1) λG=>bd3 (f_m n G) λH a1 a2=>bd3 (l_l n (⟨G.b,a1,a2⟩:u_) H (I_ (H.rules.length:Int) 1) 10) λJ a3 a4=>bd (l_n n H (I_ (H.rules.length:Int) 1) J) λI=>bd3 (g_m n (⟨G.b,a3,a4⟩:u_) H J) λa5 L O=>bd (α:=Bool×Int×Int) (if (decide<|0<(I.length:Int)) then bd3 (c_X (⟨G.b,L,O⟩:u_) 3) λa6 a7 a8=>some (a6,a7,a8) else some (false,L,O)) (un3 λa9 V W=>bd (α:=Bt×Int×Int) (if a9 then bd3 (g_n (⟨G.b,V,W⟩:u_) I) λaa ab ad=>some (aa,ab,ad) else some (I,V,W)) (un3 λae af ah=>bd3 (c_X (⟨G.b,af,ah⟩:u_) 20) λai Y a0=>bd (α:=Int×Int×(List d_)) (if ai then bd3 (f_o n (⟨G.b,Y,a0⟩:u_)) λaj ak al=>some (ak,al,aj.rules) else some (Y,a0,H.rules))<|un3 λan ao am=>some ((⟨am⟩:g_),ae,a5)))
def f_p (x1:List Str):Option Str :=
 bd (C_ (σ:=Str) (ρ:=Str) (λH=>(λG=>bd (cat G (⟨[47]⟩:Str)) λI=>bd (idx x1 (H:Int)) λJ=>bd (cat I J) λL=>some<|.next L)) x1.length 0 (⟨[]⟩:Str)) (el (λG=>some G)<|λO=>some O)
def g_p (n:Nat)(x1:u_)(x2:Str):Option (Str×Int×Int) :=
 bd2 (f_1 n x2) λH am=>bd (C_ (σ:=(List Str)×Int×Int) (ρ:=Str×Int×Int) (λO=>un3 λG I J=>bd3 (a_n (⟨x1.b,I,J⟩:u_) 6) λL Y a0=>bd (α:=List Str) (if (L==0) then bd (psh G (⟨[35]⟩:Str)) λa1=>some a1 else bd (α:=List Str) (if (L==1) then bd (psh G (⟨[46,46]⟩:Str)) λa2=>some a2 else bd (α:=List Str) (if (L==2) then bd (idx H (O:Int)) λa3=>bd (app G [(⟨[46,46]⟩:Str),a3]) λa4=>some a4 else bd (idx H (O:Int)) λa5=>bd (psh G a5) λa6=>some a6) (λa7=>some a7)) (λa8=>some a8))<|λa9=>some<|.next (a9,Y,a0)) H.length 0 (([]:List Str),x1.i,x1.h)) (el (un3 λG I J=>bd3 (c_X (⟨x1.b,I,J⟩:u_) 6) λaa V W=>bd (α:=(List Str)×Int×Int) (if aa then bd3 (c_q (⟨x1.b,V,W⟩:u_) [(⟨[46,46]⟩:Str),(⟨[35]⟩:Str),(⟨[112,49]⟩:Str),(⟨[35,35]⟩:Str)]) λab ad ae=>bd (psh G ab) λaf=>some (af,ad,ae) else some (G,V,W))<|un3 λah ai aj=>bd (f_p ah) λak=>some (ak,ai,aj))<|λal=>some al)
def g_q (n:Nat)(x1:Bt):Option (g_×Bt×Str) :=
 bd3 (g_o n x1) λG H I=>bd (f_l n x1) λJ=>bd3 (g_p n J I) λL O V=>some (G,H,L)
def g_r (n:Nat)(x1:Bt):Option Bool :=
 bd (i_1 x1) λa0=>if a0 then some true else bd3 (g_q n x1) λG J V=>bd (f_e n G J V) λW=>bd2 (h_F n G J) λH aj=>bd (C_ (σ:=Int×Int) (ρ:=Bool) (λO=>un2 λI L=>bd (α:=Sum (Int×Int)<|Out (Int×Int) Bool) (bd (idx H (O:Int)) λa1=>bd (h_L n V a1.path) λa2=>if (!a2) then some (.inl (I,L)) else bd (α:=Bool) (if (decide<|(W.length:Int)<=I) then some true else bd (idx W I) λa3=>bd (idx H (O:Int)) λa4=>some (!decide ((a3:s_)=(a4:s_)))) (λa5=>if a5 then some (.inr<|.ret false) else bd (α:=Int×Bt×(List Val)) (bd (idx H (O:Int)) λa6=>bd2 (g_7 n G J a6.path) λY ak=>some (Y.number,Y.bytes,Y.items)) (un3 λa7 al am=>bd (idx H (O:Int)) λa8=>bd (idx G.rules a8.rule) λa9=>bd (α:=Int) (if (a9.kind==1) then some (h_ L a7) else some L)<|λaa=>some<|.inl (h_ I 1,aa))))<|el (un2 λab ad=>some<|.next (ab,ad)) some) H.length 0 (0,0)) (el (un2 λI L=>bd (α:=Bool) (if (I==(W.length:Int)) then bd (h_Q n G J V) λae=>if (ae==L) then bd (f_e n G J (⟨[47,46,46]⟩:Str)) λaf=>some ((af.length:Int)==(H.length:Int)) else some false else some false)<|λah=>some ah)<|λai=>some ai)
end Go.Vw
namespace Go.Vw
open Go.RowKit Dat
theorem n_Q {P:Program}{o:Oper}{a:Act}{w:World}{K K' K1 K2:Act->World->Prop}{Q:Exit->Act->World->Prop}(h:∀a w,K a w->K' a w)(hh:o.wp P a w K (Exit.then K1 Q)):o.wp P a w K' (Exit.then K2 Q):=by
 unfold Oper.wp at *
 generalize (execOp a.eval o).run P w=r at *
 cases r with
 | ok n w' =>
  cases n <;> simp only [Oper.upon] at hh ⊢ <;>
   first
    | exact h _ _ hh
    | exact Calls.mono hh (λe w'' he=>by cases e <;> first | exact h _ _ he | exact he)
    | exact Rows.mono hh<|λ_ _ he=>h _ _ he
 | halt x w'=>cases x <;> simp only [Oper.upon] at hh ⊢ <;> exact hh
theorem j_A {P:Program}{ops:Array Oper}{K K1:Act->World->Prop}{Q:Exit->Act->World->Prop}{G:List Oper}(hk:∀a w,K1 a w->wpList P ops (Exit.then K Q) G a w):∀(l1:List Oper)(a:Act)(w:World),wpList P ops (Exit.then K1 Q) l1 a w->wpList P ops (Exit.then K Q) (l1++G) a w
 | [],a,w,h=>hk a w h
 | o::l1,a,w,h=>by
  rw [List.cons_append]
  unfold wpList at h ⊢
  split at h
  .rename_i hw
   rw [if_pos hw]
   rcases h with h | ⟨h1,h2⟩
   .exact .inl<|n_Q (j_A hk l1) h
   .exact .inr ⟨h1,h2⟩
  .rename_i hw
   rw [if_neg hw]
   exact j_A hk l1 _ _ h
section
variable {P:Program}{N:Nat}{ops:Array Oper}{K:Act->World->Prop}{Q:Exit->Act->World->Prop}{e:Env}{w:World}{l:List Oper}
theorem n_R (k:Nat)(l:List Oper):l.take k++l.drop k=l:=List.take_append_drop k l
theorem d_H (d:Nat)(u:Bool)(k:Nat)(h1:WL P N ops (λa w'=>w'=w/\Sat N ((d,vB u)::e) a) Q (l.take k) e w)(h2:WL P N ops K Q (l.drop k) ((d,vB u)::e) w):WL P N ops K Q l e w:=λa ha=>by
 rw [← n_R k l]
 exact j_A (λa w' ⟨hw,hs⟩=>by subst hw;exact h2 a hs) _ a w<|h1 a ha
variable {d:Nat}{u c:Bool}
def j_B (n:Nat)(e:Env):Bool:=(e.take n).all λp=>(e.drop n).all λq=>!Nat.beq p.1 q.1
theorem l_j:∀{e:Env}{t:Nat},(∀q∈e,Nat.beq t q.1=false)->A_ e t=none
 | [],_,_=>rfl
 | (k,v)::e,t,h=>by
  have h1:=h (k,v) List.mem_cons_self;have h2:Nat.beq k t=false:=by rw [← Bool.not_eq_true,Nat.beq_eq] at *;exact λh=>h1 h.symm
  rw [A_,h2]
  exact l_j λq hq=>h q<|List.mem_cons_of_mem _ hq
theorem l_k:∀{G H:Env}{t:Nat},(∀p∈G,Nat.beq p.1 t=false)->A_ (G++H) t=A_ H t
 | [],_,_,_=>rfl
 | (k,v)::G,H,t,h=>by
  rw [List.cons_append,A_,h (k,v) List.mem_cons_self]
  exact l_k λp hp=>h p<|List.mem_cons_of_mem _ hp
theorem n_S {n:Nat}{e:Env}(h:j_B n e=true){t:Nat}{v:Value}(hl:A_ (e.drop n) t=some v):A_ e t=some v:=by
 have:A_ (e.take n++e.drop n) t=A_ (e.drop n) t:=by
  refine l_k λp hp=>?_
  cases hb:Nat.beq p.1 t with
  | false=>rfl
  | true =>
   exfalso
   have hpt:p.1=t:=Nat.eq_of_beq_eq_true hb;have h1:=List.all_eq_true.1 h p hp
   rw [List.all_eq_true] at h1
   have:=l_j (e:=e.drop n) (t:=t) λq hq=>by
    have:=h1 q hq
    rw [Bool.not_eq_true'] at this
    rw [← hpt];exact this
   rw [this] at hl;cases hl
 rw [List.take_append_drop] at this
 rw [this];exact hl
theorem n_T (n:Nat){e':Env}{a:Act}(hu:c=u)(G:A_ e' d=some (vB c))(hf:j_B n e'=true)(he:e'.drop n=e)(ha:Sat N e' a):Sat N ((d,vB u)::e) a:=by
 subst hu;subst he;refine ⟨ha.defers,ha.size,λt v ht=>?_⟩
 simp only [A_] at ht
 by_cases hk:d=t
 .subst hk;have hb:Nat.beq d d=true:=by simp
  rw [hb] at ht
  simp only [cond_true,Option.some.injEq] at ht
  subst ht;exact ha.at_ d _ G
 .have hb:Nat.beq d t=false:=by rw [← Bool.not_eq_true,Nat.beq_eq];exact hk
  rw [hb] at ht
  simp only [cond_false] at ht
  exact ha.at_ t v<|n_S hf ht
theorem WLq (n:Nat){e':Env}(hu:some c=some u)(G:A_ e' d=some (vB c))(hf:j_B n e'=true)(he:e'.drop n=e):WL P N ops (λa w'=>w'=w/\Sat N ((d,vB u)::e) a) Q [] e' w :=
 a_q λ_ ha=>⟨rfl,n_T n (Option.some.inj hu) G hf he ha⟩
end
end Go.Vw
universe u
namespace Go.Vw
open Go.RowKit Dat
section
variable {P:Program}{N:Nat}{ops:Array Oper}{K:Act->World->Prop}{Q:Exit->Act->World->Prop}{e:Env}{w:World}{rest:List Oper}
variable {d:Nat}{op:Op}{ty:TypeId}{pos:String}{aft:Array Edge}{x:Operand}
theorem Wn {y:Code}{Q':Exit->Act->World->Prop}(h:WC P N y K Q e w):WL P N ops (KC P y K Q) Q' [] e w:=a_q<|WC.of_KC h
theorem Ws {id:Nat}{l:List Oper}{y:Code}(h:WL P N l.toArray (KC P y K Q) Q l e w):WC P N (.seq (.region id l.toArray false) y) K Q e w:=a_p<|a_S h
theorem Wk {y:Code}{Q':Exit->Act->World->Prop}(h:WC P N y K Q e w):WC P N .skip (KC P y K Q) Q' e w:=Z_<|WC.of_KC h
theorem d_A {b:Bool}{o:Option Value}{v:Value}(h:(bif b then o else none)=some v):b=true/\o=some v:=by
 cases b
 .cases h
 .exact ⟨rfl,h⟩
theorem Rm {v:Value}(h:(bif Nat.blt d N then ev e x else none)=some v)(k:WL P N ops K Q rest ((d,v)::e) w):WL P N ops K Q (⟨some d,.move x,ty,pos,aft,none⟩::rest) e w:=R (d_A h).1 (b_h (d_A h).2) k
theorem Ra {v:Value}(h:(bif Nat.blt d N then ev e x else none)=some v)(k:WL P N ops K Q rest ((d,v)::e) w):WL P N ops K Q (⟨some d,.assign x,ty,pos,aft,none⟩::rest) e w:=R (d_A h).1 (c_L (d_A h).2) k
section
variable {j:Nat}{want b:Bool}
theorem bind_some {o:Option Nat}{v:Value}(h:o.bind (A_ e)=some v):∃gd,o=some gd/\A_ e gd=some v:=by
 cases o with
 | none=>cases h
 | some g=>exact ⟨g,rfl,h⟩
theorem Rh {v:Value}(h:(bif Nat.blt d N then ((ops[j]?).bind (·.dst)).bind (A_ e) else none)=some (.bool b))(hw:b=want)(hr:Rd noX P N ⟨some d,op,ty,pos,aft,some (j,want)⟩ e w v)(k:WL P N ops K Q rest ((d,v)::e) w):WL P N ops K Q (⟨some d,op,ty,pos,aft,some (j,want)⟩::rest) e w:=by
 obtain ⟨gd,h1,h2⟩:=bind_some (d_A h).2;exact Rg h1 h2 hw (d_A h).1 hr k
theorem Nh (h:(bif Nat.blt d N then ((ops[j]?).bind (·.dst)).bind (A_ e) else none)=some (.bool b))(hw:b = !want)(k:WL P N ops K Q rest ((d,undef)::e) w):WL P N ops K Q (⟨some d,op,ty,pos,aft,some (j,want)⟩::rest) e w:=by
 obtain ⟨gd,h1,h2⟩:=bind_some (d_A h).2;exact Ng h1 h2 hw (d_A h).1 k
theorem Nv (h:(bif Nat.blt d N then ((ops[j]?).bind (·.dst)).bind (A_ e) else none)=some undef)(k:WL P N ops K Q rest ((d,undef)::e) w):WL P N ops K Q (⟨some d,op,ty,pos,aft,some (j,want)⟩::rest) e w:=by
 obtain ⟨gd,h1,h2⟩:=bind_some (d_A h).2;exact Nu h1 h2 (d_A h).1 k
end
end
theorem inbR {j:Nat}{K':Act->World->Prop}{Q:Exit->Act->World->Prop}{a:Act}{w:World}(h:Q .ret a w):inB j K' Q .ret a w:=h
theorem goF {P:Program}{f:FuncId}{G:Func}{c:Code}{N:Nat}{args:List Value}{w:World}{R:Value->World->Prop}(hf:P.funcs[f]? = some G)(hb:G.body=some c)(hN:G.ntmps=N)(hle:args.length<=N)(h:∀fn:Func,fn.results=G.results->WC P N c (b_X P fn R) (QR P fn R) (e_i 0 args) w):r_ P f args w R:=g_C hf hb hN hle<|h G rfl
theorem goG {P:Program}{f:FuncId}{G:Func}{c:Code}{N:Nat}{args:List Value}{w:World}{R:Value->World->Prop}(hf:P.funcs[f]? = some G)(hb:G.body=some c)(hN:G.ntmps=N)(hle:Nat.ble args.length N=true)(h:∀fn:Func,fn.results=G.results->WC P N c (b_X P fn R) (QR P fn R) (e_i 0 args) w):r_ P f args w R:=goF hf hb hN (Nat.le_of_ble_eq_true hle) h
section
variable {P:Program}{N:Nat}{e:Env}{w:World}{ty:TypeId}{pos:String}{aft:Array Edge}{gd:Option (Nat×Bool)}{x y:Operand}
theorem fs0 {T n g o:Nat}{v:Value}{cur cur':List Value}(hs:∀w,(sizeOf T).run P w = .ok n w)(hp:ev e x=some (.pointer<|some ⟨g,o,none⟩))(hv:ev e y=some v)(hB:Blk w g cur)(hn:v.cells.size=n)
  (ho:Nat.ble (o+n) cur.length=true) (h1:v.cells.toList.all Value.oneCell'=true) (hcur:cur.take o++v.cells.toList++cur.drop (o+v.cells.toList.length)=cur') :
  Ef P N ⟨none,.store T x y,ty,pos,aft,gd⟩ e w (λ_ w'=>Blk w' g cur'/\Chg (· = g) w w'):=b_4 hs hp hv hB hn (Nat.le_of_ble_eq_true ho) (b_c h1) hcur
end
abbrev rQ {ρ:Type}(P:Program)(fn:Func)(Q:ρ->Value->World->Prop)(r:ρ)(ex:Exit)(a:Act)(w:World):Prop:=ex = .ret/\b_X P fn (Q r) a w
abbrev _root_.Go.World.z (w:World):Nat:=w.heap.size
abbrev sl (a:Option Addr)(n c:Nat):Value:=.slice a n c
abbrev sN:Value:=sl none 0 0
abbrev pt (g:Nat):Value:=.pointer<|some ⟨g,0,none⟩
abbrev Bw (a b:World):Prop:=Below a.heap.size a b
abbrev vR (x:d_)(G:Option Addr)(H I:Nat)(a2:Option Addr)(J L:Nat)(O:Option Addr)(V W:Nat)(Y:Option Addr)(n4 c4:Nat):List Value:=[x.name.v,vI x.kind,vI x.size,vB x.little,.slice G H I,.slice a2 J L,.slice O V W,.slice Y n4 c4]
theorem z {α:Sort u}{a:α}:a=a:=rfl
theorem Sat.k {N:Nat}{e e':Env}{a:Act}(h:Sat N e a)(hs:sub e e'):Sat N e' a:=h.weaken hs
theorem fid {a:Prop}(h:a):a:=h
theorem lt_ {a b c:Nat}(h:a<=b)(h':b<=c):a<=c:=Nat.le_trans h h'
theorem lr {a:Nat}:a<=a:=Nat.le_refl a
theorem lb {a b:Nat}(h:Nat.ble a b=true):a<=b:=Nat.le_of_ble_eq_true h
theorem ii {x:Int}(h:(decide (-9223372036854775808<=x) && decide (x<=9223372036854775807))=true):inI x:=inI_of x h
section
variable {S T A M:List Nat}{m n g k:Nat}
theorem j_8 (h:m<=n):∀k∈[n],m<=k:=b_ h
theorem mno (h:∀ k∈T,k<m)(h':m<=n):∀k∈[n],k∉T:=b_<|λht=>absurd (h n ht)<|Nat.not_lt.2 h'
theorem mnr (h:∀ k∈T,k<m):∀k∈[m],k∉T:=mno h lr
theorem mm1 (h:g<m)(h':m<=n):∀k∈[n],k∉[g]:=mno (b_ h) h'
theorem mmr (h:g<m):∀k∈[m],k∉[g]:=mno (b_ h) lr
theorem mor (h:m<=n):∀k∈[n],k∈M∨m<=k:=b_<|.inr h
theorem q_ (hs:∀k∈S,n<=k)(h:m<=n):∀k∈S,m<=k:=or0 hs<|b_f h
theorem n_ (hs:∀k∈S,n<=k)(h:g<m)(h':m<=n):∀k∈S,k∉[g]:=or0 hs<|m_ (b_ h) h'
theorem c_z (hs:∀k∈S,n<=k)(h:∀ k∈T,k<m)(h':m<=n):∀k∈S,k∉T:=or0 hs<|m_ h h'
theorem a_u (hs:∀k∈S,k∈A∨n<=k)(ha:∀k∈A,m<=k)(h:m<=n):∀k∈S,m<=k:=or1 hs ha<|b_f h
theorem o1no (hs:∀k∈S,k∈A∨n<=k)(ha:∀k∈A,k∉T)(h:∀ k∈T,k<m)(h':m<=n):∀k∈S,k∉T:=or1 hs ha<|m_ h h'
theorem djs (h:∀k∈S,k∉[g]):g∉S:=λhg=>h g hg<|List.mem_singleton.2 rfl
theorem atp {p:Nat->Prop}(h:∀k∈[g],p k):p g:=h g<|List.mem_singleton.2 rfl
theorem nd0:([]++[]:List Nat).Nodup:=g_w v_ v_ d_o
theorem al0 {p:Nat->Prop}:∀k∈([]++[]:List Nat),p k:=g_v d_o d_o
end
section
variable {e e':Env}{v1 v2 v3 v4 v5 v6 v7 v8 v9:Value}{k1 k2 k3 k4 k5 k6 k7 k8 k9:Nat}
theorem s1 (h1:A_ e k1=some v1):sub e [(k1,v1)]:=⟨h1,trivial⟩
theorem s2 (h1:A_ e k1=some v1)(h2:A_ e k2=some v2):sub e [(k1,v1),(k2,v2)]:=⟨h1,s1 h2⟩
theorem s3 (h1:A_ e k1=some v1)(h2:A_ e k2=some v2)(h3:A_ e k3=some v3):sub e [(k1,v1),(k2,v2),(k3,v3)]:=⟨h1,s2 h2 h3⟩
theorem s4 (h1:A_ e k1=some v1)(h2:A_ e k2=some v2)(h3:A_ e k3=some v3)(h4:A_ e k4=some v4):sub e [(k1,v1),(k2,v2),(k3,v3),(k4,v4)]:=⟨h1,s3 h2 h3 h4⟩
theorem s5 (h1:A_ e k1=some v1)(h2:A_ e k2=some v2)(h3:A_ e k3=some v3)(h4:A_ e k4=some v4)(h5:A_ e k5=some v5):sub e [(k1,v1),(k2,v2),(k3,v3),(k4,v4),(k5,v5)]:=⟨h1,s4 h2 h3 h4 h5⟩
theorem s6 (h1:A_ e k1=some v1)(h2:A_ e k2=some v2)(h3:A_ e k3=some v3)(h4:A_ e k4=some v4)(h5:A_ e k5=some v5)(h6:A_ e k6=some v6):sub e [(k1,v1),(k2,v2),(k3,v3),(k4,v4),(k5,v5),(k6,v6)]:=⟨h1,s5 h2 h3 h4 h5 h6⟩
theorem s7 (h1:A_ e k1=some v1)(h2:A_ e k2=some v2)(h3:A_ e k3=some v3)(h4:A_ e k4=some v4)(h5:A_ e k5=some v5)(h6:A_ e k6=some v6)(G:A_ e k7=some v7):sub e [(k1,v1),(k2,v2),(k3,v3),(k4,v4),(k5,v5),(k6,v6),(k7,v7)]:=⟨h1,s6 h2 h3 h4 h5 h6 G⟩
theorem s8 (h1:A_ e k1=some v1)(h2:A_ e k2=some v2)(h3:A_ e k3=some v3)(h4:A_ e k4=some v4)(h5:A_ e k5=some v5)(h6:A_ e k6=some v6)(G:A_ e k7=some v7)(H:A_ e k8=some v8):sub e [(k1,v1),(k2,v2),(k3,v3),(k4,v4),(k5,v5),(k6,v6),(k7,v7),(k8,v8)]:=⟨h1,s7 h2 h3 h4 h5 h6 G H⟩
theorem s9 (h1:A_ e k1=some v1)(h2:A_ e k2=some v2)(h3:A_ e k3=some v3)(h4:A_ e k4=some v4)(h5:A_ e k5=some v5)(h6:A_ e k6=some v6)(G:A_ e k7=some v7)(H:A_ e k8=some v8)(I:A_ e k9=some v9):sub e [(k1,v1),(k2,v2),(k3,v3),(k4,v4),(k5,v5),(k6,v6),(k7,v7),(k8,v8),(k9,v9)]:=⟨h1,s8 h2 h3 h4 h5 h6 G H I⟩
end
theorem onL {α:Type}[Dat α]{w:World}:a_ w [] (.slice none 0 0) ([]:List α):=o_b w
theorem _root_.Go.RowKit.Below.s {b:Nat}{w w':World}(h:Below b w w'):w.heap.size<=w'.heap.size:=h.size
theorem Chg.s {X:Nat->Prop}{w w':World}(h:Chg X w w'):w.heap.size<=w'.heap.size:=h.size
abbrev Chg.e:=@Chg.ext
abbrev repS.e:=@repS.ext
abbrev repS.c:=@repS.chg
abbrev a_.e:=@a_.ext
abbrev a_.c:=@a_.chg
abbrev X_.e:=@X_.ext
abbrev X_.c:=@X_.chg
abbrev b_0.e:=@b_0.ext
abbrev b_0.c:=@b_0.chg
abbrev b_y.e:=@b_y.ext
abbrev b_y.c:=@b_y.chg
abbrev GlW.e:=@GlW.ext
abbrev GlW.c:=@GlW.chg
abbrev Blk.e:=@Blk.ext
abbrev Blk.c:=@Blk.chg
abbrev b_T.e:=@b_T.ext
abbrev b_T.c:=@b_T.chg
section
variable {P:Program}{N:Nat}{ops:Array Oper}{K:Act->World->Prop}{Q:Exit->Act->World->Prop}{e:Env}{w:World}{rest:List Oper}{X:Nat->Prop}{T:Nat}{p:a_Y}
variable {d d':Nat}{ty ty':TypeId}{pos pos':String}{aft aft':Array Edge}{x x':Operand}{v v':Value}
theorem Rw {c:Code}{Q':Exit->Act->World->Prop}(h:(bif Nat.blt d N then ev e x else none)=some v)(k:WC P N c K Q ((d,v)::e) w):WL P N ops (KC P c K Q) Q' [⟨some d,.assign x,ty,pos,aft,none⟩] e w:=Ra h<|Wn k
theorem Wm {id:Nat}{l:List Oper}{c:Code}(h:(bif Nat.blt d N then ev e x else none)=some v)(k:WL P N (⟨some d,.move x,ty,pos,aft,none⟩::l).toArray (KC P c K Q) Q l ((d,v)::e) w):WC P N (.seq (.region id (⟨some d,.move x,ty,pos,aft,none⟩::l).toArray false) c) K Q e w:=Ws<|Rm h k
theorem RM (h:(bif Nat.blt d N then ev e x else none)=some v)(h':(bif Nat.blt d' N then ev ((d,v)::e) x' else none)=some v')(k:WL P N ops K Q rest ((d',v')::(d,v)::e) w):WL P N ops K Q (⟨some d,.move x,ty,pos,aft,none⟩::⟨some d',.move x',ty',pos',aft',none⟩::rest) e w:=Rm h<|Rm h' k
theorem RA (h:(bif Nat.blt d N then ev e x else none)=some v)(h':(bif Nat.blt d' N then ev ((d,v)::e) x' else none)=some v')(k:WL P N ops K Q rest ((d',v')::(d,v)::e) w):WL P N ops K Q (⟨some d,.assign x,ty,pos,aft,none⟩::⟨some d',.assign x',ty',pos',aft',none⟩::rest) e w:=Ra h<|Ra h' k
theorem dM {i:Nat}(ho:ops[i]? = some ⟨some d,.move x,ty,pos,aft,none⟩)(hf:Nat.blt d N=true)(h:ev e x=some v)(k:PR X P N ops T K p ((d,v)::e) w):PR X P N ops T K (.rd i p) e w:=dR ho hf (b_h h) k
theorem dQ {i:Nat}(ho:ops[i]? = some ⟨some d,.assign x,ty,pos,aft,none⟩)(hf:Nat.blt d N=true)(h:ev e x=some v)(k:PR X P N ops T K p ((d,v)::e) w):PR X P N ops T K (.rd i p) e w:=dR ho hf (c_L h) k
theorem Wx {y y':Code}{b:Bool}{Q':Exit->Act->World->Prop}(hc:ev e x=some (.bool b))(ht:b=true->WC P N y K Q e w)(hf:b=false->WC P N y' K Q e w):WL P N ops (KC P (.cond x y y') K Q) Q' [] e w:=Wn<|c_6 hc ht hf
section
variable {t u i:Nat}{k:IntKind}{a b:Int}
theorem Rl (hf:Nat.blt d N=true)(h1:ev e x=some (.int k a))(h2:ev e x'=some (.int k b))(h:WL P N ops K Q rest ((d,vB<|decide<|a<b)::e) w):WL P N ops K Q (⟨some d,.binOp .lss t x x' u,ty,pos,aft,none⟩::rest) e w:=R hf (e_N h1 h2) h
theorem Rq (hf:Nat.blt d N=true)(h1:ev e x=some (.int k a))(h2:ev e x'=some (.int k b))(h:WL P N ops K Q rest ((d,vB<|a==b)::e) w):WL P N ops K Q (⟨some d,.binOp .eql t x x' u,ty,pos,aft,none⟩::rest) e w:=R hf (g_J h1 h2) h
theorem Rf {g o j:Nat}(hf:Nat.blt d N=true)(h1:Fld P t i j)(h2:ev e x=some (.pointer<|some ⟨g,o,none⟩))(h:WL P N ops K Q rest ((d,.pointer<|some ⟨g,o+j,none⟩)::e) w):WL P N ops K Q (⟨some d,.fieldAddr t x i,ty,pos,aft,none⟩::rest) e w:=R hf (g_F h1 h2) h
theorem Re {vs:Array Value}(hf:Nat.blt d N=true)(h1:ev e x=some (.tuple vs))(h2:vs[i]? = some v)(h:WL P N ops K Q rest ((d,v)::e) w):WL P N ops K Q (⟨some d,.extract x i,ty,pos,aft,none⟩::rest) e w:=R hf (g_G h1 h2) h
end
theorem l0 {t g o:Nat}{dst:Option Tmp}{gd:Option (Nat×Bool)}(hT:∀w,(isAgg t).run P w = .ok false w)(h:ev e x=some (.pointer<|some ⟨g,o,none⟩))(hc:w.cell? ⟨g,o,none⟩=some v):Rd noX P N ⟨dst,.load t x,ty,pos,aft,gd⟩ e w v:=b_z hT h (λh=>h) hc
def plA:Nat->Nat->List Nat->a_Y
 | _,0,_=>.done
 | i,n+1,l=>bif l.elem i then .ef i (plA (i+1) n l) else .rd i (plA (i+1) n l)
abbrev pl_ (n:Nat)(l:List Nat):a_Y:=plA 0 n l
end
end Go.Vw
namespace Go.Vw
open Go.RowKit Dat Go.ChangeShapes Go.WideShapes Go.ChangeAt
structure IsT (P:Program)(t:TypeId)(α:Type)[Dat α](L:α->Prop):Prop where
 rd:∀{H:Type}(enc:TypeId×Value->H)(W:World)(fuel:Nat)(cs:List Value)(x:DataW H×List MemPlace),DataW.trod enc P W 0 (λ_=>true) true fuel t cs=some x->(x.1.weights P t).all (· <= reachBytes)=true->∃v:α,rep W W.heap.size cs v/\L v
section
variable {P:Program}{t:TypeId}
theorem o_x (ht:P.underlying t=some (.int .u8)):IsT P t UInt8 (λ_=>True):=⟨λenc W fuel cs x h _=>by
 obtain ⟨n,rfl,_,hw⟩:=DataW.trod_int ht h;have hb:=bounds_u8 hw
 have e:n=byteI (UInt8.ofNat n.toNat):=by
  unfold byteI
  rw [UInt8.toNat_ofNat']
  omega
 refine ⟨UInt8.ofNat n.toNat,⟨_,rfl,?_⟩,trivial⟩
 show Value.int .u8 n=vU (byteI<|UInt8.ofNat n.toNat)
 rw [← e]⟩
theorem l_A {H:Type}{e:TypeId}:∀{l:List (DataW H)}{d:DataW H},(DataW.weightsAll P e l).all (· <= reachBytes)=true->d∈l->(d.weights P e).all (· <= reachBytes)=true
 | [],_,_,h=>by cases h
 | y::l,d,hw,h=>by
  unfold DataW.weightsAll at hw
  rw [List.all_append,Bool.and_eq_true] at hw
  rcases List.mem_cons.1 h with rfl | h
  .exact hw.1
  .exact l_A hw.2 h
theorem l_B {H:Type}:∀{ts:List TypeId}{l:List (DataW H)}{i:Nat}{t:TypeId}{d:DataW H},(DataW.weightsEach P ts l).all (· <= reachBytes)=true->ts[i]? = some t->l[i]? = some d->(d.weights P t).all (· <= reachBytes)=true
 | [],_,_,_,_,_,h,_=>by simp at h
 | _::_,[],_,_,_,_,_,h=>by simp at h
 | t::ts,y::l,i,t',d,hw,h1,h2=>by
  unfold DataW.weightsEach at hw
  rw [List.all_append,Bool.and_eq_true] at hw
  cases i with
  | zero=>simp at h1 h2;subst h1 h2;exact hw.1
  | succ i=>simp at h1 h2;exact l_B hw.2 h1 h2
theorem cells?_spec {w:World}{a:Addr}{n:Nat}{cs:List Value}(h:w.cells? 0 a n=some cs):cs.length=n/\∀j v,cs[j]? = some v->w.cell? (a.add j)=some v:=by
 unfold World.cells? at h
 rw [if_pos (Nat.zero_le _)] at h
 refine ⟨by simpa using mapM_some_length h,λj v hv=>?_⟩
 have hj:j<n:=by
  have h1:=(List.getElem?_eq_some_iff.1 hv).1;have h2:=mapM_some_length h
  simp at h2
  omega
 have:=mapM_some_get h j j (by rw [List.getElem?_range hj])
 rw [this];exact hv
theorem o_y {w:World}{a:Addr}{v:Value}(h:w.cell? a=some v):a.spot=none:=by
 unfold World.cell? at h
 split at h
 .cases hs:a.spot with
  | none=>rfl
  | some x=>rw [hs] at h;simp at h
 .cases h
theorem l_C {α:Type}(Q:Nat->α->Prop):∀(len:Nat),(∀i,i<len->∃v,Q i v)->∃l:List α,l.length=len/\∀(i:Nat)(x:α),l[i]? = some x->Q i x
 | 0,_=>⟨[],rfl,λi x h=>by simp at h⟩
 | n+1,h=>by
  obtain ⟨l,hl,hq⟩:=l_C Q n<|λi hi=>h i (by omega);obtain ⟨v,hv⟩:=h n (by omega);refine ⟨l++[v],by simp [hl],λi x hx=>?_⟩
  by_cases hi:i<l.length
  .rw [List.getElem?_append_left hi] at hx;exact hq i x hx
  .rw [List.getElem?_append_right (by omega)] at hx
   have h1:=(List.getElem?_eq_some_iff.1 hx).1
   simp only [List.length_cons,List.length_nil] at h1
   have h2:i=n:=by omega
   subst h2
   rw [show i - l.length=0 by omega] at hx
   simp at hx
   exact hx ▸ hv
theorem o_z {α:Type}[Dat α]{L:α->Prop}{e:TypeId}(ht:P.underlying t=some (.slice e))(he:IsT P e α L)(hc:P.cellsOf e=sz α)(hb:1<=P.bytesOf e):IsT P t (List α) (λl=>l.length<=LEN/\∀x∈l,L x):=⟨λenc W fuel cs x h hw=>by
 have hr:reachBytes=140737488351232:=rfl;have hL:LEN=140737488355328:=rfl
 rcases DataW.trod_slice ht h with ⟨rfl,rfl⟩ | ⟨a,len,cap,elems,rest,n,_,rfl,rfl,_,hlc,_,hlen,hel,hsp,_⟩
 .exact ⟨[],⟨_,rfl,none,0,rfl,Nat.le_refl _,Nat.zero_le _,λ_=>rfl,λp hp=>by cases hp⟩,by simp,λx hx=>by cases hx⟩
 .obtain ⟨hrl,_⟩:=hsp rfl
  have hw':(elems.length+rest.length) * P.bytesOf e<=reachBytes/\(DataW.weightsAll P e<|elems.map (·.1)).all (· <= reachBytes)=true:=by
   unfold DataW.weights at hw
   rw [ht] at hw
   simp only [List.all_cons,List.all_append,Bool.and_eq_true,decide_eq_true_eq,List.length_map] at hw
   exact ⟨hw.1,hw.2.1⟩
  have hcap:cap<=LEN:=by
   have h1:elems.length+rest.length<=(elems.length+rest.length) * P.bytesOf e:=Nat.le_mul_of_pos_right _ hb
   omega
  have hone:∀i:Nat,i<len->∃v:α,a.spot=none/\a.block<W.heap.size/\(∃cs,X_ W a.block (a.off+i * sz α) cs/\rep W W.heap.size cs v)/\L v:=by
   intro i hi;have h1:=hel i hi;have hie:i<elems.length:=by omega
   rw [List.getElem?_eq_getElem hie] at h1
   cases hcs:W.cells? 0 (a.add<|i * P.cellsOf e) (P.cellsOf e) with
   | none=>rw [hcs] at h1;cases h1
   | some cs =>
    rw [hcs] at h1
    simp only [Option.bind_some] at h1
    obtain ⟨v,hv,hl⟩:=he.rd enc W n cs _ h1<|l_A hw'.2<|List.mem_map_of_mem<|List.getElem_mem hie;obtain ⟨J,O⟩:=cells?_spec hcs;have hpos:0<cs.length:=by rw [J,hc];exact Dat.pos
    have hsp:a.spot=none:=by
     have G:=hel 0 (by omega)
     rw [List.getElem?_eq_getElem (show 0<elems.length by omega)] at G
     cases H:W.cells? 0 (a.add<|0 * P.cellsOf e) (P.cellsOf e) with
     | none=>rw [H] at G;cases G
     | some I =>
      obtain ⟨V,Y⟩:=cells?_spec H;have hpos0:0<I.length:=by rw [V,hc];exact Dat.pos
      have:=Y 0 I[0] (by rw [List.getElem?_eq_getElem hpos0]);have:=o_y this
      simpa [Addr.add] using this
    have ha:a=⟨a.block,a.off,none⟩:=by cases a;simp only at hsp;rw [hsp]
    have hcells:X_ W a.block (a.off+i * sz α) cs:=by
     intro j u hu;have:=O j u hu
     rw [ha,Addr.add_lit,Addr.add_lit,hc] at this
     exact this
    exact ⟨v,hsp,hcells.lt (by intro h;rw [h] at hpos;cases hpos),⟨cs,hcells,hv⟩,hl⟩
  obtain ⟨l,hll,hq⟩:=l_C _ len hone;refine ⟨l,⟨_,rfl,some a,cap,by rw [hll],by omega,by omega,λh=>(by cases h),λp hp=>?_⟩,by omega,λx hx=>?_⟩
  .obtain rfl:=Option.some.inj hp;refine ⟨λhne=>?_,λhne=>?_,λi x hx=>(hq i x hx).2.2.1⟩
   .cases l with
    | nil=>exact absurd rfl hne
    | cons y l=>exact (hq 0 y rfl).1
   .cases l with
    | nil=>exact absurd rfl hne
    | cons y l=>exact (hq 0 y rfl).2.1
  .obtain ⟨i,hi⟩:=List.getElem?_of_mem hx
   exact (hq i x hi).2.2.2⟩
structure OkW (P:Program)(W:World)(base:Nat)(t:TypeId)(v:Value):Prop where
 h:Value.okWide P W .any base t v
structure OkWs (P:Program)(W:World)(base:Nat)(ts:Array TypeId)(vs:Array Value):Prop where
 h:∀(j:Nat) t v,ts[j]? = some t->vs[j]? = some v->Value.okWide P W .any base t v
theorem OkWs.at {W:World}{base:Nat}{ts:Array TypeId}{vs:Array Value}(h:OkWs P W base ts vs)(j:Nat)(t:TypeId)(v:Value)(h1:ts[j]? = some t)(h2:vs[j]? = some v):OkW P W base t v:=⟨h.h j t v h1 h2⟩
theorem o_A {W:World}{base:Nat}{t:TypeId}{v:Value}{e:TypeId}(ht:P.underlying t=some (.slice e))(h:OkW P W base t v):∃a n c,v = .slice a n c:=okWide_slice ht h.h
theorem l_D {H:Type}{enc:TypeId×Value->H}(hl:laidOutB P=true){W W':World}(hb:Below W.heap.size W W'):∀(ts:List TypeId)(vs:List Value)(ds:List (DataW H))(ps:List MemPlace),(∀t∈ts,P.readableRec t=true/\t<P.types.size) ->
  DataW.TrodAll enc P W 0 (λ_=>true) true ts vs ds ps->(∀x∈ps,x.block<W.heap.size)->∀(sp:Nat->Bool),(∀b,b<W.heap.size->sp b=true)->DataW.TrodAll enc P W' 0 sp true ts vs ds ps
 | [],[],[],_,_,h,_,_,_=>h
 | t::ts,v::vs,d::ds,ps,hr,h,hlt,sp,hsp=>by
  obtain ⟨p,q,h1,h2,rfl⟩:=h;refine ⟨p,q,?_,l_D hl hb ts vs ds q (λt ht=>hr t<|List.mem_cons_of_mem _ ht) h2 (λx hx=>hlt x<|List.mem_append_right _ hx) sp hsp,rfl⟩;have hlp:∀x∈p,x.block<W.heap.size:=λx hx=>hlt x<|List.mem_append_left _ hx
  exact WideElems.Trod_stays hl (hr t List.mem_cons_self).1 (hr t List.mem_cons_self).2 h1 (λx hx=>hb.same<|hlp x hx) (λx hx=>hsp _<|hlp x hx)
 | [],_::_,_,_,_,h,_,_,_=>by cases h
 | [],[],_::_,_,_,h,_,_,_=>by cases h
 | _::_,[],_,_,_,h,_,_,_=>by cases h
 | _::_,_::_,[],_,_,h,_,_,_=>by cases h
theorem o_B {H:Type}{enc:TypeId×Value->H}{f:Func}{s:ChangeSpec}{apart fresh handsOn again:Bool}{W W':World}{args:Array Value}{ds gs:List (DataW H)}{before:List MemPlace}{tb:TypeId}(hl:laidOutB P=true)(hread:∀t∈f.params.toList,P.readableRec t=true/\t<P.types.size)
  (hb:Below W.heap.size W W') (hW:DataW.Whole enc P f.params.toList s.vars apart W args.toList ds gs before) (hres:f.resultTypes = #[tb]) (htb:P.underlying tb=some .bool) (hvars:s.vars=[]) (hfn:s.fn H (ds++gs)={ results:=[.lit (.bool true)],args:=ds }) :
  s.post enc P f apart fresh handsOn again W args (.bool true) W':=by
 have hlt:∀x∈before,x.block<W.heap.size:=λp hp=>hW.lt p hp
 have hW':=hW;obtain ⟨p,q,hA,hV,rfl,hz,hn⟩:=hW
 rw [hvars] at hV
 obtain ⟨rfl,rfl⟩:=trodVars_none hV;have hA':=λsp hsp=>l_D hl hb _ _ _ _ hread hA (λx hx=>hlt x (by simpa using hx)) sp hsp
 have hr:∀(b:Nat)(sp:Nat->Bool)(hd:Bool),DataW.TrodAll enc P W' b sp hd f.resultTypes.toList ((Value.bool true).resultList f.resultTypes.size) (s.fn H<|ds++[]).results []:=λb sp hd=>by
  rw [hfn,hres];exact trodAll_cons_mk (shut_bool htb _) trodAll_mk0
 have hvs:∀sp:Nat->Bool,DataW.TrodVars enc P W' sp s.vars (s.fn H<|ds++[]).vars []:=λsp=>by rw [hfn,hvars];rfl
 refine ⟨ds,[],p++[],[],p,[],hW',hr _ _ _,by rw [hfn];exact hA' _ (λb hb=>by simpa using hb),hvs _,hb.frame _,λ_=>⟨?_,([.lit (.bool true)]:List (DataW H))++ds,[],([]++p)++[],⟨[]++p,[],?_,?_,rfl,?_,?_⟩,?_⟩⟩
 .exact ok_one hres rfl<|okWide_bool_mk htb _
 .have h1:=hr 0 (λ_=>true) true
  rw [hfn] at h1
  exact trodAll_append (hA' _<|λ_ _=>rfl) h1
 .rw [hvars];rfl
 .intro b off hp;have hp':MemPlace.cell b off∈p++[]:=by simpa using hp
  have:=hlt _ hp'
  rw [hb.frozen (p:=⟨b,off,none⟩) this]
  exact hz b off hp'
 .intro ha;have:=hn ha;simpa using this
 .intro x hx _;simpa using hx
end
end Go.Vw
namespace Go.Vw
open Go.RowKit Dat
theorem q_D {x y:Int}(h1 : -9223372036854775808<=x+y)(h2:x+y<=9223372036854775807):h_ x y=x+y:=by
 unfold h_;rw [IntKind.wrap_i64];omega
theorem b_9 {x y:Int}(h1 : -9223372036854775808<=x - y)(h2:x - y<=9223372036854775807):I_ x y=x - y:=by
 unfold I_;rw [IntKind.wrap_i64];omega
theorem d_W {x y:Int}(h1 : -9223372036854775808<=x * y)(h2:x * y<=9223372036854775807):a_j x y=x * y:=by
 unfold a_j;rw [IntKind.wrap_i64];omega
theorem m_W {x y:Int}(G:0<=x)(hx:x<=9223372036854775807)(hy:0<y):c_l x y=x / y:=by
 unfold c_l
 rw [Int.tdiv_eq_ediv_of_nonneg G,IntKind.wrap_i64]
 have h1:=Int.ediv_nonneg G<|Int.le_of_lt hy;have h2:=Int.ediv_le_self y G
 omega
theorem j_0 {x y:Int}(G:0<=x):b_q x y=x % y:=by
 unfold b_q;exact Int.tmod_eq_emod_of_nonneg G
theorem q_E {a b:UInt8}:byteI a=byteI b ↔ a=b:=by
 unfold byteI
 constructor
 .intro h;have:a.toNat=b.toNat:=by omega
  exact UInt8.toNat_inj.1 this
 .rintro rfl;rfl
section
variable {α:Type}
theorem k_t {l:List α}{k:Nat}(h:k<l.length):idx l (k:Int)=some l[k]:=by rw [j_E];simp [h]
theorem d_X {l:List α}{i:Int}(G:0<=i)(h:i.toNat<l.length):idx l i=some l[i.toNat]:=by
 unfold idx;rw [if_pos G];simp [h]
theorem b_d {l:List α}(h:0<l.length):idx l 0=some l[0]:=k_t (k:=0) h
theorem j_1 {l:List α}(h:1<l.length):idx l 1=some l[1]:=k_t (k:=1) h
theorem d_Y {l:List α}{a b:Int}(G:0<=a)(h1:a<=b)(h2:b<=l.length):slc l a b=some ((l.take b.toNat).drop a.toNat):=by
 unfold slc;rw [if_pos ⟨G,h1,h2⟩]
theorem a_D {l:List α}{x:α}(h:l.length<LIM):psh l x=some (l++[x]):=by unfold psh;rw [if_pos h]
theorem c_y {l m:List α}(h:l.length+m.length<=LIM):app l m=some (l++m):=by unfold app;rw [if_pos h]
theorem c_S {s t:Str}(h:s.b.length+t.b.length<=LIM):cat s t=some ⟨s.b++t.b⟩:=by unfold cat;rw [if_pos h]
theorem g_Y {l:List α}{k:Nat}{x:α}(h:k<l.length):upd l (k:Int) x=some (l.set k x):=by
 unfold upd;rw [if_pos ⟨by omega,by omega⟩];rfl
theorem m_X {l:List α}{i:Int}{x:α}(G:0<=i)(h:i<l.length):upd l i x=some (l.set i.toNat x):=by
 unfold upd;rw [if_pos ⟨G,h⟩]
theorem mk0_of {z:α}{n:Nat}(h:n<=LIM):mk0 z (n:Int)=some (List.replicate n z):=by
 unfold mk0;rw [if_pos ⟨by omega,by omega⟩];simp
theorem q_F {z:α}{n:Int}(G:0<=n)(h:n<=LIM):mk0 z n=some (List.replicate n.toNat z):=by
 unfold mk0;rw [if_pos ⟨G,h⟩]
end
section
variable {σ ρ:Type}
theorem m_Y {body:Nat->σ->Option (Out σ ρ)}(st:Nat->σ):∀n k,(∀j,k<=j->j<k+n->body j (st j)=some (.next<|st<|j+1))->C_ body n k (st k)=some (.inl<|st<|k+n)
 | 0,k,_=>rfl
 | n+1,k,h=>by
  have h1:=h k (Nat.le_refl _) (by omega);have h2:=m_Y st n (k+1)<|λj a b=>h j (by omega) (by omega);unfold C_
  rw [h1]
  simp only
  rw [h2,show k+1+n=k+(n+1) by omega]
theorem d_Z {body:Nat->σ->Option (Out σ ρ)}(st:Nat->σ){n:Nat}(h:∀j,j<n->body j (st j)=some (.next<|st<|j+1)):C_ body n 0 (st 0)=some (.inl<|st n):=by
 have:=m_Y st n 0<|λj _ b=>h j (by omega)
 simpa using this
theorem forN_ret' {body:Nat->σ->Option (Out σ ρ)}(st:Nat->σ){r:ρ}:∀n k j0,k<=j0->j0<k+n->(∀j,k<=j->j<j0->body j (st j)=some (.next<|st<|j+1))->body j0 (st j0)=some (.ret r)->C_ body n k (st k)=some (.inr r)
 | 0,k,j0,a,b,_,_=>by omega
 | n+1,k,j0,a,b,h,hr=>by
  unfold C_
  by_cases hk:k=j0
  .subst hk;rw [hr]
  .rw [h k (Nat.le_refl _) (by omega)]
   exact forN_ret' st n (k+1) j0 (by omega) (by omega) (λj c d=>h j (by omega) d) hr
theorem j_2 {body:Nat->σ->Option (Out σ ρ)}(st:Nat->σ){r:ρ}{n j0:Nat}(G:j0<n)(h:∀j,j<j0->body j (st j)=some (.next<|st<|j+1))(hr:body j0 (st j0)=some (.ret r)):C_ body n 0 (st 0)=some (.inr r) :=
 forN_ret' st n 0 j0 (by omega) (by omega) (λj _ b=>h j b) hr
theorem g_Z {body:Nat->Unit->Option (Out Unit ρ)}{n:Nat}(p:Nat->Bool)(r:Nat->ρ)(h:∀k,k<n->(∀j,j<k->p j=false)->body k ()=some (if p k then .ret (r k) else .next ())) :
  C_ body n 0 ()=some (match (List.range n).find? p with | some k=>.inr (r k) | none=>.inl ()):=by
 cases hf:(List.range n).find? p with
 | none =>
  have hn:∀k,k<n->p k=false:=λk hk=>by
   have:=List.find?_eq_none.1 hf k<|List.mem_range.2 hk
   simpa using this
  exact d_Z (λ_=>()) (λj hj=>by rw [h j hj (λi hi=>hn i (by omega)),hn j hj];rfl)
 | some k =>
  obtain ⟨hp,as,bs,hl,has⟩:=List.find?_eq_some_iff_append.1 hf
  have hk:as.length<n/\as.length=k:=by
   have h1:as.length<(List.range n).length:=by rw [hl];simp
   simp at h1
   refine ⟨h1,?_⟩;have h2:(List.range n)[as.length]? = some k:=by rw [hl];simp
   rw [List.getElem?_range h1] at h2
   exact Option.some.inj h2
  obtain ⟨h1,rfl⟩:=hk
  have hb:∀j,j<as.length->p j=false:=λj hj=>by
   have h2:(List.range n)[j]? = some (as[j]):=by rw [hl,List.getElem?_append_left hj];simp
   rw [List.getElem?_range (by omega)] at h2
   have h3:=has as[j] (List.getElem_mem hj)
   rw [← Option.some.inj h2] at h3
   simpa using h3
  exact j_2 (λ_=>()) h1 (λj hj=>by rw [h j (by omega) (λi hi=>hb i (by omega)),hb j hj];rfl) (by rw [h _ h1 hb,if_pos hp])
theorem q_G {α:Type}(l:List α)(p:α->Bool)(q:Nat->Bool)(h:∀k (hk:k<l.length),q k=p l[k]):(List.range l.length).any q=l.any p:=by
 rw [Bool.eq_iff_iff]
 simp only [List.any_eq_true,List.mem_range]
 constructor
 .rintro ⟨k,hk,hq⟩;exact ⟨l[k],List.getElem_mem hk,by rw [← h k hk];exact hq⟩
 .rintro ⟨x,hx,hp⟩;obtain ⟨k,hk,rfl⟩:=List.getElem_of_mem hx;exact ⟨k,hk,by rw [h k hk];exact hp⟩
theorem e_q {body:Nat->Unit->Option (Out Unit ρ)}{n:Nat}(p:Nat->Bool)(r:ρ)(h:∀k,k<n->(∀j,j<k->p j=false)->body k ()=some (if p k then .ret r else .next ())) :
  C_ body n 0 ()=some (if (List.range n).any p then .inr r else .inl ()):=by
 rw [g_Z p (λ_=>r) h]
 cases hf:(List.range n).find? p with
 | none =>
  have:(List.range n).any p=false:=by
   rw [List.any_eq_false];exact λx hx=>by simpa using List.find?_eq_none.1 hf x hx
  rw [this];rfl
 | some k =>
  have:(List.range n).any p=true:=List.any_eq_true.2 ⟨k,List.mem_of_find?_eq_some hf,List.find?_some hf⟩
  rw [this];rfl
theorem f_N {α:Type}{body:Nat->Unit->Option (Out Unit ρ)}{l:List α}(p:α->Bool)(r:ρ)(h:∀k (hk:k<l.length),body k ()=some (if p l[k] then .ret r else .next ())) :
  C_ body l.length 0 ()=some (if l.any p then .inr r else .inl ()):=by
 rw [e_q (λk=>if hk:k<l.length then p l[k] else false) r (λk hk _=>by rw [dif_pos hk];exact h k hk)]
 rw [q_G l p _ (λk hk=>by rw [dif_pos hk])]
theorem iter_brk' {step:σ->Option (Out σ ρ)}(st:Nat->σ){s:σ}:∀m k j0,k<=j0->j0<k+m->(∀j,k<=j->j<j0->step (st j)=some (.next<|st<|j+1))->step (st j0)=some (.brk s)->a_8 step m (st k)=some (.inl s)
 | 0,k,j0,a,b,_,_=>by omega
 | m+1,k,j0,a,b,h,hr=>by
  unfold a_8
  by_cases hk:k=j0
  .subst hk;rw [hr]
  .rw [h k (Nat.le_refl _) (by omega)]
   exact iter_brk' st m (k+1) j0 (by omega) (by omega) (λj c d=>h j (by omega) d) hr
theorem k_u {step:σ->Option (Out σ ρ)}(st:Nat->σ){s:σ}{m j0:Nat}(G:j0<m)(h:∀j,j<j0->step (st j)=some (.next<|st<|j+1))(hr:step (st j0)=some (.brk s)):a_8 step m (st 0)=some (.inl s) :=
 iter_brk' st m 0 j0 (by omega) (by omega) (λj _ b=>h j b) hr
theorem iter_ret' {step:σ->Option (Out σ ρ)}(st:Nat->σ){r:ρ}:∀m k j0,k<=j0->j0<k+m->(∀j,k<=j->j<j0->step (st j)=some (.next<|st<|j+1))->step (st j0)=some (.ret r)->a_8 step m (st k)=some (.inr r)
 | 0,k,j0,a,b,_,_=>by omega
 | m+1,k,j0,a,b,h,hr=>by
  unfold a_8
  by_cases hk:k=j0
  .subst hk;rw [hr]
  .rw [h k (Nat.le_refl _) (by omega)]
   exact iter_ret' st m (k+1) j0 (by omega) (by omega) (λj c d=>h j (by omega) d) hr
theorem m_Z {step:σ->Option (Out σ ρ)}(st:Nat->σ){r:ρ}{m j0:Nat}(G:j0<m)(h:∀j,j<j0->step (st j)=some (.next<|st<|j+1))(hr:step (st j0)=some (.ret r)):a_8 step m (st 0)=some (.inr r) :=
 iter_ret' st m 0 j0 (by omega) (by omega) (λj _ b=>h j b) hr
end
theorem n_0 {s:Str}{p:Nat}(h:p<s.b.length)(ha:s.b[p].toNat<128):dec s p=((s.b[p].toNat:Int),1):=by
 have hq:p<(⟨s.b.toArray⟩:ByteArray).size:=by simpa [ByteArray.size] using h
 have hb:(⟨s.b.toArray⟩:ByteArray)[p]'hq=s.b[p]:=rfl;unfold dec
 rw [decode_ascii _ p hq (by rw [hb];exact ha),hb]
theorem q_H {s:Str}{p:Nat}(h:p<s.b.length)(ha:128<=s.b[p].toNat):128<=(dec s p).1:=by
 have hq:p<(⟨s.b.toArray⟩:ByteArray).size:=by simpa [ByteArray.size] using h
 have hb:(⟨s.b.toArray⟩:ByteArray)[p]'hq=s.b[p]:=rfl;unfold dec;have:=(decode_high _ p hq (by rw [hb];exact ha)).1
 simp only
 omega
abbrev bF_:=@Bool.false_eq_true
abbrev dT_:=@decide_eq_true
abbrev dF_:=@decide_eq_false
abbrev bQ_:=@beq_self_eq_true
abbrev mT_:=@List.mem_cons_of_mem
abbrev mS_:=@List.mem_cons_self
abbrev gE_:=@List.getElem_mem
abbrev oI_:=@Option.some.injEq
abbrev gG_:=@List.getElem?_eq_getElem
abbrev gD_:=@List.getD_eq_getElem?_getD
abbrev aE_:=@Bool.and_eq_true
abbrev dE_:=@decide_eq_true_eq
abbrev tN_:=@Int.toNat_natCast
abbrev gS_:=@List.getElem?_eq_some_iff
abbrev iP_:=@if_pos
abbrev iN_:=@if_neg
abbrev fF_:=@if_false
abbrev fT_:=@if_true
abbrev gN_:=@List.getElem?_eq_none
abbrev nT_:=@Bool.not_true
abbrev ix_:=@k_t
abbrev ia_:=@q_D
abbrev lC_:=@List.length_cons
abbrev bN_:=@bne_self_eq_false
abbrev dC_:=@List.drop_eq_getElem_cons
end Go.Vw
