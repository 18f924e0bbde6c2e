import Derived.Test.YtllmonllbkaflaaGreatDoorV0
import Derived.Carry
import Derived.Deep.DeepHandedRow
import Derived.WalkKit
import Derived.ProofKit
import Derived.OpenShut
import Derived.Laws.RangeAny
set_option linter.unusedVariables false
namespace Go.Vw
def h_o (n:Nat)(x1:Str)(x2:UInt8):Option (List Str) :=
 bd (V_ (σ:=(List Str)×Int×Int) (ρ:=List Str) (un3 λH I G=>if (decide<|G<=(x1.b.length:Int)) then bd (α:=Bool) (if (G==(x1.b.length:Int)) then some true else bd (idx x1.b G) λJ=>some<|(byteI J)==(byteI x2)) (λL=>bd (α:=(List Str)×Int) (if L then bd (b_z x1 I G) λO=>bd (psh H O) λV=>some (V,d_ G 1) else some (H,I))<|un2 λW Y=>some<|.next (W,Y,d_ G 1)) else some (.brk (H,I,G))) n (([]:List Str),0,0)) (el (un3 λH I G=>some H)<|λa0=>some a0)
def a_Z (x1:Int)(x2:Int)(x3:Int):Option Bool :=
 bd (α:=Bool) (if (decide<|x2<=x1) then some (decide<|x1<=x3) else some false) (λG=>some G)
def g_h (x1:Str):Option Bool :=
 bd (p_ (σ:=Unit) (ρ:=Bool) (λk10=>(λ(_:Unit)=>bd (α:=Bool) (bd (idx x1.b (k10:Int)) λG=>if (decide<|(byteI (97:UInt8))<=(byteI G)) then bd (idx x1.b (k10:Int)) λH=>some (decide<|(byteI H)<=(byteI (122:UInt8))) else some false) (λI=>bd (α:=Bool) (bd (idx x1.b (k10:Int)) λJ=>if (decide<|(byteI (48:UInt8))<=(byteI J)) then bd (idx x1.b (k10:Int)) λL=>some (decide<|(byteI L)<=(byteI (57:UInt8))) else some false) (λO=>bd (α:=Bool) (if (!I) then if (!O) then some true else some ((k10:Int)==0) else some false) (λV=>if V then some (.ret false) else some (.next ())))))) x1.b.length 0 ()) (el (λ(_:Unit)=>bd (a_Z (x1.b.length:Int) 1 12) λW=>some W)<|λY=>some Y)
def c_6 (n:Nat)(x1:Int):Option Str :=
 if (x1==0) then some (⟨[48]⟩:Str) else bd (V_ (σ:=Str×Int) (ρ:=Str) (un2 λH G=>if (G != 0) then bd (α:=Int) (if (decide<|(b_7 G 10)<0) then some (h_5<|b_7 G 10) else some (b_7 G 10)) (λI=>bd (cat (⟨[mkB (d_ 48 I)]⟩:Str) H) λJ=>some<|.next (J,c_3 G 10)) else some (.brk (H,G))) n ((⟨[]⟩:Str),x1)) (el (un2 λH G=>if (decide<|x1<0) then bd (cat (⟨[45]⟩:Str) H) λL=>some L else some H)<|λO=>some O)
def h_p (n:Nat)(x1:Str):Option (Int×Bool) :=
 bd (a_Z (x1.b.length:Int) 1 13) λI=>if (!I) then some (0,false) else bd (p_ (σ:=Int) (ρ:=Int×Bool) (λH=>(λG=>bd (idx x1.b (H:Int)) λJ=>bd (a_Z (byteI J) 48 57) λL=>if (!L) then some (.ret (0,false)) else bd (idx x1.b (H:Int)) λO=>some<|.next<|d_ (a_7 10 G)<|byteI<|mkB<|byteI O - byteI (48:UInt8))) x1.b.length 0 0) (el (λG=>bd (α:=Bool) (if (decide<|1000000000000<G) then some true else bd (c_6 n G) λV=>some<|V.b != x1.b) (λW=>if W then some (0,false) else some (G,true)))<|λY=>some Y)
def e_A (n:Nat)(x1:Str):Option Bool :=
 bd (α:=Bool) (bd (g_h x1) λG=>if G then some true else if (x1.b==(⟨[42]⟩:Str).b) then some true else if (x1.b==(⟨[63]⟩:Str).b) then some true else some (x1.b==(⟨[43]⟩:Str).b)) (λH=>if H then some true else bd2 (h_p n x1) λI J=>bd (α:=Bool) (if J then bd (c_6 n I) λL=>some (L.b==x1.b) else some false)<|λO=>some O)
def g_i (n:Nat)(x1:Str):Option ((List Str)×Bool) :=
 if (x1.b==(⟨[]⟩:Str).b) then some (([]:List Str),true) else bd (h_o n x1 (47:UInt8)) λG=>bd (idx G 0) λI=>if (I.b != (⟨[]⟩:Str).b) then some (([]:List Str),false) else bd (V_ (σ:=Int) (ρ:=(List Str)×Bool) (λH=>if (decide<|H<(G.length:Int)) then bd (idx G H) λJ=>bd (e_A n J) λL=>if (!L) then some (.ret (([]:List Str),false)) else some (.next<|d_ H 1) else some (.brk H)) n 1) (el (λH=>bd (slc G 1 (G.length:Int)) λO=>some (O,decide<|1<(G.length:Int)))<|λV=>some V)
def c_S (x1:b_)(x2:Bool)(x3:Bool)(x4:Bool)(x5:Bool)(x6:Int):Option Bool :=
 bd (α:=Bool) (bd (α:=Bool) (if x2 then some true else some (x1.size==0)) λG=>bd (α:=Bool) (if G then if x3 then some true else some ((x1.bytes.length:Int)==0) else some false) λH=>bd (α:=Bool) (if H then if x4 then some true else some ((x1.names.length:Int)==0) else some false) λI=>bd (α:=Bool) (if I then if x5 then some true else some ((x1.tags.length:Int)==0) else some false) λJ=>bd (α:=Bool) (if J then if (decide<|x6<0) then some true else some ((x1.kids.length:Int)==x6) else some false) λL=>if L then if (!x1.little) then some true else some (x1.kind==1) else some false) (λO=>some O)
def d_A (x1:Int):Option Int :=
 bd (nn<|a_7 8 x1) λG=>some<|c_4 .i64 1<|a_7 8 x1
def e_B (x1:c_)(x2:Int):Option Int :=
 bd (α:=Bool) (bd (a_Z x2 0<|y_ (x1.rules.length:Int) 1) λG=>if (!G) then some true else bd (idx x1.rules x2) λH=>if (H.kind != 1) then some true else bd (idx x1.rules x2) λI=>bd (a_Z I.size 1 4) λJ=>some (!J)) (λL=>if L then some (-1) else bd (idx x1.rules x2) λO=>bd (d_A O.size) λV=>some<|y_ V 1)
def i_y (x1:List Str)(x2:Str):Option Bool :=
 bd (p_ (σ:=Unit) (ρ:=Bool) (λk10=>(λ(_:Unit)=>bd (idx x1 (k10:Int)) λG=>if (G.b==x2.b) then some (.ret true) else some (.next ()))) x1.length 0 ()) (el (λ(_:Unit)=>some false)<|λH=>some H)
def i_z (x1:List Str):Option Bool :=
 bd (p_ (σ:=Unit) (ρ:=Bool) (λk10=>(λ(_:Unit)=>bd (α:=Bool) (bd (idx x1 (k10:Int)) λG=>bd (g_h G) λH=>if (!H) then some true else bd (slc x1 0 (k10:Int)) λI=>bd (idx x1 (k10:Int)) λJ=>bd (i_y I J) λL=>some L) (λO=>if O then some (.ret false) else some (.next ())))) x1.length 0 ()) (el (λ(_:Unit)=>bd (a_Z (x1.length:Int) 1 8) λV=>some V)<|λW=>some W)
def i_A (x1:c_)(x2:b_):Option Bool :=
 bd (α:=Bool) (if ((x2.kids.length:Int) != (d_ (x2.tags.length:Int) 1)) then some true else bd (a_Z (x2.tags.length:Int) 1 8) λG=>some (!G)) (λH=>if H then some false else bd (p_ (σ:=Unit) (ρ:=Bool) (λk10=>(λ(_:Unit)=>bd (α:=Bool) (bd (idx x2.tags (k10:Int)) λI=>bd (idx x2.kids 0) λJ=>bd (e_B x1 J) λL=>bd (a_Z I 0 L) λO=>if (!O) then some true else if (decide<|0<(k10:Int)) then bd (idx x2.tags<|y_ (k10:Int) 1) λV=>bd (idx x2.tags (k10:Int)) λW=>some (decide<|W<=V) else some false) (λY=>if Y then some (.ret false) else some (.next ())))) x2.tags.length 0 ()) (el (λ(_:Unit)=>some true)<|λa0=>some a0))
def i_B (x1:c_)(x2:b_):Option Bool :=
 if (x2.kind==1) then bd (α:=Bool) (bd (c_S x2 true false false false 0) λG=>if G then bd (a_Z x2.size 1 4) λH=>if H then if (!x2.little) then some true else some (decide<|1<x2.size) else some false else some false) (λI=>some I) else if (x2.kind==2) then bd (α:=Bool) (bd (c_S x2 false true false false 0) λJ=>if J then bd (a_Z (x2.bytes.length:Int) 1 16) λL=>some L else some false) (λO=>some O) else if (x2.kind==3) then bd (α:=Bool) (bd (c_S x2 true false false false 0) λV=>if V then bd (a_Z x2.size 1 64) λW=>some W else some false) (λY=>some Y) else if (x2.kind==4) then bd (α:=Bool) (bd (c_S x2 false false false false 1) λa0=>if a0 then bd (idx x2.kids 0) λa1=>bd (e_B x1 a1) λa2=>some (decide<|0<a2) else some false) (λa3=>some a3) else if (x2.kind==5) then bd (α:=Bool) (bd (c_S x2 false false false false 2) λa4=>if a4 then bd (idx x2.kids 0) λa5=>bd (e_B x1 a5) λa6=>some (decide<|0<a6) else some false) (λa7=>some a7) else if (x2.kind==6) then bd (α:=Bool) (bd (c_S x2 false false true false (x2.names.length:Int)) λa8=>if a8 then bd (i_z x2.names) λa9=>some a9 else some false) (λaa=>some aa) else if (x2.kind==7) then bd (α:=Bool) (bd (c_S x2 false false false true (-1)) λab=>if ab then bd (i_A x1 x2) λad=>some ad else some false) (λae=>some ae) else bd (α:=Bool) (if (x2.kind==8) then some (x2.kind==8) else some (x2.kind==9)) (λaf=>if af then bd (c_S x2 false false false false 1) λah=>some ah else if (x2.kind==10) then bd (α:=Bool) (bd (c_S x2 false true false false 0) λai=>if ai then if ((x2.bytes.length:Int)==1) then bd (idx x2.bytes 0) λaj=>some ((byteI aj) != (byteI (92:UInt8))) else some false else some false) (λak=>some ak) else some false)
def i_C (x1:c_)(x2:Int):Option Bool :=
 bd (a_Z x2 0<|y_ (x1.rules.length:Int) 1) λH=>if (!H) then some false else bd (idx x1.rules x2) λG=>bd (p_ (σ:=Unit) (ρ:=Bool) (λI=>(λ(_:Unit)=>bd (idx x1.rules (I:Int)) λJ=>if (J.name.b==G.name.b) then some (.ret false) else some (.next ()))) x2.toNat 0 ()) (el (λ(_:Unit)=>bd (p_ (σ:=Unit) (ρ:=Bool) (λL=>(λ(_:Unit)=>bd (idx G.kids (L:Int)) λO=>bd (a_Z O 0<|y_ x2 1) λV=>if (!V) then some (.ret false) else some (.next ()))) G.kids.length 0 ()) (el (λ(_:Unit)=>bd (α:=Bool) (bd (g_h G.name) λW=>if W then bd (i_B x1 G) λY=>some Y else some false)<|λa0=>some a0)<|λa1=>some a1))<|λa2=>some a2)
def h_q (x1:c_):Option Bool :=
 bd (p_ (σ:=Unit) (ρ:=Bool) (λk10=>(λ(_:Unit)=>bd (i_C x1 (k10:Int)) λG=>if (!G) then some (.ret false) else some (.next ()))) x1.rules.length 0 ()) (el (λ(_:Unit)=>bd (a_Z (x1.rules.length:Int) 1 24) λH=>some H)<|λI=>some I)
def g_j (x1:c_):Option Int :=
 some (y_ (x1.rules.length:Int) 1)
def i_D (x1:Bt)(x2:Bool):Option Int :=
 if (decide<|4<(x1.length:Int)) then some 0 else bd (p_ (σ:=Int) (ρ:=Int) (λH=>(λG=>bd (α:=Int) (if x2 then some (y_ (y_ (x1.length:Int) 1) (H:Int)) else some (H:Int))<|λI=>bd (idx x1 I) λJ=>some<|.next<|d_ (a_7 G 256)<|byteI J)) x1.length 0 0) (el (λG=>some G)<|λL=>some L)
def c_T (x1:c_)(x2:Int)(x3:Bt)(x4:Int):Option (Int×Int×Bool) :=
 bd (idx x1.rules x2) λG=>if (decide<|(y_ (x3.length:Int) x4)<G.size) then some (0,x4,false) else bd (slc x3 x4<|d_ x4 G.size) λH=>bd (i_D H G.little) λI=>some (I,d_ x4 G.size,true)
def b_9 (x1:b_)(x2:Int)(x3:Int):Option Int :=
 if (x1.kind==5) then bd (idx x1.kids 1) λG=>some G else bd (α:=Sum Unit Int) (if (x1.kind==6) then if (decide<|x3<(x1.kids.length:Int)) then bd (idx x1.kids x3) λH=>some (.inr H) else some (.inl ()) else bd (α:=Sum Unit<|Sum Unit Int) (if (x1.kind==7) then bd (p_ (σ:=Unit) (ρ:=Int) (λk10=>(λ(_:Unit)=>bd (idx x1.tags (k10:Int)) λI=>if (I==x2) then bd (idx x1.kids ((k10+1:Nat):Int)) λJ=>some (.ret J) else some (.next ()))) x1.tags.length 0 ()) (el (λ(_:Unit)=>some<|.inl ())<|λL=>some<|.inr<|.inr L) else bd (α:=Bool) (if (x1.kind==8) then some (x1.kind==8) else some (x1.kind==9)) (λO=>if O then bd (idx x1.kids 0) λV=>some (.inr<|.inr V) else some (.inl ()))) (el (λ(_:Unit)=>some<|.inl ()) some)) (el (λ(_:Unit)=>some (-1)) some)
def f_f (x1:c_)(x2:b_)(x3:Bt)(x4:Int):Option (Int×Int×Int) :=
 if (x2.kind==6) then some (x4,(x2.kids.length:Int),0) else if (x2.kind==9) then some (x4,1,0) else bd (α:=Sum Unit<|Int×Int×Int) (if (x2.kind==8) then bd (α:=Bool) (if (decide<|x4<(x3.length:Int)) then bd (idx x3 x4) λI=>some ((byteI I)==(byteI (1:UInt8))) else some false) (λJ=>if J then some (.inr (d_ x4 1,1,0)) else some (.inl ())) else bd (α:=Bool) (if (x2.kind==5) then some (x2.kind==5) else some (x2.kind==7)) (λL=>bd (α:=Sum Unit<|Sum Unit<|Int×Int×Int) (if L then bd (idx x2.kids 0) λO=>bd3 (c_T x1 O x3 x4) λG H V=>bd (α:=Sum Unit<|Sum Unit<|Sum Unit<|Int×Int×Int) (if (!V) then some (.inl ()) else bd (α:=Bool) (if (x2.kind==5) then some (decide<|G<=40) else some false) (λW=>if W then some (.inr<|.inr<|.inr (H,G,0)) else bd (α:=Bool) (if (x2.kind==7) then bd (b_9 x2 G 0) λY=>some (decide<|0<=Y) else some false) (λa0=>if a0 then some (.inr<|.inr<|.inr (H,1,G)) else some (.inl ())))) (el (λ(_:Unit)=>some<|.inl ()) some) else some (.inl ()))<|el (λ(_:Unit)=>some<|.inl ()) some)) (el (λ(_:Unit)=>some (x4,(-1),0)) some)
def e_6 (n:Nat)(x1:b_)(x2:Int):Option Str :=
 if (x1.kind==5) then bd (c_6 n x2) λG=>some G else bd (α:=Bool) (if (x1.kind==6) then some (decide<|x2<(x1.names.length:Int)) else some false) (λH=>if H then bd (idx x1.names x2) λI=>some I else bd (α:=Bool) (if (x1.kind==7) then some (x2==0) else some false) (λJ=>if J then some (⟨[42]⟩:Str) else bd (α:=Bool) (if (x1.kind==8) then some (x2==0) else some false) (λL=>if L then some (⟨[63]⟩:Str) else bd (α:=Bool) (if (x1.kind==9) then some (x2==0) else some false) (λO=>if O then some (⟨[43]⟩:Str) else some (⟨[]⟩:Str)))))
def i_E (x1:b_)(x2:Bt)(x3:Int):Option (Val×Int×Int) :=
 bd (p_ (σ:=Unit) (ρ:=Val×Int×Int) (λk10=>(λ(_:Unit)=>if (decide<|(x2.length:Int)<=(d_ x3 (k10:Int))) then some (.ret ((⟨0,([]:Bt),([]:List Val)⟩:Val),x3,1)) else bd (idx x2<|d_ x3 (k10:Int)) λG=>bd (idx x1.bytes (k10:Int)) λH=>if ((byteI G) != (byteI H)) then some (.ret ((⟨0,([]:Bt),([]:List Val)⟩:Val),d_ x3 (k10:Int),2)) else some (.next ()))) x1.bytes.length 0 ()) (el (λ(_:Unit)=>some ((⟨0,([]:Bt),([]:List Val)⟩:Val),d_ x3 (x1.bytes.length:Int),0))<|λI=>some I)
def h_r (x1:Bt)(x2:Int)(x3:Int):Option (Val×Int×Int) :=
 if (decide<|(y_ (x1.length:Int) x2)<x3) then some ((⟨0,([]:Bt),([]:List Val)⟩:Val),x2,1) else bd (slc x1 x2<|d_ x2 x3) λG=>bd (app ([]:Bt) G) λH=>some ((⟨0,H,([]:List Val)⟩:Val),d_ x2 x3,0)
def i_F (n:Nat)(x1:Bt)(x2:Int)(x3:UInt8):Option (Bt×Int×Bool) :=
 bd (V_ (σ:=Bt×Int) (ρ:=Bt×Int×Bool) (un2 λH G=>bd (α:=Bool) (bd (a_Z x2 0 (x1.length:Int)) λJ=>if J then some (decide<|G<(x1.length:Int)) else some false) (λL=>if L then bd (idx x1 G) λO=>if ((byteI O)==(byteI x3)) then some (.ret (H,d_ G 1,true)) else bd (idx x1 G) λV=>bd (α:=Sum Int<|Out (Bt×Int)<|Bt×Int×Bool) (if ((byteI V)==(byteI (92:UInt8))) then if ((d_ G 1)==(x1.length:Int)) then some (.inr<|.brk (H,d_ G 1)) else some (.inl<|d_ G 1) else some (.inl G)) (el (λI=>bd (idx x1 I) λW=>bd (psh H W) λY=>some<|.next (Y,d_ I 1)) some) else some (.brk (H,G)))) n (([]:Bt),x2)) (el (un2 λH G=>some (([]:Bt),x2,false))<|λa0=>some a0)
def h_s (x1:Bt):Option Int :=
 bd (p_ (σ:=Int) (ρ:=Int) (λH=>(λG=>bd (idx x1 (H:Int)) λI=>some<|.next<|b_7 (d_ G<|byteI I) 256)) x1.length 0 0) (el (λG=>some G)<|λJ=>some J)
structure h_t where
 spec_l11Read:c_->Int->Bt->Int->Option (Val×Int×Int)
 spec_l11Items:c_->b_->Int->Int->Bt->Int->Option (Val×Int×Int)
 spec_l11Choice:c_->b_->Bt->Int->Option (Val×Int×Int)
 spec_l11Option:c_->b_->Bt->Int->Option (Val×Int×Int)
 spec_l11Checked:c_->b_->Bt->Int->Option (Val×Int×Int)
def i_G (n:Nat)(rec:h_t)(x1:c_)(x2:Int)(x3:Bt)(x4:Int):Option (Val×Int×Int) :=
 bd (idx x1.rules x2) λG=>if (G.kind==1) then bd3 (c_T x1 x2 x3 x4) λJ L O=>if (!O) then some ((⟨0,([]:Bt),([]:List Val)⟩:Val),x4,1) else some ((⟨J,([]:Bt),([]:List Val)⟩:Val),L,0) else if (G.kind==2) then bd3 (i_E G x3 x4) λV W Y=>some (V,W,Y) else if (G.kind==3) then bd3 (h_r x3 x4 G.size) λa0 a1 a2=>some (a0,a1,a2) else if (G.kind==10) then bd (idx G.bytes 0) λa3=>bd3 (i_F n x3 x4 a3) λa4 a5 a6=>if (!a6) then some ((⟨0,([]:Bt),([]:List Val)⟩:Val),x4,1) else some ((⟨0,a4,([]:List Val)⟩:Val),a5,0) else if (G.kind==6) then bd3 (rec.spec_l11Items x1 G 0 (G.kids.length:Int) x3 x4) λa7 a8 a9=>some (a7,a8,a9) else if (G.kind==7) then bd3 (rec.spec_l11Choice x1 G x3 x4) λaa ab ad=>some (aa,ab,ad) else if (G.kind==8) then bd3 (rec.spec_l11Option x1 G x3 x4) λae af ah=>some (ae,af,ah) else if (G.kind==9) then bd3 (rec.spec_l11Checked x1 G x3 x4) λai aj ak=>some (ai,aj,ak) else bd (idx G.kids 0) λal=>bd3 (c_T x1 al x3 x4) λH I am=>if (!am) then some ((⟨0,([]:Bt),([]:List Val)⟩:Val),x4,1) else if (G.kind==4) then bd3 (h_r x3 I H) λan ap aq=>some (an,ap,aq) else if (decide<|40<H) then some ((⟨0,([]:Bt),([]:List Val)⟩:Val),x4,6) else bd3 (rec.spec_l11Items x1 G 0 H x3 I) λar au av=>some (ar,au,av)
def i_H (n:Nat)(rec:h_t)(x1:c_)(x2:b_)(x3:Int)(x4:Int)(x5:Bt)(x6:Int):Option (Val×Int×Int) :=
 bd (p_ (σ:=Int×(List Val)) (ρ:=Val×Int×Int) (λO=>un2 λG H=>bd (α:=Int×Bt×(List Val)×Int×Int) (bd (b_9 x2 x3 (O:Int)) λV=>bd3 (rec.spec_l11Read x1 V x5 G) λI W Y=>some (I.number,I.bytes,I.items,W,Y)) (un5 λa0 a1 a2 J L=>if (L != 0) then some (.ret ((⟨0,([]:Bt),([]:List Val)⟩:Val),J,L)) else bd (psh H (⟨a0,a1,a2⟩:Val)) λa3=>some<|.next (J,a3))) x4.toNat 0 (x6,([]:List Val))) (el (un2 λG H=>some ((⟨0,([]:Bt),H⟩:Val),G,0))<|λa4=>some a4)
def i_I (n:Nat)(rec:h_t)(x1:c_)(x2:b_)(x3:Bt)(x4:Int):Option (Val×Int×Int) :=
 bd (idx x2.kids 0) λJ=>bd3 (c_T x1 J x3 x4) λG L O=>if (!O) then some ((⟨0,([]:Bt),([]:List Val)⟩:Val),x4,1) else bd (b_9 x2 G 0) λV=>if (decide<|V<0) then some ((⟨0,([]:Bt),([]:List Val)⟩:Val),x4,3) else bd3 (rec.spec_l11Items x1 x2 G 1 x3 L) λH W I=>bd (α:=Int) (if (I==0) then some G else some H.number)<|λY=>some ((⟨Y,H.bytes,H.items⟩:Val),W,I)
def i_J (n:Nat)(rec:h_t)(x1:c_)(x2:b_)(x3:Bt)(x4:Int):Option (Val×Int×Int) :=
 if (decide<|(x3.length:Int)<=x4) then some ((⟨0,([]:Bt),([]:List Val)⟩:Val),x4,1) else bd (idx x3 x4) λG=>if (decide<|(byteI (1:UInt8))<(byteI G)) then some ((⟨0,([]:Bt),([]:List Val)⟩:Val),x4,4) else bd (idx x3 x4) λH=>bd3 (rec.spec_l11Items x1 x2 0 (byteI H) x3<|d_ x4 1) λI J L=>some (I,J,L)
def i_K (n:Nat)(rec:h_t)(x1:c_)(x2:b_)(x3:Bt)(x4:Int):Option (Val×Int×Int) :=
 bd3 (rec.spec_l11Items x1 x2 0 1 x3 x4) λH G I=>if (I != 0) then some (H,G,I) else if (decide<|(x3.length:Int)<=G) then some ((⟨0,([]:Bt),([]:List Val)⟩:Val),G,1) else bd (idx x3 G) λJ=>bd (slc x3 x4 G) λL=>bd (h_s L) λO=>if ((byteI J) != O) then some ((⟨0,([]:Bt),([]:List Val)⟩:Val),G,5) else some (H,d_ G 1,0)
def a_w:Nat->h_t
 | 0=>⟨λ_ _ _ _=>none,λ_ _ _ _ _ _=>none,λ_ _ _ _=>none,λ_ _ _ _=>none,λ_ _ _ _=>none⟩
 | n+1=>⟨i_G n<|a_w n,i_H n<|a_w n,i_I n<|a_w n,i_J n<|a_w n,i_K n<|a_w n⟩
def e_7 (n:Nat):=(a_w n).spec_l11Read
def g_k (n:Nat):=(a_w n).spec_l11Items
def d_g (n:Nat)(x1:c_)(x2:Int)(x3:Bt)(x4:Int)(x5:Str):Option (Int×Int×Bool) :=
 bd (idx x1.rules x2) λG=>bd3 (f_f x1 G x3 x4) λL O V=>bd (p_ (σ:=Int) (ρ:=Int×Int×Bool) (λI=>(λH=>bd (b_9 G V (I:Int)) λJ=>bd (e_6 n G (I:Int)) λW=>if (W.b==x5.b) then some (.ret (J,H,true)) else bd3 (e_7 n x1 J x3 H) λa2 Y a0=>if (a0 != 0) then some (.ret (0,0,false)) else some (.next Y))) O.toNat 0 L)<|el (λH=>some (0,0,false))<|λa1=>some a1
def f_g (n:Nat)(x1:c_)(x2:Bt)(x3:Str):Option (g_×Bool) :=
 bd2 (g_i n x3) λI J=>bd (α:=Bool) (if (!J) then some true else bd (h_q x1) λL=>if (!L) then some true else some (decide<|400<(x2.length:Int))) (λO=>if O then some ((⟨(⟨[]⟩:Str),0,0,0⟩:g_),false) else bd (g_j x1) λV=>bd (p_ (σ:=Int×Int) (ρ:=g_×Bool) (λW=>un2 λG H=>bd (idx I (W:Int)) λY=>bd3 (d_g n x1 G x2 H Y) λa0 a1 a2=>if (!a2) then some (.ret ((⟨(⟨[]⟩:Str),0,0,0⟩:g_),false)) else some (.next (a0,a1))) I.length 0 (V,0)) (el (un2 λG H=>bd3 (e_7 n x1 G x2 H) λa6 a3 a4=>if (a4 != 0) then some ((⟨(⟨[]⟩:Str),0,0,0⟩:g_),false) else some ((⟨x3,G,H,a3⟩:g_),true))<|λa5=>some a5))
def h_u (x1:c_)(x2:Int):Option Bool :=
 bd (α:=Bool) (bd (a_Z x2 0<|y_ (x1.rules.length:Int) 1) λG=>if G then bd (h_q x1) λH=>some H else some false) (λI=>some I)
def i_L (n:Nat)(x1:c_)(x2:Int)(x3:Bt)(x4:Int):Option (Val×Int×Int) :=
 bd (α:=Bool) (bd (h_u x1 x2) λG=>if (!G) then some true else bd (a_Z x4 0 (x3.length:Int)) λH=>if (!H) then some true else some (decide<|400<(x3.length:Int))) (λI=>if I then some ((⟨0,([]:Bt),([]:List Val)⟩:Val),0,8) else bd3 (e_7 n x1 x2 x3 x4) λJ L O=>some (J,L,O))
def i_M (n:Nat)(x1:c_)(x2:Bt):Option (Val×Int×Int) :=
 bd (α:=Int×Bt×(List Val)×Int×Int) (bd (g_j x1) λJ=>bd3 (i_L n x1 J x2 0) λG L O=>some (G.number,G.bytes,G.items,L,O)) (un5 λV W Y H I=>bd (α:=Bool) (if (I==0) then some (decide<|H<(x2.length:Int)) else some false) (λa0=>if a0 then some ((⟨0,([]:Bt),([]:List Val)⟩:Val),H,7) else some ((⟨V,W,Y⟩:Val),H,I)))
def i_N (n:Nat)(x1:c_)(x2:Bt):Option Bool :=
 bd3 (i_M n x1 x2) λH I G=>some<|G==0
def f_h (x1:Str)(x2:UInt8):Option (List Str) :=
 bd (p_ (σ:=(List Str)×Int) (ρ:=List Str) (λI=>un2 λG H=>bd (idx x1.b (I:Int)) λJ=>bd (α:=(List Str)×Int) (if ((byteI J)==(byteI x2)) then bd (b_z x1 H (I:Int)) λL=>bd (psh G L) λO=>some (O,((I+1:Nat):Int)) else some (G,H))<|un2 λV W=>some<|.next (V,W)) x1.b.length 0 (([]:List Str),0)) (el (un2 λG H=>bd (b_z x1 H (x1.b.length:Int)) λY=>bd (psh G Y) λa0=>some a0)<|λa1=>some a1)
def f_i (n:Nat)(x1:Str):Option Bool :=
 bd (α:=Bool) (if (decide<|(x1.b.length:Int)<1) then some true else some (decide<|12<(x1.b.length:Int))) (λH=>if H then some false else bd (V_ (σ:=Nat) (ρ:=Bool) (λG=>if (decide<|G<x1.b.length) then bd (α:=Bool) (if (decide<|97<=((dec x1 G).1)) then some (decide<|((dec x1 G).1)<=122) else some false) (λI=>bd (α:=Bool) (if (decide<|48<=((dec x1 G).1)) then some (decide<|((dec x1 G).1)<=57) else some false) (λJ=>bd (α:=Bool) (if (!I) then if (!J) then some true else some ((G:Int)==0) else some false) (λL=>if L then some (.ret false) else some (.next<|G+(dec x1 G).2)))) else some (.brk G)) n 0) (el (λG=>some true)<|λO=>some O))
def g_l (x1:Str):Option (Int×Bool) :=
 bd (α:=Bool) (if (x1.b==(⟨[]⟩:Str).b) then some true else if (decide<|13<(x1.b.length:Int)) then some true else bd (idx x1.b 0) λI=>if ((byteI I)==(byteI (48:UInt8))) then some (decide<|1<(x1.b.length:Int)) else some false) (λJ=>if J then some (0,false) else bd (p_ (σ:=Int) (ρ:=Int×Bool) (λH=>(λG=>bd (α:=Bool) (bd (idx x1.b (H:Int)) λL=>if (decide<|(byteI L)<(byteI (48:UInt8))) then some true else bd (idx x1.b (H:Int)) λO=>some<|decide<|(byteI (57:UInt8))<(byteI O)) (λV=>if V then some (.ret (0,false)) else bd (idx x1.b (H:Int)) λW=>some<|.next<|d_ (a_7 10 G)<|byteI<|mkB<|byteI W - byteI (48:UInt8)))) x1.b.length 0 0) (el (λG=>if (decide<|1000000000000<G) then some (0,false) else some (G,true))<|λY=>some Y))
def f_j (n:Nat)(x1:Str):Option Bool :=
 bd (α:=Bool) (bd (f_i n x1) λG=>if G then some true else if (x1.b==(⟨[42]⟩:Str).b) then some true else if (x1.b==(⟨[63]⟩:Str).b) then some true else some (x1.b==(⟨[43]⟩:Str).b)) (λH=>if H then some true else bd2 (g_l x1) λJ I=>some I)
def k_K (n:Nat)(x1:Str):Option ((List Str)×Bool) :=
 if (x1.b==(⟨[]⟩:Str).b) then some ([],true) else bd (idx x1.b 0) λc=>if (byteI c != byteI (47:UInt8)) then some ([],false) else bd (f_h x1 (47:UInt8)) λl=>bd (slc l 1 (l.length:Int)) λparts=>bd (g_g (f_j n) parts) λoks=>if parts.length<LIM then some (if oks.all id then (parts,true) else ([],false)) else none
def h_v (n:Nat)(x1:Str):Option ((List Str)×Bool) :=
 bd2 (k_K n x1) λG H=>some (G,H)
def c_I (x1:Int)(x2:Int)(x3:Int):Option Bool :=
 bd (α:=Bool) (if (decide<|x2<=x1) then some (decide<|x1<=x3) else some false) (λG=>some G)
def f_k (x1:c_)(x2:Int):Option Bool :=
 bd (α:=Bool) (if (decide<|0<=x2) then some (decide<|x2<(x1.rules.length:Int)) else some false) (λG=>some G)
def c_U (x1:b_)(x2:Bool)(x3:Bool)(x4:Bool)(x5:Bool)(x6:Int):Option Bool :=
 bd (α:=Bool) (bd (α:=Bool) (if x2 then some true else some (x1.size==0)) λG=>bd (α:=Bool) (if G then if x3 then some true else some ((x1.bytes.length:Int)==0) else some false) λH=>bd (α:=Bool) (if H then if x4 then some true else some ((x1.names.length:Int)==0) else some false) λI=>bd (α:=Bool) (if I then if x5 then some true else some ((x1.tags.length:Int)==0) else some false) λJ=>if J then if (decide<|x6<0) then some true else some ((x1.kids.length:Int)==x6) else some false) (λL=>some L)
def d_B (x1:c_)(x2:Int):Option Int :=
 bd (α:=Bool) (bd (f_k x1 x2) λH=>if (!H) then some true else bd (idx x1.rules x2) λI=>if (I.kind != 1) then some true else bd (idx x1.rules x2) λJ=>bd (c_I J.size 1 4) λL=>some (!L)) (λO=>if O then some (-1) else bd (idx x1.rules x2) λG=>bd (nn<|a_7 8 G.size) λV=>some<|y_ (c_4 .i64 1<|a_7 8 G.size) 1)
def g_m (x1:List Str)(x2:Str):Option Bool :=
 bd (p_ (σ:=Unit) (ρ:=Bool) (λk10=>(λ(_:Unit)=>bd (idx x1 (k10:Int)) λG=>if (G.b==x2.b) then some (.ret true) else some (.next ()))) x1.length 0 ()) (el (λ(_:Unit)=>some false)<|λH=>some H)
def i_O (n:Nat)(x1:b_):Option Bool :=
 bd (α:=Bool) (bd (c_U x1 false false true false (-1)) λH=>if (!H) then some true else if ((x1.kids.length:Int) != (x1.names.length:Int)) then some true else bd (c_I (x1.kids.length:Int) 1 8) λI=>some (!I)) (λJ=>if J then some false else bd (p_ (σ:=Unit) (ρ:=Bool) (λk10=>(λ(_:Unit)=>bd (idx x1.names (k10:Int)) λG=>bd (α:=Bool) (bd (f_i n G) λL=>if (!L) then some true else bd (slc x1.names 0 (k10:Int)) λO=>bd (g_m O G) λV=>some V) (λW=>if W then some (.ret false) else some (.next ())))) x1.names.length 0 ()) (el (λ(_:Unit)=>some true)<|λY=>some Y))
def i_P (x1:c_)(x2:b_):Option Bool :=
 bd (α:=Bool) (bd (c_U x2 false false false true<|d_ (x2.tags.length:Int) 1) λI=>if (!I) then some true else bd (c_I (x2.tags.length:Int) 1 8) λJ=>some (!J)) (λL=>if L then some false else bd (idx x2.kids 0) λO=>bd (d_B x1 O) λG=>bd (p_ (σ:=Unit) (ρ:=Bool) (λk10=>(λ(_:Unit)=>bd (idx x2.tags (k10:Int)) λH=>bd (α:=Bool) (bd (c_I H 0 G) λV=>if (!V) then some true else if (decide<|0<(k10:Int)) then bd (idx x2.tags<|y_ (k10:Int) 1) λW=>some (decide<|H<=W) else some false) (λY=>if Y then some (.ret false) else some (.next ())))) x2.tags.length 0 ())<|el (λ(_:Unit)=>some<|decide<|0<G)<|λa0=>some a0)
def i_Q (n:Nat)(x1:c_)(x2:b_):Option Bool :=
 if (x2.kind==1) then bd (α:=Bool) (bd (c_U x2 true false false false 0) λG=>if G then bd (c_I x2.size 1 4) λH=>if H then if (!x2.little) then some true else some (decide<|1<x2.size) else some false else some false) (λI=>some I) else if (x2.kind==2) then bd (α:=Bool) (bd (c_U x2 false true false false 0) λJ=>if J then bd (c_I (x2.bytes.length:Int) 1 16) λL=>some L else some false) (λO=>some O) else if (x2.kind==3) then bd (α:=Bool) (bd (c_U x2 true false false false 0) λV=>if V then bd (c_I x2.size 1 64) λW=>some W else some false) (λY=>some Y) else if (x2.kind==4) then bd (α:=Bool) (bd (c_U x2 false false false false 1) λa0=>if a0 then bd (idx x2.kids 0) λa1=>bd (d_B x1 a1) λa2=>some (decide<|0<a2) else some false) (λa3=>some a3) else if (x2.kind==5) then bd (α:=Bool) (bd (c_U x2 false false false false 2) λa4=>if a4 then bd (idx x2.kids 0) λa5=>bd (d_B x1 a5) λa6=>some (decide<|0<a6) else some false) (λa7=>some a7) else if (x2.kind==6) then bd (i_O n x2) λa8=>some a8 else if (x2.kind==7) then bd (i_P x1 x2) λa9=>some a9 else bd (α:=Bool) (if (x2.kind==8) then some (x2.kind==8) else some (x2.kind==9)) (λaa=>if aa then bd (c_U x2 false false false false 1) λab=>some ab else if (x2.kind==10) then bd (α:=Bool) (bd (c_U x2 false true false false 0) λad=>if ad then if ((x2.bytes.length:Int)==1) then bd (idx x2.bytes 0) λae=>some ((byteI ae) != (byteI (92:UInt8))) else some false else some false) (λaf=>some af) else some false)
def i_R (n:Nat)(x1:c_)(x2:Int):Option Bool :=
 bd (f_k x1 x2) λJ=>if (!J) then some false else bd (idx x1.rules x2) λG=>bd (α:=Bool) (bd (f_i n G.name) λL=>if (!L) then some true else if G.little then some (G.kind != 1) else some false) (λO=>if O then some false else bd (slc x1.rules 0 x2) λH=>bd (p_ (σ:=Unit) (ρ:=Bool) (λV=>(λ(_:Unit)=>bd (idx H (V:Int)) λW=>if (W.name.b==G.name.b) then some (.ret false) else some (.next ()))) H.length 0 ()) (el (λ(_:Unit)=>bd (p_ (σ:=Unit) (ρ:=Bool) (λY=>(λ(_:Unit)=>bd (idx G.kids (Y:Int)) λI=>bd (α:=Bool) (if (decide<|I<0) then some true else some (decide<|x2<=I)) (λa0=>if a0 then some (.ret false) else some (.next ())))) G.kids.length 0 ())<|el (λ(_:Unit)=>bd (i_Q n x1 G) λa1=>some a1)<|λa2=>some a2)<|λa3=>some a3))
def h_w (n:Nat)(x1:c_):Option Bool :=
 bd (c_I (x1.rules.length:Int) 1 24) λG=>if (!G) then some false else bd (p_ (σ:=Unit) (ρ:=Bool) (λH=>(λ(_:Unit)=>bd (i_R n x1 (H:Int)) λI=>if (!I) then some (.ret false) else some (.next ()))) x1.rules.length 0 ()) (el (λ(_:Unit)=>some true)<|λJ=>some J)
def g_n (x1:c_):Option Int :=
 some (y_ (x1.rules.length:Int) 1)
def f_l (n:Nat)(x1:c_)(x2:Int):Option Bool :=
 bd (α:=Bool) (bd (h_w n x1) λG=>if G then bd (f_k x1 x2) λH=>some H else some false) (λI=>some I)
def e_C (x1:a_3)(x2:Int)(x3:Int):Option P_ :=
 if (decide<|(y_ (x1.b.length:Int) x2)<x3) then some (⟨x2,1⟩:P_) else some (⟨d_ x2 x3,0⟩:P_)
def g_o (x1:Bt)(x2:Bool):Option Int :=
 if (decide<|4<(x1.length:Int)) then some 0 else bd (p_ (σ:=Int) (ρ:=Int) (λH=>(λG=>bd (α:=Int) (if x2 then bd (idx x1<|y_ (y_ (x1.length:Int) 1) (H:Int)) λI=>some (a_C .i64 (· ||| ·) (c_4 .i64 G 8)<|byteI I) else bd (idx x1 (H:Int)) λJ=>some<|a_C .i64 (· ||| ·) (c_4 .i64 G 8)<|byteI J)<|λL=>some<|.next L)) x1.length 0 0) (el (λG=>some G)<|λO=>some O)
def f_m (x1:a_3)(x2:Int)(x3:Int):Option (Int×P_×Int) :=
 bd (idx x1.d.rules x2) λH=>bd (e_C (⟨(⟨x1.d.rules⟩:c_),x1.b,d_ x1.applied 1⟩:a_3) x3 H.size) λG=>if (G.code != 0) then some (0,G,d_ x1.applied 1) else bd (slc x1.b x3 G.at_) λI=>bd (g_o I H.little) λJ=>some (J,G,d_ x1.applied 1)
def i_S (x1:a_3)(x2:b_)(x3:Int):Option P_ :=
 bd (p_ (σ:=Unit) (ρ:=P_) (λk10=>(λ(_:Unit)=>bd (idx x2.bytes (k10:Int)) λG=>if ((d_ x3 (k10:Int))==(x1.b.length:Int)) then some (.ret (⟨x3,1⟩:P_)) else bd (idx x1.b<|d_ x3 (k10:Int)) λH=>if ((byteI H) != (byteI G)) then some (.ret (⟨d_ x3 (k10:Int),2⟩:P_)) else some (.next ()))) x2.bytes.length 0 ()) (el (λ(_:Unit)=>some (⟨d_ x3 (x2.bytes.length:Int),0⟩:P_))<|λI=>some I)
def h_x (x1:Bt):Option Int :=
 bd (p_ (σ:=Int) (ρ:=Int) (λH=>(λG=>bd (idx x1 (H:Int)) λI=>some<|.next<|d_ G<|byteI I)) x1.length 0 0) (el (λG=>some<|b_7 G 256)<|λJ=>some J)
def h_y (n:Nat)(x1:Bt)(x2:Int)(x3:UInt8):Option (Bt×Int×Bool) :=
 bd (α:=Bool) (if (decide<|x2<0) then some true else some (decide<|(x1.length:Int)<x2)) (λJ=>if J then some (([]:Bt),x2,false) else bd (V_ (σ:=Bt×Int) (ρ:=Bt×Int×Bool) (un2 λH G=>if (decide<|G<(x1.length:Int)) then bd (idx x1 G) λL=>if ((byteI L)==(byteI x3)) then some (.ret (H,d_ G 1,true)) else bd (idx x1 G) λO=>bd (α:=Sum Int<|Out (Bt×Int)<|Bt×Int×Bool) (if ((byteI O)==(byteI (92:UInt8))) then if ((d_ G 1)==(x1.length:Int)) then some (.inr<|.brk (H,d_ G 1)) else some (.inl<|d_ G 1) else some (.inl G)) (el (λI=>bd (idx x1 I) λV=>bd (psh H V) λW=>some<|.next (W,d_ I 1)) some) else some (.brk (H,G))) n (([]:Bt),x2)) (el (un2 λH G=>some (([]:Bt),x2,false))<|λY=>some Y))
structure h_z where
 impl_checker_value:a_3->Int->Int->Option (P_×Int)
 impl_checker_array:a_3->b_->Int->Option (P_×Int)
 impl_checker_choice:a_3->b_->Int->Option (P_×Int)
 impl_checker_option:a_3->b_->Int->Option (P_×Int)
 impl_checker_checked:a_3->b_->Int->Option (P_×Int)
def i_T (n:Nat)(rec:h_z)(x1:a_3)(x2:Int)(x3:Int):Option (P_×Int) :=
 bd (idx x1.d.rules x2) λG=>if (G.kind==1) then bd3 (f_m x1 x2 x3) λam Y a0=>some (Y,a0) else if (G.kind==2) then bd (i_S (⟨(⟨x1.d.rules⟩:c_),x1.b,d_ x1.applied 1⟩:a_3) G x3) λa1=>some (a1,d_ x1.applied 1) else if (G.kind==3) then bd (e_C (⟨(⟨x1.d.rules⟩:c_),x1.b,d_ x1.applied 1⟩:a_3) x3 G.size) λa2=>some (a2,d_ x1.applied 1) else if (G.kind==4) then bd (idx G.kids 0) λa3=>bd3 (f_m (⟨(⟨x1.d.rules⟩:c_),x1.b,d_ x1.applied 1⟩:a_3) a3 x3) λa4 I J=>if (I.code != 0) then some (I,J) else bd (e_C (⟨(⟨x1.d.rules⟩:c_),x1.b,J⟩:a_3) I.at_ a4) λa5=>some (a5,J) else if (G.kind==5) then bd2 (rec.impl_checker_array (⟨(⟨x1.d.rules⟩:c_),x1.b,d_ x1.applied 1⟩:a_3) G x3) λa6 a7=>some (a6,a7) else if (G.kind==6) then bd (p_ (σ:=Int×Int×Int) (ρ:=P_×Int) (λa8=>un3 λL O V=>bd (idx G.kids (a8:Int)) λa9=>bd2 (rec.impl_checker_value (⟨(⟨x1.d.rules⟩:c_),x1.b,L⟩:a_3) a9 O) λH W=>if (H.code != 0) then some (.brk (W,H.at_,H.code)) else some (.next (W,H.at_,H.code))) G.kids.length 0 (d_ x1.applied 1,x3,0)) (el (un3 λL O V=>some ((⟨O,V⟩:P_),L))<|λaa=>some aa) else if (G.kind==7) then bd2 (rec.impl_checker_choice (⟨(⟨x1.d.rules⟩:c_),x1.b,d_ x1.applied 1⟩:a_3) G x3) λab ad=>some (ab,ad) else if (G.kind==8) then bd2 (rec.impl_checker_option (⟨(⟨x1.d.rules⟩:c_),x1.b,d_ x1.applied 1⟩:a_3) G x3) λae af=>some (ae,af) else if (G.kind==9) then bd2 (rec.impl_checker_checked (⟨(⟨x1.d.rules⟩:c_),x1.b,d_ x1.applied 1⟩:a_3) G x3) λah ai=>some (ah,ai) else bd (idx G.bytes 0) λaj=>bd3 (h_y n x1.b x3 aj) λan ak al=>if (!al) then some ((⟨x3,1⟩:P_),d_ x1.applied 1) else some ((⟨ak,0⟩:P_),d_ x1.applied 1)
def i_U (n:Nat)(rec:h_z)(x1:a_3)(x2:b_)(x3:Int):Option (P_×Int) :=
 bd (idx x2.kids 0) λY=>bd3 (f_m x1 Y x3) λO L V=>bd (α:=Bool) (if (L.code==0) then some (decide<|40<O) else some false) (λa0=>if a0 then some ((⟨x3,6⟩:P_),V) else bd (V_ (σ:=Int×Int×Int×Int) (ρ:=P_×Int) (un4 λG H I J=>bd (α:=Bool) (if (decide<|0<G) then some (J==0) else some false) (λa1=>if a1 then bd (idx x2.kids 1) λa2=>bd2 (rec.impl_checker_value (⟨(⟨x1.d.rules⟩:c_),x1.b,H⟩:a_3) a2 I) λW a3=>some (.next (y_ G 1,a3,W.at_,W.code)) else some (.brk (G,H,I,J)))) n (O,V,L.at_,L.code)) (el (un4 λG H I J=>some ((⟨I,J⟩:P_),H))<|λa4=>some a4))
def i_V (n:Nat)(rec:h_z)(x1:a_3)(x2:b_)(x3:Int):Option (P_×Int) :=
 bd (idx x2.kids 0) λJ=>bd3 (f_m x1 J x3) λL G H=>if (G.code != 0) then some (G,H) else bd (p_ (σ:=Unit) (ρ:=P_×Int) (λI=>(λ(_:Unit)=>bd (idx x2.tags (I:Int)) λO=>if (O==L) then bd (idx x2.kids ((I+1:Nat):Int)) λV=>bd2 (rec.impl_checker_value (⟨(⟨x1.d.rules⟩:c_),x1.b,H⟩:a_3) V G.at_) λW Y=>some (.ret (W,Y)) else some (.next ()))) x2.tags.length 0 ()) (el (λ(_:Unit)=>some ((⟨x3,3⟩:P_),H))<|λa0=>some a0)
def i_W (n:Nat)(rec:h_z)(x1:a_3)(x2:b_)(x3:Int):Option (P_×Int) :=
 bd (e_C x1 x3 1) λG=>bd (α:=Bool) (if (G.code != 0) then some true else bd (idx x1.b x3) λH=>some<|(byteI H)==(byteI (0:UInt8))) (λI=>if I then some (G,x1.applied) else bd (idx x1.b x3) λJ=>if (decide<|(byteI (1:UInt8))<(byteI J)) then some ((⟨x3,4⟩:P_),x1.applied) else bd (idx x2.kids 0) λL=>bd2 (rec.impl_checker_value x1 L G.at_) λO V=>some (O,V))
def i_X (n:Nat)(rec:h_z)(x1:a_3)(x2:b_)(x3:Int):Option (P_×Int) :=
 bd (idx x2.kids 0) λJ=>bd2 (rec.impl_checker_value x1 J x3) λG H=>if (G.code != 0) then some (G,H) else bd (e_C (⟨(⟨x1.d.rules⟩:c_),x1.b,H⟩:a_3) G.at_ 1) λI=>bd (α:=Bool) (if (I.code==0) then bd (idx x1.b G.at_) λL=>bd (slc x1.b x3 G.at_) λO=>bd (h_x O) λV=>some ((byteI L) != V) else some false) (λW=>if W then some ((⟨G.at_,5⟩:P_),H) else some (I,H))
def a_G:Nat->h_z
 | 0=>⟨λ_ _ _=>none,λ_ _ _=>none,λ_ _ _=>none,λ_ _ _=>none,λ_ _ _=>none⟩
 | n+1=>⟨i_T n<|a_G n,i_U n<|a_G n,i_V n<|a_G n,i_W n<|a_G n,i_X n<|a_G n⟩
def p_U (n:Nat):=(a_G n).impl_checker_value
def h_A (n:Nat)(x1:c_)(x2:Int)(x3:Bt)(x4:Int):Option (Int×Int) :=
 bd (α:=Bool) (bd (f_l n x1 x2) λH=>if (!H) then some true else if (decide<|x4<0) then some true else if (decide<|(x3.length:Int)<x4) then some true else some (decide<|400<(x3.length:Int))) (λI=>if I then some (0,8) else bd2 (p_U n (⟨(⟨x1.rules⟩:c_),x3,0⟩:a_3) x2 x4) λG J=>some (G.at_,G.code))
def e_D (n:Nat)(x1:c_h)(x2:Int):Option (Bool×Int) :=
 bd2 (h_A n (⟨x1.d.rules⟩:c_) x2 x1.b x1.at_) λG H=>some (H==0,G)
def k_L (n:Nat)(x1:c_h)(x2:Int):Option (Int×Bool×Int) :=
 bd2 (e_D n x1 x2) λH G=>if (!H) then some (0,false,G) else bd (slc x1.b x1.at_ G) λI=>bd (idx x1.d.rules x2) λJ=>bd (g_o I J.little) λL=>some (L,true,G)
def m_O (n:Nat)(x1:c_h)(x2:b_)(x3:Str):Option (Bool×Int×Int) :=
 bd2 (g_l x3) λG V=>bd (idx x2.kids 0) λW=>bd3 (k_L n x1 W) λH Y I=>bd (α:=Bool) (if (!V) then some true else if (!Y) then some true else if (decide<|40<H) then some true else some (decide<|H<=G)) (λa0=>if a0 then some (false,x1.rule,I) else bd (V_ (σ:=Int×Int) (ρ:=Bool×Int×Int) (un2 λJ L=>if (decide<|0<J) then bd (idx x2.kids 1) λa1=>bd2 (e_D n (⟨(⟨x1.d.rules⟩:c_),x1.b,x1.rule,L⟩:c_h) a1) λa2 O=>if (!a2) then some (.ret (false,x1.rule,O)) else some (.next (y_ J 1,O)) else bd (idx x2.kids 1) λa3=>some<|.ret (true,a3,L)) n (G,I)) (el (λ_=>none)<|λa4=>some a4))
def m_P (n:Nat)(x1:c_h)(x2:b_)(x3:Str):Option (Bool×Int×Int) :=
 bd (p_ (σ:=Int) (ρ:=Bool×Int×Int) (λH=>(λG=>bd (idx x2.names (H:Int)) λJ=>if (J.b==x3.b) then bd (idx x2.kids (H:Int)) λL=>some (.ret (true,L,G)) else bd (α:=Bool×Int) (bd (g_m x2.names x3) λO=>if (!O) then some (true,G) else bd (idx x2.kids (H:Int)) λV=>bd2 (e_D n (⟨(⟨x1.d.rules⟩:c_),x1.b,x1.rule,G⟩:c_h) V) λW Y=>some (!W,Y)) (un2 λa0 I=>if a0 then some (.ret (false,x1.rule,I)) else some (.next I)))) x2.names.length 0 x1.at_) (el (λG=>some (false,x1.rule,G))<|λa1=>some a1)
def p_V (x1:Int)(x2:Int):Option Bool :=
 some (x1==x2)
def m_Q (x1:List Int)(G:Int):Option Int :=
 bd (p_ (σ:=Unit) (ρ:=Int) (λk10=>(λ(_:Unit)=>bd (idx x1 (k10:Int)) λH=>bd (p_V H G) λI=>if I then some (.ret (k10:Int)) else some (.next ()))) x1.length 0 ()) (el (λ(_:Unit)=>some (-1))<|λJ=>some J)
def m_R (n:Nat)(x1:c_h)(x2:b_):Option (Bool×Int×Int) :=
 bd (idx x2.kids 0) λI=>bd3 (k_L n x1 I) λJ L G=>bd (m_Q x2.tags J) λH=>bd (α:=Bool) (if (!L) then some true else some (decide<|H<0)) (λO=>if O then some (false,x1.rule,G) else bd (idx x2.kids<|d_ H 1) λV=>some (true,V,G))
def k_M (n:Nat)(x1:c_h)(x2:Str):Option (Bool×Int×Int) :=
 bd (idx x1.d.rules x1.rule) λG=>if (G.kind==5) then bd3 (m_O n x1 G x2) λH I J=>some (H,I,J) else if (G.kind==6) then bd3 (m_P n x1 G x2) λL O V=>some (L,O,V) else bd (α:=Bool) (if (G.kind==7) then some (x2.b==(⟨[42]⟩:Str).b) else some false) (λW=>if W then bd3 (m_R n x1 G) λY a0 a1=>some (Y,a0,a1) else bd (α:=Bool) (if (G.kind==8) then some (x2.b==(⟨[63]⟩:Str).b) else some false) (λa2=>bd (α:=Sum Int<|Bool×Int×Int) (if a2 then bd (α:=Bool) (if (decide<|(x1.b.length:Int)<=x1.at_) then some true else bd (idx x1.b x1.at_) λa3=>some<|(byteI a3) != (byteI (1:UInt8))) (λa4=>if a4 then some (.inr (false,x1.rule,x1.at_)) else some (.inl<|d_ x1.at_ 1)) else bd (α:=Bool) (if (G.kind==9) then some (x2.b==(⟨[43]⟩:Str).b) else some false) (λa5=>if a5 then some (.inl x1.at_) else some (.inr (false,x1.rule,x1.at_))))<|el (λa6=>bd (idx G.kids 0) λa7=>some (true,a7,a6)) some))
def m_S (n:Nat)(x1:c_)(x2:Bt)(x3:Str):Option (g_×Bool) :=
 bd2 (h_v n x3) λI J=>bd (α:=Bool) (if (!J) then some true else bd (h_w n x1) λL=>if (!L) then some true else some (decide<|400<(x2.length:Int))) (λO=>if O then some ((⟨(⟨[]⟩:Str),0,0,0⟩:g_),false) else bd (g_n x1) λV=>bd (p_ (σ:=Int×Int) (ρ:=g_×Bool) (λW=>un2 λG H=>bd (idx I (W:Int)) λY=>bd3 (k_M n (⟨(⟨x1.rules⟩:c_),x2,G,H⟩:c_h) Y) λa0 a1 a2=>if (!a0) then some (.ret ((⟨(⟨[]⟩:Str),0,0,0⟩:g_),false)) else some (.next (a1,a2))) I.length 0 (V,0)) (el (un2 λG H=>bd2 (e_D n (⟨(⟨x1.rules⟩:c_),x2,G,H⟩:c_h) G) λa3 a4=>if (!a3) then some ((⟨(⟨[]⟩:Str),0,0,0⟩:g_),false) else some ((⟨x3,G,H,a4⟩:g_),true))<|λa5=>some a5))
def c_g (x1:Int)(x2:Int):Option (Option<|Int×Int) :=
 some (some (x1,x2))
def f_n (x1:a_z)(x2:Int)(x3:Int):Option (Bt×(Option<|Int×Int)) :=
 if (decide<|(y_ (x1.b.length:Int) x2)<x3) then bd (c_g x2 1) λG=>some (([]:Bt),G) else bd (slc x1.b x2<|d_ x2 x3) λH=>some (H,none)
def f_o (x1:a_z)(x2:Int)(x3:Int):Option (Int×Int×(Option<|Int×Int)) :=
 bd (idx x1.d.rules x2) λG=>bd2 (f_n x1 x3 G.size) λI H=>if H.isSome then some (0,x3,H) else bd (g_o I G.little) λJ=>some (J,d_ x3 G.size,none)
def i_Y (x1:a_z)(x2:b_)(x3:Int):Option (Int×(Option<|Int×Int)) :=
 bd (p_ (σ:=Unit) (ρ:=Int×(Option<|Int×Int)) (λk10=>(λ(_:Unit)=>bd (idx x2.bytes (k10:Int)) λG=>if (decide<|(x1.b.length:Int)<=(d_ x3 (k10:Int))) then bd (c_g x3 1) λH=>some (.ret (x3,H)) else bd (idx x1.b<|d_ x3 (k10:Int)) λI=>if ((byteI I) != (byteI G)) then bd (c_g (d_ x3 (k10:Int)) 2) λJ=>some (.ret (x3,J)) else some (.next ()))) x2.bytes.length 0 ()) (el (λ(_:Unit)=>some (d_ x3 (x2.bytes.length:Int),none))<|λL=>some L)
def h_B (x1:a_z)(x2:Int)(x3:Int):Option (Val×Int×(Option<|Int×Int)) :=
 bd2 (f_n x1 x2 x3) λH G=>if G.isSome then some ((⟨0,([]:Bt),([]:List Val)⟩:Val),x2,G) else bd (app ([]:Bt) H) λI=>some ((⟨0,I,([]:List Val)⟩:Val),d_ x2 x3,none)
structure g_p where
 impl_fileReader_value:a_z->Int->Int->Option (Val×Int×(Option<|Int×Int))
 impl_fileReader_array:a_z->b_->Int->Option (Val×Int×(Option<|Int×Int))
 impl_fileReader_items:a_z->Val->(List Int)->Int->Option (Val×Int×(Option<|Int×Int))
 impl_fileReader_choice:a_z->b_->Int->Option (Val×Int×(Option<|Int×Int))
 impl_fileReader_option:a_z->b_->Int->Option (Val×Int×(Option<|Int×Int))
 impl_fileReader_checked:a_z->b_->Int->Option (Val×Int×(Option<|Int×Int))
def i_Z (n:Nat)(rec:g_p)(x1:a_z)(x2:Int)(x3:Int):Option (Val×Int×(Option<|Int×Int)) :=
 bd (idx x1.d.rules x2) λG=>if (G.kind==1) then bd3 (f_o x1 x2 x3) λI J L=>some ((⟨I,([]:Bt),([]:List Val)⟩:Val),J,L) else if (G.kind==2) then bd2 (i_Y x1 G x3) λO V=>some ((⟨0,([]:Bt),([]:List Val)⟩:Val),O,V) else if (G.kind==3) then bd3 (h_B x1 x3 G.size) λW Y a0=>some (W,Y,a0) else if (G.kind==4) then bd (idx G.kids 0) λa1=>bd3 (f_o x1 a1 x3) λa2 a3 H=>if H.isSome then some ((⟨0,([]:Bt),([]:List Val)⟩:Val),x3,H) else bd3 (h_B x1 a3 a2) λa4 a5 a6=>some (a4,a5,a6) else if (G.kind==5) then bd3 (rec.impl_fileReader_array x1 G x3) λa7 a8 a9=>some (a7,a8,a9) else if (G.kind==6) then bd3 (rec.impl_fileReader_items x1 (⟨0,([]:Bt),([]:List Val)⟩:Val) G.kids x3) λaa ab ad=>some (aa,ab,ad) else if (G.kind==7) then bd3 (rec.impl_fileReader_choice x1 G x3) λae af ah=>some (ae,af,ah) else if (G.kind==8) then bd3 (rec.impl_fileReader_option x1 G x3) λai aj ak=>some (ai,aj,ak) else if (G.kind==9) then bd3 (rec.impl_fileReader_checked x1 G x3) λal am an=>some (al,am,an) else bd (idx G.bytes 0) λap=>bd3 (h_y n x1.b x3 ap) λaq ar au=>if (!au) then bd (c_g x3 1) λav=>some ((⟨0,([]:Bt),([]:List Val)⟩:Val),x3,av) else some ((⟨0,aq,([]:List Val)⟩:Val),ar,none)
def j_0 (n:Nat)(rec:g_p)(x1:a_z)(x2:b_)(x3:Int):Option (Val×Int×(Option<|Int×Int)) :=
 bd (idx x2.kids 0) λL=>bd3 (f_o x1 L x3) λH O I=>if I.isSome then some ((⟨0,([]:Bt),([]:List Val)⟩:Val),x3,I) else if (decide<|40<H) then bd (c_g x3 6) λV=>some ((⟨0,([]:Bt),([]:List Val)⟩:Val),x3,V) else bd (mk0 0 H) λJ=>bd (p_ (σ:=List Int) (ρ:=Val×Int×(Option<|Int×Int)) (λW=>(λG=>bd (idx x2.kids 1) λY=>bd (upd G (W:Int) Y) λa0=>some<|.next a0)) J.length 0 J)<|el (λG=>bd3 (rec.impl_fileReader_items x1 (⟨0,([]:Bt),([]:List Val)⟩:Val) G O) λa1 a2 a3=>some (a1,a2,a3))<|λa4=>some a4
def j_1 (n:Nat)(rec:g_p)(x1:a_z)(x2:Val)(x3:List Int)(x4:Int):Option (Val×Int×(Option<|Int×Int)) :=
 bd (p_ (σ:=Int×(List Val)) (ρ:=Val×Int×(Option<|Int×Int)) (λJ=>un2 λG H=>bd (idx x3 (J:Int)) λL=>bd3 (rec.impl_fileReader_value x1 L G) λO V I=>if I.isSome then some (.ret ((⟨0,([]:Bt),([]:List Val)⟩:Val),G,I)) else bd (psh H O) λW=>some<|.next (V,W)) x3.length 0 (x4,x2.items)) (el (un2 λG H=>some ((⟨x2.number,x2.bytes,H⟩:Val),G,none))<|λY=>some Y)
def j_2 (n:Nat)(rec:g_p)(x1:a_z)(x2:b_)(x3:Int):Option (Val×Int×(Option<|Int×Int)) :=
 bd (idx x2.kids 0) λI=>bd3 (f_o x1 I x3) λG J H=>if H.isSome then some ((⟨0,([]:Bt),([]:List Val)⟩:Val),x3,H) else bd (p_ (σ:=Unit) (ρ:=Val×Int×(Option<|Int×Int)) (λk10=>(λ(_:Unit)=>bd (idx x2.tags (k10:Int)) λL=>if (L==G) then bd (slc x2.kids ((k10+1:Nat):Int)<|d_ (k10:Int) 2) λO=>bd3 (rec.impl_fileReader_items x1 (⟨G,([]:Bt),([]:List Val)⟩:Val) O J) λV W Y=>some (.ret (V,W,Y)) else some (.next ()))) x2.tags.length 0 ()) (el (λ(_:Unit)=>bd (c_g x3 3) λa0=>some ((⟨0,([]:Bt),([]:List Val)⟩:Val),x3,a0))<|λa1=>some a1)
def j_3 (n:Nat)(rec:g_p)(x1:a_z)(x2:b_)(x3:Int):Option (Val×Int×(Option<|Int×Int)) :=
 bd2 (f_n x1 x3 1) λG H=>if H.isSome then some ((⟨0,([]:Bt),([]:List Val)⟩:Val),x3,H) else bd (idx G 0) λI=>if (decide<|(byteI (1:UInt8))<(byteI I)) then bd (c_g x3 4) λJ=>some ((⟨0,([]:Bt),([]:List Val)⟩:Val),x3,J) else bd (idx G 0) λL=>if ((byteI L)==(byteI (0:UInt8))) then some ((⟨0,([]:Bt),([]:List Val)⟩:Val),d_ x3 1,none) else bd3 (rec.impl_fileReader_items x1 (⟨0,([]:Bt),([]:List Val)⟩:Val) x2.kids<|d_ x3 1) λO V W=>some (O,V,W)
def j_4 (n:Nat)(rec:g_p)(x1:a_z)(x2:b_)(x3:Int):Option (Val×Int×(Option<|Int×Int)) :=
 bd3 (rec.impl_fileReader_items x1 (⟨0,([]:Bt),([]:List Val)⟩:Val) x2.kids x3) λJ G H=>if H.isSome then some ((⟨0,([]:Bt),([]:List Val)⟩:Val),x3,H) else bd2 (f_n x1 G 1) λL I=>if I.isSome then some ((⟨0,([]:Bt),([]:List Val)⟩:Val),x3,I) else bd (idx L 0) λO=>bd (slc x1.b x3 G) λV=>bd (h_x V) λW=>if ((byteI O) != W) then bd (c_g G 5) λY=>some ((⟨0,([]:Bt),([]:List Val)⟩:Val),x3,Y) else some (J,d_ G 1,none)
def a_e:Nat->g_p
 | 0=>⟨λ_ _ _=>none,λ_ _ _=>none,λ_ _ _ _=>none,λ_ _ _=>none,λ_ _ _=>none,λ_ _ _=>none⟩
 | n+1=>⟨i_Z n<|a_e n,j_0 n<|a_e n,j_1 n<|a_e n,j_2 n<|a_e n,j_3 n<|a_e n,j_4 n<|a_e n⟩
def k_N (n:Nat):=(a_e n).impl_fileReader_value
def g_q (n:Nat):=(a_e n).impl_fileReader_items
def e_E (n:Nat)(x1:c_)(x2:Int)(x3:Bt)(x4:Int):Option (Val×Int×Int) :=
 bd (α:=Bool) (bd (f_l n x1 x2) λH=>if (!H) then some true else if (decide<|x4<0) then some true else if (decide<|(x3.length:Int)<x4) then some true else some (decide<|400<(x3.length:Int))) (λI=>if I then some ((⟨0,([]:Bt),([]:List Val)⟩:Val),0,8) else bd3 (k_N n (⟨(⟨x1.rules⟩:c_),x3⟩:a_z) x2 x4) λJ L G=>if G.isSome then (bd2 G λO V=>some ((⟨0,([]:Bt),([]:List Val)⟩:Val),O,V)) else some (J,L,0))
def j_5 (n:Nat)(x1:c_)(x2:Bt):Option (Val×Int×Int) :=
 bd (α:=Int×Bt×(List Val)×Int×Int) (bd (g_n x1) λJ=>bd3 (e_E n x1 J x2 0) λG L O=>some (G.number,G.bytes,G.items,L,O)) (un5 λV W Y H I=>bd (α:=Bool) (if (I==0) then some (decide<|H<(x2.length:Int)) else some false) (λa0=>if a0 then some ((⟨0,([]:Bt),([]:List Val)⟩:Val),H,7) else some ((⟨V,W,Y⟩:Val),H,I)))
def j_6 (n:Nat)(x1:c_)(x2:Bt)(x3:Str):Option (Val×Bool) :=
 bd2 (f_g n x1 x2 x3) λG H=>if (!H) then some ((⟨0,([]:Bt),([]:List Val)⟩:Val),false) else bd3 (e_7 n x1 G.rule x2 G.start) λI J L=>some (I,true)
def m_T (n:Nat)(x1:c_)(x2:Bt)(x3:Str):Option (Val×Int×Bool) :=
 bd2 (m_S n x1 x2 x3) λG H=>if (!H) then some ((⟨0,([]:Bt),([]:List Val)⟩:Val),(-1),false) else bd3 (e_E n x1 G.rule x2 G.start) λI J L=>some (I,G.rule,true)
structure p_W where
 spec_l19Build:c_->Int->Bt->Int->Str->Option ((List g_)×Int)
def j_7 (n:Nat)(rec:p_W)(x1:c_)(x2:Int)(x3:Bt)(x4:Int)(x5:Str):Option ((List g_)×Int) :=
 bd (idx x1.rules x2) λG=>bd3 (e_7 n x1 x2 x3 x4) λI J aa=>bd (α:=Bool) (if (G.kind==5) then some (G.kind==5) else some (G.kind==7)) (λV=>bd (α:=Int) (if V then bd (idx G.kids 0) λW=>bd3 (c_T x1 W x3 x4) λab Y ad=>some Y else bd (α:=Int) (if (G.kind==8) then some (d_ x4 1) else some x4) (λa0=>some a0))<|λa1=>bd (p_ (σ:=(List g_)×Int) (ρ:=(List g_)×Int) (λL=>un2 λH O=>bd (cat x5 (⟨[47]⟩:Str)) λa2=>bd (b_9 G I.number (L:Int)) λa3=>bd (e_6 n G (L:Int)) λa4=>bd (cat a2 a4) λa5=>bd2 (rec.spec_l19Build x1 a3 x3 O a5) λa6 a7=>bd (app H a6) λa8=>some<|.next (a8,a7)) I.items.length 0 ([(⟨x5,x2,x4,J⟩:g_)],a1))<|el (un2 λH O=>some (H,J))<|λa9=>some a9)
def f_p:Nat->p_W
 | 0=>⟨λ_ _ _ _ _=>none⟩
 | n+1=>⟨j_7 n<|f_p n⟩
def k_O (n:Nat):=(f_p n).spec_l19Build
def j_8 (n:Nat)(x1:c_)(x2:Bt):Option ((List g_)×Bool) :=
 bd (i_N n x1 x2) λG=>if (!G) then some (([]:List g_),false) else bd (g_j x1) λH=>bd2 (k_O n x1 H x2 0 (⟨[]⟩:Str)) λI J=>some (I,true)
def g_r (x1:Int):Option Str :=
 bd (j_F x1) λG=>some G
def g_s (n:Nat)(x1:c_)(x2:Int)(x3:Int):Option Str :=
 bd (α:=Bool) (bd (f_l n x1 x2) λH=>if (!H) then some true else some (decide<|x3<0)) (λI=>if I then some (⟨[]⟩:Str) else bd (idx x1.rules x2) λG=>if (G.kind==5) then bd (g_r x3) λJ=>some J else bd (α:=Bool) (if (G.kind==6) then some (decide<|x3<(G.names.length:Int)) else some false) (λL=>if L then bd (idx G.names x3) λO=>some O else if (decide<|0<x3) then some (⟨[]⟩:Str) else if (G.kind==7) then some (⟨[42]⟩:Str) else if (G.kind==8) then some (⟨[63]⟩:Str) else if (G.kind==9) then some (⟨[43]⟩:Str) else some (⟨[]⟩:Str)))
def e_F (x1:c_)(x2:Int)(x3:Val)(x4:Int):Option Int :=
 bd (idx x1.rules x2) λG=>if (G.kind==5) then bd (idx G.kids 1) λI=>some I else bd (α:=Sum Unit Int) (if (G.kind==6) then if (decide<|x4<(G.kids.length:Int)) then bd (idx G.kids x4) λJ=>some (.inr J) else some (.inl ()) else bd (α:=Sum Unit<|Sum Unit Int) (if (G.kind==7) then bd (p_ (σ:=Unit) (ρ:=Int) (λH=>(λ(_:Unit)=>bd (idx G.tags (H:Int)) λL=>if (L==x3.number) then bd (idx G.kids ((H+1:Nat):Int)) λO=>some (.ret O) else some (.next ()))) G.tags.length 0 ()) (el (λ(_:Unit)=>some<|.inl ())<|λV=>some<|.inr<|.inr V) else bd (α:=Bool) (if (G.kind==8) then some (G.kind==8) else some (G.kind==9)) (λW=>if W then bd (idx G.kids 0) λY=>some (.inr<|.inr Y) else some (.inl ()))) (el (λ(_:Unit)=>some<|.inl ()) some)) (el (λ(_:Unit)=>some (-1)) some)
structure p_X where
 impl_indexer_part:d_I->Str->Int->Val->Int->Option (Int×(List g_))
def j_9 (n:Nat)(rec:p_X)(x1:d_I)(x2:Str)(x3:Int)(x4:Val)(x5:Int):Option (Int×(List g_)) :=
 bd (psh x1.list_ (⟨x2,x3,x5,0⟩:g_)) λV=>bd2 (h_A n (⟨x1.d.rules⟩:c_) x3 x1.b x5) λL ad=>bd (idx x1.d.rules x3) λG=>bd (α:=Bool) (if (G.kind==5) then some (G.kind==5) else some (G.kind==7)) (λW=>bd (α:=Int) (if W then bd (idx G.kids 0) λY=>bd (idx x1.d.rules Y) λa0=>some (d_ x5 a0.size) else bd (α:=Int) (if (G.kind==8) then some (d_ x5 1) else some x5) (λa1=>some a1))<|λa2=>bd (p_ (σ:=Int×(List g_)) (ρ:=Int×(List g_)) (λI=>un2 λO H=>bd (cat x2 (⟨[47]⟩:Str)) λa3=>bd (idx x4.items (I:Int)) λa4=>bd (g_s n (⟨x1.d.rules⟩:c_) x3 (I:Int)) λa5=>bd (cat a3 a5) λa6=>bd (e_F (⟨x1.d.rules⟩:c_) x3 x4 (I:Int)) λa7=>bd2 (rec.impl_indexer_part (⟨(⟨x1.d.rules⟩:c_),x1.b,H⟩:d_I) a6 a7 a4 O) λa8 a9=>some<|.next (a8,a9)) x4.items.length 0 (a2,V))<|el (un2 λO H=>bd (idx H (x1.list_.length:Int)) λJ=>bd (upd H (x1.list_.length:Int) (⟨J.path,J.rule,J.start,L⟩:g_)) λaa=>some (L,aa))<|λab=>some ab)
def f_q:Nat->p_X
 | 0=>⟨λ_ _ _ _ _=>none⟩
 | n+1=>⟨j_9 n<|f_q n⟩
def j_a (n:Nat):=(f_q n).impl_indexer_part
def j_b (n:Nat)(x1:c_)(x2:Bt):Option ((List g_)×Bool) :=
 bd3 (j_5 n x1 x2) λG L H=>if (H != 0) then some (([]:List g_),false) else bd (g_n x1) λI=>bd2 (j_a n (⟨(⟨x1.rules⟩:c_),x2,([]:List g_)⟩:d_I) (⟨[]⟩:Str) I G 0) λO J=>some (J,true)
def j_c (n:Nat)(x1:Str):Option ((List Str)×Bool) :=
 if (x1.b==(⟨[]⟩:Str).b) then some (([]:List Str),true) else bd (h_o n x1 (47:UInt8)) λG=>bd (V_ (σ:=Int) (ρ:=(List Str)×Bool) (λH=>if (decide<|H<(G.length:Int)) then bd (α:=Bool) (bd (idx G H) λJ=>bd (e_A n J) λL=>if (!L) then bd (idx G H) λO=>if (O.b != (⟨[35]⟩:Str).b) then bd (idx G H) λV=>some (V.b != (⟨[46,46]⟩:Str).b) else some false else some false) (λW=>if W then some (.ret (([]:List Str),false)) else some (.next<|d_ H 1)) else some (.brk H)) n 1) (el (λH=>bd (α:=(List Str)×Bool) (bd (slc G 1 (G.length:Int)) λI=>bd (idx G 0) λY=>if (Y.b==(⟨[]⟩:Str).b) then some (I,decide<|1<(G.length:Int)) else some (I,false))<|un2 λa0 a1=>some (a0,a1))<|λa2=>some a2)
def j_d (n:Nat)(x1:List Str)(x2:List Str):Option Bool :=
 bd (mk0 false<|d_ (x2.length:Int) 1) λL=>bd (upd L 0 true) λO=>bd (p_ (σ:=List Bool) (ρ:=Bool) (λI=>(λJ=>bd (mk0 false<|d_ (x2.length:Int) 1) λV=>bd (V_ (σ:=(List Bool)×Int) (ρ:=Bool) (un2 λH G=>if (decide<|G<=(x2.length:Int)) then bd (α:=List Bool) (bd (idx x1 (I:Int)) λW=>if (W.b==(⟨[46,46]⟩:Str).b) then bd (α:=List Bool) (bd (idx J G) λY=>if Y then bd (upd H G true) λa0=>some a0 else if (decide<|0<G) then bd (idx H<|y_ G 1) λa1=>bd (upd H G a1) λa2=>some a2 else bd (upd H G false) λa3=>some a3) (λa4=>some a4) else bd (α:=Bool) (if (G==0) then some true else bd (idx J<|y_ G 1) λa5=>some (!a5)) (λa6=>if a6 then some H else bd (idx x2<|y_ G 1) λa7=>bd2 (h_p n a7) λav a8=>bd (α:=List Bool) (bd (idx x1 (I:Int)) λa9=>if (a9.b==(⟨[35]⟩:Str).b) then if a8 then bd (upd H G true) λaa=>some aa else bd (idx x1 (I:Int)) λab=>bd (idx x2<|y_ G 1) λad=>if (ab.b==ad.b) then bd (idx x1 (I:Int)) λae=>bd (upd H G<|ae.b != (⟨[35]⟩:Str).b) λaf=>some af else bd (upd H G false) λah=>some ah else bd (idx x1 (I:Int)) λai=>bd (idx x2<|y_ G 1) λaj=>if (ai.b==aj.b) then bd (idx x1 (I:Int)) λak=>bd (upd H G<|ak.b != (⟨[35]⟩:Str).b) λal=>some al else bd (upd H G false) λam=>some am)<|λan=>some an)) (λap=>some<|.next (ap,d_ G 1)) else some (.brk (H,G))) n (V,0))<|el (un2 λH G=>some<|.next H)<|λaq=>some<|.ret aq)) x1.length 0 O)<|el (λJ=>bd (idx J (x2.length:Int)) λar=>some ar)<|λau=>some au
def j_e (n:Nat)(x1:Str)(x2:Str):Option Bool :=
 bd2 (j_c n x1) λG H=>bd2 (g_i n x2) λI J=>bd (α:=Bool) (if H then if J then bd (j_d n G I) λL=>some L else some false else some false)<|λO=>some O
def j_f (n:Nat)(x1:c_)(x2:Bt)(x3:Str):Option (List g_) :=
 bd2 (j_8 n x1 x2) λH a0=>bd (p_ (σ:=List g_) (ρ:=List g_) (λI=>(λG=>bd (idx H (I:Int)) λJ=>bd (j_e n x3 J.path) λL=>bd (α:=List g_) (if L then bd (idx H (I:Int)) λO=>bd (psh G O) λV=>some V else some G)<|λW=>some<|.next W)) H.length 0 ([]:List g_))<|el (λG=>some G)<|λY=>some Y
def g_t (n:Nat)(x1:Str):Option Bool :=
 bd (α:=Bool) (bd (f_j n x1) λG=>if G then some true else if (x1.b==(⟨[35]⟩:Str).b) then some true else some (x1.b==(⟨[46,46]⟩:Str).b)) (λH=>some H)
def k_P (n:Nat)(x1:Str):Option ((List Str)×Bool) :=
 if (x1.b==(⟨[]⟩:Str).b) then some ([],true) else bd (idx x1.b 0) λc=>if (byteI c != byteI (47:UInt8)) then some ([],false) else bd (f_h x1 (47:UInt8)) λl=>bd (slc l 1 (l.length:Int)) λparts=>bd (g_g (g_t n) parts) λoks=>if parts.length<LIM then some (if oks.all id then (parts,true) else ([],false)) else none
def j_g (n:Nat)(x1:Str):Option ((List Str)×Bool) :=
 bd2 (k_P n x1) λG H=>some (G,H)
def j_h (x1:List Str)(x2:Int)(x3:Str):Option Bool :=
 bd (idx x1 x2) λG=>if (G.b==(⟨[35]⟩:Str).b) then bd2 (g_l x3) λJ H=>some H else bd (idx x1 x2) λI=>some<|I.b==x3.b
def k_Q (x1:List Str)(x2:List Str):Option Bool :=
 bd (mk0 false<|d_ (x2.length:Int) 1) λJ=>bd (upd J 0 true) λL=>bd (p_ (σ:=List Bool) (ρ:=Bool) (λI=>(λH=>bd (mk0 false<|d_ (x2.length:Int) 1) λO=>bd (p_ (σ:=List Bool) (ρ:=Bool) (λk10=>(λG=>bd (idx x1 (I:Int)) λV=>bd (α:=List Bool) (if (V.b==(⟨[46,46]⟩:Str).b) then bd (α:=List Bool) (bd (idx H (k10:Int)) λW=>if W then bd (upd G (k10:Int) true) λY=>some Y else if (decide<|0<(k10:Int)) then bd (idx G<|y_ (k10:Int) 1) λa0=>bd (upd G (k10:Int) a0) λa1=>some a1 else bd (upd G (k10:Int) false) λa2=>some a2) (λa3=>some a3) else bd (α:=List Bool) (if (decide<|0<(k10:Int)) then bd (α:=List Bool) (bd (idx H<|y_ (k10:Int) 1) λa4=>if a4 then bd (idx x2<|y_ (k10:Int) 1) λa5=>bd (j_h x1 (I:Int) a5) λa6=>bd (upd G (k10:Int) a6) λa7=>some a7 else bd (upd G (k10:Int) false) λa8=>some a8) (λa9=>some a9) else some G) (λaa=>some aa))<|λab=>some<|.next ab)) H.length 0 O)<|el (λG=>some<|.next G)<|λad=>some<|.ret ad)) x1.length 0 L)<|el (λH=>bd (idx H (x2.length:Int)) λae=>some ae)<|λaf=>some af
def j_i (x1:List Str)(x2:List Str):Option Bool :=
 bd (k_Q x1 x2) λG=>some G
def j_j (n:Nat)(x1:Str)(x2:Str):Option Bool :=
 bd2 (j_g n x1) λG H=>bd2 (h_v n x2) λI J=>bd (α:=Bool) (if H then if J then bd (j_i G I) λL=>some L else some false else some false)<|λO=>some O
def k_R (n:Nat)(x1:g_)(x2:Str):Option Bool :=
 bd (j_j n x2 x1.path) λG=>some G
def k_S (n:Nat)(x1:List g_)(I:Str):Option (List g_) :=
 bd (p_ (σ:=List g_) (ρ:=List g_) (λJ=>(λG=>bd (idx x1 (J:Int)) λH=>bd (k_R n H I) λL=>bd (α:=List g_) (if L then bd (psh G H) λO=>some O else some G)<|λV=>some<|.next V)) x1.length 0 ([]:List g_)) (el (λG=>some G)<|λW=>some W)
def j_k (n:Nat)(x1:c_)(x2:Bt)(x3:Str):Option (List g_) :=
 bd2 (j_b n x1 x2) λG H=>if (!H) then some ([]:List g_) else bd (k_S n G x3) λI=>some I
def d_C (x1:Int)(x2:Int):Option Int :=
 if (decide<|x2<x1) then some x2 else some x1
def h_C (n:Nat)(x1:Int)(x2:Int):Option Bt :=
 bd (α:=Bool) (bd (a_Z x2 1 4) λI=>if (!I) then some true else bd (d_A x2) λJ=>bd (a_Z x1 0<|y_ J 1) λL=>some (!L)) (λO=>if O then some ([]:Bt) else bd (V_ (σ:=Bt×Int) (ρ:=Bt) (un2 λH G=>if (decide<|0<=G) then bd (nn<|a_7 8 G) λY=>bd (psh H<|mkB<|c_m .i64 x1<|a_7 8 G) λV=>some (.next (V,y_ G 1)) else some (.brk (H,G))) n (([]:Bt),y_ x2 1)) (el (un2 λH G=>some H)<|λW=>some W))
def j_l (x1:Int)(x2:Int):Option Bool :=
 some (decide<|x1<x2)
def k_T (x2:Int)(x3:List Int):Option Int :=
 bd (p_ (σ:=Int) (ρ:=Int) (λI=>(λG=>bd (idx x3 (I:Int)) λH=>bd (j_l H G) λJ=>bd (α:=Int) (if J then some H else some G)<|λL=>some<|.next L)) x3.length 0 x2) (el (λG=>some G)<|λO=>some O)
def h_D (x1:Int)(x2:Int):Option Int :=
 bd (k_T x1 [x2]) λG=>some G
end Go.Vw
namespace Go.Vw
open Go.RowKit Dat
structure Change where
 path:Str
 part:Val
deriving Inhabited
instance:Dat Change:=Dat.via<|λr=>(r.path,r.part)
end Go.Vw
namespace Go.Vw
def j_x (x1:Bt):Option Bool :=
 some (decide<|1048576<(x1.length:Int))
def g_A (n:Nat)(x1:Bt):Option m_ :=
 bd (V_ (σ:=Int×Int) (ρ:=m_) (un2 λH G=>bd (α:=Bool) (if (decide<|G<(x1.length:Int)) then some (decide<|G<4000) else some false) (λI=>if I then bd (idx x1 G) λJ=>some (.next (a_C .i64 (· &&& ·) (d_ (d_ (a_7 H 137)<|byteI J) 11) 1073741823,d_ G 1)) else some (.brk (H,G)))) n (d_ 193017 (x1.length:Int),0)) (el (un2 λH G=>some (⟨x1,0,H⟩:m_))<|λL=>some L)
def d_G (x1:m_):Option (Int×Int×Int) :=
 bd (α:=Int×Int) (if (decide<|x1.i<(x1.b.length:Int)) then bd (idx x1.b x1.i) λG=>some (a_C .i64 (· &&& ·) (d_ (a_C .i64 (· &&& ·) (a_C .i64 (· ^^^ ·) (c_m .i64 (d_ (a_7 x1.h 6364136223846793005) 1442695040888963407) 33)<|c_m .i64 (d_ (a_7 x1.h 6364136223846793005) 1442695040888963407) 47) 255)<|byteI G) 255,d_ x1.i 1) else some (a_C .i64 (· &&& ·) (a_C .i64 (· ^^^ ·) (c_m .i64 (d_ (a_7 x1.h 6364136223846793005) 1442695040888963407) 33)<|c_m .i64 (d_ (a_7 x1.h 6364136223846793005) 1442695040888963407) 47) 255,x1.i)) (un2 λH I=>some (H,I,d_ (a_7 x1.h 6364136223846793005) 1442695040888963407))
def a_g (x1:m_)(x2:Int):Option (Int×Int×Int) :=
 if (decide<|x2<=0) then some (0,x1.i,x1.h) else if (decide<|x2<=256) then bd3 (d_G x1) λG H I=>bd (nz x2) λa3=>some (b_7 G x2,H,I) else bd3 (d_G x1) λJ L O=>bd3 (d_G (⟨x1.b,L,O⟩:m_)) λV W Y=>bd3 (d_G (⟨x1.b,W,Y⟩:m_)) λa0 a1 a2=>bd (nz x2) λa4=>some (b_7 (d_ (d_ (a_7 J 65536)<|a_7 V 256) a0) x2,a1,a2)
def c_t (x1:m_)(x2:List Str):Option (Str×Int×Int) :=
 bd3 (a_g x1 (x2.length:Int)) λG H I=>bd (idx x2 G) λJ=>some (J,H,I)
def c_W (x1:m_)(x2:Int):Option (Bool×Int×Int) :=
 bd3 (a_g x1 x2) λG H I=>some (G==0,H,I)
def f_u (x1:m_)(x2:Int):Option (Bt×Int×Int) :=
 bd (p_ (σ:=Bt×Int×Int) (ρ:=Bt×Int×Int) (λY=>un3 λG H I=>bd3 (d_G (⟨x1.b,H,I⟩:m_)) λJ L O=>bd (psh G<|mkB J) λV=>some<|.next (V,L,O)) x2.toNat 0 (([]:Bt),x1.i,x1.h)) (el (un3 λG H I=>some (G,H,I))<|λW=>some W)
def d_h (x1:m_)(x2:List Int):Option (Int×Int×Int) :=
 bd3 (a_g x1 (x2.length:Int)) λG H I=>bd (idx x2 G) λJ=>some (J,H,I)
def f_v (x1:m_)(x2:c_):Option (Int×Int×Int) :=
 bd (p_ (σ:=List Int) (ρ:=Int×Int×Int) (λH=>(λG=>bd (idx x2.rules (H:Int)) λI=>bd (α:=List Int) (if (I.kind==1) then bd (psh G (H:Int)) λJ=>some J else some G)<|λL=>some<|.next L)) x2.rules.length 0 ([]:List Int)) (el (λG=>bd3 (d_h x1 G) λO V W=>some (O,V,W))<|λY=>some Y)
def f_w (n:Nat)(x1:m_)(x2:c_)(x3:Int):Option (b_×Int×Int) :=
 bd3 (c_t x1 [(⟨[97]⟩:Str),(⟨[105,116,101,109]⟩:Str),(⟨[98]⟩:Str),(⟨[104,101,97,100]⟩:Str),(⟨[120]⟩:Str)]) λa6 G H=>bd (c_6 n (x2.rules.length:Int)) λa7=>bd (cat a6 a7) λa8=>bd (α:=Sum (Int×Int×Int×Bool×Bt×(List Str)×(List Int)×(List Int))<|b_×Int×Int) (if (x3==1) then bd3 (a_g (⟨x1.b,G,H⟩:m_) 3) λa3 a4 a5=>bd (α:=Int×Int×Bool) (if (decide<|1<(d_ 1 a3)) then bd3 (c_W (⟨x1.b,a4,a5⟩:m_) 2) λa9 aa ab=>some (aa,ab,a9) else some (a4,a5,false)) (un3 λad ae af=>some<|.inl (ad,ae,d_ 1 a3,af,([]:Bt),([]:List Str),([]:List Int),([]:List Int))) else bd (α:=Sum (Int×Int×Int×Bt×(List Str)×(List Int)×(List Int))<|Sum (Int×Int×Int×Bool×Bt×(List Str)×(List Int)×(List Int))<|b_×Int×Int) (if (x3==2) then bd3 (a_g (⟨x1.b,G,H⟩:m_) 3) λah ai aj=>bd3 (f_u (⟨x1.b,ai,aj⟩:m_)<|d_ 1 ah) λak al am=>some (.inl (al,am,0,ak,([]:List Str),([]:List Int),([]:List Int))) else bd (α:=Sum (Int×Int×Int×Bt×(List Str)×(List Int)×(List Int))<|Sum (Int×Int×Int×Bt×(List Str)×(List Int)×(List Int))<|Sum (Int×Int×Int×Bool×Bt×(List Str)×(List Int)×(List Int))<|b_×Int×Int) (if (x3==3) then bd3 (a_g (⟨x1.b,G,H⟩:m_) 4) λan ap aq=>some (.inl (ap,aq,d_ 1 an,([]:Bt),([]:List Str),([]:List Int),([]:List Int))) else bd (α:=Sum (Int×Int×Bt×(List Str)×(List Int)×(List Int))<|Sum (Int×Int×Int×Bt×(List Str)×(List Int)×(List Int))<|Sum (Int×Int×Int×Bt×(List Str)×(List Int)×(List Int))<|Sum (Int×Int×Int×Bool×Bt×(List Str)×(List Int)×(List Int))<|b_×Int×Int) (if (x3==4) then bd3 (f_v (⟨x1.b,G,H⟩:m_) x2) λar au av=>some (.inl (au,av,([]:Bt),([]:List Str),([]:List Int),[ar])) else bd (α:=Sum (Int×Int×Bt×(List Str)×(List Int)×(List Int))<|Sum (Int×Int×Bt×(List Str)×(List Int)×(List Int))<|Sum (Int×Int×Int×Bt×(List Str)×(List Int)×(List Int))<|Sum (Int×Int×Int×Bt×(List Str)×(List Int)×(List Int))<|Sum (Int×Int×Int×Bool×Bt×(List Str)×(List Int)×(List Int))<|b_×Int×Int) (if (x3==5) then bd3 (f_v (⟨x1.b,G,H⟩:m_) x2) λaw ax ay=>bd3 (a_g (⟨x1.b,ax,ay⟩:m_) (x2.rules.length:Int)) λaz aA aB=>some (.inl (aA,aB,([]:Bt),([]:List Str),([]:List Int),[aw,az])) else bd (α:=Sum (Int×Int×Bt×(List Str)×(List Int)×(List Int))<|Sum (Int×Int×Bt×(List Str)×(List Int)×(List Int))<|Sum (Int×Int×Bt×(List Str)×(List Int)×(List Int))<|Sum (Int×Int×Int×Bt×(List Str)×(List Int)×(List Int))<|Sum (Int×Int×Int×Bt×(List Str)×(List Int)×(List Int))<|Sum (Int×Int×Int×Bool×Bt×(List Str)×(List Int)×(List Int))<|b_×Int×Int) (if (x3==6) then bd3 (a_g (⟨x1.b,G,H⟩:m_) 3) λaC aD aE=>bd (V_ (σ:=Int×Int×Int×(List Str)×(List Int)) (ρ:=b_×Int×Int) (un5 λI L O V W=>if (decide<|0<I) then bd3 (c_t (⟨x1.b,L,O⟩:m_) [(⟨[112]⟩:Str),(⟨[113]⟩:Str),(⟨[114]⟩:Str)]) λaF aG aH=>bd (c_6 n I) λaI=>bd (cat aF aI) λaJ=>bd (psh V aJ) λaK=>bd3 (a_g (⟨x1.b,aG,aH⟩:m_) (x2.rules.length:Int)) λaL aM aN=>bd (psh W aL) λaO=>some (.next (y_ I 1,aM,aN,aK,aO)) else some (.brk (I,L,O,V,W))) n (d_ 1 aC,aD,aE,([]:List Str),([]:List Int))) (el (un5 λI L O V W=>some<|.inl (L,O,([]:Bt),V,([]:List Int),W))<|λaP=>some<|.inr<|.inr<|.inr<|.inr<|.inr<|.inr aP) else bd (α:=Sum (Int×Int×Bt×(List Int)×(List Int))<|Sum (Int×Int×Bt×(List Str)×(List Int)×(List Int))<|Sum (Int×Int×Bt×(List Str)×(List Int)×(List Int))<|Sum (Int×Int×Bt×(List Str)×(List Int)×(List Int))<|Sum (Int×Int×Int×Bt×(List Str)×(List Int)×(List Int))<|Sum (Int×Int×Int×Bt×(List Str)×(List Int)×(List Int))<|Sum (Int×Int×Int×Bool×Bt×(List Str)×(List Int)×(List Int))<|b_×Int×Int) (if (x3==7) then bd3 (f_v (⟨x1.b,G,H⟩:m_) x2) λaQ aR aS=>bd3 (a_g (⟨x1.b,aR,aS⟩:m_) 3) λaT aU aV=>bd (V_ (σ:=Int×Int×Int×(List Int)×(List Int)) (ρ:=b_×Int×Int) (un5 λY a0 a1 J a2=>if (decide<|0<Y) then bd3 (a_g (⟨x1.b,a0,a1⟩:m_) 4) λaW aX aY=>bd (psh J<|d_ (a_7 4 (J.length:Int)) aW) λaZ=>bd3 (a_g (⟨x1.b,aX,aY⟩:m_) (x2.rules.length:Int)) λb0 b1 b2=>bd (psh a2 b0) λb3=>some (.next (y_ Y 1,b1,b2,aZ,b3)) else some (.brk (Y,a0,a1,J,a2))) n (d_ 1 aT,aU,aV,([]:List Int),[aQ])) (el (un5 λY a0 a1 J a2=>some<|.inl (a0,a1,([]:Bt),J,a2))<|λb4=>some<|.inr<|.inr<|.inr<|.inr<|.inr<|.inr<|.inr b4) else bd (α:=Bool) (if (x3==8) then some (x3==8) else some (x3==9)) (λb5=>bd (α:=Int×Int×Bt×(List Int)) (if b5 then bd3 (a_g (⟨x1.b,G,H⟩:m_) (x2.rules.length:Int)) λb6 b7 b8=>some (b7,b8,([]:Bt),[b6]) else bd (α:=Int×Int×Bt) (if (x3==10) then bd3 (d_h (⟨x1.b,G,H⟩:m_) [0,10,59,255]) λb9 ba bb=>some (ba,bb,[mkB b9]) else some (G,H,([]:Bt))) (un3 λbc be bf=>some (bc,be,bf,([]:List Int))))<|un4 λbg bh bi bj=>some<|.inl (bg,bh,bi,([]:List Int),bj))) (el (un5 λbk bm bn bo bp=>some<|.inl (bk,bm,bn,([]:List Str),bo,bp)) some)) (el (un6 λbq br bs bt bu bv=>some<|.inl (bq,br,bs,bt,bu,bv)) some)) (el (un6 λbw bx bz bA bB bC=>some<|.inl (bw,bx,bz,bA,bB,bC)) some)) (el (un6 λbD bE bF bG bH bI=>some<|.inl (bD,bE,0,bF,bG,bH,bI)) some)) (el (un7 λbJ bK bL bM bN bO bP=>some<|.inl (bJ,bK,bL,bM,bN,bO,bP)) some)) (el (un7 λbR bS bT bU bV bW bX=>some<|.inl (bR,bS,bT,false,bU,bV,bW,bX)) some))<|el (un8 λbY bZ c0 c1 c2 c3 c4 c5=>some ((⟨a8,x3,c0,c1,c2,c3,c4,c5⟩:b_),bY,bZ)) some
def g_B (n:Nat)(x1:m_):Option (c_×Int×Int) :=
 bd3 (f_w n x1 (⟨([]:List b_)⟩:c_) 1) λL O V=>bd (psh ([]:List b_) L) λW=>bd3 (a_g (⟨x1.b,O,V⟩:m_) 6) λY a0 a1=>bd (V_ (σ:=Int×Int×Int×(List b_)) (ρ:=c_×Int×Int) (un4 λH I J G=>if (decide<|0<H) then bd3 (a_g (⟨x1.b,I,J⟩:m_) 10) λa2 a3 a4=>bd3 (f_w n (⟨x1.b,a3,a4⟩:m_) (⟨G⟩:c_)<|d_ 1 a2) λa5 a6 a7=>bd (psh G a5) λa8=>some (.next (y_ H 1,a6,a7,a8)) else some (.brk (H,I,J,G))) n (Y,a0,a1,W))<|el (un4 λH I J G=>some ((⟨G⟩:c_),I,J))<|λa9=>some a9
structure j_y where
 spec_l9Make:m_->c_->Int->Int->Option (Val×Int×Int)
def h_G (n:Nat)(rec:j_y)(x1:m_)(x2:c_)(x3:Int)(x4:Int):Option (Val×Int×Int) :=
 bd (idx x2.rules x3) λG=>bd (α:=Sum (Int×Int×Int×Bt×(List Val))<|Val×Int×Int) (if (G.kind==1) then bd (d_A G.size) λa7=>bd (d_C a7 70000) λa8=>bd3 (a_g x1 a8) λa9 aa ab=>some (.inl (aa,ab,a9,([]:Bt),([]:List Val))) else bd (α:=Sum (Int×Int×Int×Bt×(List Val))<|Sum (Int×Int×Int×Bt×(List Val))<|Val×Int×Int) (if (G.kind==3) then bd3 (f_u x1 G.size) λad ae af=>some (.inl (ae,af,0,ad,([]:List Val))) else bd (α:=Bool) (if (G.kind==4) then some (G.kind==4) else some (G.kind==10)) (λah=>bd (α:=Sum (Int×Int×Int×Bt×(List Val))<|Sum (Int×Int×Int×Bt×(List Val))<|Sum (Int×Int×Int×Bt×(List Val))<|Val×Int×Int) (if ah then bd (d_C x4 6) λai=>bd3 (a_g x1<|d_ ai 1) λaj ak al=>bd3 (f_u (⟨x1.b,ak,al⟩:m_) aj) λO V W=>bd (α:=Bool×Int×Int) (if (G.kind==10) then if (decide<|0<(O.length:Int)) then bd3 (c_W (⟨x1.b,V,W⟩:m_) 2) λam an ap=>some (am,an,ap) else some (false,V,W) else some (false,V,W)) (un3 λaq a2 a3=>bd (α:=Int×Int×Bt) (if aq then bd (idx G.bytes 0) λar=>bd3 (d_h (⟨x1.b,a2,a3⟩:m_) [byteI ar,92]) λau av aw=>bd (upd O 0<|mkB au) λax=>some (av,aw,ax) else some (a2,a3,O))<|un3 λay az aA=>some<|.inl (ay,az,0,aA,([]:List Val))) else bd (α:=Sum (Int×Int×Int×(List Val))<|Sum (Int×Int×Int×Bt×(List Val))<|Sum (Int×Int×Int×Bt×(List Val))<|Sum (Int×Int×Int×Bt×(List Val))<|Val×Int×Int) (if (G.kind==5) then bd (d_C x4 3) λaB=>bd3 (a_g x1<|d_ aB 1) λaC aD aE=>bd (V_ (σ:=Int×Int×Int×(List Val)) (ρ:=Val×Int×Int) (un4 λH I J L=>if (decide<|0<H) then bd (idx G.kids 1) λaF=>bd3 (rec.spec_l9Make (⟨x1.b,I,J⟩:m_) x2 aF<|c_3 x4 2) λaG aH aI=>bd (psh L aG) λaJ=>some (.next (y_ H 1,aH,aI,aJ)) else some (.brk (H,I,J,L))) n (aC,aD,aE,([]:List Val))) (el (un4 λH I J L=>some<|.inl (I,J,0,L))<|λaK=>some<|.inr<|.inr<|.inr<|.inr aK) else bd (α:=Sum (Int×Int×Int×(List Val))<|Sum (Int×Int×Int×(List Val))<|Sum (Int×Int×Int×Bt×(List Val))<|Sum (Int×Int×Int×Bt×(List Val))<|Sum (Int×Int×Int×Bt×(List Val))<|Val×Int×Int) (if (G.kind==6) then bd (p_ (σ:=Int×Int×(List Val)) (ρ:=Val×Int×Int) (λaL=>un3 λY a0 a1=>bd (idx G.kids (aL:Int)) λaM=>bd3 (rec.spec_l9Make (⟨x1.b,Y,a0⟩:m_) x2 aM<|c_3 x4 2) λaN aO aP=>bd (psh a1 aN) λaQ=>some<|.next (aO,aP,aQ)) G.kids.length 0 (x1.i,x1.h,([]:List Val))) (el (un3 λY a0 a1=>some<|.inl (Y,a0,0,a1))<|λaR=>some<|.inr<|.inr<|.inr<|.inr<|.inr aR) else bd (α:=Int×Int×Int×(List Val)) (if (G.kind==7) then bd3 (a_g x1 (G.tags.length:Int)) λa4 aS aT=>bd (idx G.tags a4) λaU=>bd (idx G.kids<|d_ a4 1) λaV=>bd3 (rec.spec_l9Make (⟨x1.b,aS,aT⟩:m_) x2 aV<|c_3 x4 2) λaW aX aY=>some (aX,aY,aU,[aW]) else bd (α:=Int×Int×(List Val)) (if (G.kind==8) then bd3 (c_W x1 2) λaZ a5 a6=>bd (α:=Int×Int×(List Val)) (if aZ then bd (idx G.kids 0) λb0=>bd3 (rec.spec_l9Make (⟨x1.b,a5,a6⟩:m_) x2 b0<|c_3 x4 2) λb1 b2 b3=>some (b2,b3,[b1]) else some (a5,a6,([]:List Val))) (un3 λb4 b5 b6=>some (b4,b5,b6)) else bd (α:=Int×Int×(List Val)) (if (G.kind==9) then bd (idx G.kids 0) λb7=>bd3 (rec.spec_l9Make x1 x2 b7<|c_3 x4 2) λb8 b9 ba=>some (b9,ba,[b8]) else some (x1.i,x1.h,([]:List Val))) (un3 λbb bc be=>some (bb,bc,be))) (un3 λbf bg bh=>some (bf,bg,0,bh))) (un4 λbi bj bk bm=>some<|.inl (bi,bj,bk,bm))) (el (un4 λbn bo bp bq=>some<|.inl (bn,bo,bp,bq)) some)) (el (un4 λbr bs bt bu=>some<|.inl (br,bs,bt,([]:Bt),bu)) some))<|el (un5 λbv bw bx bz bA=>some<|.inl (bv,bw,bx,bz,bA)) some)) (el (un5 λbB bC bD bE bF=>some<|.inl (bB,bC,bD,bE,bF)) some))<|el (un5 λbG bH bI bJ bK=>some ((⟨bI,bJ,bK⟩:Val),bG,bH)) some
def f_x:Nat->j_y
 | 0=>⟨λ_ _ _ _=>none⟩
 | n+1=>⟨h_G n<|f_x n⟩
def l_3 (n:Nat):=(f_x n).spec_l9Make
def h_H (n:Nat)(x1:Int)(x2:Int):Option Bt :=
 bd (h_C n x1 x2) λI=>bd (V_ (σ:=Bt×Int) (ρ:=Bt) (un2 λH G=>if (decide<|0<=G) then bd (idx I G) λJ=>bd (psh H J) λL=>some (.next (L,y_ G 1)) else some (.brk (H,G))) n (([]:Bt),y_ (I.length:Int) 1))<|el (un2 λH G=>some H)<|λO=>some O
def e_K (n:Nat)(x1:b_)(x2:Int):Option Bt :=
 if x1.little then bd (h_H n x2 x1.size) λG=>some G else bd (h_C n x2 x1.size) λH=>some H
structure n_7 where
 spec_l11Print:c_->Int->Val->Option Bt
def h_I (n:Nat)(rec:n_7)(x1:c_)(x2:Int)(x3:Val):Option Bt :=
 bd (idx x1.rules x2) λG=>bd (p_ (σ:=Bt) (ρ:=Bt) (λL=>(λH=>bd (idx x3.items (L:Int)) λO=>bd (b_9 G x3.number (L:Int)) λV=>bd (rec.spec_l11Print x1 V O) λW=>bd (app H W) λY=>some<|.next Y)) x3.items.length 0 ([]:Bt)) (el (λH=>if (G.kind==1) then bd (e_K n G x3.number) λa0=>some a0 else if (G.kind==2) then bd (app ([]:Bt) G.bytes) λa1=>some a1 else if (G.kind==4) then bd (idx G.kids 0) λa2=>bd (idx x1.rules a2) λa3=>bd (e_K n a3 (x3.bytes.length:Int)) λa4=>bd (app a4 x3.bytes) λa5=>some a5 else if (G.kind==5) then bd (idx G.kids 0) λa6=>bd (idx x1.rules a6) λa7=>bd (e_K n a7 (x3.items.length:Int)) λa8=>bd (app a8 H) λa9=>some a9 else if (G.kind==7) then bd (idx G.kids 0) λaa=>bd (idx x1.rules aa) λab=>bd (e_K n ab x3.number) λad=>bd (app ad H) λae=>some ae else if (G.kind==8) then bd (app [mkB (x3.items.length:Int)] H) λaf=>some af else if (G.kind==9) then bd (h_s H) λah=>bd (psh H<|mkB ah) λai=>some ai else if (G.kind==10) then bd (p_ (σ:=Bt) (ρ:=Bt) (λJ=>(λI=>bd (α:=Bool) (bd (idx x3.bytes (J:Int)) λaj=>bd (idx G.bytes 0) λak=>if ((byteI aj)==(byteI ak)) then some true else bd (idx x3.bytes (J:Int)) λal=>some<|(byteI al)==(byteI (92:UInt8))) (λam=>bd (α:=Bt) (if am then bd (psh I (92:UInt8)) λan=>some an else some I)<|λap=>bd (idx x3.bytes (J:Int)) λaq=>bd (psh ap aq) λar=>some<|.next ar))) x3.bytes.length 0 H) (el (λI=>bd (idx G.bytes 0) λau=>bd (psh I au) λav=>some av)<|λaw=>some aw) else if (G.kind==3) then bd (app ([]:Bt) x3.bytes) λax=>some ax else some H)<|λay=>some ay)
def e_L:Nat->n_7
 | 0=>⟨λ_ _ _=>none⟩
 | n+1=>⟨h_I n<|e_L n⟩
def l_4 (n:Nat):=(e_L n).spec_l11Print
structure n_8 where
 spec_l18Paths:c_->Int->Val->Str->Option (List Str)
def h_J (n:Nat)(rec:n_8)(x1:c_)(x2:Int)(x3:Val)(x4:Str):Option (List Str) :=
 bd (p_ (σ:=List Str) (ρ:=List Str) (λk10=>(λG=>bd (idx x1.rules x2) λH=>bd (idx x3.items (k10:Int)) λI=>bd (cat x4 (⟨[47]⟩:Str)) λJ=>bd (b_9 H x3.number (k10:Int)) λL=>bd (e_6 n H (k10:Int)) λO=>bd (cat J O) λV=>bd (rec.spec_l18Paths x1 L I V) λW=>bd (app G W) λY=>some<|.next Y)) x3.items.length 0 [x4]) (el (λG=>some G)<|λa0=>some a0)
def e_M:Nat->n_8
 | 0=>⟨λ_ _ _ _=>none⟩
 | n+1=>⟨h_J n<|e_M n⟩
def n_9 (n:Nat):=(e_M n).spec_l18Paths
def h_K (n:Nat)(x1:m_)(x2:c_)(x3:Val):Option (Str×Int×Int) :=
 bd (n_9 n x2 (y_ (x2.rules.length:Int) 1) x3 (⟨[]⟩:Str)) λI=>bd3 (a_g x1 (I.length:Int)) λO V W=>bd (idx I O) λJ=>bd3 (a_g (⟨x1.b,V,W⟩:m_) 8) λL G H=>if (L==0) then bd3 (c_t (⟨x1.b,G,H⟩:m_) [(⟨[47,48]⟩:Str),(⟨[47,42]⟩:Str),(⟨[47,63]⟩:Str),(⟨[47,43]⟩:Str),(⟨[47,112,49]⟩:Str),(⟨[47,48,48]⟩:Str),(⟨[47]⟩:Str),(⟨[120]⟩:Str),(⟨[47,57]⟩:Str)]) λY a0 a1=>bd (cat J Y) λa2=>some (a2,a0,a1) else if (L==1) then bd3 (c_t (⟨x1.b,G,H⟩:m_) [(⟨[112,49]⟩:Str),(⟨[47]⟩:Str),(⟨[47,47]⟩:Str),(⟨[47,112,49]⟩:Str),(⟨[47,48]⟩:Str)]) λa3 a4 a5=>some (a3,a4,a5) else some (J,G,H)
end Go.Vw
namespace Go.Vw
def i_t (x1:c_)(x2:b_)(x3:Val):Option Bool :=
 if (x2.kind==1) then bd (α:=Bool) (bd (d_A x2.size) λG=>bd (a_Z x3.number 0<|y_ G 1) λH=>if H then if ((x3.bytes.length:Int)==0) then some ((x3.items.length:Int)==0) else some false else some false) (λI=>some I) else if (x2.kind==2) then bd (α:=Bool) (if (x3.number==0) then if ((x3.bytes.length:Int)==0) then some ((x3.items.length:Int)==0) else some false else some false) (λJ=>some J) else if (x2.kind==3) then bd (α:=Bool) (if (x3.number==0) then if ((x3.bytes.length:Int)==x2.size) then some ((x3.items.length:Int)==0) else some false else some false) (λL=>some L) else if (x2.kind==4) then bd (α:=Bool) (if (x3.number==0) then bd (idx x2.kids 0) λO=>bd (e_B x1 O) λV=>bd (d_C 400 V) λW=>if (decide<|(x3.bytes.length:Int)<=W) then some ((x3.items.length:Int)==0) else some false else some false) (λY=>some Y) else if (x2.kind==10) then bd (α:=Bool) (if (x3.number==0) then if (decide<|(x3.bytes.length:Int)<=400) then some ((x3.items.length:Int)==0) else some false else some false) (λa0=>some a0) else if (x2.kind==5) then bd (α:=Bool) (if (x3.number==0) then if ((x3.bytes.length:Int)==0) then bd (idx x2.kids 0) λa1=>bd (e_B x1 a1) λa2=>bd (d_C 40 a2) λa3=>some (decide<|(x3.items.length:Int)<=a3) else some false else some false) (λa4=>some a4) else if (x2.kind==6) then bd (α:=Bool) (if (x3.number==0) then if ((x3.bytes.length:Int)==0) then some ((x3.items.length:Int)==(x2.kids.length:Int)) else some false else some false) (λa5=>some a5) else if (x2.kind==7) then bd (α:=Bool) (if ((x3.bytes.length:Int)==0) then if ((x3.items.length:Int)==1) then bd (b_9 x2 x3.number 0) λa6=>some (decide<|0<=a6) else some false else some false) (λa7=>some a7) else if (x2.kind==8) then bd (α:=Bool) (if (x3.number==0) then if ((x3.bytes.length:Int)==0) then some (decide<|(x3.items.length:Int)<=1) else some false else some false) (λa8=>some a8) else bd (α:=Bool) (if (x3.number==0) then if ((x3.bytes.length:Int)==0) then some ((x3.items.length:Int)==1) else some false else some false) (λa9=>some a9)
structure p_F where
 spec_l9Valid:c_->Int->Val->Option Bool
def i_u (n:Nat)(rec:p_F)(x1:c_)(x2:Int)(x3:Val):Option Bool :=
 bd (idx x1.rules x2) λG=>bd (i_t x1 G x3) λI=>if (!I) then some false else bd (p_ (σ:=Unit) (ρ:=Bool) (λH=>(λ(_:Unit)=>bd (idx x3.items (H:Int)) λJ=>bd (b_9 G x3.number (H:Int)) λL=>bd (rec.spec_l9Valid x1 L J) λO=>if (!O) then some (.ret false) else some (.next ()))) x3.items.length 0 ()) (el (λ(_:Unit)=>some true)<|λV=>some V)
def g_f:Nat->p_F
 | 0=>⟨λ_ _ _=>none⟩
 | n+1=>⟨i_u n<|g_f n⟩
def p_G (n:Nat):=(g_f n).spec_l9Valid
def i_v (n:Nat)(x1:c_)(x2:Int)(x3:Val):Option Bool :=
 bd (α:=Bool) (bd (h_u x1 x2) λG=>if G then bd (p_G n x1 x2 x3) λH=>some H else some false) (λI=>some I)
end Go.Vw
namespace Go.Vw
def k_U (n:Nat)(x1:Int)(x2:Str)(x3:Str)(x4:Str):Option Str :=
 bd (c_6 n x1) λG=>bd (cat G x2) λH=>bd (cat H x3) λI=>bd (cat I x4) λJ=>some J
def j_o (x1:Bt):Option Str :=
 bd (p_ (σ:=Str) (ρ:=Str) (λH=>(λG=>bd (idx x1 (H:Int)) λI=>bd (idx x1 (H:Int)) λJ=>bd (b_z (⟨[48,49,50,51,52,53,54,55,56,57,97,98,99,100,101,102]⟩:Str) (c_3 (byteI I) 16)<|d_ (c_3 (byteI I) 16) 1) λL=>bd (cat G L) λO=>bd (b_z (⟨[48,49,50,51,52,53,54,55,56,57,97,98,99,100,101,102]⟩:Str) (b_7 (byteI J) 16)<|d_ (b_7 (byteI J) 16) 1) λV=>bd (cat O V) λW=>some<|.next W)) x1.length 0 (⟨[]⟩:Str)) (el (λG=>some G)<|λY=>some Y)
structure k_V where
 spec_l10Text:c_->Int->Val->Option Str
 spec_l10List:c_->b_->Val->Option Str
def b_g (n:Nat)(rec:k_V)(x1:c_)(x2:Int)(x3:Val):Option Str :=
 bd (idx x1.rules x2) λG=>bd (rec.spec_l10List x1 G x3) λH=>if (G.kind==1) then bd (c_6 n x3.number) λI=>some I else if (G.kind==2) then some (⟨[33]⟩:Str) else if (G.kind==5) then bd (cat (⟨[91]⟩:Str) H) λJ=>bd (cat J (⟨[93]⟩:Str)) λL=>some L else if (G.kind==6) then bd (cat (⟨[123]⟩:Str) H) λO=>bd (cat O (⟨[125]⟩:Str)) λV=>some V else if (G.kind==7) then bd (k_U n x3.number (⟨[60]⟩:Str) H (⟨[62]⟩:Str)) λW=>some W else if (G.kind==8) then if ((x3.items.length:Int)==0) then some (⟨[45]⟩:Str) else bd (cat (⟨[63]⟩:Str) H) λY=>some Y else if (G.kind==9) then bd (cat (⟨[40]⟩:Str) H) λa0=>bd (cat a0 (⟨[41]⟩:Str)) λa1=>some a1 else bd (j_o x3.bytes) λa2=>bd (cat (⟨[120]⟩:Str) a2) λa3=>some a3
def j_p (n:Nat)(rec:k_V)(x1:c_)(x2:b_)(x3:Val):Option Str :=
 bd (p_ (σ:=Str) (ρ:=Str) (λk10=>(λG=>bd (α:=Str) (if (decide<|0<(k10:Int)) then bd (cat G (⟨[44]⟩:Str)) λI=>some I else some G) (λH=>bd (α:=Str) (if (x2.kind==6) then bd (idx x2.names (k10:Int)) λJ=>bd (cat H J) λL=>bd (cat L (⟨[58]⟩:Str)) λO=>some O else some H)<|λV=>bd (idx x3.items (k10:Int)) λW=>bd (b_9 x2 x3.number (k10:Int)) λY=>bd (rec.spec_l10Text x1 Y W) λa0=>bd (cat V a0) λa1=>some<|.next a1))) x3.items.length 0 (⟨[]⟩:Str)) (el (λG=>some G)<|λa2=>some a2)
def b_y:Nat->k_V
 | 0=>⟨λ_ _ _=>none,λ_ _ _=>none⟩
 | n+1=>⟨b_g n<|b_y n,j_p n<|b_y n⟩
def m_U (n:Nat):=(b_y n).spec_l10Text
def h_E (n:Nat)(x1:c_)(x2:Int)(x3:Val):Option Str :=
 bd (i_v n x1 x2 x3) λG=>if (!G) then some (⟨[]⟩:Str) else bd (m_U n x1 x2 x3) λH=>some H
def d_D (n:Nat)(x1:c_)(x2:Bt)(x3:Str):Option Str :=
 bd2 (f_g n x1 x2 x3) λG H=>if (!H) then some (⟨[]⟩:Str) else bd2 (j_6 n x1 x2 x3) λI L=>bd (h_E n x1 G.rule I) λJ=>some J
def j_q (x1:c_)(x2:Int)(x3:Val):Option Bool :=
 bd (idx x1.rules x2) λG=>bd (α:=Sum (Int×Int×Int) Bool) (if (G.kind==1) then bd (d_B x1 x2) λI=>some (.inl (I,0,0)) else bd (α:=Sum (Int×Int×Int)<|Sum (Int×Int×Int) Bool) (if (G.kind==3) then if ((x3.bytes.length:Int) != G.size) then some (.inr<|.inr false) else some (.inl (0,G.size,0)) else bd (α:=Int×Int×Int) (if (G.kind==4) then bd (idx G.kids 0) λJ=>bd (d_B x1 J) λL=>bd (h_D 400 L) λO=>some (0,O,0) else bd (α:=Int×Int×Int) (if (G.kind==10) then some (0,400,0) else bd (α:=Int×Int) (if (G.kind==5) then bd (idx G.kids 0) λV=>bd (d_B x1 V) λW=>bd (h_D 40 W) λY=>some (0,Y) else bd (α:=Int×Int) (if (G.kind==6) then some (0,(G.kids.length:Int)) else bd (α:=Int×Int) (if (G.kind==7) then bd (idx G.kids 0) λa0=>bd (d_B x1 a0) λa1=>some (a1,1) else bd (α:=Bool) (if (G.kind==8) then some (G.kind==8) else some (G.kind==9)) (λa2=>bd (α:=Int) (if a2 then some 1 else some 0)<|λa3=>some (0,a3))) (un2 λa4 a5=>some (a4,a5))) (un2 λa6 a7=>some (a6,a7))) (un2 λa8 a9=>some (a8,0,a9))) (un3 λaa ab ad=>some (aa,ab,ad))) (un3 λae af ah=>some<|.inl (ae,af,ah))) (el (un3 λai aj ak=>some<|.inl (ai,aj,ak)) some)) (el (un3 λal am H=>bd (α:=Bool) (if (G.kind==6) then some ((x3.items.length:Int) != H) else bd (α:=Bool) (if (G.kind==7) then some true else some (G.kind==9)) λan=>if an then some ((x3.items.length:Int) != H) else some false) (λap=>if ap then some false else bd (α:=Bool) (bd (c_I x3.number 0 al) λaq=>if aq then if (decide<|(x3.bytes.length:Int)<=am) then some (decide<|(x3.items.length:Int)<=H) else some false else some false) (λar=>some ar))) some)
structure q_0 where
 impl_validValue:c_->Int->Val->Option Bool
def j_r (n:Nat)(rec:q_0)(x1:c_)(x2:Int)(x3:Val):Option Bool :=
 bd (j_q x1 x2 x3) λH=>if (!H) then some false else bd (p_ (σ:=Unit) (ρ:=Bool) (λk10=>(λ(_:Unit)=>bd (e_F x1 x2 x3 (k10:Int)) λG=>bd (α:=Bool) (if (decide<|G<0) then some true else bd (idx x3.items (k10:Int)) λI=>bd (rec.impl_validValue x1 G I) λJ=>some (!J)) (λL=>if L then some (.ret false) else some (.next ())))) x3.items.length 0 ()) (el (λ(_:Unit)=>some true)<|λO=>some O)
def g_w:Nat->q_0
 | 0=>⟨λ_ _ _=>none⟩
 | n+1=>⟨j_r n<|g_w n⟩
def q_1 (n:Nat):=(g_w n).impl_validValue
def j_s (n:Nat)(x1:c_)(x2:Int)(x3:Val):Option Bool :=
 bd (α:=Bool) (bd (f_l n x1 x2) λG=>if G then bd (q_1 n x1 x2 x3) λH=>some H else some false) (λI=>some I)
def c_J (x1:b_):Option d_k :=
 if (x1.kind==1) then some ((1,([]:List Str)):d_k) else if (x1.kind==2) then some ((2,([]:List Str)):d_k) else if (x1.kind==5) then some ((5,([]:List Str)):d_k) else if (x1.kind==6) then some ((6,x1.names):d_k) else if (x1.kind==7) then some ((7,([]:List Str)):d_k) else if (x1.kind==8) then some ((8,([]:List Str)):d_k) else if (x1.kind==9) then some ((9,([]:List Str)):d_k) else some ((0,([]:List Str)):d_k)
def h_F (x1:List Str)(x2:Str):Option Str :=
 bd (j_G x1 x2) λG=>some G
def k_W (x1:Int)(x2:Str)(x3:Str)(x4:Str):Option Str :=
 bd (g_r x1) λG=>bd (cat G x2) λH=>bd (cat H x3) λI=>bd (cat I x4) λJ=>some J
def j_t (x1:Bt):Option Str :=
 bd (mk0 ()<|a_7 2 (x1.length:Int)) λW=>bd (p_ (σ:=Bt) (ρ:=Str) (λI=>(λG=>bd (idx x1 (I:Int)) λH=>bd (idx (⟨[48,49,50,51,52,53,54,55,56,57,97,98,99,100,101,102]⟩:Str).b (byteI<|shU H 4)) λJ=>bd (idx (⟨[48,49,50,51,52,53,54,55,56,57,97,98,99,100,101,102]⟩:Str).b (byteI<|H &&& (15:UInt8))) λL=>bd (app G [J,L]) λO=>some<|.next O)) x1.length 0 ([]:Bt))<|el (λG=>some (⟨G⟩:Str))<|λV=>some V
structure m_V where
 impl_valueText:c_->Int->Val->Option Str
 impl_valueText_1:Int->c_->Int->Val->Option Str
def b_h (n:Nat)(rec:m_V)(x1:c_)(x2:Int)(x3:Val):Option Str :=
 bd (idx x1.rules x2) λL=>bd (c_J L) λG=>if (G.1==1) then bd (g_r x3.number) λO=>some O else if (G.1==2) then some (⟨[33]⟩:Str) else if (G.1==5) then bd (p_ (σ:=List Str) (ρ:=Str) (λV=>(λH=>bd (rec.impl_valueText_1 (V:Int) x1 x2 x3) λW=>bd (psh H W) λY=>some<|.next Y)) x3.items.length 0 ([]:List Str)) (el (λH=>bd (h_F H (⟨[44]⟩:Str)) λa0=>bd (cat (⟨[91]⟩:Str) a0) λa1=>bd (cat a1 (⟨[93]⟩:Str)) λa2=>some a2)<|λa3=>some a3) else if (G.1==6) then bd (p_ (σ:=List Str) (ρ:=Str) (λJ=>(λI=>bd (idx G.2 (J:Int)) λa4=>bd (cat a4 (⟨[58]⟩:Str)) λa5=>bd (rec.impl_valueText_1 (J:Int) x1 x2 x3) λa6=>bd (cat a5 a6) λa7=>bd (psh I a7) λa8=>some<|.next a8)) G.2.length 0 ([]:List Str)) (el (λI=>bd (h_F I (⟨[44]⟩:Str)) λa9=>bd (cat (⟨[123]⟩:Str) a9) λaa=>bd (cat aa (⟨[125]⟩:Str)) λab=>some ab)<|λad=>some ad) else if (G.1==7) then bd (rec.impl_valueText_1 0 x1 x2 x3) λae=>bd (k_W x3.number (⟨[60]⟩:Str) ae (⟨[62]⟩:Str)) λaf=>some af else if (G.1==8) then if ((x3.items.length:Int)==0) then some (⟨[45]⟩:Str) else bd (rec.impl_valueText_1 0 x1 x2 x3) λah=>bd (cat (⟨[63]⟩:Str) ah) λai=>some ai else if (G.1==9) then bd (rec.impl_valueText_1 0 x1 x2 x3) λaj=>bd (cat (⟨[40]⟩:Str) aj) λak=>bd (cat ak (⟨[41]⟩:Str)) λal=>some al else bd (j_t x3.bytes) λam=>bd (cat (⟨[120]⟩:Str) am) λan=>some an
def j_u (n:Nat)(rec:m_V)(x1:Int)(x2:c_)(x3:Int)(x4:Val):Option Str :=
 bd (idx x4.items x1) λG=>bd (e_F x2 x3 x4 x1) λH=>bd (rec.impl_valueText x2 H G) λI=>some I
def b_a:Nat->m_V
 | 0=>⟨λ_ _ _=>none,λ_ _ _ _=>none⟩
 | n+1=>⟨b_h n<|b_a n,j_u n<|b_a n⟩
def m_W (n:Nat):=(b_a n).impl_valueText
def f_s (n:Nat)(x1:c_)(x2:Int)(x3:Val):Option Str :=
 bd (j_s n x1 x2 x3) λG=>if (!G) then some (⟨[]⟩:Str) else bd (m_W n x1 x2 x3) λH=>some H
def k_X (n:Nat)(x1:c_)(x2:Bt)(x3:Str):Option Str :=
 bd3 (m_T n x1 x2 x3) λG H I=>if (!I) then some (⟨[]⟩:Str) else bd (f_s n x1 H G) λJ=>some J
end Go.Vw
namespace Go.Vw
def i_w (n:Nat)(x1:c_)(x2:Bt)(x3:Str)(x4:Str):Option (List Str) :=
 bd (j_k n x1 x2 x3) λI=>bd (p_ (σ:=List Str) (ρ:=List Str) (λJ=>(λG=>bd (idx I (J:Int)) λH=>bd3 (e_E n x1 H.rule x2 H.start) λL a0 a1=>bd (f_s n x1 H.rule L) λO=>bd (α:=List Str) (if (O.b==x4.b) then bd (psh G H.path) λV=>some V else some G)<|λW=>some<|.next W)) I.length 0 ([]:List Str))<|el (λG=>some G)<|λY=>some Y
end Go.Vw
namespace Go.Vw
def h_L (x1:m_)(x2:Bt):Option (Bt×Int×Int) :=
 bd (app ([]:Bt) x2) λG=>bd3 (a_g x1 6) λJ H I=>bd (α:=Bt×Int×Int) (if (J==0) then bd (α:=Bt×Int×Int) (if (decide<|0<(G.length:Int)) then bd3 (a_g (⟨x1.b,H,I⟩:m_) (G.length:Int)) λL O V=>bd3 (a_g (⟨x1.b,O,V⟩:m_) 256) λW Y a0=>bd (upd G L<|mkB W) λa1=>some (a1,Y,a0) else some (G,H,I)) (un3 λa2 a3 a4=>some (a2,a3,a4)) else bd (α:=Bt×Int×Int) (if (J==1) then bd3 (a_g (⟨x1.b,H,I⟩:m_)<|d_ (G.length:Int) 1) λa5 a6 a7=>bd (slc G 0 a5) λa8=>some (a8,a6,a7) else bd (α:=Bt×Int×Int) (if (J==2) then bd3 (d_h (⟨x1.b,H,I⟩:m_) [0,1,128,255]) λa9 aa ab=>bd (psh G<|mkB a9) λad=>some (ad,aa,ab) else some (G,H,I)) (un3 λae af ah=>some (ae,af,ah))) (un3 λai aj ak=>some (ai,aj,ak)))<|un3 λal am an=>some (al,am,an)
def g_D (n:Nat)(x1:m_):Option (c_×Int×Int) :=
 bd3 (g_B n x1) λG a4 a5=>bd3 (a_g (⟨x1.b,a4,a5⟩:m_) (G.rules.length:Int)) λH a6 a7=>bd3 (a_g (⟨x1.b,a6,a7⟩:m_) 16) λL I J=>bd (α:=Sum (Int×Int×(List b_))<|c_×Int×Int) (if (L==0) then bd (idx G.rules 0) λa8=>bd3 (c_t (⟨x1.b,I,J⟩:m_) [(⟨[]⟩:Str),(⟨[65]⟩:Str),a8.name,(⟨[118,101,114,121,108,111,110,103,110,97,109,101,105,110,100,101,101,100]⟩:Str)]) λa9 aa ab=>bd (idx G.rules H) λa0=>bd (upd G.rules H (⟨a9,a0.kind,a0.size,a0.little,a0.bytes,a0.names,a0.tags,a0.kids⟩:b_)) λad=>some (.inl (aa,ab,ad)) else bd (α:=Sum (Int×Int×(List b_))<|Sum (Int×Int×(List b_))<|c_×Int×Int) (if (L==1) then bd3 (a_g (⟨x1.b,I,J⟩:m_) 13) λae af ah=>bd (idx G.rules H) λa1=>bd (upd G.rules H (⟨a1.name,y_ ae 1,a1.size,a1.little,a1.bytes,a1.names,a1.tags,a1.kids⟩:b_)) λai=>some (.inl (af,ah,ai)) else bd (α:=Sum (Int×Int×(List b_))<|Sum (Int×Int×(List b_))<|Sum (Int×Int×(List b_))<|c_×Int×Int) (if (L==2) then bd3 (d_h (⟨x1.b,I,J⟩:m_) [(-1),0,1,4,5,64,65]) λaj ak al=>bd (idx G.rules H) λa2=>bd (upd G.rules H (⟨a2.name,a2.kind,aj,a2.little,a2.bytes,a2.names,a2.tags,a2.kids⟩:b_)) λam=>some (.inl (ak,al,am)) else bd (α:=Sum (Int×Int×(List b_))<|Sum (Int×Int×(List b_))<|Sum (Int×Int×(List b_))<|Sum (Int×Int×(List b_))<|c_×Int×Int) (if (L==3) then bd (idx G.rules H) λan=>bd (idx G.rules H) λa3=>bd (upd G.rules H (⟨a3.name,a3.kind,a3.size,!an.little,a3.bytes,a3.names,a3.tags,a3.kids⟩:b_)) λap=>some (.inl (I,J,ap)) else bd (α:=Sum (Int×Int×(List b_))<|Sum (Int×Int×(List b_))<|Sum (Int×Int×(List b_))<|Sum (Int×Int×(List b_))<|Sum (Int×Int×(List b_))<|c_×Int×Int) (if (L==4) then bd (α:=Int×Int×(List b_)) (bd (idx G.rules H) λO=>bd3 (a_g (⟨x1.b,I,J⟩:m_) 8) λaq ar au=>bd (psh O.kids<|y_ aq 1) λav=>some (ar,au,G.rules.set (H).toNat (⟨O.name,O.kind,O.size,O.little,O.bytes,O.names,O.tags,av⟩:b_))) (un3 λaw ax ay=>some<|.inl (aw,ax,ay)) else bd (α:=Sum (Int×Int×(List b_))<|Sum (Int×Int×(List b_))<|Sum (Int×Int×(List b_))<|Sum (Int×Int×(List b_))<|Sum (Int×Int×(List b_))<|Sum (Int×Int×(List b_))<|c_×Int×Int) (if (L==5) then bd (α:=Int×Int×(List b_)) (bd (idx G.rules H) λV=>bd3 (d_h (⟨x1.b,I,J⟩:m_) [0,92]) λaz aA aB=>bd (psh V.bytes<|mkB az) λaC=>some (aA,aB,G.rules.set (H).toNat (⟨V.name,V.kind,V.size,V.little,aC,V.names,V.tags,V.kids⟩:b_))) (un3 λaD aE aF=>some<|.inl (aD,aE,aF)) else bd (α:=Sum (Int×Int×(List b_))<|Sum (Int×Int×(List b_))<|Sum (Int×Int×(List b_))<|Sum (Int×Int×(List b_))<|Sum (Int×Int×(List b_))<|Sum (Int×Int×(List b_))<|Sum (Int×Int×(List b_))<|c_×Int×Int) (if (L==6) then bd (α:=Int×Int×(List b_)) (bd (idx G.rules H) λW=>bd3 (c_t (⟨x1.b,I,J⟩:m_) [(⟨[112,49]⟩:Str),(⟨[81]⟩:Str),(⟨[122]⟩:Str)]) λaG aH aI=>bd (psh W.names aG) λaJ=>some (aH,aI,G.rules.set (H).toNat (⟨W.name,W.kind,W.size,W.little,W.bytes,aJ,W.tags,W.kids⟩:b_))) (un3 λaK aL aM=>some<|.inl (aK,aL,aM)) else bd (α:=Sum (Int×Int×(List b_))<|Sum (Int×Int×(List b_))<|Sum (Int×Int×(List b_))<|Sum (Int×Int×(List b_))<|Sum (Int×Int×(List b_))<|Sum (Int×Int×(List b_))<|Sum (Int×Int×(List b_))<|Sum (Int×Int×(List b_))<|c_×Int×Int) (if (L==7) then bd (α:=Int×Int×(List b_)) (bd (idx G.rules H) λY=>bd3 (d_h (⟨x1.b,I,J⟩:m_) [(-1),0,5,256,70000]) λaN aO aP=>bd (psh Y.tags aN) λaQ=>some (aO,aP,G.rules.set (H).toNat (⟨Y.name,Y.kind,Y.size,Y.little,Y.bytes,Y.names,aQ,Y.kids⟩:b_))) (un3 λaR aS aT=>some<|.inl (aR,aS,aT)) else if (L==8) then some (.inr<|.inr<|.inr<|.inr<|.inr<|.inr<|.inr<|.inr ((⟨([]:List b_)⟩:c_),I,J)) else some (.inl (I,J,G.rules))) (el (un3 λaU aV aW=>some<|.inl (aU,aV,aW)) some)) (el (un3 λaX aY aZ=>some<|.inl (aX,aY,aZ)) some)) (el (un3 λb0 b1 b2=>some<|.inl (b0,b1,b2)) some)) (el (un3 λb3 b4 b5=>some<|.inl (b3,b4,b5)) some)) (el (un3 λb6 b7 b8=>some<|.inl (b6,b7,b8)) some)) (el (un3 λb9 ba bb=>some<|.inl (b9,ba,bb)) some)) (el (un3 λbc be bf=>some<|.inl (bc,be,bf)) some))<|el (un3 λbg bh bi=>some ((⟨bi⟩:c_),bg,bh)) some
def h_M (n:Nat)(x1:Bt):Option (c_×Bt×Str) :=
 bd (g_A n x1) λG=>bd3 (g_B n G) λH a1 a2=>bd3 (l_3 n (⟨G.b,a1,a2⟩:m_) H (y_ (H.rules.length:Int) 1) 10) λJ a3 a4=>bd (l_4 n H (y_ (H.rules.length:Int) 1) J) λI=>bd3 (h_K n (⟨G.b,a3,a4⟩:m_) H J) λa5 L O=>bd (α:=Bool×Int×Int) (if (decide<|0<(I.length:Int)) then bd3 (c_W (⟨G.b,L,O⟩:m_) 3) λa6 a7 a8=>some (a6,a7,a8) else some (false,L,O)) (un3 λa9 V W=>bd (α:=Bt×Int×Int) (if a9 then bd3 (h_L (⟨G.b,V,W⟩:m_) I) λaa ab ad=>some (aa,ab,ad) else some (I,V,W)) (un3 λae af ah=>bd3 (c_W (⟨G.b,af,ah⟩:m_) 20) λai Y a0=>bd (α:=Int×Int×(List b_)) (if ai then bd3 (g_D n (⟨G.b,Y,a0⟩:m_)) λaj ak al=>some (ak,al,aj.rules) else some (Y,a0,H.rules))<|un3 λan ap am=>some ((⟨am⟩:c_),ae,a5)))
def g_E (x1:List Str):Option Str :=
 bd (p_ (σ:=Str) (ρ:=Str) (λH=>(λG=>bd (cat G (⟨[47]⟩:Str)) λI=>bd (idx x1 (H:Int)) λJ=>bd (cat I J) λL=>some<|.next L)) x1.length 0 (⟨[]⟩:Str)) (el (λG=>some G)<|λO=>some O)
def h_N (n:Nat)(x1:m_)(x2:Str):Option (Str×Int×Int) :=
 bd2 (g_i n x2) λH am=>bd (p_ (σ:=(List Str)×Int×Int) (ρ:=Str×Int×Int) (λO=>un3 λG I J=>bd3 (a_g (⟨x1.b,I,J⟩:m_) 6) λL Y a0=>bd (α:=List Str) (if (L==0) then bd (psh G (⟨[35]⟩:Str)) λa1=>some a1 else bd (α:=List Str) (if (L==1) then bd (psh G (⟨[46,46]⟩:Str)) λa2=>some a2 else bd (α:=List Str) (if (L==2) then bd (idx H (O:Int)) λa3=>bd (app G [(⟨[46,46]⟩:Str),a3]) λa4=>some a4 else bd (idx H (O:Int)) λa5=>bd (psh G a5) λa6=>some a6) (λa7=>some a7)) (λa8=>some a8))<|λa9=>some<|.next (a9,Y,a0)) H.length 0 (([]:List Str),x1.i,x1.h)) (el (un3 λG I J=>bd3 (c_W (⟨x1.b,I,J⟩:m_) 6) λaa V W=>bd (α:=(List Str)×Int×Int) (if aa then bd3 (c_t (⟨x1.b,V,W⟩:m_) [(⟨[46,46]⟩:Str),(⟨[35]⟩:Str),(⟨[112,49]⟩:Str),(⟨[35,35]⟩:Str)]) λab ad ae=>bd (psh G ab) λaf=>some (af,ad,ae) else some (G,V,W))<|un3 λah ai aj=>bd (g_E ah) λak=>some (ak,ai,aj))<|λal=>some al)
end Go.Vw
namespace Go.Vw
def j_m (n:Nat)(x1:Bt):Option (c_×Bt×Str×Str) :=
 bd3 (h_M n x1) λH I J=>bd (g_A n x1) λG=>bd (d_D n H I J) λV=>bd3 (c_W G 4) λW L O=>bd (α:=Str×Int×Int) (if W then bd3 (c_t (⟨G.b,L,O⟩:m_) [(⟨[]⟩:Str),(⟨[48]⟩:Str),(⟨[120]⟩:Str),(⟨[33]⟩:Str)]) λY a0 a1=>some (Y,a0,a1) else some (V,L,O))<|un3 λa2 a3 a4=>bd3 (h_N n (⟨G.b,a3,a4⟩:m_) J) λa5 a6 a7=>some (H,I,a5,a2)
def j_n (n:Nat)(x1:Bt):Option Bool :=
 bd (j_x x1) λY=>if Y then some true else bd4 (j_m n x1) λH I O V=>bd (i_w n H I O V) λJ=>bd (j_f n H I O) λL=>bd (p_ (σ:=Int) (ρ:=Bool) (λW=>(λG=>bd (idx L (W:Int)) λa0=>bd (d_D n H I a0.path) λa1=>bd (α:=Sum Int<|Out Int Bool) (if (a1.b==V.b) then bd (α:=Bool) (if (decide<|(J.length:Int)<=G) then some true else bd (idx J G) λa2=>bd (idx L (W:Int)) λa3=>some<|a2.b != a3.path.b) (λa4=>if a4 then some (.inr<|.ret false) else some (.inl<|d_ G 1)) else some (.inl G))<|el (λa5=>some<|.next a5) some)) L.length 0 0)<|el (λG=>some<|G==(J.length:Int))<|λa6=>some a6
end Go.Vw
namespace Go.Vw
open Go.RowKit Dat
theorem q_l {P:Program}{o:Oper}{a:Act}{w:World}{K K' K1 K2:Act->World->Prop}{Q:Exit->Act->World->Prop}(h:∀a w,K a w->K' a w)(hh:o.wp P a w K (Exit.then K1 Q)):o.wp P a w K' (Exit.then K2 Q):=by
 unfold Oper.wp at *
 generalize (execOp a.eval o).run P w=r at *
 cases r with
 | ok n w' =>
  cases n <;> simp only [Oper.upon] at hh ⊢ <;>
   first
    | exact h _ _ hh
    | exact Calls.mono hh (λe w'' he=>by cases e <;> first | exact h _ _ he | exact he)
    | exact Rows.mono hh<|λ_ _ he=>h _ _ he
 | halt x w'=>cases x <;> simp only [Oper.upon] at hh ⊢ <;> exact hh
theorem l_1 {P:Program}{ops:Array Oper}{K K1:Act->World->Prop}{Q:Exit->Act->World->Prop}{G:List Oper}(hk:∀a w,K1 a w->wpList P ops (Exit.then K Q) G a w):∀(l1:List Oper)(a:Act)(w:World),wpList P ops (Exit.then K1 Q) l1 a w->wpList P ops (Exit.then K Q) (l1++G) a w
 | [],a,w,h=>hk a w h
 | o::l1,a,w,h=>by
  rw [List.cons_append]
  unfold wpList at h ⊢
  split at h
  .rename_i hw
   rw [if_pos hw]
   rcases h with h | ⟨h1,h2⟩
   .exact .inl<|q_l (l_1 hk l1) h
   .exact .inr ⟨h1,h2⟩
  .rename_i hw
   rw [if_neg hw]
   exact l_1 hk l1 _ _ h
section
variable {P:Program}{N:Nat}{ops:Array Oper}{K:Act->World->Prop}{Q:Exit->Act->World->Prop}{e:Env}{w:World}{l:List Oper}
theorem q_m (k:Nat)(l:List Oper):l.take k++l.drop k=l:=List.take_append_drop k l
theorem d_F (d:Nat)(u:Bool)(k:Nat)(h1:WL P N ops (λa w'=>w'=w/\Sat N ((d,vB u)::e) a) Q (l.take k) e w)(h2:WL P N ops K Q (l.drop k) ((d,vB u)::e) w):WL P N ops K Q l e w:=λa ha=>by
 rw [← q_m k l]
 exact l_1 (λa w' ⟨hw,hs⟩=>by subst hw;exact h2 a hs) _ a w<|h1 a ha
variable {d:Nat}{u c:Bool}
def l_2 (n:Nat)(e:Env):Bool:=(e.take n).all λp=>(e.drop n).all λq=>!Nat.beq p.1 q.1
theorem n_5:∀{e:Env}{t:Nat},(∀q∈e,Nat.beq t q.1=false)->r_ e t=none
 | [],_,_=>rfl
 | (k,v)::e,t,h=>by
  have h1:=h (k,v) List.mem_cons_self;have h2:Nat.beq k t=false:=by rw [← Bool.not_eq_true,Nat.beq_eq] at *;exact λh=>h1 h.symm
  rw [r_,h2]
  exact n_5 λq hq=>h q<|List.mem_cons_of_mem _ hq
theorem n_6:∀{G H:Env}{t:Nat},(∀p∈G,Nat.beq p.1 t=false)->r_ (G++H) t=r_ H t
 | [],_,_,_=>rfl
 | (k,v)::G,H,t,h=>by
  rw [List.cons_append,r_,h (k,v) List.mem_cons_self]
  exact n_6 λp hp=>h p<|List.mem_cons_of_mem _ hp
theorem q_n {n:Nat}{e:Env}(h:l_2 n e=true){t:Nat}{v:Value}(hl:r_ (e.drop n) t=some v):r_ e t=some v:=by
 have:r_ (e.take n++e.drop n) t=r_ (e.drop n) t:=by
  refine n_6 λp hp=>?_
  cases hb:Nat.beq p.1 t with
  | false=>rfl
  | true =>
   exfalso
   have hpt:p.1=t:=Nat.eq_of_beq_eq_true hb;have h1:=List.all_eq_true.1 h p hp
   rw [List.all_eq_true] at h1
   have:=n_5 (e:=e.drop n) (t:=t) λq hq=>by
    have:=h1 q hq
    rw [Bool.not_eq_true'] at this
    rw [← hpt];exact this
   rw [this] at hl;cases hl
 rw [List.take_append_drop] at this
 rw [this];exact hl
theorem q_o (n:Nat){e':Env}{a:Act}(hu:c=u)(G:r_ e' d=some (vB c))(hf:l_2 n e'=true)(he:e'.drop n=e)(ha:Sat N e' a):Sat N ((d,vB u)::e) a:=by
 subst hu;subst he;refine ⟨ha.defers,ha.size,λt v ht=>?_⟩
 simp only [r_] at ht
 by_cases hk:d=t
 .subst hk;have hb:Nat.beq d d=true:=by simp
  rw [hb] at ht
  simp only [cond_true,Option.some.injEq] at ht
  subst ht;exact ha.at_ d _ G
 .have hb:Nat.beq d t=false:=by rw [← Bool.not_eq_true,Nat.beq_eq];exact hk
  rw [hb] at ht
  simp only [cond_false] at ht
  exact ha.at_ t v<|q_n hf ht
theorem WLq (n:Nat){e':Env}(hu:some c=some u)(G:r_ e' d=some (vB c))(hf:l_2 n e'=true)(he:e'.drop n=e):WL P N ops (λa w'=>w'=w/\Sat N ((d,vB u)::e) a) Q [] e' w :=
 a_f λ_ ha=>⟨rfl,q_o n (Option.some.inj hu) G hf he ha⟩
end
end Go.Vw
universe u
namespace Go.Vw
open Go.RowKit Dat
section
variable {P:Program}{N:Nat}{ops:Array Oper}{K:Act->World->Prop}{Q:Exit->Act->World->Prop}{e:Env}{w:World}{rest:List Oper}
variable {d:Nat}{op:Op}{ty:TypeId}{pos:String}{aft:Array Edge}{x:Operand}
theorem Wn {y:Code}{Q':Exit->Act->World->Prop}(h:WC P N y K Q e w):WL P N ops (KC P y K Q) Q' [] e w:=a_f<|WC.of_KC h
theorem Ws {id:Nat}{l:List Oper}{y:Code}(h:WL P N l.toArray (KC P y K Q) Q l e w):WC P N (.seq (.region id l.toArray false) y) K Q e w:=a_c<|a_E h
theorem Wk {y:Code}{Q':Exit->Act->World->Prop}(h:WC P N y K Q e w):WC P N .skip (KC P y K Q) Q' e w:=M_<|WC.of_KC h
theorem e_5 {b:Bool}{o:Option Value}{v:Value}(h:(bif b then o else none)=some v):b=true/\o=some v:=by
 cases b
 .cases h
 .exact ⟨rfl,h⟩
theorem Rm {v:Value}(h:(bif Nat.blt d N then ev e x else none)=some v)(k:WL P N ops K Q rest ((d,v)::e) w):WL P N ops K Q (⟨some d,.move x,ty,pos,aft,none⟩::rest) e w:=R (e_5 h).1 (b_8 (e_5 h).2) k
theorem Ra {v:Value}(h:(bif Nat.blt d N then ev e x else none)=some v)(k:WL P N ops K Q rest ((d,v)::e) w):WL P N ops K Q (⟨some d,.assign x,ty,pos,aft,none⟩::rest) e w:=R (e_5 h).1 (c_A (e_5 h).2) k
section
variable {j:Nat}{want b:Bool}
theorem bind_some {o:Option Nat}{v:Value}(h:o.bind (r_ e)=some v):∃gd,o=some gd/\r_ e gd=some v:=by
 cases o with
 | none=>cases h
 | some g=>exact ⟨g,rfl,h⟩
theorem Rh {v:Value}(h:(bif Nat.blt d N then ((ops[j]?).bind (·.dst)).bind (r_ e) else none)=some (.bool b))(hw:b=want)(hr:Rd noX P N ⟨some d,op,ty,pos,aft,some (j,want)⟩ e w v)(k:WL P N ops K Q rest ((d,v)::e) w):WL P N ops K Q (⟨some d,op,ty,pos,aft,some (j,want)⟩::rest) e w:=by
 obtain ⟨gd,h1,h2⟩:=bind_some (e_5 h).2;exact Rg h1 h2 hw (e_5 h).1 hr k
theorem Nh (h:(bif Nat.blt d N then ((ops[j]?).bind (·.dst)).bind (r_ e) else none)=some (.bool b))(hw:b = !want)(k:WL P N ops K Q rest ((d,undef)::e) w):WL P N ops K Q (⟨some d,op,ty,pos,aft,some (j,want)⟩::rest) e w:=by
 obtain ⟨gd,h1,h2⟩:=bind_some (e_5 h).2;exact Ng h1 h2 hw (e_5 h).1 k
theorem Nv (h:(bif Nat.blt d N then ((ops[j]?).bind (·.dst)).bind (r_ e) else none)=some undef)(k:WL P N ops K Q rest ((d,undef)::e) w):WL P N ops K Q (⟨some d,op,ty,pos,aft,some (j,want)⟩::rest) e w:=by
 obtain ⟨gd,h1,h2⟩:=bind_some (e_5 h).2;exact Nu h1 h2 (e_5 h).1 k
end
end
theorem inbR {j:Nat}{K':Act->World->Prop}{Q:Exit->Act->World->Prop}{a:Act}{w:World}(h:Q .ret a w):inB j K' Q .ret a w:=h
theorem goF {P:Program}{f:FuncId}{G:Func}{c:Code}{N:Nat}{args:List Value}{w:World}{R:Value->World->Prop}(hf:P.funcs[f]? = some G)(hb:G.body=some c)(hN:G.ntmps=N)(hle:args.length<=N)(h:∀fn:Func,fn.results=G.results->WC P N c (b_C P fn R) (QR P fn R) (e_W 0 args) w):f_ P f args w R:=h_V hf hb hN hle<|h G rfl
theorem goG {P:Program}{f:FuncId}{G:Func}{c:Code}{N:Nat}{args:List Value}{w:World}{R:Value->World->Prop}(hf:P.funcs[f]? = some G)(hb:G.body=some c)(hN:G.ntmps=N)(hle:Nat.ble args.length N=true)(h:∀fn:Func,fn.results=G.results->WC P N c (b_C P fn R) (QR P fn R) (e_W 0 args) w):f_ P f args w R:=goF hf hb hN (Nat.le_of_ble_eq_true hle) h
section
variable {P:Program}{N:Nat}{e:Env}{w:World}{ty:TypeId}{pos:String}{aft:Array Edge}{gd:Option (Nat×Bool)}{x y:Operand}
theorem fs0 {T n g o:Nat}{v:Value}{cur cur':List Value}(hs:∀w,(sizeOf T).run P w = .ok n w)(hp:ev e x=some (.pointer<|some ⟨g,o,none⟩))(hv:ev e y=some v)(hB:Blk w g cur)(hn:v.cells.size=n)
  (ho:Nat.ble (o+n) cur.length=true) (h1:v.cells.toList.all Value.oneCell'=true) (hcur:cur.take o++v.cells.toList++cur.drop (o+v.cells.toList.length)=cur') :
  Ef P N ⟨none,.store T x y,ty,pos,aft,gd⟩ e w (λ_ w'=>Blk w' g cur'/\Chg (· = g) w w'):=a_O hs hp hv hB hn (Nat.le_of_ble_eq_true ho) (b_0 h1) hcur
end
abbrev rQ {ρ:Type}(P:Program)(fn:Func)(Q:ρ->Value->World->Prop)(r:ρ)(ex:Exit)(a:Act)(w:World):Prop:=ex = .ret/\b_C P fn (Q r) a w
abbrev _root_.Go.World.z (w:World):Nat:=w.heap.size
abbrev sl (a:Option Addr)(n c:Nat):Value:=.slice a n c
abbrev sN:Value:=sl none 0 0
abbrev pt (g:Nat):Value:=.pointer<|some ⟨g,0,none⟩
abbrev Bw (a b:World):Prop:=Below a.heap.size a b
abbrev vR (x:b_)(G:Option Addr)(H I:Nat)(a2:Option Addr)(J L:Nat)(O:Option Addr)(V W:Nat)(Y:Option Addr)(n4 c4:Nat):List Value:=[x.name.v,vI x.kind,vI x.size,vB x.little,.slice G H I,.slice a2 J L,.slice O V W,.slice Y n4 c4]
theorem z {α:Sort u}{a:α}:a=a:=rfl
theorem Sat.k {N:Nat}{e e':Env}{a:Act}(h:Sat N e a)(hs:sub e e'):Sat N e' a:=h.weaken hs
theorem fid {a:Prop}(h:a):a:=h
theorem lt_ {a b c:Nat}(h:a<=b)(h':b<=c):a<=c:=Nat.le_trans h h'
theorem lr {a:Nat}:a<=a:=Nat.le_refl a
theorem lb {a b:Nat}(h:Nat.ble a b=true):a<=b:=Nat.le_of_ble_eq_true h
theorem ii {x:Int}(h:(decide (-9223372036854775808<=x) && decide (x<=9223372036854775807))=true):inI x:=inI_of x h
section
variable {S T A M:List Nat}{m n g k:Nat}
theorem h_n (h:m<=n):∀k∈[n],m<=k:=f_A h
theorem nd0:([]++[]:List Nat).Nodup:=f_D q_ q_ c_w
end
section
variable {e e':Env}{v1 v2 v3 v4 v5 v6 v7 v8 v9:Value}{k1 k2 k3 k4 k5 k6 k7 k8 k9:Nat}
theorem s1 (h1:r_ e k1=some v1):sub e [(k1,v1)]:=⟨h1,trivial⟩
theorem s2 (h1:r_ e k1=some v1)(h2:r_ e k2=some v2):sub e [(k1,v1),(k2,v2)]:=⟨h1,s1 h2⟩
theorem s3 (h1:r_ e k1=some v1)(h2:r_ e k2=some v2)(h3:r_ e k3=some v3):sub e [(k1,v1),(k2,v2),(k3,v3)]:=⟨h1,s2 h2 h3⟩
theorem s4 (h1:r_ e k1=some v1)(h2:r_ e k2=some v2)(h3:r_ e k3=some v3)(h4:r_ e k4=some v4):sub e [(k1,v1),(k2,v2),(k3,v3),(k4,v4)]:=⟨h1,s3 h2 h3 h4⟩
theorem s5 (h1:r_ e k1=some v1)(h2:r_ e k2=some v2)(h3:r_ e k3=some v3)(h4:r_ e k4=some v4)(h5:r_ e k5=some v5):sub e [(k1,v1),(k2,v2),(k3,v3),(k4,v4),(k5,v5)]:=⟨h1,s4 h2 h3 h4 h5⟩
theorem s6 (h1:r_ e k1=some v1)(h2:r_ e k2=some v2)(h3:r_ e k3=some v3)(h4:r_ e k4=some v4)(h5:r_ e k5=some v5)(h6:r_ e k6=some v6):sub e [(k1,v1),(k2,v2),(k3,v3),(k4,v4),(k5,v5),(k6,v6)]:=⟨h1,s5 h2 h3 h4 h5 h6⟩
theorem s7 (h1:r_ e k1=some v1)(h2:r_ e k2=some v2)(h3:r_ e k3=some v3)(h4:r_ e k4=some v4)(h5:r_ e k5=some v5)(h6:r_ e k6=some v6)(G:r_ e k7=some v7):sub e [(k1,v1),(k2,v2),(k3,v3),(k4,v4),(k5,v5),(k6,v6),(k7,v7)]:=⟨h1,s6 h2 h3 h4 h5 h6 G⟩
theorem s8 (h1:r_ e k1=some v1)(h2:r_ e k2=some v2)(h3:r_ e k3=some v3)(h4:r_ e k4=some v4)(h5:r_ e k5=some v5)(h6:r_ e k6=some v6)(G:r_ e k7=some v7)(H:r_ e k8=some v8):sub e [(k1,v1),(k2,v2),(k3,v3),(k4,v4),(k5,v5),(k6,v6),(k7,v7),(k8,v8)]:=⟨h1,s7 h2 h3 h4 h5 h6 G H⟩
theorem s9 (h1:r_ e k1=some v1)(h2:r_ e k2=some v2)(h3:r_ e k3=some v3)(h4:r_ e k4=some v4)(h5:r_ e k5=some v5)(h6:r_ e k6=some v6)(G:r_ e k7=some v7)(H:r_ e k8=some v8)(I:r_ e k9=some v9):sub e [(k1,v1),(k2,v2),(k3,v3),(k4,v4),(k5,v5),(k6,v6),(k7,v7),(k8,v8),(k9,v9)]:=⟨h1,s8 h2 h3 h4 h5 h6 G H I⟩
end
theorem onL {α:Type}[Dat α]{w:World}:a_ w [] (.slice none 0 0) ([]:List α):=n_j w
theorem _root_.Go.RowKit.Below.s {b:Nat}{w w':World}(h:Below b w w'):w.heap.size<=w'.heap.size:=h.size
theorem Chg.s {X:Nat->Prop}{w w':World}(h:Chg X w w'):w.heap.size<=w'.heap.size:=h.size
abbrev Chg.e:=@Chg.ext
abbrev repS.e:=@repS.ext
abbrev repS.c:=@repS.chg
abbrev a_.e:=@a_.ext
abbrev a_.c:=@a_.chg
abbrev t_.e:=@t_.ext
abbrev t_.c:=@t_.chg
abbrev a_A.e:=@a_A.ext
abbrev a_A.c:=@a_A.chg
abbrev b_c.e:=@b_c.ext
abbrev b_c.c:=@b_c.chg
abbrev GlW.e:=@GlW.ext
abbrev GlW.c:=@GlW.chg
abbrev c_k.e:=@c_k.ext
abbrev c_k.c:=@c_k.chg
abbrev Blk.e:=@Blk.ext
abbrev Blk.c:=@Blk.chg
abbrev b_Y.e:=@b_Y.ext
abbrev b_Y.c:=@b_Y.chg
section
variable {P:Program}{N:Nat}{ops:Array Oper}{K:Act->World->Prop}{Q:Exit->Act->World->Prop}{e:Env}{w:World}{rest:List Oper}{X:Nat->Prop}{T:Nat}{p:a_y}
variable {d d':Nat}{ty ty':TypeId}{pos pos':String}{aft aft':Array Edge}{x x':Operand}{v v':Value}
theorem Rw {c:Code}{Q':Exit->Act->World->Prop}(h:(bif Nat.blt d N then ev e x else none)=some v)(k:WC P N c K Q ((d,v)::e) w):WL P N ops (KC P c K Q) Q' [⟨some d,.assign x,ty,pos,aft,none⟩] e w:=Ra h<|Wn k
theorem Wm {id:Nat}{l:List Oper}{c:Code}(h:(bif Nat.blt d N then ev e x else none)=some v)(k:WL P N (⟨some d,.move x,ty,pos,aft,none⟩::l).toArray (KC P c K Q) Q l ((d,v)::e) w):WC P N (.seq (.region id (⟨some d,.move x,ty,pos,aft,none⟩::l).toArray false) c) K Q e w:=Ws<|Rm h k
theorem RM (h:(bif Nat.blt d N then ev e x else none)=some v)(h':(bif Nat.blt d' N then ev ((d,v)::e) x' else none)=some v')(k:WL P N ops K Q rest ((d',v')::(d,v)::e) w):WL P N ops K Q (⟨some d,.move x,ty,pos,aft,none⟩::⟨some d',.move x',ty',pos',aft',none⟩::rest) e w:=Rm h<|Rm h' k
theorem RA (h:(bif Nat.blt d N then ev e x else none)=some v)(h':(bif Nat.blt d' N then ev ((d,v)::e) x' else none)=some v')(k:WL P N ops K Q rest ((d',v')::(d,v)::e) w):WL P N ops K Q (⟨some d,.assign x,ty,pos,aft,none⟩::⟨some d',.assign x',ty',pos',aft',none⟩::rest) e w:=Ra h<|Ra h' k
theorem dM {i:Nat}(ho:ops[i]? = some ⟨some d,.move x,ty,pos,aft,none⟩)(hf:Nat.blt d N=true)(h:ev e x=some v)(k:PR X P N ops T K p ((d,v)::e) w):PR X P N ops T K (.rd i p) e w:=dR ho hf (b_8 h) k
theorem dQ {i:Nat}(ho:ops[i]? = some ⟨some d,.assign x,ty,pos,aft,none⟩)(hf:Nat.blt d N=true)(h:ev e x=some v)(k:PR X P N ops T K p ((d,v)::e) w):PR X P N ops T K (.rd i p) e w:=dR ho hf (c_A h) k
theorem Wx {y y':Code}{b:Bool}{Q':Exit->Act->World->Prop}(hc:ev e x=some (.bool b))(ht:b=true->WC P N y K Q e w)(hf:b=false->WC P N y' K Q e w):WL P N ops (KC P (.cond x y y') K Q) Q' [] e w:=Wn<|b_Z hc ht hf
section
variable {t u i:Nat}{k:IntKind}{a b:Int}
theorem Rl (hf:Nat.blt d N=true)(h1:ev e x=some (.int k a))(h2:ev e x'=some (.int k b))(h:WL P N ops K Q rest ((d,vB<|decide<|a<b)::e) w):WL P N ops K Q (⟨some d,.binOp .lss t x x' u,ty,pos,aft,none⟩::rest) e w:=R hf (e_n h1 h2) h
theorem Rq (hf:Nat.blt d N=true)(h1:ev e x=some (.int k a))(h2:ev e x'=some (.int k b))(h:WL P N ops K Q rest ((d,vB<|a==b)::e) w):WL P N ops K Q (⟨some d,.binOp .eql t x x' u,ty,pos,aft,none⟩::rest) e w:=R hf (f_Y h1 h2) h
theorem Rf {g o j:Nat}(hf:Nat.blt d N=true)(h1:Fld P t i j)(h2:ev e x=some (.pointer<|some ⟨g,o,none⟩))(h:WL P N ops K Q rest ((d,.pointer<|some ⟨g,o+j,none⟩)::e) w):WL P N ops K Q (⟨some d,.fieldAddr t x i,ty,pos,aft,none⟩::rest) e w:=R hf (f_T h1 h2) h
theorem Re {vs:Array Value}(hf:Nat.blt d N=true)(h1:ev e x=some (.tuple vs))(h2:vs[i]? = some v)(h:WL P N ops K Q rest ((d,v)::e) w):WL P N ops K Q (⟨some d,.extract x i,ty,pos,aft,none⟩::rest) e w:=R hf (f_V h1 h2) h
end
theorem l0 {t g o:Nat}{dst:Option Tmp}{gd:Option (Nat×Bool)}(hT:∀w,(isAgg t).run P w = .ok false w)(h:ev e x=some (.pointer<|some ⟨g,o,none⟩))(hc:w.cell? ⟨g,o,none⟩=some v):Rd noX P N ⟨dst,.load t x,ty,pos,aft,gd⟩ e w v:=b_w hT h (λh=>h) hc
def plA:Nat->Nat->List Nat->a_y
 | _,0,_=>.done
 | i,n+1,l=>bif l.elem i then .ef i (plA (i+1) n l) else .rd i (plA (i+1) n l)
abbrev pl_ (n:Nat)(l:List Nat):a_y:=plA 0 n l
end
end Go.Vw
namespace Go.Vw
open Go.RowKit Dat
section
variable {w w' a b c : World} {M A S T : List Nat} {B : Zone} {v : Value} {g m n : Nat} {p : Prop}
section
variable {P : Nat → Prop} {S1 S2 S3 S4 : List Nat}
theorem U_ (h : (S1 ++ S2).Nodup) (g : ∀ k ∈ S1 ++ S2, P k) : S1.Nodup ∧ S2.Nodup ∧ (∀ k ∈ S1, k ∉ S2) ∧ (∀ k ∈ S1, P k) ∧ ∀ k ∈ S2, P k := ⟨f_E h, f_F h, f_G h, λk hk => g k (List.mem_append_left _ hk), λk hk => g k (List.mem_append_right _ hk)⟩
theorem apQ3 (h : (S1 ++ (S2 ++ S3)).Nodup) (g : ∀ k ∈ S1 ++ (S2 ++ S3), P k) : S1.Nodup ∧ S2.Nodup ∧ S3.Nodup ∧ (∀ k ∈ S1, k ∉ S2) ∧ (∀ k ∈ S1, k ∉ S3) ∧ (∀ k ∈ S2, k ∉ S3) ∧ (∀ k ∈ S1, P k) ∧ (∀ k ∈ S2, P k) ∧ ∀ k ∈ S3, P k := by
 obtain ⟨a, b, c, d, e⟩ := U_ h g
 obtain ⟨a', b', c', d', e'⟩ := U_ b e
 exact ⟨a, a', b', λk hk h => c k hk (List.mem_append_left _ h), λk hk h => c k hk (List.mem_append_right _ h), c', d, d', e'⟩
theorem g_F (h : (S1 ++ (S2 ++ (S3 ++ S4))).Nodup) (g : ∀ k ∈ S1 ++ (S2 ++ (S3 ++ S4)), P k) : S1.Nodup ∧ S2.Nodup ∧ S3.Nodup ∧ S4.Nodup ∧ (∀ k ∈ S1, k ∉ S2) ∧ (∀ k ∈ S1, k ∉ S3) ∧ (∀ k ∈ S1, k ∉ S4) ∧ (∀ k ∈ S2, k ∉ S3) ∧ (∀ k ∈ S2, k ∉ S4) ∧ (∀ k ∈ S3, k ∉ S4) ∧ (∀ k ∈ S1, P k) ∧ (∀ k ∈ S2, P k) ∧ (∀ k ∈ S3, P k) ∧ ∀ k ∈ S4, P k := by
 obtain ⟨a, b, c, d, e⟩ := U_ h g
 obtain ⟨n1, n2, n3, d1, d2, d3, g1, g2, g3⟩ := apQ3 b e
 exact ⟨a, n1, n2, n3, λk hk h => c k hk (List.mem_append_left _ h), λk hk h => c k hk (List.mem_append_right _ (List.mem_append_left _ h)), λk hk h => c k hk (List.mem_append_right _ (List.mem_append_right _ h)), d1, d2, d3, d, g1, g2, g3⟩
end
theorem kM1 {k : Nat} (hb : Below k w w') (h : m ≤ w.heap.size) : m ≤ w'.heap.size := Nat.le_trans h hb.size
theorem kM2 {X : Nat → Prop} (hb : Chg X w w') (h : m ≤ w.heap.size) : m ≤ w'.heap.size := Nat.le_trans h hb.size
theorem kM3 {k : Nat} (hb : Below k w w') (h : B ≤ bl w.heap.size) : B ≤ bl w'.heap.size := zt' h hb.size
theorem kM4 {X : Nat → Prop} (hb : Chg X w w') (h : B ≤ bl w.heap.size) : B ≤ bl w'.heap.size := zt' h hb.size
theorem kM5 {k : Nat} (hb : Below k w w') (h : g < w.heap.size) : g < w'.heap.size := Nat.lt_of_lt_of_le h hb.size
theorem kM6 {X : Nat → Prop} (hb : Chg X w w') (h : g < w.heap.size) : g < w'.heap.size := Nat.lt_of_lt_of_le h hb.size
theorem kM (h : p := by
 first
 | ((repeat' first
   | with_reducible assumption
   | exact Nat.le_refl _
   | ((with_reducible apply Blk.lt); (· with_reducible assumption))
   | ((with_reducible apply kM5); (· with_reducible assumption))
   | ((with_reducible apply kM6); (· with_reducible assumption))
   | ((with_reducible apply kM1); (· with_reducible assumption))
   | ((with_reducible apply kM2); (· with_reducible assumption))
   | ((with_reducible apply kM3); (· with_reducible assumption))
   | ((with_reducible apply kM4); (· with_reducible assumption))
   | with_reducible apply a_5
   | with_reducible apply b_1
   | exact zr); done)
 | fail) : p := h
theorem kL1 {k : Nat} (hb : Below k w w') (h : ∀ k ∈ S, k < w.heap.size) : ∀ k ∈ S, k < w'.heap.size := λk hk => Nat.lt_of_lt_of_le (h k hk) hb.size
theorem kL2 {X : Nat → Prop} (hb : Chg X w w') (h : ∀ k ∈ S, k < w.heap.size) : ∀ k ∈ S, k < w'.heap.size := λk hk => Nat.lt_of_lt_of_le (h k hk) hb.size
theorem kL3 {α : Type} {d : Dat α} {l : List α} (h : a_ w S v l) : ∀ k ∈ S, k < w.heap.size := h.lt
theorem kL4 {α : Type} {d : Dat α} {l : List α} (h : b_Y w S B v l) : ∀ k ∈ S, k < w.heap.size := h.lt
theorem kL5 {α : Type} {d : Dat α} {l : List α} (h : c_l w S v l) : ∀ k ∈ S, k < w.heap.size := h.lt
theorem kL6 {o : Option (Int × Int)} (h : a_A g w S v o) : ∀ k ∈ S, k < w.heap.size := h.lt
theorem kL (h : p := by
 first
 | ((repeat' first
   | with_reducible assumption
   | exact c_w
   | ((with_reducible apply d_N))
   | ((with_reducible apply kL3); (· with_reducible assumption))
   | ((with_reducible apply kL4); (· with_reducible assumption))
   | ((with_reducible apply kL5); (· with_reducible assumption))
   | ((with_reducible apply kL6); (· with_reducible assumption))
   | ((with_reducible apply f_A); exact kM)
   | ((with_reducible apply kL1); (· with_reducible assumption))
   | ((with_reducible apply kL2); (· with_reducible assumption))); done)
 | fail) : p := h
section
variable {P : Nat → Prop}
theorem g_G (h : ∀ k, n ≤ k → P k) : ∀ k ∈ [n], P k := f_A (h n (Nat.le_refl n))
theorem g_H (hg : n ≤ g) (h : ∀ k, n ≤ k → P k) : ∀ k ∈ [g], P k := f_A (h g hg)
theorem lit1 (h : ∀ k, n ≤ k → P k) (hs : ∀ k ∈ S, P k) : ∀ k ∈ n :: S, P k := λk hk => (List.mem_cons.1 hk).elim (λe => e ▸ h n (Nat.le_refl n)) (hs k)
theorem or1' (hs : ∀ k ∈ S, k ∈ A ∨ n ≤ k) (h : ∀ k, n ≤ k → P k) (ha : ∀ k ∈ A, P k) : ∀ k ∈ S, P k := or1 hs ha h
theorem or2' (hs : ∀ k ∈ S, k ∈ A ∨ k ∈ T ∨ n ≤ k) (h : ∀ k, n ≤ k → P k) (ha : ∀ k ∈ A, P k) (hb : ∀ k ∈ T, P k) : ∀ k ∈ S, P k := or2 hs ha hb h
theorem ltnotL (h : ∀ k ∈ T, k < n) : ∀ k, n ≤ k → k ∉ T := λk hk ht => absurd (h k ht) (Nat.not_lt.2 hk)
theorem ltgeb (h : ∀ k ∈ A, n ≤ k) : ∀ k, bl n k → k ∉ A := f_B h
theorem memJ (hg : g ∈ S) (h : ∀ k ∈ S, k ∉ T) : g ∉ T := h g hg
theorem singM (h : ∀ k ∈ [g], k ∉ T) : g ∉ T := h g (List.mem_singleton.2 rfl)
theorem singN {i j : Nat} (h : ∀ k ∈ [g], ¬ zn B i j k) : ¬ zn B i j g := h g (List.mem_singleton.2 rfl)
theorem singB (h : ∀ k ∈ [g], ¬ bl n k) : ¬ bl n g := h g (List.mem_singleton.2 rfl)
theorem nznL' {i j : Nat} (h1 : ∀ k ∈ A, k < i) (h : ∀ k ∈ A, ¬ B k) : ∀ k ∈ A, ¬ zn B i j k := nznL h h1 (Nat.le_refl _)
theorem nznR' {i j : Nat} (h1 : ∀ k ∈ A, j ≤ k) (h : ∀ k ∈ A, ¬ B k) : ∀ k ∈ A, ¬ zn B i j k := nznR h h1
end
theorem kU (h : p := by
 first
 | ((first
   | ((with_reducible apply lele); exact kM)
   | ((with_reducible apply leor); exact kM)
   | ((with_reducible apply ltnotL); exact kL)
   | ((with_reducible apply lenB); exact kM)); done)
 | fail) : p := h
theorem sG (h : p := by
 first
 | ((repeat' first
   | with_reducible assumption
   | exact c_w
   | ((with_reducible apply d_N))
   | ((with_reducible apply g_G); exact kU)
   | ((with_reducible apply g_H); (· with_reducible assumption); exact kU)
   | ((with_reducible apply or0); (· with_reducible assumption); exact kU)
   | ((with_reducible apply or1'); (· with_reducible assumption); (· exact kU))
   | ((with_reducible apply or2'); (· with_reducible assumption); (· exact kU))
   | ((with_reducible apply lit1); (· exact kU))); done)
 | fail) : p := h
theorem sZ (h : p := by
 first
 | ((repeat' first
   | with_reducible assumption
   | exact c_w
   | ((with_reducible apply d_N))
   | ((with_reducible apply f_A); (· with_reducible assumption))
   | ((with_reducible apply nbl); exact sG)
   | ((with_reducible apply g_G); exact kU)
   | ((with_reducible apply g_H); (· with_reducible assumption); exact kU)
   | ((with_reducible apply or0); (· with_reducible assumption); exact kU)
   | ((with_reducible apply or1'); (· with_reducible assumption); (· exact kU))
   | ((with_reducible apply or2'); (· with_reducible assumption); (· exact kU))
   | ((with_reducible apply lit1); (· exact kU))
   | ((with_reducible apply nznL'); (· exact kL))
   | ((with_reducible apply nznR'); (· exact sG))); done)
 | fail) : p := h
theorem sJ (h : p := by
 first
 | ((repeat' first
   | with_reducible assumption
   | ((with_reducible apply nmA))
   | with_reducible exact b_B (by with_reducible assumption)
   | ((with_reducible apply g_G); exact kU)
   | ((with_reducible apply g_H); (· with_reducible assumption); exact kU)
   | ((with_reducible apply b_B); (with_reducible apply g_G); exact kU)
   | ((with_reducible apply b_B); (with_reducible apply g_H); (· with_reducible assumption); exact kU)
   | ((with_reducible apply b_B); (with_reducible apply or0); (· with_reducible assumption); exact kU)
   | ((with_reducible apply b_B); (with_reducible apply or1'); (· with_reducible assumption); (· exact kU))
   | ((with_reducible apply b_B); (with_reducible apply or2'); (· with_reducible assumption); (· exact kU))
   | ((with_reducible apply b_B); (with_reducible apply lit1); (· exact kU))); done)
 | fail) : p := h
theorem nBg {Z : Zone} (hg : n ≤ g) (hb : Z ≤ bl n) : ¬ Z g := λh => absurd (hb g h) (Nat.not_lt.2 hg)
theorem nBh {Z : Zone} (hb : Z ≤ bl n) (hg : n ≤ g) : ¬ Z g := nBg hg hb
theorem sQ (h : p := by
 first
 | ((repeat' first
   | with_reducible assumption
   | exact c_w
   | exact nmN _
   | ((with_reducible show ∀ k ∈ (_ : List Nat), _); first
     | ((with_reducible apply b_B); (· with_reducible assumption))
     | (with_reducible apply d_N)
     | (with_reducible apply nmA)
     | ((with_reducible apply f_C); (first | exact c_j | exact j_B c_j | exact c_7 c_j | exact c_7 (j_B c_j) | exact c_7 (c_7 c_j) | exact c_7 (c_7 (j_B c_j)) | exact c_7 (c_7 (c_7 (j_B c_j))) | exact c_7 (c_7 (c_7 (c_7 c_j))) | exact c_7 (c_7 (c_7 c_j))))
     | ((with_reducible apply g_G); exact kU)
     | ((with_reducible apply g_H); (· with_reducible assumption); exact kU)
     | ((with_reducible apply or0); (· with_reducible assumption); exact kU)
     | ((with_reducible apply or1'); (· with_reducible assumption); (· exact kU))
     | ((with_reducible apply or2'); (· with_reducible assumption); (· exact kU))
     | ((with_reducible apply lit1); (· exact kU))
     | ((with_reducible apply b_B); (with_reducible apply g_G); exact kU)
     | ((with_reducible apply b_B); (with_reducible apply g_H); (· with_reducible assumption); exact kU)
     | ((with_reducible apply b_B); (with_reducible apply or0); (· with_reducible assumption); exact kU)
     | ((with_reducible apply b_B); (with_reducible apply or1'); (· with_reducible assumption); (· exact kU))
     | ((with_reducible apply b_B); (with_reducible apply or2'); (· with_reducible assumption); (· exact kU))
     | ((with_reducible apply b_B); (with_reducible apply lit1); (· exact kU))
     | exact sZ)
   | ((show ∀ _ : Nat, _ → _); first
     | (with_reducible apply nmA)
     | ((with_reducible apply ltgz); exact sZ)
     | ((with_reducible apply ltgeb); exact sG))
   | ((with_reducible apply memJ); (· with_reducible assumption); (with_reducible apply or0); (· with_reducible assumption); exact kU)
   | ((with_reducible apply memJ); (· with_reducible assumption); (· exact sJ))
   | ((with_reducible refine singM ?_); exact sJ)
   | ((with_reducible apply nBg); (· with_reducible assumption); exact kM)
   | ((with_reducible apply nBh); (· with_reducible assumption); (· exact kM))
   | ((with_reducible refine singN ?_); exact sZ)
   | ((with_reducible refine singB ?_); exact sZ)
   | exact kM); done)
 | fail) : p := h
theorem c_v {X : Nat → Prop} (h : Cg S w w') (hs : ∀ k ∈ S, X k := by exact sQ) : Chg X w w' := h.mono λk _ hk => hs k hk
theorem sQB {Z : Zone} (hk : Z g) (h : ∀ k, Z k → k ∉ M := by exact sQ) : g ∉ M := h g hk
theorem sQN {k : Nat} (hk : k ∈ S) (h : ∀ k ∈ S, k ∉ M := by exact sQ) : ¬ k ∈ M := h k hk
theorem kW1 (h' : Below b.heap.size b c) (h : Below a.heap.size a b) : Below a.heap.size a c := bup h h'
theorem kW2 (h' : Cg A b c) (hx : ∀ k ∈ A, a.heap.size ≤ k) (h : Below a.heap.size a b) : Below a.heap.size a c := c_1 h h' hx
theorem kW3 (h' : Below b.heap.size b c) (h : Cg M a b) : Cg M a c := cext h h'
theorem kW4 (h' : Cg A b c) (hx : ∀ k ∈ A, k ∈ M ∨ a.heap.size ≤ k) (h : Cg M a b) : Cg M a c := f_I h h' hx
theorem kW (h : p := by
 first
 | ((repeat' first
   | with_reducible assumption
   | with_reducible exact e_Q _
   | with_reducible exact f_H _ _
   | ((with_reducible apply kW1); (· with_reducible assumption))
   | ((with_reducible apply kW2); (· with_reducible assumption); (· exact sQ))
   | ((with_reducible apply kW3); (· with_reducible assumption))
   | ((with_reducible apply kW4); (· with_reducible assumption); (· exact sQ))); done)
 | fail) : p := h
theorem Val.bytes_mk' (x : Int) (y : Bt) (z : List Val) : (Val.mk x y z).bytes = y := rfl
theorem Val.items_mk' (x : Int) (y : Bt) (z : List Val) : (Val.mk x y z).items = z := rfl
theorem kBx {l : List Value} (hb : Below w.heap.size w w') (h : Blk w g l) : Blk w' g l := h.ext hb
theorem kBy {l : List Value} (hc : Cg M w w') (h : Blk w g l) (hx : ∀ k ∈ [g], k ∉ M) : Blk w' g l := h.chg hc (hx g (List.mem_singleton.2 rfl))
theorem kB {l : List Value} (h : Blk w g l := by
 first
 | ((repeat' first
   | with_reducible assumption
   | ((with_reducible apply kBx); (· with_reducible assumption))
   | ((with_reducible apply kBy); (· with_reducible assumption))
   | exact sQ); done)
 | fail) : Blk w g l := h
theorem kBa {l : List Value} {i : Nat} (h : Blk w g l := by exact kB) (hv : l[i]? = some v := by exact rfl) : w.cell? ⟨g, i, none⟩ = some v := h.at hv
theorem kBr {l vs : List Value} (o n : Nat) (h : Blk w g l := by exact kB) (hv : (l.drop o).take n = vs := by exact rfl) : t_ w g o vs := h.row o n hv
theorem kRx {α : Type} {d : Dat α} {l : List α} (hb : Below w.heap.size w w') (h : repS w B v l) : repS w' B v l := h.ext hb
theorem kRy {α : Type} {d : Dat α} {l : List α} (hc : Cg M w w') (h : repS w B v l) (hx : ∀ k, B k → k ∉ M) : repS w' B v l := h.chg hc hx
theorem kR {α : Type} {d : Dat α} {l : List α} (h : repS w B v l := by
 first
 | ((repeat' first
   | with_reducible assumption
   | ((with_reducible apply kRx); (· with_reducible assumption))
   | ((with_reducible apply kRy); (· with_reducible assumption))
   | exact sQ); done)
 | (dsimp only [Val.bytes_mk', Val.items_mk']; (repeat' first
   | with_reducible assumption
   | ((with_reducible apply kRx); (· with_reducible assumption))
   | ((with_reducible apply kRy); (· with_reducible assumption))
   | exact sQ); done)
 | fail) : repS w B v l := h
theorem kOx {α : Type} {d : Dat α} {l : List α} (hb : Below w.heap.size w w') (h : a_ w S v l) : a_ w' S v l := h.ext hb
theorem kOy {α : Type} {d : Dat α} {l : List α} (hc : Cg M w w') (h : a_ w S v l) (hx : ∀ k ∈ S, k ∉ M) : a_ w' S v l := h.chg hc hx
theorem kO {α : Type} {d : Dat α} {l : List α} (h : a_ w S v l := by
 first
 | ((repeat' first
   | with_reducible assumption
   | ((with_reducible apply kOx); (· with_reducible assumption))
   | ((with_reducible apply kOy); (· with_reducible assumption))
   | exact sQ); done)
 | (dsimp only [Val.bytes_mk', Val.items_mk']; (repeat' first
   | with_reducible assumption
   | ((with_reducible apply kOx); (· with_reducible assumption))
   | ((with_reducible apply kOy); (· with_reducible assumption))
   | exact sQ); done)
 | fail) : a_ w S v l := h
theorem kEx {o : Option (Int × Int)} (hb : Below w.heap.size w w') (h : a_A g w S v o) : a_A g w' S v o := h.ext hb
theorem kEy {o : Option (Int × Int)} (hc : Cg M w w') (h : a_A g w S v o) (hx : ∀ k ∈ S, k ∉ M) : a_A g w' S v o := h.chg hc hx
theorem kE {o : Option (Int × Int)} (h : a_A g w S v o := by
 first
 | ((repeat' first
   | assumption
   | ((with_reducible apply kEx); (· with_reducible assumption))
   | ((with_reducible apply kEy); (· with_reducible assumption))
   | exact sQ); done)
 | fail) : a_A g w S v o := h
theorem kGx {D : World → Prop} (hb : Below w.heap.size w w') (h : GlW n D w B) : GlW n D w' B := h.ext hb
theorem kGy {D : World → Prop} (hc : Cg M w w') (h : GlW n D w B) (hx : ∀ k, B k → k ∉ M) : GlW n D w' B := h.chg hc hx
theorem kG {D : World → Prop} (h : GlW n D w B := by
 first
 | ((repeat' first
   | with_reducible assumption
   | ((with_reducible apply kGx); (· with_reducible assumption))
   | ((with_reducible apply kGy); (· with_reducible assumption))
   | exact sQ); done)
 | fail) : GlW n D w B := h
theorem kIx {x : Str} {q : Nat} (hb : Below w.heap.size w w') (h : b_c w g x q) : b_c w' g x q := h.ext hb
theorem kIy {x : Str} {q : Nat} (hc : Cg M w w') (h : b_c w g x q) (hx : ∀ k ∈ [g], k ∉ M) : b_c w' g x q := h.chg hc (hx g (List.mem_singleton.2 rfl))
theorem kI {x : Str} {q : Nat} (h : b_c w g x q := by
 first
 | ((repeat' first
   | with_reducible assumption
   | ((with_reducible apply kIx); (· with_reducible assumption))
   | ((with_reducible apply kIy); (· with_reducible assumption))
   | exact sQ); done)
 | fail) : b_c w g x q := h
theorem kCx {o : Nat} {l : List Value} (hb : Below w.heap.size w w') (h : t_ w g o l) : t_ w' g o l := h.ext hb
theorem kC {o : Nat} {l : List Value} (h : t_ w g o l := by
 first
 | ((repeat' first
   | with_reducible assumption
   | ((with_reducible apply kCx); (· with_reducible assumption))); done)
 | fail) : t_ w g o l := h
theorem kCa {o j : Nat} {l : List Value} (h : t_ w g o l := by exact kC) (hv : l[j]? = some v := by exact rfl) : w.cell? ⟨g, o + j, none⟩ = some v := h.at hv
theorem kC0 {o : Nat} {l : List Value} (h : t_ w g o l := by exact kC) (hv : l[0]? = some v := by exact rfl) : w.cell? ⟨g, o, none⟩ = some v := h.at (j := 0) hv
end
end Go.Vw
namespace Go.Vw
open Go.RowKit Dat
abbrev pq (b o:Nat):Value:=.pointer<|some ⟨b,o,none⟩
abbrev rp {α:Type}[Dat α](w:World)(B:Zone)(a:Option Addr)(n c:Nat)(l:List α):Prop:=repS w B (.slice a n c) l
section
variable {P:Program}{N:Nat}{ops:Array Oper}{K:Act->World->Prop}{Q:Exit->Act->World->Prop}{e:Env}{w:World}{rest:List Oper}
variable {d:Nat}{op:Op}{ty:TypeId}{pos:String}{aft:Array Edge}{gd:Option (Nat×Bool)}{x y:Operand}{X:Nat->Prop}{T i:Nat}{p:a_y}{t g o n:Nat}{v:Value}{cur vs:List Value}
theorem EvX (cs:List Value)(hf:Nat.blt d N=true)(hx:ev e x=some v)(hc:v.cells.toList=cs)(k:∀w',Below w.heap.size w w'->Blk w' w.heap.size cs->WL P N ops K Q rest ((d,.pointer<|some ⟨w.heap.size,0,none⟩)::e) w'):WL P N ops K Q (⟨some d,.box t x,ty,pos,aft,none⟩::rest) e w :=
 E hf (d_i hx) λ_ w' q=>by
  obtain ⟨rfl,c⟩:=q;exact k w' c.below<|hc ▸ c.blk
theorem EvZ (cs:List Value)(hf:Nat.blt d N=true)(hz:∀w,(zeroValue t).run P w = .ok v w)(hc:v.cells.toList=cs)(k:∀w',Below w.heap.size w w'->Blk w' w.heap.size cs->WL P N ops K Q rest ((d,.pointer<|some ⟨w.heap.size,0,none⟩)::e) w'):WL P N ops K Q (⟨some d,.alloc t,ty,pos,aft,none⟩::rest) e w :=
 E hf (c_u hz) λ_ w' q=>by
  obtain ⟨rfl,c⟩:=q;exact k w' c.below<|hc ▸ c.blk
theorem dNb (cs:List Value)(ho:ops[i]? = some ⟨some d,.alloc t,ty,pos,aft,none⟩)(hf:Nat.blt d N=true)(hz:∀w,(zeroValue t).run P w = .ok v w)(hc:v.cells.toList=cs)(k:∀w',Below w.heap.size w w'->Blk w' w.heap.size cs->PR X P N ops T K p ((d,.pointer<|some ⟨w.heap.size,0,none⟩)::e) w'):PR X P N ops T K (.ef i p) e w :=
 dE ho hf (c_u hz) (.inr λ_ _ h=>b_b h.2.below) λ_ w' q=>by
  obtain ⟨rfl,c⟩:=q;exact k w' c.below<|hc ▸ c.blk
theorem fs9 (cs:List Value)(hs:∀w,(sizeOf t).run P w = .ok n w)(hp:ev e x=some (.pointer<|some ⟨g,o,none⟩))(hv:ev e y=some v)(hB:Blk w g cur)(h:(v.cells.size,Nat.ble (o+n) cur.length,v.cells.toList.all Value.oneCell',cur.take o++v.cells.toList++cur.drop (o+v.cells.toList.length))=(n,true,true,cs)) :
  Ef P N ⟨none,.store t x y,ty,pos,aft,gd⟩ e w (λ_ w'=>Blk w' g cs/\Chg (· = g) w w'):=by
 simp only [Prod.mk.injEq] at h
 exact fs0 hs hp hv hB h.1 h.2.1 h.2.2.1 h.2.2.2
theorem E0q (cs:List Value)(hs:∀w,(sizeOf t).run P w = .ok n w)(hp:ev e x=some (.pointer<|some ⟨g,o,none⟩))(hv:ev e y=some v)(hB:Blk w g cur)(h:(v.cells.size,Nat.ble (o+n) cur.length,v.cells.toList.all Value.oneCell',cur.take o++v.cells.toList++cur.drop (o+v.cells.toList.length))=(n,true,true,cs))(k:∀w',Blk w' g cs->Cg [g] w w'->WL P N ops K Q rest e w'):WL P N ops K Q (⟨none,.store t x y,ty,pos,aft,none⟩::rest) e w :=
 E0 (fs9 cs hs hp hv hB h) λ_ w' h=>k w' h.1 h.2.one
theorem dS {m:Nat}{M:List Nat}(cs:List Value)(ho:ops[i]? = some ⟨none,.store t x y,ty,pos,aft,none⟩)(hs:∀w,(sizeOf t).run P w = .ok n w)(hp:ev e x=some (.pointer<|some ⟨g,o,none⟩))(hv:ev e y=some v)(hB:Blk w g cur)(h:(v.cells.size,Nat.ble (o+n) cur.length,v.cells.toList.all Value.oneCell',cur.take o++v.cells.toList++cur.drop (o+v.cells.toList.length))=(n,true,true,cs))(hm:m<=g)(k:∀w',Blk w' g cs->Cg [g] w w'->PR (λk=>k∈M∨m<=k) P N ops T K p e w'):PR (λk=>k∈M∨m<=k) P N ops T K (.ef i p) e w :=
 dE0 ho (fs9 cs hs hp hv hB h) (.inr λ_ _ h=>chgNew hm h.2) λ_ w' q=>k w' q.1 q.2.one
theorem iB {R:Value->World->Prop}:T.testBit i=true∨∀v w',(Below w.heap.size w w'/\R v w')->Chg X w w':=.inr λ_ _ h=>b_b h.1
theorem lC (vs:List Value)(hT:∀w,(isAgg t).run P w = .ok true w)(hs:∀w,(sizeOf t).run P w = .ok n w)(h:ev e x=some (.pointer<|some ⟨g,0,none⟩))(hl:vs.length=n:=by exact rfl)(hc:Blk w g vs:=by exact kB):Rd noX P N ⟨some d,.load t x,ty,pos,aft,gd⟩ e w (.agg vs.toArray):=f_U hT hs h hl (λh=>h) hc.all
theorem bQ {zs:List Value}{places:List (Nat×Nat)}{us:List (Nat×Value)}(parts:List (Nat×Operand))(cs:List Value)(hB:b_v P t zs places)(hv:evp e parts=some us)(hf:Instr.fill (places.toArray[·]?) zs.toArray us=some cs.toArray):Rd X P N ⟨some d,.build t parts.toArray,ty,pos,aft,gd⟩ e w (.agg cs.toArray):=f_J hB hv hf
variable {ao:Option Addr}{B:Zone}{c sz':Nat}{l:Int}{kk:IntKind}{E:Nat}{α:Type}
theorem xA [Dat α]{u:List α}{v:α}(hf:Nat.blt d N=true)(hT:P.underlying t=some (.slice E))(hs:∀w,(sizeOf E).run P w = .ok sz' w)(hsz:sz'=sz α)(hx:ev e x=some (.slice ao n c))(hy:ev e y=some (.int kk l))(hr:repS w B (.slice ao n c) u)(hi:idx u l=some v)
  (k:∀b o cs,t_ w b o cs->rep w B cs v->B b->WL P N ops K Q rest ((d,.pointer<|some ⟨b,o,none⟩)::e) w):WL P N ops K Q (⟨some d,.indexAddr t x y,ty,pos,aft,none⟩::rest) e w :=
 RX hf (d_O hT hs hsz hx hy hr hi) (by rintro _ ⟨b,o,cs,rfl,h1,h2,h3⟩;exact k b o cs h1 h2 h3)
theorem xI {u:List Int}{v:Int}(hf:Nat.blt d N=true)(hT:P.underlying t=some (.slice E))(hs:∀w,(sizeOf E).run P w = .ok sz' w)(hsz:sz'=sz Int)(hx:ev e x=some (.slice ao n c))(hy:ev e y=some (.int kk l))(hr:repS w B (.slice ao n c) u)(hi:idx u l=some v)
  (k:∀b o,t_ w b o [vI v]->inI v->WL P N ops K Q rest ((d,.pointer<|some ⟨b,o,none⟩)::e) w):WL P N ops K Q (⟨some d,.indexAddr t x y,ty,pos,aft,none⟩::rest) e w :=
 xA hf hT hs hsz hx hy hr hi (by rintro b o _ h1 h2 _;obtain ⟨rfl,h3⟩:=a_u h2;exact k b o h1 h3)
theorem dxA [Dat α]{u:List α}{v:α}(ho:ops[i]? = some ⟨some d,.indexAddr t x y,ty,pos,aft,none⟩)(hf:Nat.blt d N=true)(hT:P.underlying t=some (.slice E))(hs:∀w,(sizeOf E).run P w = .ok sz' w)(hsz:sz'=sz α)(hx:ev e x=some (.slice ao n c))(hy:ev e y=some (.int kk l))(hr:repS w B (.slice ao n c) u)(hi:idx u l=some v)
  (k:∀b o cs,t_ w b o cs->rep w B cs v->B b->PR X P N ops T K p ((d,.pointer<|some ⟨b,o,none⟩)::e) w):PR X P N ops T K (.rd i p) e w :=
 dRX ho hf (d_O hT hs hsz hx hy hr hi) (by rintro _ ⟨b,o,cs,rfl,h1,h2,h3⟩;exact k b o cs h1 h2 h3)
end
section
variable {P:Program}{N:Nat}{e:Env}{w:World}{fn:Func}{ρ:Type}{R:ρ->Value->World->Prop}{r s:ρ}{r1 r2 r3:ResultVar}{u v x:Value}
theorem rS1 (hq:some r=some s)(hr:fn.results = #[r1])(h1:b_D P e w r1 u)(hR:R r u w):∀a,Sat N e a->b_C P fn (R s) a w:=by
 cases hq
 exact b_d hr h1 hR
theorem rS2 (hq:some r=some s)(hr:fn.results = #[r1,r2])(h1:b_D P e w r1 u)(h2:b_D P e w r2 v)(hR:R r (.tuple #[u,v]) w):∀a,Sat N e a->b_C P fn (R s) a w:=by
 cases hq
 exact c_9 hr h1 h2 hR
theorem rS3 (hq:some r=some s)(hr:fn.results = #[r1,r2,r3])(h1:b_D P e w r1 u)(h2:b_D P e w r2 v)(h3:b_D P e w r3 x)(hR:R r (.tuple #[u,v,x]) w):∀a,Sat N e a->b_C P fn (R s) a w:=by
 cases hq
 exact c_X hr h1 h2 h3 hR
end
end Go.Vw
namespace Go.Vw
open Go.RowKit Dat Go.ChangeShapes Go.WideShapes Go.ChangeAt
structure IsT (P:Program)(t:TypeId)(α:Type)[Dat α](L:α->Prop):Prop where
 rd:∀{H:Type}(enc:TypeId×Value->H)(W:World)(fuel:Nat)(cs:List Value)(x:DataW H×List MemPlace),DataW.trod enc P W 0 (λ_=>true) true fuel t cs=some x->(x.1.weights P t).all (· <= reachBytes)=true->∃v:α,rep W W.heap.size cs v/\L v
section
variable {P:Program}{t:TypeId}
theorem r_4 (ht:P.underlying t=some (.int .u8)):IsT P t UInt8 (λ_=>True):=⟨λenc W fuel cs x h _=>by
 obtain ⟨n,rfl,_,hw⟩:=DataW.trod_int ht h;have hb:=bounds_u8 hw
 have e:n=byteI (UInt8.ofNat n.toNat):=by
  unfold byteI
  rw [UInt8.toNat_ofNat']
  omega
 refine ⟨UInt8.ofNat n.toNat,⟨_,rfl,?_⟩,trivial⟩
 show Value.int .u8 n=vU (byteI<|UInt8.ofNat n.toNat)
 rw [← e]⟩
theorem n_p {H:Type}{e:TypeId}:∀{l:List (DataW H)}{d:DataW H},(DataW.weightsAll P e l).all (· <= reachBytes)=true->d∈l->(d.weights P e).all (· <= reachBytes)=true
 | [],_,_,h=>by cases h
 | y::l,d,hw,h=>by
  unfold DataW.weightsAll at hw
  rw [List.all_append,Bool.and_eq_true] at hw
  rcases List.mem_cons.1 h with rfl | h
  .exact hw.1
  .exact n_p hw.2 h
theorem n_q {H:Type}:∀{ts:List TypeId}{l:List (DataW H)}{i:Nat}{t:TypeId}{d:DataW H},(DataW.weightsEach P ts l).all (· <= reachBytes)=true->ts[i]? = some t->l[i]? = some d->(d.weights P t).all (· <= reachBytes)=true
 | [],_,_,_,_,_,h,_=>by simp at h
 | _::_,[],_,_,_,_,_,h=>by simp at h
 | t::ts,y::l,i,t',d,hw,h1,h2=>by
  unfold DataW.weightsEach at hw
  rw [List.all_append,Bool.and_eq_true] at hw
  cases i with
  | zero=>simp at h1 h2;subst h1 h2;exact hw.1
  | succ i=>simp at h1 h2;exact n_q hw.2 h1 h2
theorem cells?_spec {w:World}{a:Addr}{n:Nat}{cs:List Value}(h:w.cells? 0 a n=some cs):cs.length=n/\∀j v,cs[j]? = some v->w.cell? (a.add j)=some v:=by
 unfold World.cells? at h
 rw [if_pos (Nat.zero_le _)] at h
 refine ⟨by simpa using mapM_some_length h,λj v hv=>?_⟩
 have hj:j<n:=by
  have h1:=(List.getElem?_eq_some_iff.1 hv).1;have h2:=mapM_some_length h
  simp at h2
  omega
 have:=mapM_some_get h j j (by rw [List.getElem?_range hj])
 rw [this];exact hv
theorem r_5 {w:World}{a:Addr}{v:Value}(h:w.cell? a=some v):a.spot=none:=by
 unfold World.cell? at h
 split at h
 .cases hs:a.spot with
  | none=>rfl
  | some x=>rw [hs] at h;simp at h
 .cases h
theorem n_r {α:Type}(Q:Nat->α->Prop):∀(len:Nat),(∀i,i<len->∃v,Q i v)->∃l:List α,l.length=len/\∀(i:Nat)(x:α),l[i]? = some x->Q i x
 | 0,_=>⟨[],rfl,λi x h=>by simp at h⟩
 | n+1,h=>by
  obtain ⟨l,hl,hq⟩:=n_r Q n<|λi hi=>h i (by omega);obtain ⟨v,hv⟩:=h n (by omega);refine ⟨l++[v],by simp [hl],λi x hx=>?_⟩
  by_cases hi:i<l.length
  .rw [List.getElem?_append_left hi] at hx;exact hq i x hx
  .rw [List.getElem?_append_right (by omega)] at hx
   have h1:=(List.getElem?_eq_some_iff.1 hx).1
   simp only [List.length_cons,List.length_nil] at h1
   have h2:i=n:=by omega
   subst h2
   rw [show i - l.length=0 by omega] at hx
   simp at hx
   exact hx ▸ hv
theorem r_6 {α:Type}[Dat α]{L:α->Prop}{e:TypeId}(ht:P.underlying t=some (.slice e))(he:IsT P e α L)(hc:P.cellsOf e=sz α)(hb:1<=P.bytesOf e):IsT P t (List α) (λl=>l.length<=LEN/\∀x∈l,L x):=⟨λenc W fuel cs x h hw=>by
 have hr:reachBytes=140737488351232:=rfl;have hL:LEN=140737488355328:=rfl
 rcases DataW.trod_slice ht h with ⟨rfl,rfl⟩ | ⟨a,len,cap,elems,rest,n,_,rfl,rfl,_,hlc,_,hlen,hel,hsp,_⟩
 .exact ⟨[],⟨_,rfl,none,0,rfl,Nat.le_refl _,Nat.zero_le _,λ_=>rfl,λp hp=>by cases hp⟩,by simp,λx hx=>by cases hx⟩
 .obtain ⟨hrl,_⟩:=hsp rfl
  have hw':(elems.length+rest.length) * P.bytesOf e<=reachBytes/\(DataW.weightsAll P e<|elems.map (·.1)).all (· <= reachBytes)=true:=by
   unfold DataW.weights at hw
   rw [ht] at hw
   simp only [List.all_cons,List.all_append,Bool.and_eq_true,decide_eq_true_eq,List.length_map] at hw
   exact ⟨hw.1,hw.2.1⟩
  have hcap:cap<=LEN:=by
   have h1:elems.length+rest.length<=(elems.length+rest.length) * P.bytesOf e:=Nat.le_mul_of_pos_right _ hb
   omega
  have hone:∀i:Nat,i<len->∃v:α,a.spot=none/\a.block<W.heap.size/\(∃cs,t_ W a.block (a.off+i * sz α) cs/\rep W W.heap.size cs v)/\L v:=by
   intro i hi;have h1:=hel i hi;have hie:i<elems.length:=by omega
   rw [List.getElem?_eq_getElem hie] at h1
   cases hcs:W.cells? 0 (a.add<|i * P.cellsOf e) (P.cellsOf e) with
   | none=>rw [hcs] at h1;cases h1
   | some cs =>
    rw [hcs] at h1
    simp only [Option.bind_some] at h1
    obtain ⟨v,hv,hl⟩:=he.rd enc W n cs _ h1<|n_p hw'.2<|List.mem_map_of_mem<|List.getElem_mem hie;obtain ⟨J,O⟩:=cells?_spec hcs;have hpos:0<cs.length:=by rw [J,hc];exact Dat.pos
    have hsp:a.spot=none:=by
     have G:=hel 0 (by omega)
     rw [List.getElem?_eq_getElem (show 0<elems.length by omega)] at G
     cases H:W.cells? 0 (a.add<|0 * P.cellsOf e) (P.cellsOf e) with
     | none=>rw [H] at G;cases G
     | some I =>
      obtain ⟨V,Y⟩:=cells?_spec H;have hpos0:0<I.length:=by rw [V,hc];exact Dat.pos
      have:=Y 0 I[0] (by rw [List.getElem?_eq_getElem hpos0]);have:=r_5 this
      simpa [Addr.add] using this
    have ha:a=⟨a.block,a.off,none⟩:=by cases a;simp only at hsp;rw [hsp]
    have hcells:t_ W a.block (a.off+i * sz α) cs:=by
     intro j u hu;have:=O j u hu
     rw [ha,Addr.add_lit,Addr.add_lit,hc] at this
     exact this
    exact ⟨v,hsp,hcells.lt (by intro h;rw [h] at hpos;cases hpos),⟨cs,hcells,hv⟩,hl⟩
  obtain ⟨l,hll,hq⟩:=n_r _ len hone;refine ⟨l,⟨_,rfl,some a,cap,by rw [hll],by omega,by omega,λh=>(by cases h),λp hp=>?_⟩,by omega,λx hx=>?_⟩
  .obtain rfl:=Option.some.inj hp;refine ⟨λhne=>?_,λhne=>?_,λi x hx=>(hq i x hx).2.2.1⟩
   .cases l with
    | nil=>exact absurd rfl hne
    | cons y l=>exact (hq 0 y rfl).1
   .cases l with
    | nil=>exact absurd rfl hne
    | cons y l=>exact (hq 0 y rfl).2.1
  .obtain ⟨i,hi⟩:=List.getElem?_of_mem hx
   exact (hq i x hi).2.2.2⟩
structure OkW (P:Program)(W:World)(base:Nat)(t:TypeId)(v:Value):Prop where
 h:Value.okWide P W .any base t v
structure OkWs (P:Program)(W:World)(base:Nat)(ts:Array TypeId)(vs:Array Value):Prop where
 h:∀(j:Nat) t v,ts[j]? = some t->vs[j]? = some v->Value.okWide P W .any base t v
theorem OkWs.at {W:World}{base:Nat}{ts:Array TypeId}{vs:Array Value}(h:OkWs P W base ts vs)(j:Nat)(t:TypeId)(v:Value)(h1:ts[j]? = some t)(h2:vs[j]? = some v):OkW P W base t v:=⟨h.h j t v h1 h2⟩
theorem r_7 {W:World}{base:Nat}{t:TypeId}{v:Value}{e:TypeId}(ht:P.underlying t=some (.slice e))(h:OkW P W base t v):∃a n c,v = .slice a n c:=okWide_slice ht h.h
theorem n_s {H:Type}{enc:TypeId×Value->H}(hl:laidOutB P=true){W W':World}(hb:Below W.heap.size W W'):∀(ts:List TypeId)(vs:List Value)(ds:List (DataW H))(ps:List MemPlace),(∀t∈ts,P.readableRec t=true/\t<P.types.size) ->
  DataW.TrodAll enc P W 0 (λ_=>true) true ts vs ds ps->(∀x∈ps,x.block<W.heap.size)->∀(sp:Nat->Bool),(∀b,b<W.heap.size->sp b=true)->DataW.TrodAll enc P W' 0 sp true ts vs ds ps
 | [],[],[],_,_,h,_,_,_=>h
 | t::ts,v::vs,d::ds,ps,hr,h,hlt,sp,hsp=>by
  obtain ⟨p,q,h1,h2,rfl⟩:=h;refine ⟨p,q,?_,n_s hl hb ts vs ds q (λt ht=>hr t<|List.mem_cons_of_mem _ ht) h2 (λx hx=>hlt x<|List.mem_append_right _ hx) sp hsp,rfl⟩;have hlp:∀x∈p,x.block<W.heap.size:=λx hx=>hlt x<|List.mem_append_left _ hx
  exact WideElems.Trod_stays hl (hr t List.mem_cons_self).1 (hr t List.mem_cons_self).2 h1 (λx hx=>hb.same<|hlp x hx) (λx hx=>hsp _<|hlp x hx)
 | [],_::_,_,_,_,h,_,_,_=>by cases h
 | [],[],_::_,_,_,h,_,_,_=>by cases h
 | _::_,[],_,_,_,h,_,_,_=>by cases h
 | _::_,_::_,[],_,_,h,_,_,_=>by cases h
theorem r_8 {H:Type}{enc:TypeId×Value->H}{f:Func}{s:ChangeSpec}{apart fresh handsOn again:Bool}{W W':World}{args:Array Value}{ds gs:List (DataW H)}{before:List MemPlace}{tb:TypeId}(hl:laidOutB P=true)(hread:∀t∈f.params.toList,P.readableRec t=true/\t<P.types.size)
  (hb:Below W.heap.size W W') (hW:DataW.Whole enc P f.params.toList s.vars apart W args.toList ds gs before) (hres:f.resultTypes = #[tb]) (htb:P.underlying tb=some .bool) (hvars:s.vars=[]) (hfn:s.fn H (ds++gs)={ results:=[.lit (.bool true)],args:=ds }) :
  s.post enc P f apart fresh handsOn again W args (.bool true) W':=by
 have hlt:∀x∈before,x.block<W.heap.size:=λp hp=>hW.lt p hp
 have hW':=hW;obtain ⟨p,q,hA,hV,rfl,hz,hn⟩:=hW
 rw [hvars] at hV
 obtain ⟨rfl,rfl⟩:=trodVars_none hV;have hA':=λsp hsp=>n_s hl hb _ _ _ _ hread hA (λx hx=>hlt x (by simpa using hx)) sp hsp
 have hr:∀(b:Nat)(sp:Nat->Bool)(hd:Bool),DataW.TrodAll enc P W' b sp hd f.resultTypes.toList ((Value.bool true).resultList f.resultTypes.size) (s.fn H<|ds++[]).results []:=λb sp hd=>by
  rw [hfn,hres];exact trodAll_cons_mk (shut_bool htb _) trodAll_mk0
 have hvs:∀sp:Nat->Bool,DataW.TrodVars enc P W' sp s.vars (s.fn H<|ds++[]).vars []:=λsp=>by rw [hfn,hvars];rfl
 refine ⟨ds,[],p++[],[],p,[],hW',hr _ _ _,by rw [hfn];exact hA' _ (λb hb=>by simpa using hb),hvs _,hb.frame _,λ_=>⟨?_,([.lit (.bool true)]:List (DataW H))++ds,[],([]++p)++[],⟨[]++p,[],?_,?_,rfl,?_,?_⟩,?_⟩⟩
 .exact ok_one hres rfl<|okWide_bool_mk htb _
 .have h1:=hr 0 (λ_=>true) true
  rw [hfn] at h1
  exact trodAll_append (hA' _<|λ_ _=>rfl) h1
 .rw [hvars];rfl
 .intro b off hp;have hp':MemPlace.cell b off∈p++[]:=by simpa using hp
  have:=hlt _ hp'
  rw [hb.frozen (p:=⟨b,off,none⟩) this]
  exact hz b off hp'
 .intro ha;have:=hn ha;simpa using this
 .intro x hx _;simpa using hx
end
end Go.Vw
namespace Go.Vw
open Go.RowKit Dat
theorem u_s {x y:Int}(h1 : -9223372036854775808<=x+y)(h2:x+y<=9223372036854775807):d_ x y=x+y:=by
 unfold d_;rw [IntKind.wrap_i64];omega
theorem a_Y {x y:Int}(h1 : -9223372036854775808<=x - y)(h2:x - y<=9223372036854775807):y_ x y=x - y:=by
 unfold y_;rw [IntKind.wrap_i64];omega
theorem d_x {x y:Int}(h1 : -9223372036854775808<=x * y)(h2:x * y<=9223372036854775807):a_7 x y=x * y:=by
 unfold a_7;rw [IntKind.wrap_i64];omega
theorem m_I {x y:Int}(G:0<=x)(hx:x<=9223372036854775807)(hy:0<y):c_3 x y=x / y:=by
 unfold c_3
 rw [Int.tdiv_eq_ediv_of_nonneg G,IntKind.wrap_i64]
 have h1:=Int.ediv_nonneg G<|Int.le_of_lt hy;have h2:=Int.ediv_le_self y G
 omega
theorem k_D {x y:Int}(G:0<=x):b_7 x y=x % y:=by
 unfold b_7;exact Int.tmod_eq_emod_of_nonneg G
theorem u_t {a b:UInt8}:byteI a=byteI b ↔ a=b:=by
 unfold byteI
 constructor
 .intro h;have:a.toNat=b.toNat:=by omega
  exact UInt8.toNat_inj.1 this
 .rintro rfl;rfl
section
variable {α:Type}
theorem m_J {l:List α}{k:Nat}(h:k<l.length):idx l (k:Int)=some l[k]:=by rw [l_5];simp [h]
theorem e_y {l:List α}{i:Int}(G:0<=i)(h:i.toNat<l.length):idx l i=some l[i.toNat]:=by
 unfold idx;rw [if_pos G];simp [h]
theorem a_M {l:List α}(h:0<l.length):idx l 0=some l[0]:=m_J (k:=0) h
theorem i_r {l:List α}(h:1<l.length):idx l 1=some l[1]:=m_J (k:=1) h
theorem e_z {l:List α}{a b:Int}(G:0<=a)(h1:a<=b)(h2:b<=l.length):slc l a b=some ((l.take b.toNat).drop a.toNat):=by
 unfold slc;rw [if_pos ⟨G,h1,h2⟩]
theorem a_s {l:List α}{x:α}(h:l.length<LIM):psh l x=some (l++[x]):=by unfold psh;rw [if_pos h]
theorem c_H {l m:List α}(h:l.length+m.length<=LIM):app l m=some (l++m):=by unfold app;rw [if_pos h]
theorem a_6 {s t:Str}(h:s.b.length+t.b.length<=LIM):cat s t=some ⟨s.b++t.b⟩:=by unfold cat;rw [if_pos h]
theorem i_s {l:List α}{k:Nat}{x:α}(h:k<l.length):upd l (k:Int) x=some (l.set k x):=by
 unfold upd;rw [if_pos ⟨by omega,by omega⟩];rfl
theorem p_A {l:List α}{i:Int}{x:α}(G:0<=i)(h:i<l.length):upd l i x=some (l.set i.toNat x):=by
 unfold upd;rw [if_pos ⟨G,h⟩]
theorem p_B {z:α}{n:Nat}(h:n<=LIM):mk0 z (n:Int)=some (List.replicate n z):=by
 unfold mk0;rw [if_pos ⟨by omega,by omega⟩];simp
theorem u_u {z:α}{n:Int}(G:0<=n)(h:n<=LIM):mk0 z n=some (List.replicate n.toNat z):=by
 unfold mk0;rw [if_pos ⟨G,h⟩]
end
section
variable {σ ρ:Type}
theorem p_C {body:Nat->σ->Option (Out σ ρ)}(st:Nat->σ):∀n k,(∀j,k<=j->j<k+n->body j (st j)=some (.next<|st<|j+1))->p_ body n k (st k)=some (.inl<|st<|k+n)
 | 0,k,_=>rfl
 | n+1,k,h=>by
  have h1:=h k (Nat.le_refl _) (by omega);have h2:=p_C st n (k+1)<|λj a b=>h j (by omega) (by omega);unfold p_
  rw [h1]
  simp only
  rw [h2,show k+1+n=k+(n+1) by omega]
theorem d_y {body:Nat->σ->Option (Out σ ρ)}(st:Nat->σ){n:Nat}(h:∀j,j<n->body j (st j)=some (.next<|st<|j+1)):p_ body n 0 (st 0)=some (.inl<|st n):=by
 have:=p_C st n 0<|λj _ b=>h j (by omega)
 simpa using this
theorem forN_ret' {body:Nat->σ->Option (Out σ ρ)}(st:Nat->σ){r:ρ}:∀n k j0,k<=j0->j0<k+n->(∀j,k<=j->j<j0->body j (st j)=some (.next<|st<|j+1))->body j0 (st j0)=some (.ret r)->p_ body n k (st k)=some (.inr r)
 | 0,k,j0,a,b,_,_=>by omega
 | n+1,k,j0,a,b,h,hr=>by
  unfold p_
  by_cases hk:k=j0
  .subst hk;rw [hr]
  .rw [h k (Nat.le_refl _) (by omega)]
   exact forN_ret' st n (k+1) j0 (by omega) (by omega) (λj c d=>h j (by omega) d) hr
theorem k_E {body:Nat->σ->Option (Out σ ρ)}(st:Nat->σ){r:ρ}{n j0:Nat}(G:j0<n)(h:∀j,j<j0->body j (st j)=some (.next<|st<|j+1))(hr:body j0 (st j0)=some (.ret r)):p_ body n 0 (st 0)=some (.inr r) :=
 forN_ret' st n 0 j0 (by omega) (by omega) (λj _ b=>h j b) hr
theorem h_j {body:Nat->Unit->Option (Out Unit ρ)}{n:Nat}(p:Nat->Bool)(r:Nat->ρ)(h:∀k,k<n->(∀j,j<k->p j=false)->body k ()=some (if p k then .ret (r k) else .next ())) :
  p_ body n 0 ()=some (match (List.range n).find? p with | some k=>.inr (r k) | none=>.inl ()):=by
 cases hf:(List.range n).find? p with
 | none =>
  have hn:∀k,k<n->p k=false:=λk hk=>by
   have:=List.find?_eq_none.1 hf k<|List.mem_range.2 hk
   simpa using this
  exact d_y (λ_=>()) (λj hj=>by rw [h j hj (λi hi=>hn i (by omega)),hn j hj];rfl)
 | some k =>
  obtain ⟨hp,as,bs,hl,has⟩:=List.find?_eq_some_iff_append.1 hf
  have hk:as.length<n/\as.length=k:=by
   have h1:as.length<(List.range n).length:=by rw [hl];simp
   simp at h1
   refine ⟨h1,?_⟩;have h2:(List.range n)[as.length]? = some k:=by rw [hl];simp
   rw [List.getElem?_range h1] at h2
   exact Option.some.inj h2
  obtain ⟨h1,rfl⟩:=hk
  have hb:∀j,j<as.length->p j=false:=λj hj=>by
   have h2:(List.range n)[j]? = some (as[j]):=by rw [hl,List.getElem?_append_left hj];simp
   rw [List.getElem?_range (by omega)] at h2
   have h3:=has as[j] (List.getElem_mem hj)
   rw [← Option.some.inj h2] at h3
   simpa using h3
  exact k_E (λ_=>()) h1 (λj hj=>by rw [h j (by omega) (λi hi=>hb i (by omega)),hb j hj];rfl) (by rw [h _ h1 hb,if_pos hp])
theorem u_v {α:Type}(l:List α)(p:α->Bool)(q:Nat->Bool)(h:∀k (hk:k<l.length),q k=p l[k]):(List.range l.length).any q=l.any p:=by
 rw [Bool.eq_iff_iff]
 simp only [List.any_eq_true,List.mem_range]
 constructor
 .rintro ⟨k,hk,hq⟩;exact ⟨l[k],List.getElem_mem hk,by rw [← h k hk];exact hq⟩
 .rintro ⟨x,hx,hp⟩;obtain ⟨k,hk,rfl⟩:=List.getElem_of_mem hx;exact ⟨k,hk,by rw [h k hk];exact hp⟩
theorem f_d {body:Nat->Unit->Option (Out Unit ρ)}{n:Nat}(p:Nat->Bool)(r:ρ)(h:∀k,k<n->(∀j,j<k->p j=false)->body k ()=some (if p k then .ret r else .next ())) :
  p_ body n 0 ()=some (if (List.range n).any p then .inr r else .inl ()):=by
 rw [h_j p (λ_=>r) h]
 cases hf:(List.range n).find? p with
 | none =>
  have:(List.range n).any p=false:=by
   rw [List.any_eq_false];exact λx hx=>by simpa using List.find?_eq_none.1 hf x hx
  rw [this];rfl
 | some k =>
  have:(List.range n).any p=true:=List.any_eq_true.2 ⟨k,List.mem_of_find?_eq_some hf,List.find?_some hf⟩
  rw [this];rfl
theorem h_k {α:Type}{body:Nat->Unit->Option (Out Unit ρ)}{l:List α}(p:α->Bool)(r:ρ)(h:∀k (hk:k<l.length),body k ()=some (if p l[k] then .ret r else .next ())) :
  p_ body l.length 0 ()=some (if l.any p then .inr r else .inl ()):=by
 rw [f_d (λk=>if hk:k<l.length then p l[k] else false) r (λk hk _=>by rw [dif_pos hk];exact h k hk)]
 rw [u_v l p _ (λk hk=>by rw [dif_pos hk])]
theorem iter_brk' {step:σ->Option (Out σ ρ)}(st:Nat->σ){s:σ}:∀m k j0,k<=j0->j0<k+m->(∀j,k<=j->j<j0->step (st j)=some (.next<|st<|j+1))->step (st j0)=some (.brk s)->V_ step m (st k)=some (.inl s)
 | 0,k,j0,a,b,_,_=>by omega
 | m+1,k,j0,a,b,h,hr=>by
  unfold V_
  by_cases hk:k=j0
  .subst hk;rw [hr]
  .rw [h k (Nat.le_refl _) (by omega)]
   exact iter_brk' st m (k+1) j0 (by omega) (by omega) (λj c d=>h j (by omega) d) hr
theorem m_K {step:σ->Option (Out σ ρ)}(st:Nat->σ){s:σ}{m j0:Nat}(G:j0<m)(h:∀j,j<j0->step (st j)=some (.next<|st<|j+1))(hr:step (st j0)=some (.brk s)):V_ step m (st 0)=some (.inl s) :=
 iter_brk' st m 0 j0 (by omega) (by omega) (λj _ b=>h j b) hr
theorem iter_ret' {step:σ->Option (Out σ ρ)}(st:Nat->σ){r:ρ}:∀m k j0,k<=j0->j0<k+m->(∀j,k<=j->j<j0->step (st j)=some (.next<|st<|j+1))->step (st j0)=some (.ret r)->V_ step m (st k)=some (.inr r)
 | 0,k,j0,a,b,_,_=>by omega
 | m+1,k,j0,a,b,h,hr=>by
  unfold V_
  by_cases hk:k=j0
  .subst hk;rw [hr]
  .rw [h k (Nat.le_refl _) (by omega)]
   exact iter_ret' st m (k+1) j0 (by omega) (by omega) (λj c d=>h j (by omega) d) hr
theorem p_D {step:σ->Option (Out σ ρ)}(st:Nat->σ){r:ρ}{m j0:Nat}(G:j0<m)(h:∀j,j<j0->step (st j)=some (.next<|st<|j+1))(hr:step (st j0)=some (.ret r)):V_ step m (st 0)=some (.inr r) :=
 iter_ret' st m 0 j0 (by omega) (by omega) (λj _ b=>h j b) hr
end
theorem p_E {s:Str}{p:Nat}(h:p<s.b.length)(ha:s.b[p].toNat<128):dec s p=((s.b[p].toNat:Int),1):=by
 have h':p<(⟨s.b.toArray⟩:ByteArray).size:=by simpa [ByteArray.size] using h
 have hb:(⟨s.b.toArray⟩:ByteArray)[p]'h'=s.b[p]:=rfl;unfold dec
 rw [decode_ascii _ p h' (by rw [hb];exact ha),hb]
theorem u_w {s:Str}{p:Nat}(h:p<s.b.length)(ha:128<=s.b[p].toNat):128<=(dec s p).1:=by
 have h':p<(⟨s.b.toArray⟩:ByteArray).size:=by simpa [ByteArray.size] using h
 have hb:(⟨s.b.toArray⟩:ByteArray)[p]'h'=s.b[p]:=rfl;unfold dec;have:=(decode_high _ p h' (by rw [hb];exact ha)).1
 simp only
 omega
abbrev bF_:=@Bool.false_eq_true
abbrev dT_:=@decide_eq_true
abbrev dF_:=@decide_eq_false
abbrev bQ_:=@beq_self_eq_true
abbrev mT_:=@List.mem_cons_of_mem
abbrev mS_:=@List.mem_cons_self
abbrev gE_:=@List.getElem_mem
abbrev oI_:=@Option.some.injEq
abbrev gG_:=@List.getElem?_eq_getElem
abbrev gD_:=@List.getD_eq_getElem?_getD
abbrev aE_:=@Bool.and_eq_true
abbrev dE_:=@decide_eq_true_eq
abbrev tN_:=@Int.toNat_natCast
abbrev gS_:=@List.getElem?_eq_some_iff
abbrev iP_:=@if_pos
abbrev iN_:=@if_neg
abbrev fF_:=@if_false
abbrev fT_:=@if_true
abbrev gN_:=@List.getElem?_eq_none
abbrev nT_:=@Bool.not_true
abbrev ix_:=@m_J
abbrev ia_:=@u_s
abbrev lC_:=@List.length_cons
abbrev bN_:=@bne_self_eq_false
abbrev dC_:=@List.drop_eq_getElem_cons
end Go.Vw
