import Derived.Test.YtaccmlhgodgkaaaGreatDoorV0
import Derived.Laws.CopyRow
import Derived.Laws.IdiomStrings
import Derived.Lib.AppendStr
import Derived.Lib.Join
import Derived.Carry
import Derived.Deep.DeepHandedRow
import Derived.WalkKit
import Derived.ProofKit
import Derived.OpenShut
import Derived.Laws.RangeAny
set_option linter.unusedVariables false
namespace Go.Vw
def h_I (n:Nat)(x1:Str)(x2:UInt8):Option (List Str) :=
 bd (R_ (σ:=(List Str)×Int×Int) (ρ:=List Str) (un3 λH I G=>if (decide<|G<=(x1.b.length:Int)) then bd (α:=Bool) (if (G==(x1.b.length:Int)) then some true else bd (idx x1.b G) λJ=>some<|(byteI J)==(byteI x2)) (λL=>bd (α:=(List Str)×Int) (if L then bd (b_R x1 I G) λO=>bd (psh H O) λV=>some (V,o_ G 1) else some (H,I))<|un2 λW Y=>some<|.next (W,Y,o_ G 1)) else some (.brk (H,I,G))) n (([]:List Str),0,0)) (el (un3 λH I G=>some H)<|λa0=>some a0)
def b_5 (x1:Int)(x2:Int)(x3:Int):Option Bool :=
 bd (α:=Bool) (if (decide<|x2<=x1) then some (decide<|x1<=x3) else some false) (λG=>some G)
def f_t (x1:Str):Option Bool :=
 bd (D_ (σ:=Unit) (ρ:=Bool) (λk10=>(λ(_:Unit)=>bd (α:=Bool) (bd (idx x1.b (k10:Int)) λG=>if (decide<|(byteI (97:UInt8))<=(byteI G)) then bd (idx x1.b (k10:Int)) λH=>some (decide<|(byteI H)<=(byteI (122:UInt8))) else some false) (λI=>bd (α:=Bool) (bd (idx x1.b (k10:Int)) λJ=>if (decide<|(byteI (48:UInt8))<=(byteI J)) then bd (idx x1.b (k10:Int)) λL=>some (decide<|(byteI L)<=(byteI (57:UInt8))) else some false) (λO=>bd (α:=Bool) (if (!I) then if (!O) then some true else some ((k10:Int)==0) else some false) (λV=>if V then some (.ret false) else some (.next ())))))) x1.b.length 0 ()) (el (λ(_:Unit)=>bd (b_5 (x1.b.length:Int) 1 12) λW=>some W)<|λY=>some Y)
def c_b (n:Nat)(x1:Int):Option Str :=
 if (x1==0) then some (⟨[48]⟩:Str) else bd (R_ (σ:=Str×Int) (ρ:=Str) (un2 λH G=>if (G != 0) then bd (α:=Int) (if (decide<|(b_n G 10)<0) then some (g_8<|b_n G 10) else some (b_n G 10)) (λI=>bd (cat (⟨[mkB (o_ 48 I)]⟩:Str) H) λJ=>some<|.next (J,c_l G 10)) else some (.brk (H,G))) n ((⟨[]⟩:Str),x1)) (el (un2 λH G=>if (decide<|x1<0) then bd (cat (⟨[45]⟩:Str) H) λL=>some L else some H)<|λO=>some O)
def h_J (n:Nat)(x1:Str):Option (Int×Bool) :=
 bd (b_5 (x1.b.length:Int) 1 13) λI=>if (!I) then some (0,false) else bd (D_ (σ:=Int) (ρ:=Int×Bool) (λH=>(λG=>bd (idx x1.b (H:Int)) λJ=>bd (b_5 (byteI J) 48 57) λL=>if (!L) then some (.ret (0,false)) else bd (idx x1.b (H:Int)) λO=>some<|.next<|o_ (a_3 10 G)<|byteI<|mkB<|byteI O - byteI (48:UInt8))) x1.b.length 0 0) (el (λG=>bd (α:=Bool) (if (decide<|1000000000000<G) then some true else bd (c_b n G) λV=>some<|V.b != x1.b) (λW=>if W then some (0,false) else some (G,true)))<|λY=>some Y)
def f_u (n:Nat)(x1:Str):Option Bool :=
 bd (α:=Bool) (bd (f_t x1) λG=>if G then some true else if (x1.b==(⟨[42]⟩:Str).b) then some true else if (x1.b==(⟨[63]⟩:Str).b) then some true else some (x1.b==(⟨[43]⟩:Str).b)) (λH=>if H then some true else bd2 (h_J n x1) λI J=>bd (α:=Bool) (if J then bd (c_b n I) λL=>some (L.b==x1.b) else some false)<|λO=>some O)
def f_v (n:Nat)(x1:Str):Option ((List Str)×Bool) :=
 if (x1.b==(⟨[]⟩:Str).b) then some (([]:List Str),true) else bd (h_I n x1 (47:UInt8)) λG=>bd (idx G 0) λI=>if (I.b != (⟨[]⟩:Str).b) then some (([]:List Str),false) else bd (R_ (σ:=Int) (ρ:=(List Str)×Bool) (λH=>if (decide<|H<(G.length:Int)) then bd (idx G H) λJ=>bd (f_u n J) λL=>if (!L) then some (.ret (([]:List Str),false)) else some (.next<|o_ H 1) else some (.brk H)) n 1) (el (λH=>bd (slc G 1 (G.length:Int)) λO=>some (O,decide<|1<(G.length:Int)))<|λV=>some V)
def c_z (x1:f_)(x2:Bool)(x3:Bool)(x4:Bool)(x5:Bool)(x6:Int):Option Bool :=
 bd (α:=Bool) (bd (α:=Bool) (if x2 then some true else some (x1.size==0)) λG=>bd (α:=Bool) (if G then if x3 then some true else some ((x1.bytes.length:Int)==0) else some false) λH=>bd (α:=Bool) (if H then if x4 then some true else some ((x1.names.length:Int)==0) else some false) λI=>bd (α:=Bool) (if I then if x5 then some true else some ((x1.tags.length:Int)==0) else some false) λJ=>bd (α:=Bool) (if J then if (decide<|x6<0) then some true else some ((x1.kids.length:Int)==x6) else some false) λL=>if L then if (!x1.little) then some true else some (x1.kind==1) else some false) (λO=>some O)
def d_a (x1:Int):Option Int :=
 bd (nn<|a_3 8 x1) λG=>some<|b_y .i64 1<|a_3 8 x1
def e_6 (x1:e_)(x2:Int):Option Int :=
 bd (α:=Bool) (bd (b_5 x2 0<|y_ (x1.rules.length:Int) 1) λG=>if (!G) then some true else bd (idx x1.rules x2) λH=>if (H.kind != 1) then some true else bd (idx x1.rules x2) λI=>bd (b_5 I.size 1 4) λJ=>some (!J)) (λL=>if L then some (-1) else bd (idx x1.rules x2) λO=>bd (d_a O.size) λV=>some<|y_ V 1)
def h_K (x1:List Str)(x2:Str):Option Bool :=
 bd (D_ (σ:=Unit) (ρ:=Bool) (λk10=>(λ(_:Unit)=>bd (idx x1 (k10:Int)) λG=>if (G.b==x2.b) then some (.ret true) else some (.next ()))) x1.length 0 ()) (el (λ(_:Unit)=>some false)<|λH=>some H)
def h_L (x1:List Str):Option Bool :=
 bd (D_ (σ:=Unit) (ρ:=Bool) (λk10=>(λ(_:Unit)=>bd (α:=Bool) (bd (idx x1 (k10:Int)) λG=>bd (f_t G) λH=>if (!H) then some true else bd (slc x1 0 (k10:Int)) λI=>bd (idx x1 (k10:Int)) λJ=>bd (h_K I J) λL=>some L) (λO=>if O then some (.ret false) else some (.next ())))) x1.length 0 ()) (el (λ(_:Unit)=>bd (b_5 (x1.length:Int) 1 8) λV=>some V)<|λW=>some W)
def h_M (x1:e_)(x2:f_):Option Bool :=
 bd (α:=Bool) (if ((x2.kids.length:Int) != (o_ (x2.tags.length:Int) 1)) then some true else bd (b_5 (x2.tags.length:Int) 1 8) λG=>some (!G)) (λH=>if H then some false else bd (D_ (σ:=Unit) (ρ:=Bool) (λk10=>(λ(_:Unit)=>bd (α:=Bool) (bd (idx x2.tags (k10:Int)) λI=>bd (idx x2.kids 0) λJ=>bd (e_6 x1 J) λL=>bd (b_5 I 0 L) λO=>if (!O) then some true else if (decide<|0<(k10:Int)) then bd (idx x2.tags<|y_ (k10:Int) 1) λV=>bd (idx x2.tags (k10:Int)) λW=>some (decide<|W<=V) else some false) (λY=>if Y then some (.ret false) else some (.next ())))) x2.tags.length 0 ()) (el (λ(_:Unit)=>some true)<|λa0=>some a0))
def h_N (x1:e_)(x2:f_):Option Bool :=
 if (x2.kind==1) then bd (α:=Bool) (bd (c_z x2 true false false false 0) λG=>if G then bd (b_5 x2.size 1 4) λH=>if H then if (!x2.little) then some true else some (decide<|1<x2.size) else some false else some false) (λI=>some I) else if (x2.kind==2) then bd (α:=Bool) (bd (c_z x2 false true false false 0) λJ=>if J then bd (b_5 (x2.bytes.length:Int) 1 16) λL=>some L else some false) (λO=>some O) else if (x2.kind==3) then bd (α:=Bool) (bd (c_z x2 true false false false 0) λV=>if V then bd (b_5 x2.size 1 64) λW=>some W else some false) (λY=>some Y) else if (x2.kind==4) then bd (α:=Bool) (bd (c_z x2 false false false false 1) λa0=>if a0 then bd (idx x2.kids 0) λa1=>bd (e_6 x1 a1) λa2=>some (decide<|0<a2) else some false) (λa3=>some a3) else if (x2.kind==5) then bd (α:=Bool) (bd (c_z x2 false false false false 2) λa4=>if a4 then bd (idx x2.kids 0) λa5=>bd (e_6 x1 a5) λa6=>some (decide<|0<a6) else some false) (λa7=>some a7) else if (x2.kind==6) then bd (α:=Bool) (bd (c_z x2 false false true false (x2.names.length:Int)) λa8=>if a8 then bd (h_L x2.names) λa9=>some a9 else some false) (λaa=>some aa) else if (x2.kind==7) then bd (α:=Bool) (bd (c_z x2 false false false true (-1)) λab=>if ab then bd (h_M x1 x2) λad=>some ad else some false) (λae=>some ae) else bd (α:=Bool) (if (x2.kind==8) then some (x2.kind==8) else some (x2.kind==9)) (λaf=>if af then bd (c_z x2 false false false false 1) λah=>some ah else if (x2.kind==10) then bd (α:=Bool) (bd (c_z x2 false true false false 0) λai=>if ai then if ((x2.bytes.length:Int)==1) then bd (idx x2.bytes 0) λaj=>some ((byteI aj) != (byteI (92:UInt8))) else some false else some false) (λak=>some ak) else some false)
def h_O (x1:e_)(x2:Int):Option Bool :=
 bd (b_5 x2 0<|y_ (x1.rules.length:Int) 1) λH=>if (!H) then some false else bd (idx x1.rules x2) λG=>bd (D_ (σ:=Unit) (ρ:=Bool) (λI=>(λ(_:Unit)=>bd (idx x1.rules (I:Int)) λJ=>if (J.name.b==G.name.b) then some (.ret false) else some (.next ()))) x2.toNat 0 ()) (el (λ(_:Unit)=>bd (D_ (σ:=Unit) (ρ:=Bool) (λL=>(λ(_:Unit)=>bd (idx G.kids (L:Int)) λO=>bd (b_5 O 0<|y_ x2 1) λV=>if (!V) then some (.ret false) else some (.next ()))) G.kids.length 0 ()) (el (λ(_:Unit)=>bd (α:=Bool) (bd (f_t G.name) λW=>if W then bd (h_N x1 G) λY=>some Y else some false)<|λa0=>some a0)<|λa1=>some a1))<|λa2=>some a2)
def g_u (x1:e_):Option Bool :=
 bd (D_ (σ:=Unit) (ρ:=Bool) (λk10=>(λ(_:Unit)=>bd (h_O x1 (k10:Int)) λG=>if (!G) then some (.ret false) else some (.next ()))) x1.rules.length 0 ()) (el (λ(_:Unit)=>bd (b_5 (x1.rules.length:Int) 1 24) λH=>some H)<|λI=>some I)
def e_7 (x1:e_):Option Int :=
 some (y_ (x1.rules.length:Int) 1)
def h_P (x1:Bt)(x2:Bool):Option Int :=
 if (decide<|4<(x1.length:Int)) then some 0 else bd (D_ (σ:=Int) (ρ:=Int) (λH=>(λG=>bd (α:=Int) (if x2 then some (y_ (y_ (x1.length:Int) 1) (H:Int)) else some (H:Int))<|λI=>bd (idx x1 I) λJ=>some<|.next<|o_ (a_3 G 256)<|byteI J)) x1.length 0 0) (el (λG=>some G)<|λL=>some L)
def e_J (x1:e_)(x2:Int)(x3:Bt)(x4:Int):Option (Int×Int×Bool) :=
 bd (idx x1.rules x2) λG=>if (decide<|(y_ (x3.length:Int) x4)<G.size) then some (0,x4,false) else bd (slc x3 x4<|o_ x4 G.size) λH=>bd (h_P H G.little) λI=>some (I,o_ x4 G.size,true)
def b_6 (x1:f_)(x2:Int)(x3:Int):Option Int :=
 if (x1.kind==5) then bd (idx x1.kids 1) λG=>some G else bd (α:=Sum Unit Int) (if (x1.kind==6) then if (decide<|x3<(x1.kids.length:Int)) then bd (idx x1.kids x3) λH=>some (.inr H) else some (.inl ()) else bd (α:=Sum Unit<|Sum Unit Int) (if (x1.kind==7) then bd (D_ (σ:=Unit) (ρ:=Int) (λk10=>(λ(_:Unit)=>bd (idx x1.tags (k10:Int)) λI=>if (I==x2) then bd (idx x1.kids ((k10+1:Nat):Int)) λJ=>some (.ret J) else some (.next ()))) x1.tags.length 0 ()) (el (λ(_:Unit)=>some<|.inl ())<|λL=>some<|.inr<|.inr L) else bd (α:=Bool) (if (x1.kind==8) then some (x1.kind==8) else some (x1.kind==9)) (λO=>if O then bd (idx x1.kids 0) λV=>some (.inr<|.inr V) else some (.inl ()))) (el (λ(_:Unit)=>some<|.inl ()) some)) (el (λ(_:Unit)=>some (-1)) some)
def e_K (x1:e_)(x2:f_)(x3:Bt)(x4:Int):Option (Int×Int×Int) :=
 if (x2.kind==6) then some (x4,(x2.kids.length:Int),0) else if (x2.kind==9) then some (x4,1,0) else bd (α:=Sum Unit<|Int×Int×Int) (if (x2.kind==8) then bd (α:=Bool) (if (decide<|x4<(x3.length:Int)) then bd (idx x3 x4) λI=>some ((byteI I)==(byteI (1:UInt8))) else some false) (λJ=>if J then some (.inr (o_ x4 1,1,0)) else some (.inl ())) else bd (α:=Bool) (if (x2.kind==5) then some (x2.kind==5) else some (x2.kind==7)) (λL=>bd (α:=Sum Unit<|Sum Unit<|Int×Int×Int) (if L then bd (idx x2.kids 0) λO=>bd3 (e_J x1 O x3 x4) λG H V=>bd (α:=Sum Unit<|Sum Unit<|Sum Unit<|Int×Int×Int) (if (!V) then some (.inl ()) else bd (α:=Bool) (if (x2.kind==5) then some (decide<|G<=40) else some false) (λW=>if W then some (.inr<|.inr<|.inr (H,G,0)) else bd (α:=Bool) (if (x2.kind==7) then bd (b_6 x2 G 0) λY=>some (decide<|0<=Y) else some false) (λa0=>if a0 then some (.inr<|.inr<|.inr (H,1,G)) else some (.inl ())))) (el (λ(_:Unit)=>some<|.inl ()) some) else some (.inl ()))<|el (λ(_:Unit)=>some<|.inl ()) some)) (el (λ(_:Unit)=>some (x4,(-1),0)) some)
def c_P (n:Nat)(x1:f_)(x2:Int):Option Str :=
 if (x1.kind==5) then bd (c_b n x2) λG=>some G else bd (α:=Bool) (if (x1.kind==6) then some (decide<|x2<(x1.names.length:Int)) else some false) (λH=>if H then bd (idx x1.names x2) λI=>some I else bd (α:=Bool) (if (x1.kind==7) then some (x2==0) else some false) (λJ=>if J then some (⟨[42]⟩:Str) else bd (α:=Bool) (if (x1.kind==8) then some (x2==0) else some false) (λL=>if L then some (⟨[63]⟩:Str) else bd (α:=Bool) (if (x1.kind==9) then some (x2==0) else some false) (λO=>if O then some (⟨[43]⟩:Str) else some (⟨[]⟩:Str)))))
def h_Q (x1:f_)(x2:Bt)(x3:Int):Option (Val×Int×Int) :=
 bd (D_ (σ:=Unit) (ρ:=Val×Int×Int) (λk10=>(λ(_:Unit)=>if (decide<|(x2.length:Int)<=(o_ x3 (k10:Int))) then some (.ret ((⟨0,([]:Bt),([]:List Val)⟩:Val),x3,1)) else bd (idx x2<|o_ x3 (k10:Int)) λG=>bd (idx x1.bytes (k10:Int)) λH=>if ((byteI G) != (byteI H)) then some (.ret ((⟨0,([]:Bt),([]:List Val)⟩:Val),o_ x3 (k10:Int),2)) else some (.next ()))) x1.bytes.length 0 ()) (el (λ(_:Unit)=>some ((⟨0,([]:Bt),([]:List Val)⟩:Val),o_ x3 (x1.bytes.length:Int),0))<|λI=>some I)
def g_v (x1:Bt)(x2:Int)(x3:Int):Option (Val×Int×Int) :=
 if (decide<|(y_ (x1.length:Int) x2)<x3) then some ((⟨0,([]:Bt),([]:List Val)⟩:Val),x2,1) else bd (slc x1 x2<|o_ x2 x3) λG=>bd (app ([]:Bt) G) λH=>some ((⟨0,H,([]:List Val)⟩:Val),o_ x2 x3,0)
def h_R (n:Nat)(x1:Bt)(x2:Int)(x3:UInt8):Option (Bt×Int×Bool) :=
 bd (R_ (σ:=Bt×Int) (ρ:=Bt×Int×Bool) (un2 λH G=>bd (α:=Bool) (bd (b_5 x2 0 (x1.length:Int)) λJ=>if J then some (decide<|G<(x1.length:Int)) else some false) (λL=>if L then bd (idx x1 G) λO=>if ((byteI O)==(byteI x3)) then some (.ret (H,o_ G 1,true)) else bd (idx x1 G) λV=>bd (α:=Sum Int<|Out (Bt×Int)<|Bt×Int×Bool) (if ((byteI V)==(byteI (92:UInt8))) then if ((o_ G 1)==(x1.length:Int)) then some (.inr<|.brk (H,o_ G 1)) else some (.inl<|o_ G 1) else some (.inl G)) (el (λI=>bd (idx x1 I) λW=>bd (psh H W) λY=>some<|.next (Y,o_ I 1)) some) else some (.brk (H,G)))) n (([]:Bt),x2)) (el (un2 λH G=>some (([]:Bt),x2,false))<|λa0=>some a0)
def g_w (x1:Bt):Option Int :=
 bd (D_ (σ:=Int) (ρ:=Int) (λH=>(λG=>bd (idx x1 (H:Int)) λI=>some<|.next<|b_n (o_ G<|byteI I) 256)) x1.length 0 0) (el (λG=>some G)<|λJ=>some J)
structure g_x where
 spec_l11Read:e_->Int->Bt->Int->Option (Val×Int×Int)
 spec_l11Items:e_->f_->Int->Int->Bt->Int->Option (Val×Int×Int)
 spec_l11Choice:e_->f_->Bt->Int->Option (Val×Int×Int)
 spec_l11Option:e_->f_->Bt->Int->Option (Val×Int×Int)
 spec_l11Checked:e_->f_->Bt->Int->Option (Val×Int×Int)
def h_S (n:Nat)(rec:g_x)(x1:e_)(x2:Int)(x3:Bt)(x4:Int):Option (Val×Int×Int) :=
 bd (idx x1.rules x2) λG=>if (G.kind==1) then bd3 (e_J x1 x2 x3 x4) λJ L O=>if (!O) then some ((⟨0,([]:Bt),([]:List Val)⟩:Val),x4,1) else some ((⟨J,([]:Bt),([]:List Val)⟩:Val),L,0) else if (G.kind==2) then bd3 (h_Q G x3 x4) λV W Y=>some (V,W,Y) else if (G.kind==3) then bd3 (g_v x3 x4 G.size) λa0 a1 a2=>some (a0,a1,a2) else if (G.kind==10) then bd (idx G.bytes 0) λa3=>bd3 (h_R n x3 x4 a3) λa4 a5 a6=>if (!a6) then some ((⟨0,([]:Bt),([]:List Val)⟩:Val),x4,1) else some ((⟨0,a4,([]:List Val)⟩:Val),a5,0) else if (G.kind==6) then bd3 (rec.spec_l11Items x1 G 0 (G.kids.length:Int) x3 x4) λa7 a8 a9=>some (a7,a8,a9) else if (G.kind==7) then bd3 (rec.spec_l11Choice x1 G x3 x4) λaa ab ad=>some (aa,ab,ad) else if (G.kind==8) then bd3 (rec.spec_l11Option x1 G x3 x4) λae af ah=>some (ae,af,ah) else if (G.kind==9) then bd3 (rec.spec_l11Checked x1 G x3 x4) λai aj ak=>some (ai,aj,ak) else bd (idx G.kids 0) λal=>bd3 (e_J x1 al x3 x4) λH I am=>if (!am) then some ((⟨0,([]:Bt),([]:List Val)⟩:Val),x4,1) else if (G.kind==4) then bd3 (g_v x3 I H) λan ao ap=>some (an,ao,ap) else if (decide<|40<H) then some ((⟨0,([]:Bt),([]:List Val)⟩:Val),x4,6) else bd3 (rec.spec_l11Items x1 G 0 H x3 I) λaq ar au=>some (aq,ar,au)
def h_T (n:Nat)(rec:g_x)(x1:e_)(x2:f_)(x3:Int)(x4:Int)(x5:Bt)(x6:Int):Option (Val×Int×Int) :=
 bd (D_ (σ:=Int×(List Val)) (ρ:=Val×Int×Int) (λO=>un2 λG H=>bd (α:=Int×Bt×(List Val)×Int×Int) (bd (b_6 x2 x3 (O:Int)) λV=>bd3 (rec.spec_l11Read x1 V x5 G) λI W Y=>some (I.number,I.bytes,I.items,W,Y)) (un5 λa0 a1 a2 J L=>if (L != 0) then some (.ret ((⟨0,([]:Bt),([]:List Val)⟩:Val),J,L)) else bd (psh H (⟨a0,a1,a2⟩:Val)) λa3=>some<|.next (J,a3))) x4.toNat 0 (x6,([]:List Val))) (el (un2 λG H=>some ((⟨0,([]:Bt),H⟩:Val),G,0))<|λa4=>some a4)
def h_U (n:Nat)(rec:g_x)(x1:e_)(x2:f_)(x3:Bt)(x4:Int):Option (Val×Int×Int) :=
 bd (idx x2.kids 0) λJ=>bd3 (e_J x1 J x3 x4) λG L O=>if (!O) then some ((⟨0,([]:Bt),([]:List Val)⟩:Val),x4,1) else bd (b_6 x2 G 0) λV=>if (decide<|V<0) then some ((⟨0,([]:Bt),([]:List Val)⟩:Val),x4,3) else bd3 (rec.spec_l11Items x1 x2 G 1 x3 L) λH W I=>bd (α:=Int) (if (I==0) then some G else some H.number)<|λY=>some ((⟨Y,H.bytes,H.items⟩:Val),W,I)
def h_V (n:Nat)(rec:g_x)(x1:e_)(x2:f_)(x3:Bt)(x4:Int):Option (Val×Int×Int) :=
 if (decide<|(x3.length:Int)<=x4) then some ((⟨0,([]:Bt),([]:List Val)⟩:Val),x4,1) else bd (idx x3 x4) λG=>if (decide<|(byteI (1:UInt8))<(byteI G)) then some ((⟨0,([]:Bt),([]:List Val)⟩:Val),x4,4) else bd (idx x3 x4) λH=>bd3 (rec.spec_l11Items x1 x2 0 (byteI H) x3<|o_ x4 1) λI J L=>some (I,J,L)
def h_W (n:Nat)(rec:g_x)(x1:e_)(x2:f_)(x3:Bt)(x4:Int):Option (Val×Int×Int) :=
 bd3 (rec.spec_l11Items x1 x2 0 1 x3 x4) λH G I=>if (I != 0) then some (H,G,I) else if (decide<|(x3.length:Int)<=G) then some ((⟨0,([]:Bt),([]:List Val)⟩:Val),G,1) else bd (idx x3 G) λJ=>bd (slc x3 x4 G) λL=>bd (g_w L) λO=>if ((byteI J) != O) then some ((⟨0,([]:Bt),([]:List Val)⟩:Val),G,5) else some (H,o_ G 1,0)
def a_z:Nat->g_x
 | 0=>⟨λ_ _ _ _=>none,λ_ _ _ _ _ _=>none,λ_ _ _ _=>none,λ_ _ _ _=>none,λ_ _ _ _=>none⟩
 | n+1=>⟨h_S n<|a_z n,h_T n<|a_z n,h_U n<|a_z n,h_V n<|a_z n,h_W n<|a_z n⟩
def e_8 (n:Nat):=(a_z n).spec_l11Read
def f_w (n:Nat):=(a_z n).spec_l11Items
def d_A (n:Nat)(x1:e_)(x2:Int)(x3:Bt)(x4:Int)(x5:Str):Option (Int×Int×Bool) :=
 bd (idx x1.rules x2) λG=>bd3 (e_K x1 G x3 x4) λL O V=>bd (D_ (σ:=Int) (ρ:=Int×Int×Bool) (λI=>(λH=>bd (b_6 G V (I:Int)) λJ=>bd (c_P n G (I:Int)) λW=>if (W.b==x5.b) then some (.ret (J,H,true)) else bd3 (e_8 n x1 J x3 H) λa2 Y a0=>if (a0 != 0) then some (.ret (0,0,false)) else some (.next Y))) O.toNat 0 L)<|el (λH=>some (0,0,false))<|λa1=>some a1
def h_X (n:Nat)(x1:e_)(x2:Bt)(x3:Str):Option (b_H×Bool) :=
 bd2 (f_v n x3) λI J=>bd (α:=Bool) (if (!J) then some true else bd (g_u x1) λL=>if (!L) then some true else some (decide<|400<(x2.length:Int))) (λO=>if O then some ((⟨(⟨[]⟩:Str),0,0,0⟩:b_H),false) else bd (e_7 x1) λV=>bd (D_ (σ:=Int×Int) (ρ:=b_H×Bool) (λW=>un2 λG H=>bd (idx I (W:Int)) λY=>bd3 (d_A n x1 G x2 H Y) λa0 a1 a2=>if (!a2) then some (.ret ((⟨(⟨[]⟩:Str),0,0,0⟩:b_H),false)) else some (.next (a0,a1))) I.length 0 (V,0)) (el (un2 λG H=>bd3 (e_8 n x1 G x2 H) λa6 a3 a4=>if (a4 != 0) then some ((⟨(⟨[]⟩:Str),0,0,0⟩:b_H),false) else some ((⟨x3,G,H,a3⟩:b_H),true))<|λa5=>some a5))
def d_b (x1:e_)(x2:Int):Option Bool :=
 bd (α:=Bool) (bd (b_5 x2 0<|y_ (x1.rules.length:Int) 1) λG=>if G then bd (g_u x1) λH=>some H else some false) (λI=>some I)
def h_Y (n:Nat)(x1:e_)(x2:Int)(x3:Bt)(x4:Int):Option (Val×Int×Int) :=
 bd (α:=Bool) (bd (d_b x1 x2) λG=>if (!G) then some true else bd (b_5 x4 0 (x3.length:Int)) λH=>if (!H) then some true else some (decide<|400<(x3.length:Int))) (λI=>if I then some ((⟨0,([]:Bt),([]:List Val)⟩:Val),0,8) else bd3 (e_8 n x1 x2 x3 x4) λJ L O=>some (J,L,O))
def g_y (n:Nat)(x1:e_)(x2:Bt):Option (Val×Int×Int) :=
 bd (α:=Int×Bt×(List Val)×Int×Int) (bd (e_7 x1) λJ=>bd3 (h_Y n x1 J x2 0) λG L O=>some (G.number,G.bytes,G.items,L,O)) (un5 λV W Y H I=>bd (α:=Bool) (if (I==0) then some (decide<|H<(x2.length:Int)) else some false) (λa0=>if a0 then some ((⟨0,([]:Bt),([]:List Val)⟩:Val),H,7) else some ((⟨V,W,Y⟩:Val),H,I)))
def h_Z (n:Nat)(x1:e_)(x2:Bt):Option Bool :=
 bd3 (g_y n x1 x2) λH I G=>some<|G==0
def g_z (x1:Str)(x2:UInt8):Option (List Str) :=
 bd (D_ (σ:=(List Str)×Int) (ρ:=List Str) (λI=>un2 λG H=>bd (idx x1.b (I:Int)) λJ=>bd (α:=(List Str)×Int) (if ((byteI J)==(byteI x2)) then bd (b_R x1 H (I:Int)) λL=>bd (psh G L) λO=>some (O,((I+1:Nat):Int)) else some (G,H))<|un2 λV W=>some<|.next (V,W)) x1.b.length 0 (([]:List Str),0)) (el (un2 λG H=>bd (b_R x1 H (x1.b.length:Int)) λY=>bd (psh G Y) λa0=>some a0)<|λa1=>some a1)
def e_L (n:Nat)(x1:Str):Option Bool :=
 bd (α:=Bool) (if (decide<|(x1.b.length:Int)<1) then some true else some (decide<|12<(x1.b.length:Int))) (λH=>if H then some false else bd (R_ (σ:=Nat) (ρ:=Bool) (λG=>if (decide<|G<x1.b.length) then bd (α:=Bool) (if (decide<|97<=((dec x1 G).1)) then some (decide<|((dec x1 G).1)<=122) else some false) (λI=>bd (α:=Bool) (if (decide<|48<=((dec x1 G).1)) then some (decide<|((dec x1 G).1)<=57) else some false) (λJ=>bd (α:=Bool) (if (!I) then if (!J) then some true else some ((G:Int)==0) else some false) (λL=>if L then some (.ret false) else some (.next<|G+(dec x1 G).2)))) else some (.brk G)) n 0) (el (λG=>some true)<|λO=>some O))
def e_M (x1:Str):Option (Int×Bool) :=
 bd (α:=Bool) (if (x1.b==(⟨[]⟩:Str).b) then some true else if (decide<|13<(x1.b.length:Int)) then some true else bd (idx x1.b 0) λI=>if ((byteI I)==(byteI (48:UInt8))) then some (decide<|1<(x1.b.length:Int)) else some false) (λJ=>if J then some (0,false) else bd (D_ (σ:=Int) (ρ:=Int×Bool) (λH=>(λG=>bd (α:=Bool) (bd (idx x1.b (H:Int)) λL=>if (decide<|(byteI L)<(byteI (48:UInt8))) then some true else bd (idx x1.b (H:Int)) λO=>some<|decide<|(byteI (57:UInt8))<(byteI O)) (λV=>if V then some (.ret (0,false)) else bd (idx x1.b (H:Int)) λW=>some<|.next<|o_ (a_3 10 G)<|byteI<|mkB<|byteI W - byteI (48:UInt8)))) x1.b.length 0 0) (el (λG=>if (decide<|1000000000000<G) then some (0,false) else some (G,true))<|λY=>some Y))
def f_x (n:Nat)(x1:Str):Option Bool :=
 bd (α:=Bool) (bd (e_L n x1) λG=>if G then some true else if (x1.b==(⟨[42]⟩:Str).b) then some true else if (x1.b==(⟨[63]⟩:Str).b) then some true else some (x1.b==(⟨[43]⟩:Str).b)) (λH=>if H then some true else bd2 (e_M x1) λJ I=>some I)
def j_H (n:Nat)(x1:Str):Option ((List Str)×Bool) :=
 if (x1.b==(⟨[]⟩:Str).b) then some ([],true) else bd (idx x1.b 0) λc=>if (byteI c != byteI (47:UInt8)) then some ([],false) else bd (g_z x1 (47:UInt8)) λl=>bd (slc l 1 (l.length:Int)) λparts=>bd (g_t (f_x n) parts) λoks=>if parts.length<LIM then some (if oks.all id then (parts,true) else ([],false)) else none
def i_0 (n:Nat)(x1:Str):Option ((List Str)×Bool) :=
 bd2 (j_H n x1) λG H=>some (G,H)
def c_c (x1:Int)(x2:Int)(x3:Int):Option Bool :=
 bd (α:=Bool) (if (decide<|x2<=x1) then some (decide<|x1<=x3) else some false) (λG=>some G)
def e_N (x1:e_)(x2:Int):Option Bool :=
 bd (α:=Bool) (if (decide<|0<=x2) then some (decide<|x2<(x1.rules.length:Int)) else some false) (λG=>some G)
def c_A (x1:f_)(x2:Bool)(x3:Bool)(x4:Bool)(x5:Bool)(x6:Int):Option Bool :=
 bd (α:=Bool) (bd (α:=Bool) (if x2 then some true else some (x1.size==0)) λG=>bd (α:=Bool) (if G then if x3 then some true else some ((x1.bytes.length:Int)==0) else some false) λH=>bd (α:=Bool) (if H then if x4 then some true else some ((x1.names.length:Int)==0) else some false) λI=>bd (α:=Bool) (if I then if x5 then some true else some ((x1.tags.length:Int)==0) else some false) λJ=>if J then if (decide<|x6<0) then some true else some ((x1.kids.length:Int)==x6) else some false) (λL=>some L)
def d_c (x1:e_)(x2:Int):Option Int :=
 bd (α:=Bool) (bd (e_N x1 x2) λH=>if (!H) then some true else bd (idx x1.rules x2) λI=>if (I.kind != 1) then some true else bd (idx x1.rules x2) λJ=>bd (c_c J.size 1 4) λL=>some (!L)) (λO=>if O then some (-1) else bd (idx x1.rules x2) λG=>bd (nn<|a_3 8 G.size) λV=>some<|y_ (b_y .i64 1<|a_3 8 G.size) 1)
def g_A (x1:List Str)(x2:Str):Option Bool :=
 bd (D_ (σ:=Unit) (ρ:=Bool) (λk10=>(λ(_:Unit)=>bd (idx x1 (k10:Int)) λG=>if (G.b==x2.b) then some (.ret true) else some (.next ()))) x1.length 0 ()) (el (λ(_:Unit)=>some false)<|λH=>some H)
def i_1 (n:Nat)(x1:f_):Option Bool :=
 bd (α:=Bool) (bd (c_A x1 false false true false (-1)) λH=>if (!H) then some true else if ((x1.kids.length:Int) != (x1.names.length:Int)) then some true else bd (c_c (x1.kids.length:Int) 1 8) λI=>some (!I)) (λJ=>if J then some false else bd (D_ (σ:=Unit) (ρ:=Bool) (λk10=>(λ(_:Unit)=>bd (idx x1.names (k10:Int)) λG=>bd (α:=Bool) (bd (e_L n G) λL=>if (!L) then some true else bd (slc x1.names 0 (k10:Int)) λO=>bd (g_A O G) λV=>some V) (λW=>if W then some (.ret false) else some (.next ())))) x1.names.length 0 ()) (el (λ(_:Unit)=>some true)<|λY=>some Y))
def i_2 (x1:e_)(x2:f_):Option Bool :=
 bd (α:=Bool) (bd (c_A x2 false false false true<|o_ (x2.tags.length:Int) 1) λI=>if (!I) then some true else bd (c_c (x2.tags.length:Int) 1 8) λJ=>some (!J)) (λL=>if L then some false else bd (idx x2.kids 0) λO=>bd (d_c x1 O) λG=>bd (D_ (σ:=Unit) (ρ:=Bool) (λk10=>(λ(_:Unit)=>bd (idx x2.tags (k10:Int)) λH=>bd (α:=Bool) (bd (c_c H 0 G) λV=>if (!V) then some true else if (decide<|0<(k10:Int)) then bd (idx x2.tags<|y_ (k10:Int) 1) λW=>some (decide<|H<=W) else some false) (λY=>if Y then some (.ret false) else some (.next ())))) x2.tags.length 0 ())<|el (λ(_:Unit)=>some<|decide<|0<G)<|λa0=>some a0)
def i_3 (n:Nat)(x1:e_)(x2:f_):Option Bool :=
 if (x2.kind==1) then bd (α:=Bool) (bd (c_A x2 true false false false 0) λG=>if G then bd (c_c x2.size 1 4) λH=>if H then if (!x2.little) then some true else some (decide<|1<x2.size) else some false else some false) (λI=>some I) else if (x2.kind==2) then bd (α:=Bool) (bd (c_A x2 false true false false 0) λJ=>if J then bd (c_c (x2.bytes.length:Int) 1 16) λL=>some L else some false) (λO=>some O) else if (x2.kind==3) then bd (α:=Bool) (bd (c_A x2 true false false false 0) λV=>if V then bd (c_c x2.size 1 64) λW=>some W else some false) (λY=>some Y) else if (x2.kind==4) then bd (α:=Bool) (bd (c_A x2 false false false false 1) λa0=>if a0 then bd (idx x2.kids 0) λa1=>bd (d_c x1 a1) λa2=>some (decide<|0<a2) else some false) (λa3=>some a3) else if (x2.kind==5) then bd (α:=Bool) (bd (c_A x2 false false false false 2) λa4=>if a4 then bd (idx x2.kids 0) λa5=>bd (d_c x1 a5) λa6=>some (decide<|0<a6) else some false) (λa7=>some a7) else if (x2.kind==6) then bd (i_1 n x2) λa8=>some a8 else if (x2.kind==7) then bd (i_2 x1 x2) λa9=>some a9 else bd (α:=Bool) (if (x2.kind==8) then some (x2.kind==8) else some (x2.kind==9)) (λaa=>if aa then bd (c_A x2 false false false false 1) λab=>some ab else if (x2.kind==10) then bd (α:=Bool) (bd (c_A x2 false true false false 0) λad=>if ad then if ((x2.bytes.length:Int)==1) then bd (idx x2.bytes 0) λae=>some ((byteI ae) != (byteI (92:UInt8))) else some false else some false) (λaf=>some af) else some false)
def i_4 (n:Nat)(x1:e_)(x2:Int):Option Bool :=
 bd (e_N x1 x2) λJ=>if (!J) then some false else bd (idx x1.rules x2) λG=>bd (α:=Bool) (bd (e_L n G.name) λL=>if (!L) then some true else if G.little then some (G.kind != 1) else some false) (λO=>if O then some false else bd (slc x1.rules 0 x2) λH=>bd (D_ (σ:=Unit) (ρ:=Bool) (λV=>(λ(_:Unit)=>bd (idx H (V:Int)) λW=>if (W.name.b==G.name.b) then some (.ret false) else some (.next ()))) H.length 0 ()) (el (λ(_:Unit)=>bd (D_ (σ:=Unit) (ρ:=Bool) (λY=>(λ(_:Unit)=>bd (idx G.kids (Y:Int)) λI=>bd (α:=Bool) (if (decide<|I<0) then some true else some (decide<|x2<=I)) (λa0=>if a0 then some (.ret false) else some (.next ())))) G.kids.length 0 ())<|el (λ(_:Unit)=>bd (i_3 n x1 G) λa1=>some a1)<|λa2=>some a2)<|λa3=>some a3))
def i_5 (n:Nat)(x1:e_):Option Bool :=
 bd (c_c (x1.rules.length:Int) 1 24) λG=>if (!G) then some false else bd (D_ (σ:=Unit) (ρ:=Bool) (λH=>(λ(_:Unit)=>bd (i_4 n x1 (H:Int)) λI=>if (!I) then some (.ret false) else some (.next ()))) x1.rules.length 0 ()) (el (λ(_:Unit)=>some true)<|λJ=>some J)
def e_O (x1:e_):Option Int :=
 some (y_ (x1.rules.length:Int) 1)
def e_P (n:Nat)(x1:e_)(x2:Int):Option Bool :=
 bd (α:=Bool) (bd (i_5 n x1) λG=>if G then bd (e_N x1 x2) λH=>some H else some false) (λI=>some I)
def i_6 (x1:Bt)(x2:Bool):Option Int :=
 if (decide<|4<(x1.length:Int)) then some 0 else bd (D_ (σ:=Int) (ρ:=Int) (λH=>(λG=>bd (α:=Int) (if x2 then bd (idx x1<|y_ (y_ (x1.length:Int) 1) (H:Int)) λI=>some (a_N .i64 (· ||| ·) (b_y .i64 G 8)<|byteI I) else bd (idx x1 (H:Int)) λJ=>some<|a_N .i64 (· ||| ·) (b_y .i64 G 8)<|byteI J)<|λL=>some<|.next L)) x1.length 0 0) (el (λG=>some G)<|λO=>some O)
def f_y (x1:Bt):Option Int :=
 bd (D_ (σ:=Int) (ρ:=Int) (λH=>(λG=>bd (idx x1 (H:Int)) λI=>some<|.next<|o_ G<|byteI I)) x1.length 0 0) (el (λG=>some<|b_n G 256)<|λJ=>some J)
def i_7 (n:Nat)(x1:Bt)(x2:Int)(x3:UInt8):Option (Bt×Int×Bool) :=
 bd (α:=Bool) (if (decide<|x2<0) then some true else some (decide<|(x1.length:Int)<x2)) (λJ=>if J then some (([]:Bt),x2,false) else bd (R_ (σ:=Bt×Int) (ρ:=Bt×Int×Bool) (un2 λH G=>if (decide<|G<(x1.length:Int)) then bd (idx x1 G) λL=>if ((byteI L)==(byteI x3)) then some (.ret (H,o_ G 1,true)) else bd (idx x1 G) λO=>bd (α:=Sum Int<|Out (Bt×Int)<|Bt×Int×Bool) (if ((byteI O)==(byteI (92:UInt8))) then if ((o_ G 1)==(x1.length:Int)) then some (.inr<|.brk (H,o_ G 1)) else some (.inl<|o_ G 1) else some (.inl G)) (el (λI=>bd (idx x1 I) λV=>bd (psh H V) λW=>some<|.next (W,o_ I 1)) some) else some (.brk (H,G))) n (([]:Bt),x2)) (el (un2 λH G=>some (([]:Bt),x2,false))<|λY=>some Y))
def c_4 (x1:Int)(x2:Int):Option (Option<|Int×Int) :=
 some (some (x1,x2))
def e_Q (x1:a_F)(x2:Int)(x3:Int):Option (Bt×(Option<|Int×Int)) :=
 if (decide<|(y_ (x1.b.length:Int) x2)<x3) then bd (c_4 x2 1) λG=>some (([]:Bt),G) else bd (slc x1.b x2<|o_ x2 x3) λH=>some (H,none)
def e_R (x1:a_F)(x2:Int)(x3:Int):Option (Int×Int×(Option<|Int×Int)) :=
 bd (idx x1.d.rules x2) λG=>bd2 (e_Q x1 x3 G.size) λI H=>if H.isSome then some (0,x3,H) else bd (i_6 I G.little) λJ=>some (J,o_ x3 G.size,none)
def i_8 (x1:a_F)(x2:f_)(x3:Int):Option (Int×(Option<|Int×Int)) :=
 bd (D_ (σ:=Unit) (ρ:=Int×(Option<|Int×Int)) (λk10=>(λ(_:Unit)=>bd (idx x2.bytes (k10:Int)) λG=>if (decide<|(x1.b.length:Int)<=(o_ x3 (k10:Int))) then bd (c_4 x3 1) λH=>some (.ret (x3,H)) else bd (idx x1.b<|o_ x3 (k10:Int)) λI=>if ((byteI I) != (byteI G)) then bd (c_4 (o_ x3 (k10:Int)) 2) λJ=>some (.ret (x3,J)) else some (.next ()))) x2.bytes.length 0 ()) (el (λ(_:Unit)=>some (o_ x3 (x2.bytes.length:Int),none))<|λL=>some L)
def g_B (x1:a_F)(x2:Int)(x3:Int):Option (Val×Int×(Option<|Int×Int)) :=
 bd2 (e_Q x1 x2 x3) λH G=>if G.isSome then some ((⟨0,([]:Bt),([]:List Val)⟩:Val),x2,G) else bd (app ([]:Bt) H) λI=>some ((⟨0,I,([]:List Val)⟩:Val),o_ x2 x3,none)
structure f_z where
 impl_fileReader_value:a_F->Int->Int->Option (Val×Int×(Option<|Int×Int))
 impl_fileReader_array:a_F->f_->Int->Option (Val×Int×(Option<|Int×Int))
 impl_fileReader_items:a_F->Val->(List Int)->Int->Option (Val×Int×(Option<|Int×Int))
 impl_fileReader_choice:a_F->f_->Int->Option (Val×Int×(Option<|Int×Int))
 impl_fileReader_option:a_F->f_->Int->Option (Val×Int×(Option<|Int×Int))
 impl_fileReader_checked:a_F->f_->Int->Option (Val×Int×(Option<|Int×Int))
def i_9 (n:Nat)(rec:f_z)(x1:a_F)(x2:Int)(x3:Int):Option (Val×Int×(Option<|Int×Int)) :=
 bd (idx x1.d.rules x2) λG=>if (G.kind==1) then bd3 (e_R x1 x2 x3) λI J L=>some ((⟨I,([]:Bt),([]:List Val)⟩:Val),J,L) else if (G.kind==2) then bd2 (i_8 x1 G x3) λO V=>some ((⟨0,([]:Bt),([]:List Val)⟩:Val),O,V) else if (G.kind==3) then bd3 (g_B x1 x3 G.size) λW Y a0=>some (W,Y,a0) else if (G.kind==4) then bd (idx G.kids 0) λa1=>bd3 (e_R x1 a1 x3) λa2 a3 H=>if H.isSome then some ((⟨0,([]:Bt),([]:List Val)⟩:Val),x3,H) else bd3 (g_B x1 a3 a2) λa4 a5 a6=>some (a4,a5,a6) else if (G.kind==5) then bd3 (rec.impl_fileReader_array x1 G x3) λa7 a8 a9=>some (a7,a8,a9) else if (G.kind==6) then bd3 (rec.impl_fileReader_items x1 (⟨0,([]:Bt),([]:List Val)⟩:Val) G.kids x3) λaa ab ad=>some (aa,ab,ad) else if (G.kind==7) then bd3 (rec.impl_fileReader_choice x1 G x3) λae af ah=>some (ae,af,ah) else if (G.kind==8) then bd3 (rec.impl_fileReader_option x1 G x3) λai aj ak=>some (ai,aj,ak) else if (G.kind==9) then bd3 (rec.impl_fileReader_checked x1 G x3) λal am an=>some (al,am,an) else bd (idx G.bytes 0) λao=>bd3 (i_7 n x1.b x3 ao) λap aq ar=>if (!ar) then bd (c_4 x3 1) λau=>some ((⟨0,([]:Bt),([]:List Val)⟩:Val),x3,au) else some ((⟨0,ap,([]:List Val)⟩:Val),aq,none)
def i_a (n:Nat)(rec:f_z)(x1:a_F)(x2:f_)(x3:Int):Option (Val×Int×(Option<|Int×Int)) :=
 bd (idx x2.kids 0) λL=>bd3 (e_R x1 L x3) λH O I=>if I.isSome then some ((⟨0,([]:Bt),([]:List Val)⟩:Val),x3,I) else if (decide<|40<H) then bd (c_4 x3 6) λV=>some ((⟨0,([]:Bt),([]:List Val)⟩:Val),x3,V) else bd (mk0 0 H) λJ=>bd (D_ (σ:=List Int) (ρ:=Val×Int×(Option<|Int×Int)) (λW=>(λG=>bd (idx x2.kids 1) λY=>bd (upd G (W:Int) Y) λa0=>some<|.next a0)) J.length 0 J)<|el (λG=>bd3 (rec.impl_fileReader_items x1 (⟨0,([]:Bt),([]:List Val)⟩:Val) G O) λa1 a2 a3=>some (a1,a2,a3))<|λa4=>some a4
def i_b (n:Nat)(rec:f_z)(x1:a_F)(x2:Val)(x3:List Int)(x4:Int):Option (Val×Int×(Option<|Int×Int)) :=
 bd (D_ (σ:=Int×(List Val)) (ρ:=Val×Int×(Option<|Int×Int)) (λJ=>un2 λG H=>bd (idx x3 (J:Int)) λL=>bd3 (rec.impl_fileReader_value x1 L G) λO V I=>if I.isSome then some (.ret ((⟨0,([]:Bt),([]:List Val)⟩:Val),G,I)) else bd (psh H O) λW=>some<|.next (V,W)) x3.length 0 (x4,x2.items)) (el (un2 λG H=>some ((⟨x2.number,x2.bytes,H⟩:Val),G,none))<|λY=>some Y)
def i_c (n:Nat)(rec:f_z)(x1:a_F)(x2:f_)(x3:Int):Option (Val×Int×(Option<|Int×Int)) :=
 bd (idx x2.kids 0) λI=>bd3 (e_R x1 I x3) λG J H=>if H.isSome then some ((⟨0,([]:Bt),([]:List Val)⟩:Val),x3,H) else bd (D_ (σ:=Unit) (ρ:=Val×Int×(Option<|Int×Int)) (λk10=>(λ(_:Unit)=>bd (idx x2.tags (k10:Int)) λL=>if (L==G) then bd (slc x2.kids ((k10+1:Nat):Int)<|o_ (k10:Int) 2) λO=>bd3 (rec.impl_fileReader_items x1 (⟨G,([]:Bt),([]:List Val)⟩:Val) O J) λV W Y=>some (.ret (V,W,Y)) else some (.next ()))) x2.tags.length 0 ()) (el (λ(_:Unit)=>bd (c_4 x3 3) λa0=>some ((⟨0,([]:Bt),([]:List Val)⟩:Val),x3,a0))<|λa1=>some a1)
def i_d (n:Nat)(rec:f_z)(x1:a_F)(x2:f_)(x3:Int):Option (Val×Int×(Option<|Int×Int)) :=
 bd2 (e_Q x1 x3 1) λG H=>if H.isSome then some ((⟨0,([]:Bt),([]:List Val)⟩:Val),x3,H) else bd (idx G 0) λI=>if (decide<|(byteI (1:UInt8))<(byteI I)) then bd (c_4 x3 4) λJ=>some ((⟨0,([]:Bt),([]:List Val)⟩:Val),x3,J) else bd (idx G 0) λL=>if ((byteI L)==(byteI (0:UInt8))) then some ((⟨0,([]:Bt),([]:List Val)⟩:Val),o_ x3 1,none) else bd3 (rec.impl_fileReader_items x1 (⟨0,([]:Bt),([]:List Val)⟩:Val) x2.kids<|o_ x3 1) λO V W=>some (O,V,W)
def i_e (n:Nat)(rec:f_z)(x1:a_F)(x2:f_)(x3:Int):Option (Val×Int×(Option<|Int×Int)) :=
 bd3 (rec.impl_fileReader_items x1 (⟨0,([]:Bt),([]:List Val)⟩:Val) x2.kids x3) λJ G H=>if H.isSome then some ((⟨0,([]:Bt),([]:List Val)⟩:Val),x3,H) else bd2 (e_Q x1 G 1) λL I=>if I.isSome then some ((⟨0,([]:Bt),([]:List Val)⟩:Val),x3,I) else bd (idx L 0) λO=>bd (slc x1.b x3 G) λV=>bd (f_y V) λW=>if ((byteI O) != W) then bd (c_4 G 5) λY=>some ((⟨0,([]:Bt),([]:List Val)⟩:Val),x3,Y) else some (J,o_ G 1,none)
def a_r:Nat->f_z
 | 0=>⟨λ_ _ _=>none,λ_ _ _=>none,λ_ _ _ _=>none,λ_ _ _=>none,λ_ _ _=>none,λ_ _ _=>none⟩
 | n+1=>⟨i_9 n<|a_r n,i_a n<|a_r n,i_b n<|a_r n,i_c n<|a_r n,i_d n<|a_r n,i_e n<|a_r n⟩
def j_I (n:Nat):=(a_r n).impl_fileReader_value
def f_A (n:Nat):=(a_r n).impl_fileReader_items
def i_f (n:Nat)(x1:e_)(x2:Int)(x3:Bt)(x4:Int):Option (Val×Int×Int) :=
 bd (α:=Bool) (bd (e_P n x1 x2) λH=>if (!H) then some true else if (decide<|x4<0) then some true else if (decide<|(x3.length:Int)<x4) then some true else some (decide<|400<(x3.length:Int))) (λI=>if I then some ((⟨0,([]:Bt),([]:List Val)⟩:Val),0,8) else bd3 (j_I n (⟨(⟨x1.rules⟩:e_),x3⟩:a_F) x2 x4) λJ L G=>if G.isSome then (bd2 G λO V=>some ((⟨0,([]:Bt),([]:List Val)⟩:Val),O,V)) else some (J,L,0))
def i_g (n:Nat)(x1:e_)(x2:Bt):Option (Val×Int×Int) :=
 bd (α:=Int×Bt×(List Val)×Int×Int) (bd (e_O x1) λJ=>bd3 (i_f n x1 J x2 0) λG L O=>some (G.number,G.bytes,G.items,L,O)) (un5 λV W Y H I=>bd (α:=Bool) (if (I==0) then some (decide<|H<(x2.length:Int)) else some false) (λa0=>if a0 then some ((⟨0,([]:Bt),([]:List Val)⟩:Val),H,7) else some ((⟨V,W,Y⟩:Val),H,I)))
def i_h (n:Nat)(x1:e_)(x2:Bt)(x3:Str):Option (Val×Bool) :=
 bd2 (h_X n x1 x2 x3) λG H=>if (!H) then some ((⟨0,([]:Bt),([]:List Val)⟩:Val),false) else bd3 (e_8 n x1 G.rule x2 G.start) λI J L=>some (I,true)
def j_J (x1:Int):Option Str :=
 bd (j_X x1) λG=>some G
def i_i (n:Nat)(x1:e_)(x2:Int)(x3:Int):Option Str :=
 bd (α:=Bool) (bd (e_P n x1 x2) λH=>if (!H) then some true else some (decide<|x3<0)) (λI=>if I then some (⟨[]⟩:Str) else bd (idx x1.rules x2) λG=>if (G.kind==5) then bd (j_J x3) λJ=>some J else bd (α:=Bool) (if (G.kind==6) then some (decide<|x3<(G.names.length:Int)) else some false) (λL=>if L then bd (idx G.names x3) λO=>some O else if (decide<|0<x3) then some (⟨[]⟩:Str) else if (G.kind==7) then some (⟨[42]⟩:Str) else if (G.kind==8) then some (⟨[63]⟩:Str) else if (G.kind==9) then some (⟨[43]⟩:Str) else some (⟨[]⟩:Str)))
def d_B (x1:e_)(x2:Int)(x3:Val)(x4:Int):Option Int :=
 bd (idx x1.rules x2) λG=>if (G.kind==5) then bd (idx G.kids 1) λI=>some I else bd (α:=Sum Unit Int) (if (G.kind==6) then if (decide<|x4<(G.kids.length:Int)) then bd (idx G.kids x4) λJ=>some (.inr J) else some (.inl ()) else bd (α:=Sum Unit<|Sum Unit Int) (if (G.kind==7) then bd (D_ (σ:=Unit) (ρ:=Int) (λH=>(λ(_:Unit)=>bd (idx G.tags (H:Int)) λL=>if (L==x3.number) then bd (idx G.kids ((H+1:Nat):Int)) λO=>some (.ret O) else some (.next ()))) G.tags.length 0 ()) (el (λ(_:Unit)=>some<|.inl ())<|λV=>some<|.inr<|.inr V) else bd (α:=Bool) (if (G.kind==8) then some (G.kind==8) else some (G.kind==9)) (λW=>if W then bd (idx G.kids 0) λY=>some (.inr<|.inr Y) else some (.inl ()))) (el (λ(_:Unit)=>some<|.inl ()) some)) (el (λ(_:Unit)=>some (-1)) some)
def d_d (x1:Int)(x2:Int):Option Int :=
 if (decide<|x2<x1) then some x2 else some x1
def f_B (n:Nat)(x1:Int)(x2:Int):Option Bt :=
 bd (α:=Bool) (bd (b_5 x2 1 4) λI=>if (!I) then some true else bd (d_a x2) λJ=>bd (b_5 x1 0<|y_ J 1) λL=>some (!L)) (λO=>if O then some ([]:Bt) else bd (R_ (σ:=Bt×Int) (ρ:=Bt) (un2 λH G=>if (decide<|0<=G) then bd (nn<|a_3 8 G) λY=>bd (psh H<|mkB<|a_h .i64 x1<|a_3 8 G) λV=>some (.next (V,y_ G 1)) else some (.brk (H,G))) n (([]:Bt),y_ x2 1)) (el (un2 λH G=>some H)<|λW=>some W))
def i_j (x1:Bt)(x2:Bt):Option Bool :=
 if ((x1.length:Int) != (x2.length:Int)) then some false else bd (D_ (σ:=Unit) (ρ:=Bool) (λk10=>(λ(_:Unit)=>bd (idx x1 (k10:Int)) λG=>bd (idx x2 (k10:Int)) λH=>if ((byteI G) != (byteI H)) then some (.ret false) else some (.next ()))) x1.length 0 ()) (el (λ(_:Unit)=>some true)<|λI=>some I)
def i_k (x1:Int)(x2:Int):Option Bool :=
 some (decide<|x1<x2)
def j_K (x2:Int)(x3:List Int):Option Int :=
 bd (D_ (σ:=Int) (ρ:=Int) (λI=>(λG=>bd (idx x3 (I:Int)) λH=>bd (i_k H G) λJ=>bd (α:=Int) (if J then some H else some G)<|λL=>some<|.next L)) x3.length 0 x2) (el (λG=>some G)<|λO=>some O)
def g_C (x1:Int)(x2:Int):Option Int :=
 bd (j_K x1 [x2]) λG=>some G
end Go.Vw
namespace Go.Vw
def i_o (x1:Bt):Option Bool :=
 some (decide<|1048576<(x1.length:Int))
def f_F (n:Nat)(x1:Bt):Option z_ :=
 bd (R_ (σ:=Int×Int) (ρ:=z_) (un2 λH G=>bd (α:=Bool) (if (decide<|G<(x1.length:Int)) then some (decide<|G<4000) else some false) (λI=>if I then bd (idx x1 G) λJ=>some (.next (a_N .i64 (· &&& ·) (o_ (o_ (a_3 H 137)<|byteI J) 11) 1073741823,o_ G 1)) else some (.brk (H,G)))) n (o_ 193017 (x1.length:Int),0)) (el (un2 λH G=>some (⟨x1,0,H⟩:z_))<|λL=>some L)
def d_g (x1:z_):Option (Int×Int×Int) :=
 bd (α:=Int×Int) (if (decide<|x1.i<(x1.b.length:Int)) then bd (idx x1.b x1.i) λG=>some (a_N .i64 (· &&& ·) (o_ (a_N .i64 (· &&& ·) (a_N .i64 (· ^^^ ·) (a_h .i64 (o_ (a_3 x1.h 6364136223846793005) 1442695040888963407) 33)<|a_h .i64 (o_ (a_3 x1.h 6364136223846793005) 1442695040888963407) 47) 255)<|byteI G) 255,o_ x1.i 1) else some (a_N .i64 (· &&& ·) (a_N .i64 (· ^^^ ·) (a_h .i64 (o_ (a_3 x1.h 6364136223846793005) 1442695040888963407) 33)<|a_h .i64 (o_ (a_3 x1.h 6364136223846793005) 1442695040888963407) 47) 255,x1.i)) (un2 λH I=>some (H,I,o_ (a_3 x1.h 6364136223846793005) 1442695040888963407))
def a_t (x1:z_)(x2:Int):Option (Int×Int×Int) :=
 if (decide<|x2<=0) then some (0,x1.i,x1.h) else if (decide<|x2<=256) then bd3 (d_g x1) λG H I=>bd (nz x2) λa3=>some (b_n G x2,H,I) else bd3 (d_g x1) λJ L O=>bd3 (d_g (⟨x1.b,L,O⟩:z_)) λV W Y=>bd3 (d_g (⟨x1.b,W,Y⟩:z_)) λa0 a1 a2=>bd (nz x2) λa4=>some (b_n (o_ (o_ (a_3 J 65536)<|a_3 V 256) a0) x2,a1,a2)
def d_h (x1:z_)(x2:List Str):Option (Str×Int×Int) :=
 bd3 (a_t x1 (x2.length:Int)) λG H I=>bd (idx x2 G) λJ=>some (J,H,I)
def c_R (x1:z_)(x2:Int):Option (Bool×Int×Int) :=
 bd3 (a_t x1 x2) λG H I=>some (G==0,H,I)
def e_V (x1:z_)(x2:Int):Option (Bt×Int×Int) :=
 bd (D_ (σ:=Bt×Int×Int) (ρ:=Bt×Int×Int) (λY=>un3 λG H I=>bd3 (d_g (⟨x1.b,H,I⟩:z_)) λJ L O=>bd (psh G<|mkB J) λV=>some<|.next (V,L,O)) x2.toNat 0 (([]:Bt),x1.i,x1.h)) (el (un3 λG H I=>some (G,H,I))<|λW=>some W)
def d_i (x1:z_)(x2:List Int):Option (Int×Int×Int) :=
 bd3 (a_t x1 (x2.length:Int)) λG H I=>bd (idx x2 G) λJ=>some (J,H,I)
def e_W (x1:z_)(x2:e_):Option (Int×Int×Int) :=
 bd (D_ (σ:=List Int) (ρ:=Int×Int×Int) (λH=>(λG=>bd (idx x2.rules (H:Int)) λI=>bd (α:=List Int) (if (I.kind==1) then bd (psh G (H:Int)) λJ=>some J else some G)<|λL=>some<|.next L)) x2.rules.length 0 ([]:List Int)) (el (λG=>bd3 (d_i x1 G) λO V W=>some (O,V,W))<|λY=>some Y)
def e_d (n:Nat)(x1:z_)(x2:e_)(x3:Int):Option (f_×Int×Int) :=
 bd3 (d_h x1 [(⟨[97]⟩:Str),(⟨[105,116,101,109]⟩:Str),(⟨[98]⟩:Str),(⟨[104,101,97,100]⟩:Str),(⟨[120]⟩:Str)]) λa6 G H=>bd (c_b n (x2.rules.length:Int)) λa7=>bd (cat a6 a7) λa8=>bd (α:=Sum (Int×Int×Int×Bool×Bt×(List Str)×(List Int)×(List Int))<|f_×Int×Int) (if (x3==1) then bd3 (a_t (⟨x1.b,G,H⟩:z_) 3) λa3 a4 a5=>bd (α:=Int×Int×Bool) (if (decide<|1<(o_ 1 a3)) then bd3 (c_R (⟨x1.b,a4,a5⟩:z_) 2) λa9 aa ab=>some (aa,ab,a9) else some (a4,a5,false)) (un3 λad ae af=>some<|.inl (ad,ae,o_ 1 a3,af,([]:Bt),([]:List Str),([]:List Int),([]:List Int))) else bd (α:=Sum (Int×Int×Int×Bt×(List Str)×(List Int)×(List Int))<|Sum (Int×Int×Int×Bool×Bt×(List Str)×(List Int)×(List Int))<|f_×Int×Int) (if (x3==2) then bd3 (a_t (⟨x1.b,G,H⟩:z_) 3) λah ai aj=>bd3 (e_V (⟨x1.b,ai,aj⟩:z_)<|o_ 1 ah) λak al am=>some (.inl (al,am,0,ak,([]:List Str),([]:List Int),([]:List Int))) else bd (α:=Sum (Int×Int×Int×Bt×(List Str)×(List Int)×(List Int))<|Sum (Int×Int×Int×Bt×(List Str)×(List Int)×(List Int))<|Sum (Int×Int×Int×Bool×Bt×(List Str)×(List Int)×(List Int))<|f_×Int×Int) (if (x3==3) then bd3 (a_t (⟨x1.b,G,H⟩:z_) 4) λan ao ap=>some (.inl (ao,ap,o_ 1 an,([]:Bt),([]:List Str),([]:List Int),([]:List Int))) else bd (α:=Sum (Int×Int×Bt×(List Str)×(List Int)×(List Int))<|Sum (Int×Int×Int×Bt×(List Str)×(List Int)×(List Int))<|Sum (Int×Int×Int×Bt×(List Str)×(List Int)×(List Int))<|Sum (Int×Int×Int×Bool×Bt×(List Str)×(List Int)×(List Int))<|f_×Int×Int) (if (x3==4) then bd3 (e_W (⟨x1.b,G,H⟩:z_) x2) λaq ar au=>some (.inl (ar,au,([]:Bt),([]:List Str),([]:List Int),[aq])) else bd (α:=Sum (Int×Int×Bt×(List Str)×(List Int)×(List Int))<|Sum (Int×Int×Bt×(List Str)×(List Int)×(List Int))<|Sum (Int×Int×Int×Bt×(List Str)×(List Int)×(List Int))<|Sum (Int×Int×Int×Bt×(List Str)×(List Int)×(List Int))<|Sum (Int×Int×Int×Bool×Bt×(List Str)×(List Int)×(List Int))<|f_×Int×Int) (if (x3==5) then bd3 (e_W (⟨x1.b,G,H⟩:z_) x2) λav aw ax=>bd3 (a_t (⟨x1.b,aw,ax⟩:z_) (x2.rules.length:Int)) λay az aA=>some (.inl (az,aA,([]:Bt),([]:List Str),([]:List Int),[av,ay])) else bd (α:=Sum (Int×Int×Bt×(List Str)×(List Int)×(List Int))<|Sum (Int×Int×Bt×(List Str)×(List Int)×(List Int))<|Sum (Int×Int×Bt×(List Str)×(List Int)×(List Int))<|Sum (Int×Int×Int×Bt×(List Str)×(List Int)×(List Int))<|Sum (Int×Int×Int×Bt×(List Str)×(List Int)×(List Int))<|Sum (Int×Int×Int×Bool×Bt×(List Str)×(List Int)×(List Int))<|f_×Int×Int) (if (x3==6) then bd3 (a_t (⟨x1.b,G,H⟩:z_) 3) λaB aC aD=>bd (R_ (σ:=Int×Int×Int×(List Str)×(List Int)) (ρ:=f_×Int×Int) (un5 λI L O V W=>if (decide<|0<I) then bd3 (d_h (⟨x1.b,L,O⟩:z_) [(⟨[112]⟩:Str),(⟨[113]⟩:Str),(⟨[114]⟩:Str)]) λaE aF aG=>bd (c_b n I) λaH=>bd (cat aE aH) λaI=>bd (psh V aI) λaJ=>bd3 (a_t (⟨x1.b,aF,aG⟩:z_) (x2.rules.length:Int)) λaK aL aM=>bd (psh W aK) λaN=>some (.next (y_ I 1,aL,aM,aJ,aN)) else some (.brk (I,L,O,V,W))) n (o_ 1 aB,aC,aD,([]:List Str),([]:List Int))) (el (un5 λI L O V W=>some<|.inl (L,O,([]:Bt),V,([]:List Int),W))<|λaO=>some<|.inr<|.inr<|.inr<|.inr<|.inr<|.inr aO) else bd (α:=Sum (Int×Int×Bt×(List Int)×(List Int))<|Sum (Int×Int×Bt×(List Str)×(List Int)×(List Int))<|Sum (Int×Int×Bt×(List Str)×(List Int)×(List Int))<|Sum (Int×Int×Bt×(List Str)×(List Int)×(List Int))<|Sum (Int×Int×Int×Bt×(List Str)×(List Int)×(List Int))<|Sum (Int×Int×Int×Bt×(List Str)×(List Int)×(List Int))<|Sum (Int×Int×Int×Bool×Bt×(List Str)×(List Int)×(List Int))<|f_×Int×Int) (if (x3==7) then bd3 (e_W (⟨x1.b,G,H⟩:z_) x2) λaP aQ aR=>bd3 (a_t (⟨x1.b,aQ,aR⟩:z_) 3) λaS aT aU=>bd (R_ (σ:=Int×Int×Int×(List Int)×(List Int)) (ρ:=f_×Int×Int) (un5 λY a0 a1 J a2=>if (decide<|0<Y) then bd3 (a_t (⟨x1.b,a0,a1⟩:z_) 4) λaV aW aX=>bd (psh J<|o_ (a_3 4 (J.length:Int)) aV) λaY=>bd3 (a_t (⟨x1.b,aW,aX⟩:z_) (x2.rules.length:Int)) λaZ b0 b3=>bd (psh a2 aZ) λb4=>some (.next (y_ Y 1,b0,b3,aY,b4)) else some (.brk (Y,a0,a1,J,a2))) n (o_ 1 aS,aT,aU,([]:List Int),[aP])) (el (un5 λY a0 a1 J a2=>some<|.inl (a0,a1,([]:Bt),J,a2))<|λb5=>some<|.inr<|.inr<|.inr<|.inr<|.inr<|.inr<|.inr b5) else bd (α:=Bool) (if (x3==8) then some (x3==8) else some (x3==9)) (λb6=>bd (α:=Int×Int×Bt×(List Int)) (if b6 then bd3 (a_t (⟨x1.b,G,H⟩:z_) (x2.rules.length:Int)) λb7 b8 b9=>some (b8,b9,([]:Bt),[b7]) else bd (α:=Int×Int×Bt) (if (x3==10) then bd3 (d_i (⟨x1.b,G,H⟩:z_) [0,10,59,255]) λba bb bc=>some (bb,bc,[mkB ba]) else some (G,H,([]:Bt))) (un3 λbe bf bg=>some (be,bf,bg,([]:List Int))))<|un4 λbh bi bj bk=>some<|.inl (bh,bi,bj,([]:List Int),bk))) (el (un5 λbm bn bo bp bq=>some<|.inl (bm,bn,bo,([]:List Str),bp,bq)) some)) (el (un6 λbr bs bt bu bv bw=>some<|.inl (br,bs,bt,bu,bv,bw)) some)) (el (un6 λbx bz bA bB bC bD=>some<|.inl (bx,bz,bA,bB,bC,bD)) some)) (el (un6 λbE bF bG bH bI bJ=>some<|.inl (bE,bF,0,bG,bH,bI,bJ)) some)) (el (un7 λbK bL bM bN bO bP bQ=>some<|.inl (bK,bL,bM,bN,bO,bP,bQ)) some)) (el (un7 λbR bS bT bU bV bW bX=>some<|.inl (bR,bS,bT,false,bU,bV,bW,bX)) some))<|el (un8 λbY bZ c0 c1 c2 c3 c4 c5=>some ((⟨a8,x3,c0,c1,c2,c3,c4,c5⟩:f_),bY,bZ)) some
def g_I (n:Nat)(x1:z_):Option (e_×Int×Int) :=
 bd3 (e_d n x1 (⟨([]:List f_)⟩:e_) 1) λL O V=>bd (psh ([]:List f_) L) λW=>bd3 (a_t (⟨x1.b,O,V⟩:z_) 6) λY a0 a1=>bd (R_ (σ:=Int×Int×Int×(List f_)) (ρ:=e_×Int×Int) (un4 λH I J G=>if (decide<|0<H) then bd3 (a_t (⟨x1.b,I,J⟩:z_) 10) λa2 a3 a4=>bd3 (e_d n (⟨x1.b,a3,a4⟩:z_) (⟨G⟩:e_)<|o_ 1 a2) λa5 a6 a7=>bd (psh G a5) λa8=>some (.next (y_ H 1,a6,a7,a8)) else some (.brk (H,I,J,G))) n (Y,a0,a1,W))<|el (un4 λH I J G=>some ((⟨G⟩:e_),I,J))<|λa9=>some a9
structure i_p where
 spec_l9Make:z_->e_->Int->Int->Option (Val×Int×Int)
def g_J (n:Nat)(rec:i_p)(x1:z_)(x2:e_)(x3:Int)(x4:Int):Option (Val×Int×Int) :=
 bd (idx x2.rules x3) λG=>bd (α:=Sum (Int×Int×Int×Bt×(List Val))<|Val×Int×Int) (if (G.kind==1) then bd (d_a G.size) λa7=>bd (d_d a7 70000) λa8=>bd3 (a_t x1 a8) λa9 aa ab=>some (.inl (aa,ab,a9,([]:Bt),([]:List Val))) else bd (α:=Sum (Int×Int×Int×Bt×(List Val))<|Sum (Int×Int×Int×Bt×(List Val))<|Val×Int×Int) (if (G.kind==3) then bd3 (e_V x1 G.size) λad ae af=>some (.inl (ae,af,0,ad,([]:List Val))) else bd (α:=Bool) (if (G.kind==4) then some (G.kind==4) else some (G.kind==10)) (λah=>bd (α:=Sum (Int×Int×Int×Bt×(List Val))<|Sum (Int×Int×Int×Bt×(List Val))<|Sum (Int×Int×Int×Bt×(List Val))<|Val×Int×Int) (if ah then bd (d_d x4 6) λai=>bd3 (a_t x1<|o_ ai 1) λaj ak al=>bd3 (e_V (⟨x1.b,ak,al⟩:z_) aj) λO V W=>bd (α:=Bool×Int×Int) (if (G.kind==10) then if (decide<|0<(O.length:Int)) then bd3 (c_R (⟨x1.b,V,W⟩:z_) 2) λam an ao=>some (am,an,ao) else some (false,V,W) else some (false,V,W)) (un3 λap a2 a3=>bd (α:=Int×Int×Bt) (if ap then bd (idx G.bytes 0) λaq=>bd3 (d_i (⟨x1.b,a2,a3⟩:z_) [byteI aq,92]) λar au av=>bd (upd O 0<|mkB ar) λaw=>some (au,av,aw) else some (a2,a3,O))<|un3 λax ay az=>some<|.inl (ax,ay,0,az,([]:List Val))) else bd (α:=Sum (Int×Int×Int×(List Val))<|Sum (Int×Int×Int×Bt×(List Val))<|Sum (Int×Int×Int×Bt×(List Val))<|Sum (Int×Int×Int×Bt×(List Val))<|Val×Int×Int) (if (G.kind==5) then bd (d_d x4 3) λaA=>bd3 (a_t x1<|o_ aA 1) λaB aC aD=>bd (R_ (σ:=Int×Int×Int×(List Val)) (ρ:=Val×Int×Int) (un4 λH I J L=>if (decide<|0<H) then bd (idx G.kids 1) λaE=>bd3 (rec.spec_l9Make (⟨x1.b,I,J⟩:z_) x2 aE<|c_l x4 2) λaF aG aH=>bd (psh L aF) λaI=>some (.next (y_ H 1,aG,aH,aI)) else some (.brk (H,I,J,L))) n (aB,aC,aD,([]:List Val))) (el (un4 λH I J L=>some<|.inl (I,J,0,L))<|λaJ=>some<|.inr<|.inr<|.inr<|.inr aJ) else bd (α:=Sum (Int×Int×Int×(List Val))<|Sum (Int×Int×Int×(List Val))<|Sum (Int×Int×Int×Bt×(List Val))<|Sum (Int×Int×Int×Bt×(List Val))<|Sum (Int×Int×Int×Bt×(List Val))<|Val×Int×Int) (if (G.kind==6) then bd (D_ (σ:=Int×Int×(List Val)) (ρ:=Val×Int×Int) (λaK=>un3 λY a0 a1=>bd (idx G.kids (aK:Int)) λaL=>bd3 (rec.spec_l9Make (⟨x1.b,Y,a0⟩:z_) x2 aL<|c_l x4 2) λaM aN aO=>bd (psh a1 aM) λaP=>some<|.next (aN,aO,aP)) G.kids.length 0 (x1.i,x1.h,([]:List Val))) (el (un3 λY a0 a1=>some<|.inl (Y,a0,0,a1))<|λaQ=>some<|.inr<|.inr<|.inr<|.inr<|.inr aQ) else bd (α:=Int×Int×Int×(List Val)) (if (G.kind==7) then bd3 (a_t x1 (G.tags.length:Int)) λa4 aR aS=>bd (idx G.tags a4) λaT=>bd (idx G.kids<|o_ a4 1) λaU=>bd3 (rec.spec_l9Make (⟨x1.b,aR,aS⟩:z_) x2 aU<|c_l x4 2) λaV aW aX=>some (aW,aX,aT,[aV]) else bd (α:=Int×Int×(List Val)) (if (G.kind==8) then bd3 (c_R x1 2) λaY a5 a6=>bd (α:=Int×Int×(List Val)) (if aY then bd (idx G.kids 0) λaZ=>bd3 (rec.spec_l9Make (⟨x1.b,a5,a6⟩:z_) x2 aZ<|c_l x4 2) λb0 b3 b4=>some (b3,b4,[b0]) else some (a5,a6,([]:List Val))) (un3 λb5 b6 b7=>some (b5,b6,b7)) else bd (α:=Int×Int×(List Val)) (if (G.kind==9) then bd (idx G.kids 0) λb8=>bd3 (rec.spec_l9Make x1 x2 b8<|c_l x4 2) λb9 ba bb=>some (ba,bb,[b9]) else some (x1.i,x1.h,([]:List Val))) (un3 λbc be bf=>some (bc,be,bf))) (un3 λbg bh bi=>some (bg,bh,0,bi))) (un4 λbj bk bm bn=>some<|.inl (bj,bk,bm,bn))) (el (un4 λbo bp bq br=>some<|.inl (bo,bp,bq,br)) some)) (el (un4 λbs bt bu bv=>some<|.inl (bs,bt,bu,([]:Bt),bv)) some))<|el (un5 λbw bx bz bA bB=>some<|.inl (bw,bx,bz,bA,bB)) some)) (el (un5 λbC bD bE bF bG=>some<|.inl (bC,bD,bE,bF,bG)) some))<|el (un5 λbH bI bJ bK bL=>some ((⟨bJ,bK,bL⟩:Val),bH,bI)) some
def e_X:Nat->i_p
 | 0=>⟨λ_ _ _ _=>none⟩
 | n+1=>⟨g_J n<|e_X n⟩
def i_q (n:Nat):=(e_X n).spec_l9Make
def g_K (n:Nat)(x1:Int)(x2:Int):Option Bt :=
 bd (f_B n x1 x2) λI=>bd (R_ (σ:=Bt×Int) (ρ:=Bt) (un2 λH G=>if (decide<|0<=G) then bd (idx I G) λJ=>bd (psh H J) λL=>some (.next (L,y_ G 1)) else some (.brk (H,G))) n (([]:Bt),y_ (I.length:Int) 1))<|el (un2 λH G=>some H)<|λO=>some O
def d_E (n:Nat)(x1:f_)(x2:Int):Option Bt :=
 if x1.little then bd (g_K n x2 x1.size) λG=>some G else bd (f_B n x2 x1.size) λH=>some H
structure i_r where
 spec_l11Print:e_->Int->Val->Option Bt
def c_5 (n:Nat)(rec:i_r)(x1:e_)(x2:Int)(x3:Val):Option Bt :=
 bd (idx x1.rules x2) λG=>bd (D_ (σ:=Bt) (ρ:=Bt) (λL=>(λH=>bd (idx x3.items (L:Int)) λO=>bd (b_6 G x3.number (L:Int)) λV=>bd (rec.spec_l11Print x1 V O) λW=>bd (app H W) λY=>some<|.next Y)) x3.items.length 0 ([]:Bt)) (el (λH=>if (G.kind==1) then bd (d_E n G x3.number) λa0=>some a0 else if (G.kind==2) then bd (app ([]:Bt) G.bytes) λa1=>some a1 else if (G.kind==4) then bd (idx G.kids 0) λa2=>bd (idx x1.rules a2) λa3=>bd (d_E n a3 (x3.bytes.length:Int)) λa4=>bd (app a4 x3.bytes) λa5=>some a5 else if (G.kind==5) then bd (idx G.kids 0) λa6=>bd (idx x1.rules a6) λa7=>bd (d_E n a7 (x3.items.length:Int)) λa8=>bd (app a8 H) λa9=>some a9 else if (G.kind==7) then bd (idx G.kids 0) λaa=>bd (idx x1.rules aa) λab=>bd (d_E n ab x3.number) λad=>bd (app ad H) λae=>some ae else if (G.kind==8) then bd (app [mkB (x3.items.length:Int)] H) λaf=>some af else if (G.kind==9) then bd (g_w H) λah=>bd (psh H<|mkB ah) λai=>some ai else if (G.kind==10) then bd (D_ (σ:=Bt) (ρ:=Bt) (λJ=>(λI=>bd (α:=Bool) (bd (idx x3.bytes (J:Int)) λaj=>bd (idx G.bytes 0) λak=>if ((byteI aj)==(byteI ak)) then some true else bd (idx x3.bytes (J:Int)) λal=>some<|(byteI al)==(byteI (92:UInt8))) (λam=>bd (α:=Bt) (if am then bd (psh I (92:UInt8)) λan=>some an else some I)<|λao=>bd (idx x3.bytes (J:Int)) λap=>bd (psh ao ap) λaq=>some<|.next aq))) x3.bytes.length 0 H) (el (λI=>bd (idx G.bytes 0) λar=>bd (psh I ar) λau=>some au)<|λav=>some av) else if (G.kind==3) then bd (app ([]:Bt) x3.bytes) λaw=>some aw else some H)<|λax=>some ax)
def e_Y:Nat->i_r
 | 0=>⟨λ_ _ _=>none⟩
 | n+1=>⟨c_5 n<|e_Y n⟩
def e_Z (n:Nat):=(e_Y n).spec_l11Print
structure l_z where
 spec_l18Paths:e_->Int->Val->Str->Option (List Str)
def g_L (n:Nat)(rec:l_z)(x1:e_)(x2:Int)(x3:Val)(x4:Str):Option (List Str) :=
 bd (D_ (σ:=List Str) (ρ:=List Str) (λk10=>(λG=>bd (idx x1.rules x2) λH=>bd (idx x3.items (k10:Int)) λI=>bd (cat x4 (⟨[47]⟩:Str)) λJ=>bd (b_6 H x3.number (k10:Int)) λL=>bd (c_P n H (k10:Int)) λO=>bd (cat J O) λV=>bd (rec.spec_l18Paths x1 L I V) λW=>bd (app G W) λY=>some<|.next Y)) x3.items.length 0 [x4]) (el (λG=>some G)<|λa0=>some a0)
def e_e:Nat->l_z
 | 0=>⟨λ_ _ _ _=>none⟩
 | n+1=>⟨g_L n<|e_e n⟩
def j_S (n:Nat):=(e_e n).spec_l18Paths
def g_M (n:Nat)(x1:z_)(x2:e_)(x3:Val):Option (Str×Int×Int) :=
 bd (j_S n x2 (y_ (x2.rules.length:Int) 1) x3 (⟨[]⟩:Str)) λI=>bd3 (a_t x1 (I.length:Int)) λO V W=>bd (idx I O) λJ=>bd3 (a_t (⟨x1.b,V,W⟩:z_) 8) λL G H=>if (L==0) then bd3 (d_h (⟨x1.b,G,H⟩:z_) [(⟨[47,48]⟩:Str),(⟨[47,42]⟩:Str),(⟨[47,63]⟩:Str),(⟨[47,43]⟩:Str),(⟨[47,112,49]⟩:Str),(⟨[47,48,48]⟩:Str),(⟨[47]⟩:Str),(⟨[120]⟩:Str),(⟨[47,57]⟩:Str)]) λY a0 a1=>bd (cat J Y) λa2=>some (a2,a0,a1) else if (L==1) then bd3 (d_h (⟨x1.b,G,H⟩:z_) [(⟨[112,49]⟩:Str),(⟨[47]⟩:Str),(⟨[47,47]⟩:Str),(⟨[47,112,49]⟩:Str),(⟨[47,48]⟩:Str)]) λa3 a4 a5=>some (a3,a4,a5) else some (J,G,H)
def g_N (x1:Bt)(x2:Bt):Option Bool :=
 if ((x1.length:Int) != (x2.length:Int)) then some false else bd (D_ (σ:=Unit) (ρ:=Bool) (λk10=>(λ(_:Unit)=>bd (idx x1 (k10:Int)) λG=>bd (idx x2 (k10:Int)) λH=>if ((byteI G) != (byteI H)) then some (.ret false) else some (.next ()))) x1.length 0 ()) (el (λ(_:Unit)=>some true)<|λI=>some I)
end Go.Vw
namespace Go.Vw
def h_F (x1:e_)(x2:f_)(x3:Val):Option Bool :=
 if (x2.kind==1) then bd (α:=Bool) (bd (d_a x2.size) λG=>bd (b_5 x3.number 0<|y_ G 1) λH=>if H then if ((x3.bytes.length:Int)==0) then some ((x3.items.length:Int)==0) else some false else some false) (λI=>some I) else if (x2.kind==2) then bd (α:=Bool) (if (x3.number==0) then if ((x3.bytes.length:Int)==0) then some ((x3.items.length:Int)==0) else some false else some false) (λJ=>some J) else if (x2.kind==3) then bd (α:=Bool) (if (x3.number==0) then if ((x3.bytes.length:Int)==x2.size) then some ((x3.items.length:Int)==0) else some false else some false) (λL=>some L) else if (x2.kind==4) then bd (α:=Bool) (if (x3.number==0) then bd (idx x2.kids 0) λO=>bd (e_6 x1 O) λV=>bd (d_d 400 V) λW=>if (decide<|(x3.bytes.length:Int)<=W) then some ((x3.items.length:Int)==0) else some false else some false) (λY=>some Y) else if (x2.kind==10) then bd (α:=Bool) (if (x3.number==0) then if (decide<|(x3.bytes.length:Int)<=400) then some ((x3.items.length:Int)==0) else some false else some false) (λa0=>some a0) else if (x2.kind==5) then bd (α:=Bool) (if (x3.number==0) then if ((x3.bytes.length:Int)==0) then bd (idx x2.kids 0) λa1=>bd (e_6 x1 a1) λa2=>bd (d_d 40 a2) λa3=>some (decide<|(x3.items.length:Int)<=a3) else some false else some false) (λa4=>some a4) else if (x2.kind==6) then bd (α:=Bool) (if (x3.number==0) then if ((x3.bytes.length:Int)==0) then some ((x3.items.length:Int)==(x2.kids.length:Int)) else some false else some false) (λa5=>some a5) else if (x2.kind==7) then bd (α:=Bool) (if ((x3.bytes.length:Int)==0) then if ((x3.items.length:Int)==1) then bd (b_6 x2 x3.number 0) λa6=>some (decide<|0<=a6) else some false else some false) (λa7=>some a7) else if (x2.kind==8) then bd (α:=Bool) (if (x3.number==0) then if ((x3.bytes.length:Int)==0) then some (decide<|(x3.items.length:Int)<=1) else some false else some false) (λa8=>some a8) else bd (α:=Bool) (if (x3.number==0) then if ((x3.bytes.length:Int)==0) then some ((x3.items.length:Int)==1) else some false else some false) (λa9=>some a9)
structure n_v where
 spec_l9Valid:e_->Int->Val->Option Bool
def h_G (n:Nat)(rec:n_v)(x1:e_)(x2:Int)(x3:Val):Option Bool :=
 bd (idx x1.rules x2) λG=>bd (h_F x1 G x3) λI=>if (!I) then some false else bd (D_ (σ:=Unit) (ρ:=Bool) (λH=>(λ(_:Unit)=>bd (idx x3.items (H:Int)) λJ=>bd (b_6 G x3.number (H:Int)) λL=>bd (rec.spec_l9Valid x1 L J) λO=>if (!O) then some (.ret false) else some (.next ()))) x3.items.length 0 ()) (el (λ(_:Unit)=>some true)<|λV=>some V)
def e_I:Nat->n_v
 | 0=>⟨λ_ _ _=>none⟩
 | n+1=>⟨h_G n<|e_I n⟩
def n_w (n:Nat):=(e_I n).spec_l9Valid
def d_y (n:Nat)(x1:e_)(x2:Int)(x3:Val):Option Bool :=
 bd (α:=Bool) (bd (d_b x1 x2) λG=>if G then bd (n_w n x1 x2 x3) λH=>some H else some false) (λI=>some I)
def j_D (n:Nat)(x1:e_)(x2:Int)(x3:Val):Option (Bt×Bool) :=
 bd (d_y n x1 x2 x3) λH=>if (!H) then some (([]:Bt),false) else bd (e_Z n x1 x2 x3) λG=>if (decide<|400<(G.length:Int)) then some (([]:Bt),false) else some (G,true)
def h_H (n:Nat)(x1:e_)(x2:Val):Option (Bt×Bool) :=
 bd (e_7 x1) λG=>bd2 (j_D n x1 G x2) λH I=>some (H,I)
end Go.Vw
namespace Go.Vw
def i_l (x1:e_)(x2:Int)(x3:Val):Option Bool :=
 bd (idx x1.rules x2) λG=>bd (α:=Sum (Int×Int×Int) Bool) (if (G.kind==1) then bd (d_c x1 x2) λI=>some (.inl (I,0,0)) else bd (α:=Sum (Int×Int×Int)<|Sum (Int×Int×Int) Bool) (if (G.kind==3) then if ((x3.bytes.length:Int) != G.size) then some (.inr<|.inr false) else some (.inl (0,G.size,0)) else bd (α:=Int×Int×Int) (if (G.kind==4) then bd (idx G.kids 0) λJ=>bd (d_c x1 J) λL=>bd (g_C 400 L) λO=>some (0,O,0) else bd (α:=Int×Int×Int) (if (G.kind==10) then some (0,400,0) else bd (α:=Int×Int) (if (G.kind==5) then bd (idx G.kids 0) λV=>bd (d_c x1 V) λW=>bd (g_C 40 W) λY=>some (0,Y) else bd (α:=Int×Int) (if (G.kind==6) then some (0,(G.kids.length:Int)) else bd (α:=Int×Int) (if (G.kind==7) then bd (idx G.kids 0) λa0=>bd (d_c x1 a0) λa1=>some (a1,1) else bd (α:=Bool) (if (G.kind==8) then some (G.kind==8) else some (G.kind==9)) (λa2=>bd (α:=Int) (if a2 then some 1 else some 0)<|λa3=>some (0,a3))) (un2 λa4 a5=>some (a4,a5))) (un2 λa6 a7=>some (a6,a7))) (un2 λa8 a9=>some (a8,0,a9))) (un3 λaa ab ad=>some (aa,ab,ad))) (un3 λae af ah=>some<|.inl (ae,af,ah))) (el (un3 λai aj ak=>some<|.inl (ai,aj,ak)) some)) (el (un3 λal am H=>bd (α:=Bool) (if (G.kind==6) then some ((x3.items.length:Int) != H) else bd (α:=Bool) (if (G.kind==7) then some true else some (G.kind==9)) λan=>if an then some ((x3.items.length:Int) != H) else some false) (λao=>if ao then some false else bd (α:=Bool) (bd (c_c x3.number 0 al) λap=>if ap then if (decide<|(x3.bytes.length:Int)<=am) then some (decide<|(x3.items.length:Int)<=H) else some false else some false) (λaq=>some aq))) some)
structure n_I where
 impl_validValue:e_->Int->Val->Option Bool
def i_m (n:Nat)(rec:n_I)(x1:e_)(x2:Int)(x3:Val):Option Bool :=
 bd (i_l x1 x2 x3) λH=>if (!H) then some false else bd (D_ (σ:=Unit) (ρ:=Bool) (λk10=>(λ(_:Unit)=>bd (d_B x1 x2 x3 (k10:Int)) λG=>bd (α:=Bool) (if (decide<|G<0) then some true else bd (idx x3.items (k10:Int)) λI=>bd (rec.impl_validValue x1 G I) λJ=>some (!J)) (λL=>if L then some (.ret false) else some (.next ())))) x3.items.length 0 ()) (el (λ(_:Unit)=>some true)<|λO=>some O)
def e_S:Nat->n_I
 | 0=>⟨λ_ _ _=>none⟩
 | n+1=>⟨i_m n<|e_S n⟩
def n_J (n:Nat):=(e_S n).impl_validValue
def d_C (n:Nat)(x1:e_)(x2:Int)(x3:Val):Option Bool :=
 bd (α:=Bool) (bd (e_P n x1 x2) λG=>if G then bd (n_J n x1 x2 x3) λH=>some H else some false) (λI=>some I)
end Go.Vw
namespace Go.Vw
def f_0 (n:Nat)(x1:e_)(x2:Int)(x3:Val)(x4:Str):Option Int :=
 bd (R_ (σ:=Int) (ρ:=Int) (λG=>bd (α:=Bool) (if (decide<|G<(x3.items.length:Int)) then bd (d_b x1 x2) λI=>some I else some false) (λJ=>if J then bd (idx x1.rules x2) λL=>bd (c_P n L G) λH=>bd (α:=Bool) (if (H.b != (⟨[]⟩:Str).b) then some (H.b==x4.b) else some false) (λO=>if O then some (.ret G) else some (.next<|o_ G 1)) else some (.brk G))) n 0) (el (λG=>some (-1))<|λV=>some V)
structure l_E where
 spec_CopyValue:Val->Option Val
def f_1 (n:Nat)(rec:l_E)(x1:Val):Option Val :=
 bd (α:=Int×Bt×(List Val)) (bd (app ([]:Bt) x1.bytes) λH=>some (x1.number,H,([]:List Val))) (un3 λI J L=>bd (D_ (σ:=List Val) (ρ:=Val) (λO=>(λG=>bd (idx x1.items (O:Int)) λV=>bd (rec.spec_CopyValue V) λW=>bd (psh G W) λY=>some<|.next Y)) x1.items.length 0 L)<|el (λG=>some (⟨I,J,G⟩:Val))<|λa0=>some a0)
def e_g:Nat->l_E
 | 0=>⟨λ_=>none⟩
 | n+1=>⟨f_1 n<|e_g n⟩
def e_h (n:Nat):=(e_g n).spec_CopyValue
def d_F (n:Nat)(x1:e_)(x2:Val)(x3:Str):Option (Val×Int×Bool) :=
 bd (e_7 x1) λV=>bd2 (f_v n x3) λW Y=>bd (α:=Bool) (if (!Y) then some true else bd (d_y n x1 V x2) λa0=>some (!a0)) (λa1=>if a1 then some ((⟨0,([]:Bt),([]:List Val)⟩:Val),(-1),false) else bd (D_ (σ:=Int×Int×Bt×(List Val)) (ρ:=Val×Int×Bool) (λa2=>un4 λG H J I=>bd (idx W (a2:Int)) λa3=>bd (f_0 n x1 G (⟨H,J,I⟩:Val) a3) λL=>if (decide<|L<0) then some (.ret ((⟨0,([]:Bt),([]:List Val)⟩:Val),(-1),false)) else bd (idx x1.rules G) λa4=>bd (b_6 a4 H L) λa5=>bd (idx I L) λO=>some<|.next (a5,O.number,O.bytes,O.items)) W.length 0 (V,x2.number,x2.bytes,x2.items)) (el (un4 λG H J I=>bd (e_h n (⟨H,J,I⟩:Val)) λa6=>some (a6,G,true))<|λa7=>some a7))
structure l_F where
 spec_EqualValues:Val->Val->Option Bool
def f_2 (n:Nat)(rec:l_F)(x1:Val)(x2:Val):Option Bool :=
 bd (α:=Bool) (if (x1.number != x2.number) then some true else bd (i_j x1.bytes x2.bytes) λG=>if (!G) then some true else some ((x1.items.length:Int) != (x2.items.length:Int))) (λH=>if H then some false else bd (D_ (σ:=Unit) (ρ:=Bool) (λk10=>(λ(_:Unit)=>bd (idx x1.items (k10:Int)) λI=>bd (idx x2.items (k10:Int)) λJ=>bd (rec.spec_EqualValues I J) λL=>if (!L) then some (.ret false) else some (.next ()))) x1.items.length 0 ()) (el (λ(_:Unit)=>some true)<|λO=>some O))
def e_i:Nat->l_F
 | 0=>⟨λ_ _=>none⟩
 | n+1=>⟨f_2 n<|e_i n⟩
def l_G (n:Nat):=(e_i n).spec_EqualValues
end Go.Vw
namespace Go.Vw
def g_1 (x1:Str)(x2:Str):Option Bool :=
 some (x1.b==x2.b)
def d_Q (x1:List Str)(G:Str):Option Int :=
 bd (D_ (σ:=Unit) (ρ:=Int) (λk10=>(λ(_:Unit)=>bd (idx x1 (k10:Int)) λH=>bd (g_1 H G) λI=>if I then some (.ret (k10:Int)) else some (.next ()))) x1.length 0 ()) (el (λ(_:Unit)=>some (-1))<|λJ=>some J)
def e_q (n:Nat)(x1:e_)(x2:Int)(x3:Val)(x4:Str):Option Int :=
 bd (e_P n x1 x2) λI=>if (!I) then some (-1) else bd (idx x1.rules x2) λH=>bd (α:=Sum Int Int) (if (H.kind==5) then bd2 (e_M x4) λJ L=>if (!L) then some (.inr (-1)) else some (.inl J) else bd (α:=Int) (if (H.kind==6) then bd (d_Q H.names x4) λO=>some O else some 0) (λV=>some<|.inl V)) (el (λG=>bd (α:=Bool) (if (decide<|G<0) then some true else if (decide<|(x3.items.length:Int)<=G) then some true else bd (i_i n x1 x2 G) λW=>if (W.b != x4.b) then some true else some (x4.b==(⟨[]⟩:Str).b)) (λY=>if Y then some (-1) else some G)) some)
structure m_3 where
 impl_CopyValue:Val->Option Val
def f_g (n:Nat)(rec:m_3)(x1:Val):Option Val :=
 bd (α:=Int×Bt×(List Val)) (bd (app ([]:Bt) x1.bytes) λH=>bd (mk0 () (x1.items.length:Int)) λa1=>some (x1.number,H,([]:List Val))) (un3 λI J L=>bd (D_ (σ:=List Val) (ρ:=Val) (λO=>(λG=>bd (idx x1.items (O:Int)) λV=>bd (rec.impl_CopyValue V) λW=>bd (psh G W) λY=>some<|.next Y)) x1.items.length 0 L)<|el (λG=>some (⟨I,J,G⟩:Val))<|λa0=>some a0)
def e_r:Nat->m_3
 | 0=>⟨λ_=>none⟩
 | n+1=>⟨f_g n<|e_r n⟩
def d_o (n:Nat):=(e_r n).impl_CopyValue
end Go.Vw
namespace Go.Vw
def f_G (x1:z_)(x2:Bt):Option (Bt×Int×Int) :=
 bd (app ([]:Bt) x2) λG=>bd3 (a_t x1 6) λJ H I=>bd (α:=Bt×Int×Int) (if (J==0) then bd (α:=Bt×Int×Int) (if (decide<|0<(G.length:Int)) then bd3 (a_t (⟨x1.b,H,I⟩:z_) (G.length:Int)) λL O V=>bd3 (a_t (⟨x1.b,O,V⟩:z_) 256) λW Y a0=>bd (upd G L<|mkB W) λa1=>some (a1,Y,a0) else some (G,H,I)) (un3 λa2 a3 a4=>some (a2,a3,a4)) else bd (α:=Bt×Int×Int) (if (J==1) then bd3 (a_t (⟨x1.b,H,I⟩:z_)<|o_ (G.length:Int) 1) λa5 a6 a7=>bd (slc G 0 a5) λa8=>some (a8,a6,a7) else bd (α:=Bt×Int×Int) (if (J==2) then bd3 (d_i (⟨x1.b,H,I⟩:z_) [0,1,128,255]) λa9 aa ab=>bd (psh G<|mkB a9) λad=>some (ad,aa,ab) else some (G,H,I)) (un3 λae af ah=>some (ae,af,ah))) (un3 λai aj ak=>some (ai,aj,ak)))<|un3 λal am an=>some (al,am,an)
end Go.Vw
namespace Go.Vw
open Go.RowKit Dat
structure b_a where
 d:e_
 out:Bt
deriving Inhabited
end Go.Vw
namespace Go.Vw
structure l_Q where
 spec_l22Put:e_->Int->Val->(List Str)->Val->Option Val
def f_7 (n:Nat)(rec:l_Q)(x1:e_)(x2:Int)(x3:Val)(x4:List Str)(x5:Val):Option Val :=
 if ((x4.length:Int)==0) then bd (e_h n x5) λI=>some I else bd (e_h n x3) λG=>bd (idx x4 0) λJ=>bd (f_0 n x1 x2 x3 J) λH=>bd (idx x1.rules x2) λL=>bd (idx x3.items H) λO=>bd (slc x4 1 (x4.length:Int)) λV=>bd (b_6 L x3.number H) λW=>bd (rec.spec_l22Put x1 W O V x5) λY=>bd (upd G.items H Y) λa0=>some (⟨G.number,G.bytes,a0⟩:Val)
def e_m:Nat->l_Q
 | 0=>⟨λ_ _ _ _ _=>none⟩
 | n+1=>⟨f_7 n<|e_m n⟩
def l_R (n:Nat):=(e_m n).spec_l22Put
def h_0 (n:Nat)(x1:e_)(x2:Val)(x3:Str)(x4:Val):Option (Val×Bool) :=
 bd3 (d_F n x1 x2 x3) λY G H=>bd (α:=Bool) (if (!H) then some true else bd (d_y n x1 G x4) λI=>some (!I)) (λJ=>if J then bd (e_h n x2) λL=>some (L,false) else bd2 (f_v n x3) λO a0=>bd (e_7 x1) λV=>bd (l_R n x1 V x2 O x4) λW=>some (W,true))
def h_1 (n:Nat)(x1:e_)(x2:Bt)(x3:Str)(x4:Val):Option (Bt×Bool) :=
 bd3 (g_y n x1 x2) λG a0 H=>bd2 (h_0 n x1 G x3 x4) λI J=>bd (α:=Bool) (if (H != 0) then some true else some (!J)) (λL=>if L then bd (app ([]:Bt) x2) λO=>some (O,false) else bd2 (h_H n x1 I) λV W=>if (!W) then bd (app ([]:Bt) x2) λY=>some (Y,false) else some (V,true))
def i_P (n:Nat)(x1:e_)(x2:Val)(x3:List Str):Option ((Option<|Val×(Val->Val))×Int) :=
 bd (e_O x1) λJ=>bd (D_ (σ:=(Val×(Val->Val))×Int) (ρ:=(Option<|Val×(Val->Val))×Int) (λL=>un2 λG H=>bd (idx x3 (L:Int)) λO=>bd (e_q n x1 H G.1 O) λI=>if (decide<|I<0) then some (.ret (none,(-1))) else bd (idx G.1.items I) λV=>bd (d_B x1 H G.1 I) λW=>some<|.next ((V,λz=>G.2<|.mk G.1.number G.1.bytes<|G.1.items.set I.toNat z),W)) x3.length 0 ((x2,λy=>y),J))<|el (un2 λG H=>some (some G,H))<|λY=>some Y
def f_V (n:Nat)(x1:e_)(x2:Val)(x3:Str)(x4:Val):Option (Val×Bool) :=
 bd2 (i_0 n x3) λG H=>bd (α:=Bool) (if (!H) then some true else bd (e_O x1) λI=>bd (d_C n x1 I x2) λJ=>some (!J)) λL=>if L then bd (d_o n x2) λO=>some (O,false) else bd (d_o n x2) λV=>bd2 (i_P n x1 V G) λW Y=>opS W (bd (d_o n x2) λa0=>some (a0,false)) λa1=>bd (d_C n x1 Y x4) λa2=>if a2 then bd (d_o n x4) λa3=>some (a1.2 a3,true) else bd (d_o n x2) λa4=>some (a4,false)
def c_g (x1:b_a)(x2:Bt):Option Bt :=
 bd (app x1.out x2) λG=>some G
def h_2 (x1:Bt)(x2:UInt8):Option Bt :=
 bd (mk0 ()<|o_ (x1.length:Int) 1) λa0=>bd (D_ (σ:=Bt) (ρ:=Bt) (λI=>(λG=>bd (idx x1 (I:Int)) λH=>bd (α:=Bool) (if ((byteI H)==(byteI x2)) then some true else some ((byteI H)==(byteI (92:UInt8)))) (λJ=>bd (α:=Bt) (if J then bd (psh G (92:UInt8)) λL=>some L else some G)<|λO=>bd (psh O H) λV=>some<|.next V))) x1.length 0 ([]:Bt))<|el (λG=>bd (psh G x2) λW=>some W)<|λY=>some Y
def f_8 (x1:b_a):Option Bool :=
 some (decide<|400<(x1.out.length:Int))
def f_9 (n:Nat)(x1:Int)(x2:Int):Option Bt :=
 bd (α:=Bool) (bd (c_c x2 1 4) λJ=>if (!J) then some true else if (decide<|x1<0) then some true else bd (nn<|a_3 8 x2) λY=>some<|decide<|(b_y .i64 1<|a_3 8 x2)<=x1) (λL=>if L then some ([]:Bt) else bd (mk0 (0:UInt8) x2) λO=>bd (R_ (σ:=Int×Bt×Int) (ρ:=Bt) (un3 λH I G=>if (decide<|0<=G) then bd (upd I G<|mkB H) λV=>some (.next (a_h .i64 H 8,V,y_ G 1)) else some (.brk (H,I,G))) n (x1,O,y_ x2 1))<|el (un3 λH I G=>some I)<|λW=>some W)
def h_3 (n:Nat)(x1:Int)(x2:Int):Option Bt :=
 bd (f_9 n x1 x2) λJ=>bd (R_ (σ:=Bt×Int×Int) (ρ:=Bt) (un3 λG H I=>if (decide<|H<I) then bd (α:=Bt) (bd (idx G I) λL=>bd (idx G H) λO=>bd (upd G H L) λV=>bd (upd V I O) λW=>some W) (λY=>some<|.next (Y,o_ H 1,y_ I 1)) else some (.brk (G,H,I))) n (J,0,y_ (J.length:Int) 1))<|el (un3 λG H I=>some G)<|λa0=>some a0
def f_a (n:Nat)(x1:f_)(x2:Int):Option Bt :=
 if x1.little then bd (h_3 n x2 x1.size) λG=>some G else bd (f_9 n x2 x1.size) λH=>some H
def e_n (n:Nat)(x1:Int)(x2:Int)(x3:b_a):Option Bt :=
 bd (idx x3.d.rules x1) λG=>bd (f_a n G x2) λH=>bd (c_g x3 H) λI=>some I
structure h_4 where
 impl_printer_value:b_a->Int->Val->Option Bt
 impl_printer_items:b_a->Int->Val->Option Bt
def c_6 (n:Nat)(rec:h_4)(x1:b_a)(x2:Int)(x3:Val):Option Bt :=
 bd (idx x1.d.rules x2) λG=>bd (α:=Bt) (if (G.kind==1) then bd (e_n n x2 x3.number x1) λJ=>some J else bd (α:=Bt) (if (G.kind==2) then bd (c_g x1 G.bytes) λL=>some L else bd (α:=Bt) (if (G.kind==3) then bd (c_g x1 x3.bytes) λO=>some O else bd (α:=Bt) (if (G.kind==4) then bd (idx G.kids 0) λV=>bd (e_n n V (x3.bytes.length:Int) x1) λW=>bd (c_g (⟨(⟨x1.d.rules⟩:e_),W⟩:b_a) x3.bytes) λY=>some Y else bd (α:=Bt) (if (G.kind==5) then bd (idx G.kids 0) λa0=>bd (e_n n a0 (x3.items.length:Int) x1) λa1=>some a1 else bd (α:=Bt) (if (G.kind==7) then bd (idx G.kids 0) λa2=>bd (e_n n a2 x3.number x1) λa3=>some a3 else bd (α:=Bt) (if (G.kind==8) then bd (c_g x1 [mkB (x3.items.length:Int)]) λa4=>some a4 else bd (α:=Bt) (if (G.kind==10) then bd (idx G.bytes 0) λa5=>bd (h_2 x3.bytes a5) λa6=>bd (c_g x1 a6) λa7=>some a7 else some x1.out) (λa8=>some a8)) (λa9=>some a9)) (λaa=>some aa)) (λab=>some ab)) (λad=>some ad)) (λae=>some ae)) (λaf=>some af)) (λI=>bd (rec.impl_printer_items (⟨(⟨x1.d.rules⟩:e_),I⟩:b_a) x2 x3) λH=>bd (α:=Bt) (if (G.kind==9) then bd (slc H (I.length:Int) (H.length:Int)) λah=>bd (f_y ah) λai=>bd (c_g (⟨(⟨x1.d.rules⟩:e_),H⟩:b_a) [mkB ai]) λaj=>some aj else some H)<|λak=>some ak)
def h_5 (n:Nat)(rec:h_4)(x1:b_a)(x2:Int)(x3:Val):Option Bt :=
 bd (D_ (σ:=Bt) (ρ:=Bt) (λH=>(λG=>bd (f_8 (⟨(⟨x1.d.rules⟩:e_),G⟩:b_a)) λI=>if I then some (.ret G) else bd (idx x3.items (H:Int)) λJ=>bd (d_B (⟨x1.d.rules⟩:e_) x2 x3 (H:Int)) λL=>bd (rec.impl_printer_value (⟨(⟨x1.d.rules⟩:e_),G⟩:b_a) L J) λO=>some<|.next O)) x3.items.length 0 x1.out) (el (λG=>some G)<|λV=>some V)
def c_s:Nat->h_4
 | 0=>⟨λ_ _ _=>none,λ_ _ _=>none⟩
 | n+1=>⟨c_6 n<|c_s n,h_5 n<|c_s n⟩
def h_6 (n:Nat):=(c_s n).impl_printer_value
def i_Q (n:Nat)(x1:e_)(x2:Int)(x3:Val):Option (Bt×Bool) :=
 bd (d_C n x1 x2 x3) λH=>if (!H) then some (([]:Bt),false) else bd (h_6 n (⟨(⟨x1.rules⟩:e_),([]:Bt)⟩:b_a) x2 x3) λG=>bd (f_8 (⟨(⟨x1.rules⟩:e_),G⟩:b_a)) λI=>if I then some (([]:Bt),false) else some (G,true)
def h_7 (n:Nat)(x1:e_)(x2:Val):Option (Bt×Bool) :=
 bd (e_O x1) λG=>bd2 (i_Q n x1 G x2) λH I=>some (H,I)
def h_8 (n:Nat)(x1:e_)(x2:Bt)(x3:Str)(x4:Val):Option (Bt×Bool) :=
 bd3 (i_g n x1 x2) λG W H=>bd (α:=Sum Unit<|Bt×Bool) (if (H==0) then bd2 (f_V n x1 G x3 x4) λI J=>bd (α:=Sum Unit<|Sum Unit<|Bt×Bool) (if J then bd2 (h_7 n x1 I) λL O=>if O then some (.inr<|.inr (L,true)) else some (.inl ()) else some (.inl ())) (el (λ(_:Unit)=>some<|.inl ()) some) else some (.inl ()))<|el (λ(_:Unit)=>bd (app ([]:Bt) x2) λV=>some (V,false)) some
end Go.Vw
namespace Go.Vw
structure l_o where
 spec_l9Bent:z_->Val->Option (Val×Int×Int)
def e_T (n:Nat)(rec:l_o)(x1:z_)(x2:Val):Option (Val×Int×Int) :=
 bd3 (a_t x1 5) λI G H=>bd (α:=Int×Int×Int×Bt×(List Val)) (if (I==0) then bd3 (d_i (⟨x1.b,G,H⟩:z_) [(-1),1,256,4294967296]) λL O V=>some (O,V,L,x2.bytes,x2.items) else bd (α:=Int×Int×Bt×(List Val)) (if (I==1) then bd (psh x2.bytes (1:UInt8)) λW=>some (G,H,W,x2.items) else bd (α:=Int×Int×(List Val)) (if (I==2) then bd (psh x2.items (⟨0,([]:Bt),([]:List Val)⟩:Val)) λY=>some (G,H,Y) else bd (α:=Int×Int×(List Val)) (if (I==3) then bd (α:=Int×Int×(List Val)) (if (decide<|0<(x2.items.length:Int)) then bd3 (a_t (⟨x1.b,G,H⟩:z_) (x2.items.length:Int)) λJ a0 a1=>bd (idx x2.items J) λa2=>bd3 (rec.spec_l9Bent (⟨x1.b,a0,a1⟩:z_) a2) λa3 a4 a5=>some (a4,a5,x2.items.set (J).toNat a3) else some (G,H,x2.items)) (un3 λa6 a7 a8=>some (a6,a7,a8)) else bd (α:=List Val) (if (decide<|0<(x2.items.length:Int)) then bd (slc x2.items 1 (x2.items.length:Int)) λa9=>some a9 else some x2.items) (λaa=>some (G,H,aa))) (un3 λab ad ae=>some (ab,ad,ae))) (un3 λaf ah ai=>some (af,ah,x2.bytes,ai))) (un4 λaj ak al am=>some (aj,ak,x2.number,al,am)))<|un5 λan ao ap aq ar=>some ((⟨ap,aq,ar⟩:Val),an,ao)
def e_9:Nat->l_o
 | 0=>⟨λ_ _=>none⟩
 | n+1=>⟨e_T n<|e_9 n⟩
def l_p (n:Nat):=(e_9 n).spec_l9Bent
def g_E (n:Nat)(x1:z_)(x2:Int):Option (e_×Val×Str×Int×Int×Int) :=
 bd3 (g_I n x1) λY a0 a1=>bd (α:=Sum (Int×Int×(List f_))<|e_×Val×Str×Int×Int×Int) (if (decide<|0<x2) then bd (D_ (σ:=Int×Int×(List f_)) (ρ:=e_×Val×Str×Int×Int×Int) (λaO=>un3 λJ L I=>bd3 (d_i (⟨x1.b,J,L⟩:z_) [x2,x2,6,9]) λad ae af=>bd3 (e_d n (⟨x1.b,ae,af⟩:z_) (⟨I⟩:e_) ad) λah ai aj=>bd (psh I ah) λak=>some<|.next (ai,aj,ak)) ((3:Int).toNat) 0 (a0,a1,Y.rules)) (el (un3 λJ L I=>some<|.inl (J,L,I))<|λal=>some<|.inr al) else some (.inl (a0,a1,Y.rules))) (el (un3 λam an G=>bd3 (i_q n (⟨x1.b,am,an⟩:z_) (⟨G⟩:e_) (y_ (G.length:Int) 1) 10) λH ao ap=>bd3 (g_M n (⟨x1.b,ao,ap⟩:z_) (⟨G⟩:e_) H) λa2 a3 a4=>bd (α:=Bool×Int×Int) (if (decide<|0<x2) then bd3 (c_R (⟨x1.b,a3,a4⟩:z_) 4) λaq ar au=>some (!aq,ar,au) else some (false,a3,a4)) (un3 λav aw ax=>bd (α:=Sum Str<|e_×Val×Str×Int×Int×Int) (if av then bd (j_S n (⟨G⟩:e_) (y_ (G.length:Int) 1) H (⟨[]⟩:Str)) λO=>bd (D_ (σ:=Str) (ρ:=e_×Val×Str×Int×Int×Int) (λa5=>(λV=>bd (α:=Int×Bool) (bd (idx O (a5:Int)) λay=>bd3 (d_F n (⟨G⟩:e_) H ay) λaP az aA=>some (az,aA)) (un2 λaB aC=>bd (α:=Bool) (if aC then bd (idx G aB) λaD=>some (aD.kind==x2) else some false) (λaE=>bd (α:=Str) (if aE then bd (idx O (a5:Int)) λaF=>some aF else some V)<|λaG=>some<|.next aG)))) O.length 0 a2) (el (λV=>some<|.inl V)<|λaH=>some<|.inr aH) else some (.inl a2)) (el (λa6=>bd3 (c_R (⟨x1.b,aw,ax⟩:z_) 12) λaI a7 a8=>bd (α:=Int×Int×Int×Bt×(List Val)) (if aI then bd3 (l_p n (⟨x1.b,a7,a8⟩:z_) H) λW aJ aK=>some (aJ,aK,W.number,W.bytes,W.items) else some (a7,a8,H.number,H.bytes,H.items))<|un5 λaL aM a9 aa ab=>bd3 (d_F n (⟨G⟩:e_) (⟨a9,aa,ab⟩:Val) a6) λaQ aN aR=>some ((⟨G⟩:e_),(⟨a9,aa,ab⟩:Val),a6,aN,aL,aM)) some))) some)
def g_F (n:Nat)(x1:Bt):Option (e_×Val×Str×Val) :=
 bd (f_F n x1) λG=>bd6 (g_E n G 0) λI Y a0 J a1 a2=>bd3 (a_t (⟨G.b,a1,a2⟩:z_) 3) λa3 L O=>bd (α:=Bool×Int×Int) (if (decide<|0<=J) then bd3 (c_R (⟨G.b,L,O⟩:z_) 5) λa4 a5 a6=>some (!a4,a5,a6) else some (false,L,O)) (un3 λa7 V W=>bd (α:=Int×Int×Int×Bt×(List Val)) (if a7 then bd3 (i_q n (⟨G.b,V,W⟩:z_) I J 6) λH a8 a9=>some (a8,a9,H.number,H.bytes,H.items) else some (V,W,a3,([]:Bt),([]:List Val)))<|un5 λae af aa ab ad=>some (I,Y,a0,(⟨aa,ab,ad⟩:Val)))
def g_G (n:Nat)(x1:Bt):Option (e_×Bt×Str×Val) :=
 bd (f_F n x1) λH=>bd4 (g_F n x1) λG J V W=>bd (d_y n G (y_ (G.rules.length:Int) 1) J) λY=>bd (α:=Bt) (if Y then bd (e_Z n G (y_ (G.rules.length:Int) 1) J) λa0=>some a0 else some ([]:Bt)) (λI=>bd (α:=Bool×Int×Int) (if (decide<|0<(I.length:Int)) then bd3 (c_R H 6) λa1 a2 a3=>some (a1,a2,a3) else some (false,H.i,H.h)) (un3 λa4 L O=>bd (α:=Bt×Int×Int) (if a4 then bd3 (f_G (⟨H.b,L,O⟩:z_) I) λa5 a6 a7=>some (a5,a6,a7) else some (I,L,O))<|un3 λa8 a9 aa=>some (G,a8,V,W)))
def g_H (n:Nat)(x1:Bt):Option Bool :=
 bd (i_o x1) λV=>if V then some true else bd4 (g_G n x1) λG H I J=>bd2 (h_8 n G H I J) λL O=>bd2 (h_1 n G H I J) λa5 W=>if (O != W) then some false else if (!O) then bd (g_N L H) λY=>some Y else bd2 (i_h n G L I) λa0 a1=>bd (α:=Bool) (bd (h_Z n G L) λa2=>if a2 then if a1 then bd (l_G n a0 J) λa3=>some a3 else some false else some false)<|λa4=>some a4
end Go.Vw
namespace Go.Vw
open Go.RowKit Dat
theorem o_1 {P:Program}{o:Oper}{a:Act}{w:World}{K K' K1 K2:Act->World->Prop}{Q:Exit->Act->World->Prop}(h:∀a w,K a w->K' a w)(hh:o.wp P a w K (Exit.then K1 Q)):o.wp P a w K' (Exit.then K2 Q):=by
 unfold Oper.wp at *
 generalize (execOp a.eval o).run P w=r at *
 cases r with
 | ok n w' =>
  cases n <;> simp only [Oper.upon] at hh ⊢ <;>
   first
    | exact h _ _ hh
    | exact Calls.mono hh (λe w'' he=>by cases e <;> first | exact h _ _ he | exact he)
    | exact Rows.mono hh<|λ_ _ he=>h _ _ he
 | halt x w'=>cases x <;> simp only [Oper.upon] at hh ⊢ <;> exact hh
theorem j_Q {P:Program}{ops:Array Oper}{K K1:Act->World->Prop}{Q:Exit->Act->World->Prop}{G:List Oper}(hk:∀a w,K1 a w->wpList P ops (Exit.then K Q) G a w):∀(l1:List Oper)(a:Act)(w:World),wpList P ops (Exit.then K1 Q) l1 a w->wpList P ops (Exit.then K Q) (l1++G) a w
 | [],a,w,h=>hk a w h
 | o::l1,a,w,h=>by
  rw [List.cons_append]
  unfold wpList at h ⊢
  split at h
  .rename_i hw
   rw [if_pos hw]
   rcases h with h | ⟨h1,h2⟩
   .exact .inl<|o_1 (j_Q hk l1) h
   .exact .inr ⟨h1,h2⟩
  .rename_i hw
   rw [if_neg hw]
   exact j_Q hk l1 _ _ h
section
variable {P:Program}{N:Nat}{ops:Array Oper}{K:Act->World->Prop}{Q:Exit->Act->World->Prop}{e:Env}{w:World}{l:List Oper}
theorem o_2 (k:Nat)(l:List Oper):l.take k++l.drop k=l:=List.take_append_drop k l
theorem d_f (d:Nat)(u:Bool)(k:Nat)(h1:WL P N ops (λa w'=>w'=w/\Sat N ((d,vB u)::e) a) Q (l.take k) e w)(h2:WL P N ops K Q (l.drop k) ((d,vB u)::e) w):WL P N ops K Q l e w:=λa ha=>by
 rw [← o_2 k l]
 exact j_Q (λa w' ⟨hw,hs⟩=>by subst hw;exact h2 a hs) _ a w<|h1 a ha
variable {d:Nat}{u c:Bool}
def j_R (n:Nat)(e:Env):Bool:=(e.take n).all λp=>(e.drop n).all λq=>!Nat.beq p.1 q.1
theorem l_x:∀{e:Env}{t:Nat},(∀q∈e,Nat.beq t q.1=false)->A_ e t=none
 | [],_,_=>rfl
 | (k,v)::e,t,h=>by
  have h1:=h (k,v) List.mem_cons_self;have h2:Nat.beq k t=false:=by rw [← Bool.not_eq_true,Nat.beq_eq] at *;exact λh=>h1 h.symm
  rw [A_,h2]
  exact l_x λq hq=>h q<|List.mem_cons_of_mem _ hq
theorem l_y:∀{G H:Env}{t:Nat},(∀p∈G,Nat.beq p.1 t=false)->A_ (G++H) t=A_ H t
 | [],_,_,_=>rfl
 | (k,v)::G,H,t,h=>by
  rw [List.cons_append,A_,h (k,v) List.mem_cons_self]
  exact l_y λp hp=>h p<|List.mem_cons_of_mem _ hp
theorem o_3 {n:Nat}{e:Env}(h:j_R n e=true){t:Nat}{v:Value}(hl:A_ (e.drop n) t=some v):A_ e t=some v:=by
 have:A_ (e.take n++e.drop n) t=A_ (e.drop n) t:=by
  refine l_y λp hp=>?_
  cases hb:Nat.beq p.1 t with
  | false=>rfl
  | true =>
   exfalso
   have hpt:p.1=t:=Nat.eq_of_beq_eq_true hb;have h1:=List.all_eq_true.1 h p hp
   rw [List.all_eq_true] at h1
   have:=l_x (e:=e.drop n) (t:=t) λq hq=>by
    have:=h1 q hq
    rw [Bool.not_eq_true'] at this
    rw [← hpt];exact this
   rw [this] at hl;cases hl
 rw [List.take_append_drop] at this
 rw [this];exact hl
theorem o_4 (n:Nat){e':Env}{a:Act}(hu:c=u)(G:A_ e' d=some (vB c))(hf:j_R n e'=true)(he:e'.drop n=e)(ha:Sat N e' a):Sat N ((d,vB u)::e) a:=by
 subst hu;subst he;refine ⟨ha.defers,ha.size,λt v ht=>?_⟩
 simp only [A_] at ht
 by_cases hk:d=t
 .subst hk;have hb:Nat.beq d d=true:=by simp
  rw [hb] at ht
  simp only [cond_true,Option.some.injEq] at ht
  subst ht;exact ha.at_ d _ G
 .have hb:Nat.beq d t=false:=by rw [← Bool.not_eq_true,Nat.beq_eq];exact hk
  rw [hb] at ht
  simp only [cond_false] at ht
  exact ha.at_ t v<|o_3 hf ht
theorem WLq (n:Nat){e':Env}(hu:some c=some u)(G:A_ e' d=some (vB c))(hf:j_R n e'=true)(he:e'.drop n=e):WL P N ops (λa w'=>w'=w/\Sat N ((d,vB u)::e) a) Q [] e' w :=
 a_f λ_ ha=>⟨rfl,o_4 n (Option.some.inj hu) G hf he ha⟩
end
end Go.Vw
universe u
namespace Go.Vw
open Go.RowKit Dat
section
variable {P:Program}{N:Nat}{ops:Array Oper}{K:Act->World->Prop}{Q:Exit->Act->World->Prop}{e:Env}{w:World}{rest:List Oper}
variable {d:Nat}{op:Op}{ty:TypeId}{pos:String}{aft:Array Edge}{x:Operand}
theorem Wn {y:Code}{Q':Exit->Act->World->Prop}(h:WC P N y K Q e w):WL P N ops (KC P y K Q) Q' [] e w:=a_f<|WC.of_KC h
theorem Ws {id:Nat}{l:List Oper}{y:Code}(h:WL P N l.toArray (KC P y K Q) Q l e w):WC P N (.seq (.region id l.toArray false) y) K Q e w:=a_0<|a_m h
theorem Wk {y:Code}{Q':Exit->Act->World->Prop}(h:WC P N y K Q e w):WC P N .skip (KC P y K Q) Q' e w:=V_<|WC.of_KC h
theorem d_z {b:Bool}{o:Option Value}{v:Value}(h:(bif b then o else none)=some v):b=true/\o=some v:=by
 cases b
 .cases h
 .exact ⟨rfl,h⟩
theorem Rm {v:Value}(h:(bif Nat.blt d N then ev e x else none)=some v)(k:WL P N ops K Q rest ((d,v)::e) w):WL P N ops K Q (⟨some d,.move x,ty,pos,aft,none⟩::rest) e w:=R (d_z h).1 (a_n (d_z h).2) k
theorem Ra {v:Value}(h:(bif Nat.blt d N then ev e x else none)=some v)(k:WL P N ops K Q rest ((d,v)::e) w):WL P N ops K Q (⟨some d,.assign x,ty,pos,aft,none⟩::rest) e w:=R (d_z h).1 (a_H (d_z h).2) k
section
variable {j:Nat}{want b:Bool}
theorem bind_some {o:Option Nat}{v:Value}(h:o.bind (A_ e)=some v):∃gd,o=some gd/\A_ e gd=some v:=by
 cases o with
 | none=>cases h
 | some g=>exact ⟨g,rfl,h⟩
theorem Rh {v:Value}(h:(bif Nat.blt d N then ((ops[j]?).bind (·.dst)).bind (A_ e) else none)=some (.bool b))(hw:b=want)(hr:Rd noX P N ⟨some d,op,ty,pos,aft,some (j,want)⟩ e w v)(k:WL P N ops K Q rest ((d,v)::e) w):WL P N ops K Q (⟨some d,op,ty,pos,aft,some (j,want)⟩::rest) e w:=by
 obtain ⟨gd,h1,h2⟩:=bind_some (d_z h).2;exact Rg h1 h2 hw (d_z h).1 hr k
theorem Nh (h:(bif Nat.blt d N then ((ops[j]?).bind (·.dst)).bind (A_ e) else none)=some (.bool b))(hw:b = !want)(k:WL P N ops K Q rest ((d,undef)::e) w):WL P N ops K Q (⟨some d,op,ty,pos,aft,some (j,want)⟩::rest) e w:=by
 obtain ⟨gd,h1,h2⟩:=bind_some (d_z h).2;exact Ng h1 h2 hw (d_z h).1 k
theorem Nv (h:(bif Nat.blt d N then ((ops[j]?).bind (·.dst)).bind (A_ e) else none)=some undef)(k:WL P N ops K Q rest ((d,undef)::e) w):WL P N ops K Q (⟨some d,op,ty,pos,aft,some (j,want)⟩::rest) e w:=by
 obtain ⟨gd,h1,h2⟩:=bind_some (d_z h).2;exact Nu h1 h2 (d_z h).1 k
end
end
theorem goF {P:Program}{f:FuncId}{G:Func}{c:Code}{N:Nat}{args:List Value}{w:World}{R:Value->World->Prop}(hf:P.funcs[f]? = some G)(hb:G.body=some c)(hN:G.ntmps=N)(hle:args.length<=N)(h:∀fn:Func,fn.results=G.results->WC P N c (c_0 P fn R) (QR P fn R) (e_o 0 args) w):p_ P f args w R:=f_b hf hb hN hle<|h G rfl
theorem goG {P:Program}{f:FuncId}{G:Func}{c:Code}{N:Nat}{args:List Value}{w:World}{R:Value->World->Prop}(hf:P.funcs[f]? = some G)(hb:G.body=some c)(hN:G.ntmps=N)(hle:Nat.ble args.length N=true)(h:∀fn:Func,fn.results=G.results->WC P N c (c_0 P fn R) (QR P fn R) (e_o 0 args) w):p_ P f args w R:=goF hf hb hN (Nat.le_of_ble_eq_true hle) h
section
variable {P:Program}{N:Nat}{e:Env}{w:World}{ty:TypeId}{pos:String}{aft:Array Edge}{gd:Option (Nat×Bool)}{x y:Operand}
theorem fs0 {T n g o:Nat}{v:Value}{cur cur':List Value}(hs:∀w,(sizeOf T).run P w = .ok n w)(hp:ev e x=some (.pointer<|some ⟨g,o,none⟩))(hv:ev e y=some v)(hB:Blk w g cur)(hn:v.cells.size=n)
  (ho:Nat.ble (o+n) cur.length=true) (h1:v.cells.toList.all Value.oneCell'=true) (hcur:cur.take o++v.cells.toList++cur.drop (o+v.cells.toList.length)=cur') :
  Ef P N ⟨none,.store T x y,ty,pos,aft,gd⟩ e w (λ_ w'=>Blk w' g cur'/\Chg (· = g) w w'):=b_c hs hp hv hB hn (Nat.le_of_ble_eq_true ho) (b_m h1) hcur
end
abbrev rQ {ρ:Type}(P:Program)(fn:Func)(Q:ρ->Value->World->Prop)(r:ρ)(ex:Exit)(a:Act)(w:World):Prop:=ex = .ret/\c_0 P fn (Q r) a w
abbrev _root_.Go.World.z (w:World):Nat:=w.heap.size
abbrev sl (a:Option Addr)(n c:Nat):Value:=.slice a n c
abbrev sN:Value:=sl none 0 0
abbrev pt (g:Nat):Value:=.pointer<|some ⟨g,0,none⟩
abbrev Bw (a b:World):Prop:=Below a.heap.size a b
abbrev vR (x:f_)(G:Option Addr)(H I:Nat)(a2:Option Addr)(J L:Nat)(O:Option Addr)(V W:Nat)(Y:Option Addr)(n4 c4:Nat):List Value:=[x.name.v,vI x.kind,vI x.size,vB x.little,.slice G H I,.slice a2 J L,.slice O V W,.slice Y n4 c4]
theorem z {α:Sort u}{a:α}:a=a:=rfl
theorem Sat.k {N:Nat}{e e':Env}{a:Act}(h:Sat N e a)(hs:sub e e'):Sat N e' a:=h.weaken hs
theorem fid {a:Prop}(h:a):a:=h
theorem lt_ {a b c:Nat}(h:a<=b)(h':b<=c):a<=c:=Nat.le_trans h h'
theorem lr {a:Nat}:a<=a:=Nat.le_refl a
theorem lb {a b:Nat}(h:Nat.ble a b=true):a<=b:=Nat.le_of_ble_eq_true h
theorem ii {x:Int}(h:(decide (-9223372036854775808<=x) && decide (x<=9223372036854775807))=true):inI x:=l_I x h
section
variable {S T A M:List Nat}{m n g k:Nat}
theorem j_G (h:m<=n):∀k∈[n],m<=k:=b_ h
theorem mno (h:∀ k∈T,k<m)(h':m<=n):∀k∈[n],k∉T:=b_<|λht=>absurd (h n ht)<|Nat.not_lt.2 h'
theorem mnr (h:∀ k∈T,k<m):∀k∈[m],k∉T:=mno h lr
theorem mm1 (h:g<m)(h':m<=n):∀k∈[n],k∉[g]:=mno (b_ h) h'
theorem mmr (h:g<m):∀k∈[m],k∉[g]:=mno (b_ h) lr
theorem mor (h:m<=n):∀k∈[n],k∈M∨m<=k:=b_<|.inr h
theorem k_ (hs:∀k∈S,n<=k)(h:m<=n):∀k∈S,m<=k:=or0 hs<|a_R h
theorem g_ (hs:∀k∈S,n<=k)(h:g<m)(h':m<=n):∀k∈S,k∉[g]:=or0 hs<|B_ (b_ h) h'
theorem b_4 (hs:∀k∈S,n<=k)(h:∀ k∈T,k<m)(h':m<=n):∀k∈S,k∉T:=or0 hs<|B_ h h'
theorem Z_ (hs:∀k∈S,k∈A∨n<=k)(ha:∀k∈A,m<=k)(h:m<=n):∀k∈S,m<=k:=or1 hs ha<|a_R h
theorem b_X (hs:∀k∈S,k∈A∨n<=k)(ha:∀k∈A,k∉T)(h:∀ k∈T,k<m)(h':m<=n):∀k∈S,k∉T:=or1 hs ha<|B_ h h'
theorem djs (h:∀k∈S,k∉[g]):g∉S:=λhg=>h g hg<|List.mem_singleton.2 rfl
theorem atp {p:Nat->Prop}(h:∀k∈[g],p k):p g:=h g<|List.mem_singleton.2 rfl
theorem nd0:([]++[]:List Nat).Nodup:=g_U E_ E_ d_G
theorem al0 {p:Nat->Prop}:∀k∈([]++[]:List Nat),p k:=g_T d_G d_G
end
section
variable {e e':Env}{v1 v2 v3 v4 v5 v6 v7 v8 v9:Value}{k1 k2 k3 k4 k5 k6 k7 k8 k9:Nat}
theorem s1 (h1:A_ e k1=some v1):sub e [(k1,v1)]:=⟨h1,trivial⟩
theorem s2 (h1:A_ e k1=some v1)(h2:A_ e k2=some v2):sub e [(k1,v1),(k2,v2)]:=⟨h1,s1 h2⟩
theorem s3 (h1:A_ e k1=some v1)(h2:A_ e k2=some v2)(h3:A_ e k3=some v3):sub e [(k1,v1),(k2,v2),(k3,v3)]:=⟨h1,s2 h2 h3⟩
theorem s4 (h1:A_ e k1=some v1)(h2:A_ e k2=some v2)(h3:A_ e k3=some v3)(h4:A_ e k4=some v4):sub e [(k1,v1),(k2,v2),(k3,v3),(k4,v4)]:=⟨h1,s3 h2 h3 h4⟩
theorem s5 (h1:A_ e k1=some v1)(h2:A_ e k2=some v2)(h3:A_ e k3=some v3)(h4:A_ e k4=some v4)(h5:A_ e k5=some v5):sub e [(k1,v1),(k2,v2),(k3,v3),(k4,v4),(k5,v5)]:=⟨h1,s4 h2 h3 h4 h5⟩
theorem s6 (h1:A_ e k1=some v1)(h2:A_ e k2=some v2)(h3:A_ e k3=some v3)(h4:A_ e k4=some v4)(h5:A_ e k5=some v5)(h6:A_ e k6=some v6):sub e [(k1,v1),(k2,v2),(k3,v3),(k4,v4),(k5,v5),(k6,v6)]:=⟨h1,s5 h2 h3 h4 h5 h6⟩
theorem s7 (h1:A_ e k1=some v1)(h2:A_ e k2=some v2)(h3:A_ e k3=some v3)(h4:A_ e k4=some v4)(h5:A_ e k5=some v5)(h6:A_ e k6=some v6)(G:A_ e k7=some v7):sub e [(k1,v1),(k2,v2),(k3,v3),(k4,v4),(k5,v5),(k6,v6),(k7,v7)]:=⟨h1,s6 h2 h3 h4 h5 h6 G⟩
theorem s8 (h1:A_ e k1=some v1)(h2:A_ e k2=some v2)(h3:A_ e k3=some v3)(h4:A_ e k4=some v4)(h5:A_ e k5=some v5)(h6:A_ e k6=some v6)(G:A_ e k7=some v7)(H:A_ e k8=some v8):sub e [(k1,v1),(k2,v2),(k3,v3),(k4,v4),(k5,v5),(k6,v6),(k7,v7),(k8,v8)]:=⟨h1,s7 h2 h3 h4 h5 h6 G H⟩
theorem s9 (h1:A_ e k1=some v1)(h2:A_ e k2=some v2)(h3:A_ e k3=some v3)(h4:A_ e k4=some v4)(h5:A_ e k5=some v5)(h6:A_ e k6=some v6)(G:A_ e k7=some v7)(H:A_ e k8=some v8)(I:A_ e k9=some v9):sub e [(k1,v1),(k2,v2),(k3,v3),(k4,v4),(k5,v5),(k6,v6),(k7,v7),(k8,v8),(k9,v9)]:=⟨h1,s8 h2 h3 h4 h5 h6 G H I⟩
end
theorem onL {α:Type}[Dat α]{w:World}:a_ w [] (.slice none 0 0) ([]:List α):=l_K w
theorem _root_.Go.RowKit.Below.s {b:Nat}{w w':World}(h:Below b w w'):w.heap.size<=w'.heap.size:=h.size
theorem Chg.s {X:Nat->Prop}{w w':World}(h:Chg X w w'):w.heap.size<=w'.heap.size:=h.size
abbrev Chg.e:=@Chg.ext
abbrev repS.e:=@repS.ext
abbrev repS.c:=@repS.chg
abbrev a_.e:=@a_.ext
abbrev a_.c:=@a_.chg
abbrev U_.e:=@U_.ext
abbrev U_.c:=@U_.chg
abbrev a_V.e:=@a_V.ext
abbrev a_V.c:=@a_V.chg
abbrev b_A.e:=@b_A.ext
abbrev b_A.c:=@b_A.chg
abbrev GlW.e:=@GlW.ext
abbrev GlW.c:=@GlW.chg
abbrev Blk.e:=@Blk.ext
abbrev Blk.c:=@Blk.chg
section
variable {P:Program}{N:Nat}{ops:Array Oper}{K:Act->World->Prop}{Q:Exit->Act->World->Prop}{e:Env}{w:World}{rest:List Oper}{X:Nat->Prop}{T:Nat}{p:a_E}
variable {d d':Nat}{ty ty':TypeId}{pos pos':String}{aft aft':Array Edge}{x x':Operand}{v v':Value}
theorem Rw {c:Code}{Q':Exit->Act->World->Prop}(h:(bif Nat.blt d N then ev e x else none)=some v)(k:WC P N c K Q ((d,v)::e) w):WL P N ops (KC P c K Q) Q' [⟨some d,.assign x,ty,pos,aft,none⟩] e w:=Ra h<|Wn k
theorem Wm {id:Nat}{l:List Oper}{c:Code}(h:(bif Nat.blt d N then ev e x else none)=some v)(k:WL P N (⟨some d,.move x,ty,pos,aft,none⟩::l).toArray (KC P c K Q) Q l ((d,v)::e) w):WC P N (.seq (.region id (⟨some d,.move x,ty,pos,aft,none⟩::l).toArray false) c) K Q e w:=Ws<|Rm h k
theorem RM (h:(bif Nat.blt d N then ev e x else none)=some v)(h':(bif Nat.blt d' N then ev ((d,v)::e) x' else none)=some v')(k:WL P N ops K Q rest ((d',v')::(d,v)::e) w):WL P N ops K Q (⟨some d,.move x,ty,pos,aft,none⟩::⟨some d',.move x',ty',pos',aft',none⟩::rest) e w:=Rm h<|Rm h' k
theorem RA (h:(bif Nat.blt d N then ev e x else none)=some v)(h':(bif Nat.blt d' N then ev ((d,v)::e) x' else none)=some v')(k:WL P N ops K Q rest ((d',v')::(d,v)::e) w):WL P N ops K Q (⟨some d,.assign x,ty,pos,aft,none⟩::⟨some d',.assign x',ty',pos',aft',none⟩::rest) e w:=Ra h<|Ra h' k
theorem dM {i:Nat}(ho:ops[i]? = some ⟨some d,.move x,ty,pos,aft,none⟩)(hf:Nat.blt d N=true)(h:ev e x=some v)(k:PR X P N ops T K p ((d,v)::e) w):PR X P N ops T K (.rd i p) e w:=dR ho hf (a_n h) k
theorem dQ {i:Nat}(ho:ops[i]? = some ⟨some d,.assign x,ty,pos,aft,none⟩)(hf:Nat.blt d N=true)(h:ev e x=some v)(k:PR X P N ops T K p ((d,v)::e) w):PR X P N ops T K (.rd i p) e w:=dR ho hf (a_H h) k
theorem Wx {y y':Code}{b:Bool}{Q':Exit->Act->World->Prop}(hc:ev e x=some (.bool b))(ht:b=true->WC P N y K Q e w)(hf:b=false->WC P N y' K Q e w):WL P N ops (KC P (.cond x y y') K Q) Q' [] e w:=Wn<|b_P hc ht hf
section
variable {t u i:Nat}{k:IntKind}{a b:Int}
theorem Rl (hf:Nat.blt d N=true)(h1:ev e x=some (.int k a))(h2:ev e x'=some (.int k b))(h:WL P N ops K Q rest ((d,vB<|decide<|a<b)::e) w):WL P N ops K Q (⟨some d,.binOp .lss t x x' u,ty,pos,aft,none⟩::rest) e w:=R hf (d_T h1 h2) h
theorem Rq (hf:Nat.blt d N=true)(h1:ev e x=some (.int k a))(h2:ev e x'=some (.int k b))(h:WL P N ops K Q rest ((d,vB<|a==b)::e) w):WL P N ops K Q (⟨some d,.binOp .eql t x x' u,ty,pos,aft,none⟩::rest) e w:=R hf (h_n h1 h2) h
theorem Rf {g o j:Nat}(hf:Nat.blt d N=true)(h1:Fld P t i j)(h2:ev e x=some (.pointer<|some ⟨g,o,none⟩))(h:WL P N ops K Q rest ((d,.pointer<|some ⟨g,o+j,none⟩)::e) w):WL P N ops K Q (⟨some d,.fieldAddr t x i,ty,pos,aft,none⟩::rest) e w:=R hf (g_a h1 h2) h
theorem Re {vs:Array Value}(hf:Nat.blt d N=true)(h1:ev e x=some (.tuple vs))(h2:vs[i]? = some v)(h:WL P N ops K Q rest ((d,v)::e) w):WL P N ops K Q (⟨some d,.extract x i,ty,pos,aft,none⟩::rest) e w:=R hf (c_W h1 h2) h
end
theorem l0 {t g o:Nat}{dst:Option Tmp}{gd:Option (Nat×Bool)}(hT:∀w,(isAgg t).run P w = .ok false w)(h:ev e x=some (.pointer<|some ⟨g,o,none⟩))(hc:w.cell? ⟨g,o,none⟩=some v):Rd noX P N ⟨dst,.load t x,ty,pos,aft,gd⟩ e w v:=c_m hT h (λh=>h) hc
def plA:Nat->Nat->List Nat->a_E
 | _,0,_=>.done
 | i,n+1,l=>bif l.elem i then .ef i (plA (i+1) n l) else .rd i (plA (i+1) n l)
abbrev pl_ (n:Nat)(l:List Nat):a_E:=plA 0 n l
end
end Go.Vw
namespace Go.Vw
open Go.RowKit Dat Go.ChangeShapes Go.WideShapes Go.ChangeAt
structure IsT (P:Program)(t:TypeId)(α:Type)[Dat α](L:α->Prop):Prop where
 rd:∀{H:Type}(enc:TypeId×Value->H)(W:World)(fuel:Nat)(cs:List Value)(x:DataW H×List MemPlace),DataW.trod enc P W 0 (λ_=>true) true fuel t cs=some x->(x.1.weights P t).all (· <= reachBytes)=true->∃v:α,rep W W.heap.size cs v/\L v
section
variable {P:Program}{t:TypeId}
theorem o_G (ht:P.underlying t=some (.int .u8)):IsT P t UInt8 (λ_=>True):=⟨λenc W fuel cs x h _=>by
 obtain ⟨n,rfl,_,hw⟩:=DataW.trod_int ht h;have hb:=bounds_u8 hw
 have e:n=byteI (UInt8.ofNat n.toNat):=by
  unfold byteI
  rw [UInt8.toNat_ofNat']
  omega
 refine ⟨UInt8.ofNat n.toNat,⟨_,rfl,?_⟩,trivial⟩
 show Value.int .u8 n=vU (byteI<|UInt8.ofNat n.toNat)
 rw [← e]⟩
theorem l_S {H:Type}{e:TypeId}:∀{l:List (DataW H)}{d:DataW H},(DataW.weightsAll P e l).all (· <= reachBytes)=true->d∈l->(d.weights P e).all (· <= reachBytes)=true
 | [],_,_,h=>by cases h
 | y::l,d,hw,h=>by
  unfold DataW.weightsAll at hw
  rw [List.all_append,Bool.and_eq_true] at hw
  rcases List.mem_cons.1 h with rfl | h
  .exact hw.1
  .exact l_S hw.2 h
theorem l_T {H:Type}:∀{ts:List TypeId}{l:List (DataW H)}{i:Nat}{t:TypeId}{d:DataW H},(DataW.weightsEach P ts l).all (· <= reachBytes)=true->ts[i]? = some t->l[i]? = some d->(d.weights P t).all (· <= reachBytes)=true
 | [],_,_,_,_,_,h,_=>by simp at h
 | _::_,[],_,_,_,_,_,h=>by simp at h
 | t::ts,y::l,i,t',d,hw,h1,h2=>by
  unfold DataW.weightsEach at hw
  rw [List.all_append,Bool.and_eq_true] at hw
  cases i with
  | zero=>simp at h1 h2;subst h1 h2;exact hw.1
  | succ i=>simp at h1 h2;exact l_T hw.2 h1 h2
theorem cells?_spec {w:World}{a:Addr}{n:Nat}{cs:List Value}(h:w.cells? 0 a n=some cs):cs.length=n/\∀j v,cs[j]? = some v->w.cell? (a.add j)=some v:=by
 unfold World.cells? at h
 rw [if_pos (Nat.zero_le _)] at h
 refine ⟨by simpa using mapM_some_length h,λj v hv=>?_⟩
 have hj:j<n:=by
  have h1:=(List.getElem?_eq_some_iff.1 hv).1;have h2:=mapM_some_length h
  simp at h2
  omega
 have:=mapM_some_get h j j (by rw [List.getElem?_range hj])
 rw [this];exact hv
theorem o_H {w:World}{a:Addr}{v:Value}(h:w.cell? a=some v):a.spot=none:=by
 unfold World.cell? at h
 split at h
 .cases hs:a.spot with
  | none=>rfl
  | some x=>rw [hs] at h;simp at h
 .cases h
theorem j_Y {α:Type}(Q:Nat->α->Prop):∀(len:Nat),(∀i,i<len->∃v,Q i v)->∃l:List α,l.length=len/\∀(i:Nat)(x:α),l[i]? = some x->Q i x
 | 0,_=>⟨[],rfl,λi x h=>by simp at h⟩
 | n+1,h=>by
  obtain ⟨l,hl,hq⟩:=j_Y Q n<|λi hi=>h i (by omega);obtain ⟨v,hv⟩:=h n (by omega);refine ⟨l++[v],by simp [hl],λi x hx=>?_⟩
  by_cases hi:i<l.length
  .rw [List.getElem?_append_left hi] at hx;exact hq i x hx
  .rw [List.getElem?_append_right (by omega)] at hx
   have h1:=(List.getElem?_eq_some_iff.1 hx).1
   simp only [List.length_cons,List.length_nil] at h1
   have h2:i=n:=by omega
   subst h2
   rw [show i - l.length=0 by omega] at hx
   simp at hx
   exact hx ▸ hv
theorem o_I {α:Type}[Dat α]{L:α->Prop}{e:TypeId}(ht:P.underlying t=some (.slice e))(he:IsT P e α L)(hc:P.cellsOf e=sz α)(hb:1<=P.bytesOf e):IsT P t (List α) (λl=>l.length<=LEN/\∀x∈l,L x):=⟨λenc W fuel cs x h hw=>by
 have hr:reachBytes=140737488351232:=rfl;have hL:LEN=140737488355328:=rfl
 rcases DataW.trod_slice ht h with ⟨rfl,rfl⟩ | ⟨a,len,cap,elems,rest,n,_,rfl,rfl,_,hlc,_,hlen,hel,hsp,_⟩
 .exact ⟨[],⟨_,rfl,none,0,rfl,Nat.le_refl _,Nat.zero_le _,λ_=>rfl,λp hp=>by cases hp⟩,by simp,λx hx=>by cases hx⟩
 .obtain ⟨hrl,_⟩:=hsp rfl
  have hw':(elems.length+rest.length) * P.bytesOf e<=reachBytes/\(DataW.weightsAll P e<|elems.map (·.1)).all (· <= reachBytes)=true:=by
   unfold DataW.weights at hw
   rw [ht] at hw
   simp only [List.all_cons,List.all_append,Bool.and_eq_true,decide_eq_true_eq,List.length_map] at hw
   exact ⟨hw.1,hw.2.1⟩
  have hcap:cap<=LEN:=by
   have h1:elems.length+rest.length<=(elems.length+rest.length) * P.bytesOf e:=Nat.le_mul_of_pos_right _ hb
   omega
  have hone:∀i:Nat,i<len->∃v:α,a.spot=none/\a.block<W.heap.size/\(∃cs,U_ W a.block (a.off+i * sz α) cs/\rep W W.heap.size cs v)/\L v:=by
   intro i hi;have h1:=hel i hi;have hie:i<elems.length:=by omega
   rw [List.getElem?_eq_getElem hie] at h1
   cases hcs:W.cells? 0 (a.add<|i * P.cellsOf e) (P.cellsOf e) with
   | none=>rw [hcs] at h1;cases h1
   | some cs =>
    rw [hcs] at h1
    simp only [Option.bind_some] at h1
    obtain ⟨v,hv,hl⟩:=he.rd enc W n cs _ h1<|l_S hw'.2<|List.mem_map_of_mem<|List.getElem_mem hie;obtain ⟨J,O⟩:=cells?_spec hcs;have hpos:0<cs.length:=by rw [J,hc];exact Dat.pos
    have hsp:a.spot=none:=by
     have G:=hel 0 (by omega)
     rw [List.getElem?_eq_getElem (show 0<elems.length by omega)] at G
     cases H:W.cells? 0 (a.add<|0 * P.cellsOf e) (P.cellsOf e) with
     | none=>rw [H] at G;cases G
     | some I =>
      obtain ⟨V,Y⟩:=cells?_spec H;have hpos0:0<I.length:=by rw [V,hc];exact Dat.pos
      have:=Y 0 I[0] (by rw [List.getElem?_eq_getElem hpos0]);have:=o_H this
      simpa [Addr.add] using this
    have ha:a=⟨a.block,a.off,none⟩:=by cases a;simp only at hsp;rw [hsp]
    have hcells:U_ W a.block (a.off+i * sz α) cs:=by
     intro j u hu;have:=O j u hu
     rw [ha,Addr.add_lit,Addr.add_lit,hc] at this
     exact this
    exact ⟨v,hsp,hcells.lt (by intro h;rw [h] at hpos;cases hpos),⟨cs,hcells,hv⟩,hl⟩
  obtain ⟨l,hll,hq⟩:=j_Y _ len hone;refine ⟨l,⟨_,rfl,some a,cap,by rw [hll],by omega,by omega,λh=>(by cases h),λp hp=>?_⟩,by omega,λx hx=>?_⟩
  .obtain rfl:=Option.some.inj hp;refine ⟨λhne=>?_,λhne=>?_,λi x hx=>(hq i x hx).2.2.1⟩
   .cases l with
    | nil=>exact absurd rfl hne
    | cons y l=>exact (hq 0 y rfl).1
   .cases l with
    | nil=>exact absurd rfl hne
    | cons y l=>exact (hq 0 y rfl).2.1
  .obtain ⟨i,hi⟩:=List.getElem?_of_mem hx
   exact (hq i x hi).2.2.2⟩
structure OkW (P:Program)(W:World)(base:Nat)(t:TypeId)(v:Value):Prop where
 h:Value.okWide P W .any base t v
structure OkWs (P:Program)(W:World)(base:Nat)(ts:Array TypeId)(vs:Array Value):Prop where
 h:∀(j:Nat) t v,ts[j]? = some t->vs[j]? = some v->Value.okWide P W .any base t v
theorem OkWs.at {W:World}{base:Nat}{ts:Array TypeId}{vs:Array Value}(h:OkWs P W base ts vs)(j:Nat)(t:TypeId)(v:Value)(h1:ts[j]? = some t)(h2:vs[j]? = some v):OkW P W base t v:=⟨h.h j t v h1 h2⟩
theorem o_J {W:World}{base:Nat}{t:TypeId}{v:Value}{e:TypeId}(ht:P.underlying t=some (.slice e))(h:OkW P W base t v):∃a n c,v = .slice a n c:=okWide_slice ht h.h
theorem l_U {H:Type}{enc:TypeId×Value->H}(hl:laidOutB P=true){W W':World}(hb:Below W.heap.size W W'):∀(ts:List TypeId)(vs:List Value)(ds:List (DataW H))(ps:List MemPlace),(∀t∈ts,P.readableRec t=true/\t<P.types.size) ->
  DataW.TrodAll enc P W 0 (λ_=>true) true ts vs ds ps->(∀x∈ps,x.block<W.heap.size)->∀(sp:Nat->Bool),(∀b,b<W.heap.size->sp b=true)->DataW.TrodAll enc P W' 0 sp true ts vs ds ps
 | [],[],[],_,_,h,_,_,_=>h
 | t::ts,v::vs,d::ds,ps,hr,h,hlt,sp,hsp=>by
  obtain ⟨p,q,h1,h2,rfl⟩:=h;refine ⟨p,q,?_,l_U hl hb ts vs ds q (λt ht=>hr t<|List.mem_cons_of_mem _ ht) h2 (λx hx=>hlt x<|List.mem_append_right _ hx) sp hsp,rfl⟩;have hlp:∀x∈p,x.block<W.heap.size:=λx hx=>hlt x<|List.mem_append_left _ hx
  exact WideElems.Trod_stays hl (hr t List.mem_cons_self).1 (hr t List.mem_cons_self).2 h1 (λx hx=>hb.same<|hlp x hx) (λx hx=>hsp _<|hlp x hx)
 | [],_::_,_,_,_,h,_,_,_=>by cases h
 | [],[],_::_,_,_,h,_,_,_=>by cases h
 | _::_,[],_,_,_,h,_,_,_=>by cases h
 | _::_,_::_,[],_,_,h,_,_,_=>by cases h
theorem o_K {H:Type}{enc:TypeId×Value->H}{f:Func}{s:ChangeSpec}{apart fresh handsOn again:Bool}{W W':World}{args:Array Value}{ds gs:List (DataW H)}{before:List MemPlace}{tb:TypeId}(hl:laidOutB P=true)(hread:∀t∈f.params.toList,P.readableRec t=true/\t<P.types.size)
  (hb:Below W.heap.size W W') (hW:DataW.Whole enc P f.params.toList s.vars apart W args.toList ds gs before) (hres:f.resultTypes = #[tb]) (htb:P.underlying tb=some .bool) (hvars:s.vars=[]) (hfn:s.fn H (ds++gs)={ results:=[.lit (.bool true)],args:=ds }) :
  s.post enc P f apart fresh handsOn again W args (.bool true) W':=by
 have hlt:∀x∈before,x.block<W.heap.size:=λp hp=>hW.lt p hp
 have hW':=hW;obtain ⟨p,q,hA,hV,rfl,hz,hn⟩:=hW
 rw [hvars] at hV
 obtain ⟨rfl,rfl⟩:=trodVars_none hV;have hA':=λsp hsp=>l_U hl hb _ _ _ _ hread hA (λx hx=>hlt x (by simpa using hx)) sp hsp
 have hr:∀(b:Nat)(sp:Nat->Bool)(hd:Bool),DataW.TrodAll enc P W' b sp hd f.resultTypes.toList ((Value.bool true).resultList f.resultTypes.size) (s.fn H<|ds++[]).results []:=λb sp hd=>by
  rw [hfn,hres];exact trodAll_cons_mk (shut_bool htb _) trodAll_mk0
 have hvs:∀sp:Nat->Bool,DataW.TrodVars enc P W' sp s.vars (s.fn H<|ds++[]).vars []:=λsp=>by rw [hfn,hvars];rfl
 refine ⟨ds,[],p++[],[],p,[],hW',hr _ _ _,by rw [hfn];exact hA' _ (λb hb=>by simpa using hb),hvs _,hb.frame _,λ_=>⟨?_,([.lit (.bool true)]:List (DataW H))++ds,[],([]++p)++[],⟨[]++p,[],?_,?_,rfl,?_,?_⟩,?_⟩⟩
 .exact ok_one hres rfl<|okWide_bool_mk htb _
 .have h1:=hr 0 (λ_=>true) true
  rw [hfn] at h1
  exact trodAll_append (hA' _<|λ_ _=>rfl) h1
 .rw [hvars];rfl
 .intro b off hp;have hp':MemPlace.cell b off∈p++[]:=by simpa using hp
  have:=hlt _ hp'
  rw [hb.frozen (p:=⟨b,off,none⟩) this]
  exact hz b off hp'
 .intro ha;have:=hn ha;simpa using this
 .intro x hx _;simpa using hx
end
end Go.Vw
namespace Go.Vw
open Go.RowKit Dat
theorem r_K {x y:Int}(h1 : -9223372036854775808<=x+y)(h2:x+y<=9223372036854775807):o_ x y=x+y:=by
 unfold o_;rw [IntKind.wrap_i64];omega
theorem b_E {x y:Int}(h1 : -9223372036854775808<=x - y)(h2:x - y<=9223372036854775807):y_ x y=x - y:=by
 unfold y_;rw [IntKind.wrap_i64];omega
theorem e_2 {x y:Int}(h1 : -9223372036854775808<=x * y)(h2:x * y<=9223372036854775807):a_3 x y=x * y:=by
 unfold a_3;rw [IntKind.wrap_i64];omega
theorem n_p {x y:Int}(G:0<=x)(hx:x<=9223372036854775807)(hy:0<y):c_l x y=x / y:=by
 unfold c_l
 rw [Int.tdiv_eq_ediv_of_nonneg G,IntKind.wrap_i64]
 have h1:=Int.ediv_nonneg G<|Int.le_of_lt hy;have h2:=Int.ediv_le_self y G
 omega
theorem j_A {x y:Int}(G:0<=x):b_n x y=x % y:=by
 unfold b_n;exact Int.tmod_eq_emod_of_nonneg G
theorem r_L {a b:UInt8}:byteI a=byteI b ↔ a=b:=by
 unfold byteI
 constructor
 .intro h;have:a.toNat=b.toNat:=by omega
  exact UInt8.toNat_inj.1 this
 .rintro rfl;rfl
section
variable {α:Type}
theorem l_g {l:List α}{k:Nat}(h:k<l.length):idx l (k:Int)=some l[k]:=by rw [l_H];simp [h]
theorem e_F {l:List α}{i:Int}(G:0<=i)(h:i.toNat<l.length):idx l i=some l[i.toNat]:=by
 unfold idx;rw [if_pos G];simp [h]
theorem b_g {l:List α}(h:0<l.length):idx l 0=some l[0]:=l_g (k:=0) h
theorem l_h {l:List α}(h:1<l.length):idx l 1=some l[1]:=l_g (k:=1) h
theorem e_3 {l:List α}{a b:Int}(G:0<=a)(h1:a<=b)(h2:b<=l.length):slc l a b=some ((l.take b.toNat).drop a.toNat):=by
 unfold slc;rw [if_pos ⟨G,h1,h2⟩]
theorem a_w {l:List α}{x:α}(h:l.length<LIM):psh l x=some (l++[x]):=by unfold psh;rw [if_pos h]
theorem b_F {l m:List α}(h:l.length+m.length<=LIM):app l m=some (l++m):=by unfold app;rw [if_pos h]
theorem g_r {s t:Str}(h:s.b.length+t.b.length<=LIM):cat s t=some ⟨s.b++t.b⟩:=by unfold cat;rw [if_pos h]
theorem l_i {l:List α}{k:Nat}{x:α}(h:k<l.length):upd l (k:Int) x=some (l.set k x):=by
 unfold upd;rw [if_pos ⟨by omega,by omega⟩];rfl
theorem r_M {l:List α}{i:Int}{x:α}(G:0<=i)(h:i<l.length):upd l i x=some (l.set i.toNat x):=by
 unfold upd;rw [if_pos ⟨G,h⟩]
theorem n_q {z:α}{n:Nat}(h:n<=LIM):mk0 z (n:Int)=some (List.replicate n z):=by
 unfold mk0;rw [if_pos ⟨by omega,by omega⟩];simp
theorem r_N {z:α}{n:Int}(G:0<=n)(h:n<=LIM):mk0 z n=some (List.replicate n.toNat z):=by
 unfold mk0;rw [if_pos ⟨G,h⟩]
end
section
variable {σ ρ:Type}
theorem n_r {body:Nat->σ->Option (Out σ ρ)}(st:Nat->σ):∀n k,(∀j,k<=j->j<k+n->body j (st j)=some (.next<|st<|j+1))->D_ body n k (st k)=some (.inl<|st<|k+n)
 | 0,k,_=>rfl
 | n+1,k,h=>by
  have h1:=h k (Nat.le_refl _) (by omega);have h2:=n_r st n (k+1)<|λj a b=>h j (by omega) (by omega);unfold D_
  rw [h1]
  simp only
  rw [h2,show k+1+n=k+(n+1) by omega]
theorem e_4 {body:Nat->σ->Option (Out σ ρ)}(st:Nat->σ){n:Nat}(h:∀j,j<n->body j (st j)=some (.next<|st<|j+1)):D_ body n 0 (st 0)=some (.inl<|st n):=by
 have:=n_r st n 0<|λj _ b=>h j (by omega)
 simpa using this
theorem forN_ret' {body:Nat->σ->Option (Out σ ρ)}(st:Nat->σ){r:ρ}:∀n k j0,k<=j0->j0<k+n->(∀j,k<=j->j<j0->body j (st j)=some (.next<|st<|j+1))->body j0 (st j0)=some (.ret r)->D_ body n k (st k)=some (.inr r)
 | 0,k,j0,a,b,_,_=>by omega
 | n+1,k,j0,a,b,h,hr=>by
  unfold D_
  by_cases hk:k=j0
  .subst hk;rw [hr]
  .rw [h k (Nat.le_refl _) (by omega)]
   exact forN_ret' st n (k+1) j0 (by omega) (by omega) (λj c d=>h j (by omega) d) hr
theorem j_B {body:Nat->σ->Option (Out σ ρ)}(st:Nat->σ){r:ρ}{n j0:Nat}(G:j0<n)(h:∀j,j<j0->body j (st j)=some (.next<|st<|j+1))(hr:body j0 (st j0)=some (.ret r)):D_ body n 0 (st 0)=some (.inr r) :=
 forN_ret' st n 0 j0 (by omega) (by omega) (λj _ b=>h j b) hr
theorem j_C {body:Nat->Unit->Option (Out Unit ρ)}{n:Nat}(p:Nat->Bool)(r:Nat->ρ)(h:∀k,k<n->(∀j,j<k->p j=false)->body k ()=some (if p k then .ret (r k) else .next ())) :
  D_ body n 0 ()=some (match (List.range n).find? p with | some k=>.inr (r k) | none=>.inl ()):=by
 cases hf:(List.range n).find? p with
 | none =>
  have hn:∀k,k<n->p k=false:=λk hk=>by
   have:=List.find?_eq_none.1 hf k<|List.mem_range.2 hk
   simpa using this
  exact e_4 (λ_=>()) (λj hj=>by rw [h j hj (λi hi=>hn i (by omega)),hn j hj];rfl)
 | some k =>
  obtain ⟨hp,as,bs,hl,has⟩:=List.find?_eq_some_iff_append.1 hf
  have hk:as.length<n/\as.length=k:=by
   have h1:as.length<(List.range n).length:=by rw [hl];simp
   simp at h1
   refine ⟨h1,?_⟩;have h2:(List.range n)[as.length]? = some k:=by rw [hl];simp
   rw [List.getElem?_range h1] at h2
   exact Option.some.inj h2
  obtain ⟨h1,rfl⟩:=hk
  have hb:∀j,j<as.length->p j=false:=λj hj=>by
   have h2:(List.range n)[j]? = some (as[j]):=by rw [hl,List.getElem?_append_left hj];simp
   rw [List.getElem?_range (by omega)] at h2
   have h3:=has as[j] (List.getElem_mem hj)
   rw [← Option.some.inj h2] at h3
   simpa using h3
  exact j_B (λ_=>()) h1 (λj hj=>by rw [h j (by omega) (λi hi=>hb i (by omega)),hb j hj];rfl) (by rw [h _ h1 hb,if_pos hp])
theorem r_O {α:Type}(l:List α)(p:α->Bool)(q:Nat->Bool)(h:∀k (hk:k<l.length),q k=p l[k]):(List.range l.length).any q=l.any p:=by
 rw [Bool.eq_iff_iff]
 simp only [List.any_eq_true,List.mem_range]
 constructor
 .rintro ⟨k,hk,hq⟩;exact ⟨l[k],List.getElem_mem hk,by rw [← h k hk];exact hq⟩
 .rintro ⟨x,hx,hp⟩;obtain ⟨k,hk,rfl⟩:=List.getElem_of_mem hx;exact ⟨k,hk,by rw [h k hk];exact hp⟩
theorem e_G {body:Nat->Unit->Option (Out Unit ρ)}{n:Nat}(p:Nat->Bool)(r:ρ)(h:∀k,k<n->(∀j,j<k->p j=false)->body k ()=some (if p k then .ret r else .next ())) :
  D_ body n 0 ()=some (if (List.range n).any p then .inr r else .inl ()):=by
 rw [j_C p (λ_=>r) h]
 cases hf:(List.range n).find? p with
 | none =>
  have:(List.range n).any p=false:=by
   rw [List.any_eq_false];exact λx hx=>by simpa using List.find?_eq_none.1 hf x hx
  rw [this];rfl
 | some k =>
  have:(List.range n).any p=true:=List.any_eq_true.2 ⟨k,List.mem_of_find?_eq_some hf,List.find?_some hf⟩
  rw [this];rfl
theorem e_H {α:Type}{body:Nat->Unit->Option (Out Unit ρ)}{l:List α}(p:α->Bool)(r:ρ)(h:∀k (hk:k<l.length),body k ()=some (if p l[k] then .ret r else .next ())) :
  D_ body l.length 0 ()=some (if l.any p then .inr r else .inl ()):=by
 rw [e_G (λk=>if hk:k<l.length then p l[k] else false) r (λk hk _=>by rw [dif_pos hk];exact h k hk)]
 rw [r_O l p _ (λk hk=>by rw [dif_pos hk])]
theorem iter_brk' {step:σ->Option (Out σ ρ)}(st:Nat->σ){s:σ}:∀m k j0,k<=j0->j0<k+m->(∀j,k<=j->j<j0->step (st j)=some (.next<|st<|j+1))->step (st j0)=some (.brk s)->R_ step m (st k)=some (.inl s)
 | 0,k,j0,a,b,_,_=>by omega
 | m+1,k,j0,a,b,h,hr=>by
  unfold R_
  by_cases hk:k=j0
  .subst hk;rw [hr]
  .rw [h k (Nat.le_refl _) (by omega)]
   exact iter_brk' st m (k+1) j0 (by omega) (by omega) (λj c d=>h j (by omega) d) hr
theorem n_s {step:σ->Option (Out σ ρ)}(st:Nat->σ){s:σ}{m j0:Nat}(G:j0<m)(h:∀j,j<j0->step (st j)=some (.next<|st<|j+1))(hr:step (st j0)=some (.brk s)):R_ step m (st 0)=some (.inl s) :=
 iter_brk' st m 0 j0 (by omega) (by omega) (λj _ b=>h j b) hr
theorem iter_ret' {step:σ->Option (Out σ ρ)}(st:Nat->σ){r:ρ}:∀m k j0,k<=j0->j0<k+m->(∀j,k<=j->j<j0->step (st j)=some (.next<|st<|j+1))->step (st j0)=some (.ret r)->R_ step m (st k)=some (.inr r)
 | 0,k,j0,a,b,_,_=>by omega
 | m+1,k,j0,a,b,h,hr=>by
  unfold R_
  by_cases hk:k=j0
  .subst hk;rw [hr]
  .rw [h k (Nat.le_refl _) (by omega)]
   exact iter_ret' st m (k+1) j0 (by omega) (by omega) (λj c d=>h j (by omega) d) hr
theorem n_t {step:σ->Option (Out σ ρ)}(st:Nat->σ){r:ρ}{m j0:Nat}(G:j0<m)(h:∀j,j<j0->step (st j)=some (.next<|st<|j+1))(hr:step (st j0)=some (.ret r)):R_ step m (st 0)=some (.inr r) :=
 iter_ret' st m 0 j0 (by omega) (by omega) (λj _ b=>h j b) hr
end
theorem n_u {s:Str}{p:Nat}(h:p<s.b.length)(ha:s.b[p].toNat<128):dec s p=((s.b[p].toNat:Int),1):=by
 have hq:p<(⟨s.b.toArray⟩:ByteArray).size:=by simpa [ByteArray.size] using h
 have hb:(⟨s.b.toArray⟩:ByteArray)[p]'hq=s.b[p]:=rfl;unfold dec
 rw [decode_ascii _ p hq (by rw [hb];exact ha),hb]
theorem r_P {s:Str}{p:Nat}(h:p<s.b.length)(ha:128<=s.b[p].toNat):128<=(dec s p).1:=by
 have hq:p<(⟨s.b.toArray⟩:ByteArray).size:=by simpa [ByteArray.size] using h
 have hb:(⟨s.b.toArray⟩:ByteArray)[p]'hq=s.b[p]:=rfl;unfold dec;have:=(decode_high _ p hq (by rw [hb];exact ha)).1
 simp only
 omega
abbrev bF_:=@Bool.false_eq_true
abbrev dT_:=@decide_eq_true
abbrev dF_:=@decide_eq_false
abbrev bQ_:=@beq_self_eq_true
abbrev mT_:=@List.mem_cons_of_mem
abbrev mS_:=@List.mem_cons_self
abbrev gE_:=@List.getElem_mem
abbrev oI_:=@Option.some.injEq
abbrev gG_:=@List.getElem?_eq_getElem
abbrev gD_:=@List.getD_eq_getElem?_getD
abbrev aE_:=@Bool.and_eq_true
abbrev dE_:=@decide_eq_true_eq
abbrev tN_:=@Int.toNat_natCast
abbrev gS_:=@List.getElem?_eq_some_iff
abbrev iP_:=@if_pos
abbrev iN_:=@if_neg
abbrev fF_:=@if_false
abbrev fT_:=@if_true
abbrev gN_:=@List.getElem?_eq_none
abbrev nT_:=@Bool.not_true
abbrev ix_:=@l_g
abbrev ia_:=@r_K
abbrev lC_:=@List.length_cons
abbrev bN_:=@bne_self_eq_false
abbrev dC_:=@List.drop_eq_getElem_cons
end Go.Vw
