import Derived.Test.YtpjplgfnhbjjjaaGreatDoorV0
import Derived.Carry
import Derived.Deep.DeepHandedRow
import Derived.WalkKit
import Derived.ProofKit
import Derived.OpenShut
import Derived.Laws.RangeAny
set_option linter.unusedVariables false
namespace Go.Vw
def j_1 (n:Nat)(x1:Str)(x2:UInt8):Option (List Str) :=
 bd (L_ (σ:=(List Str)×Int×Int) (ρ:=List Str) (un3 λH I G=>if (decide<|G<=(x1.b.length:Int)) then bd (α:=Bool) (if (G==(x1.b.length:Int)) then some true else bd (idx x1.b G) λJ=>some<|(byteI J)==(byteI x2)) (λL=>bd (α:=(List Str)×Int) (if L then bd (b_w x1 I G) λO=>bd (psh H O) λV=>some (V,i_ G 1) else some (H,I))<|un2 λW Y=>some<|.next (W,Y,i_ G 1)) else some (.brk (H,I,G))) n (([]:List Str),0,0)) (el (un3 λH I G=>some H)<|λa0=>some a0)
def a_W (x1:Int)(x2:Int)(x3:Int):Option Bool :=
 bd (α:=Bool) (if (decide<|x2<=x1) then some (decide<|x1<=x3) else some false) (λG=>some G)
def g_M (x1:Str):Option Bool :=
 bd (n_ (σ:=Unit) (ρ:=Bool) (λk10=>(λ(_:Unit)=>bd (α:=Bool) (bd (idx x1.b (k10:Int)) λG=>if (decide<|(byteI (97:UInt8))<=(byteI G)) then bd (idx x1.b (k10:Int)) λH=>some (decide<|(byteI H)<=(byteI (122:UInt8))) else some false) (λI=>bd (α:=Bool) (bd (idx x1.b (k10:Int)) λJ=>if (decide<|(byteI (48:UInt8))<=(byteI J)) then bd (idx x1.b (k10:Int)) λL=>some (decide<|(byteI L)<=(byteI (57:UInt8))) else some false) (λO=>bd (α:=Bool) (if (!I) then if (!O) then some true else some ((k10:Int)==0) else some false) (λV=>if V then some (.ret false) else some (.next ())))))) x1.b.length 0 ()) (el (λ(_:Unit)=>bd (a_W (x1.b.length:Int) 1 12) λW=>some W)<|λY=>some Y)
def c_4 (n:Nat)(x1:Int):Option Str :=
 if (x1==0) then some (⟨[48]⟩:Str) else bd (L_ (σ:=Str×Int) (ρ:=Str) (un2 λH G=>if (G != 0) then bd (α:=Int) (if (decide<|(b_3 G 10)<0) then some (h_m<|b_3 G 10) else some (b_3 G 10)) (λI=>bd (cat (⟨[mkB (i_ 48 I)]⟩:Str) H) λJ=>some<|.next (J,c_1 G 10)) else some (.brk (H,G))) n ((⟨[]⟩:Str),x1)) (el (un2 λH G=>if (decide<|x1<0) then bd (cat (⟨[45]⟩:Str) H) λL=>some L else some H)<|λO=>some O)
def j_2 (n:Nat)(x1:Str):Option (Int×Bool) :=
 bd (a_W (x1.b.length:Int) 1 13) λI=>if (!I) then some (0,false) else bd (n_ (σ:=Int) (ρ:=Int×Bool) (λH=>(λG=>bd (idx x1.b (H:Int)) λJ=>bd (a_W (byteI J) 48 57) λL=>if (!L) then some (.ret (0,false)) else bd (idx x1.b (H:Int)) λO=>some<|.next<|i_ (W_ 10 G)<|byteI<|mkB<|byteI O - byteI (48:UInt8))) x1.b.length 0 0) (el (λG=>bd (α:=Bool) (if (decide<|1000000000000<G) then some true else bd (c_4 n G) λV=>some<|V.b != x1.b) (λW=>if W then some (0,false) else some (G,true)))<|λY=>some Y)
def g_N (n:Nat)(x1:Str):Option Bool :=
 bd (α:=Bool) (bd (g_M x1) λG=>if G then some true else if (x1.b==(⟨[42]⟩:Str).b) then some true else if (x1.b==(⟨[63]⟩:Str).b) then some true else some (x1.b==(⟨[43]⟩:Str).b)) (λH=>if H then some true else bd2 (j_2 n x1) λI J=>bd (α:=Bool) (if J then bd (c_4 n I) λL=>some (L.b==x1.b) else some false)<|λO=>some O)
def h_S (n:Nat)(x1:Str):Option ((List Str)×Bool) :=
 if (x1.b==(⟨[]⟩:Str).b) then some (([]:List Str),true) else bd (j_1 n x1 (47:UInt8)) λG=>bd (idx G 0) λI=>if (I.b != (⟨[]⟩:Str).b) then some (([]:List Str),false) else bd (L_ (σ:=Int) (ρ:=(List Str)×Bool) (λH=>if (decide<|H<(G.length:Int)) then bd (idx G H) λJ=>bd (g_N n J) λL=>if (!L) then some (.ret (([]:List Str),false)) else some (.next<|i_ H 1) else some (.brk H)) n 1) (el (λH=>bd (slc G 1 (G.length:Int)) λO=>some (O,decide<|1<(G.length:Int)))<|λV=>some V)
def d_0 (x1:d_)(x2:Bool)(x3:Bool)(x4:Bool)(x5:Bool)(x6:Int):Option Bool :=
 bd (α:=Bool) (bd (α:=Bool) (if x2 then some true else some (x1.size==0)) λG=>bd (α:=Bool) (if G then if x3 then some true else some ((x1.bytes.length:Int)==0) else some false) λH=>bd (α:=Bool) (if H then if x4 then some true else some ((x1.names.length:Int)==0) else some false) λI=>bd (α:=Bool) (if I then if x5 then some true else some ((x1.tags.length:Int)==0) else some false) λJ=>bd (α:=Bool) (if J then if (decide<|x6<0) then some true else some ((x1.kids.length:Int)==x6) else some false) λL=>if L then if (!x1.little) then some true else some (x1.kind==1) else some false) (λO=>some O)
def d_Q (x1:Int):Option Int :=
 bd (nn<|W_ 8 x1) λG=>some<|b_I .i64 1<|W_ 8 x1
def e_Y (x1:c_)(x2:Int):Option Int :=
 bd (α:=Bool) (bd (a_W x2 0<|l_ (x1.rules.length:Int) 1) λG=>if (!G) then some true else bd (idx x1.rules x2) λH=>if (H.kind != 1) then some true else bd (idx x1.rules x2) λI=>bd (a_W I.size 1 4) λJ=>some (!J)) (λL=>if L then some (-1) else bd (idx x1.rules x2) λO=>bd (d_Q O.size) λV=>some<|l_ V 1)
def j_3 (x1:List Str)(x2:Str):Option Bool :=
 bd (n_ (σ:=Unit) (ρ:=Bool) (λk10=>(λ(_:Unit)=>bd (idx x1 (k10:Int)) λG=>if (G.b==x2.b) then some (.ret true) else some (.next ()))) x1.length 0 ()) (el (λ(_:Unit)=>some false)<|λH=>some H)
def j_4 (x1:List Str):Option Bool :=
 bd (n_ (σ:=Unit) (ρ:=Bool) (λk10=>(λ(_:Unit)=>bd (α:=Bool) (bd (idx x1 (k10:Int)) λG=>bd (g_M G) λH=>if (!H) then some true else bd (slc x1 0 (k10:Int)) λI=>bd (idx x1 (k10:Int)) λJ=>bd (j_3 I J) λL=>some L) (λO=>if O then some (.ret false) else some (.next ())))) x1.length 0 ()) (el (λ(_:Unit)=>bd (a_W (x1.length:Int) 1 8) λV=>some V)<|λW=>some W)
def j_5 (x1:c_)(x2:d_):Option Bool :=
 bd (α:=Bool) (if ((x2.kids.length:Int) != (i_ (x2.tags.length:Int) 1)) then some true else bd (a_W (x2.tags.length:Int) 1 8) λG=>some (!G)) (λH=>if H then some false else bd (n_ (σ:=Unit) (ρ:=Bool) (λk10=>(λ(_:Unit)=>bd (α:=Bool) (bd (idx x2.tags (k10:Int)) λI=>bd (idx x2.kids 0) λJ=>bd (e_Y x1 J) λL=>bd (a_W I 0 L) λO=>if (!O) then some true else if (decide<|0<(k10:Int)) then bd (idx x2.tags<|l_ (k10:Int) 1) λV=>bd (idx x2.tags (k10:Int)) λW=>some (decide<|W<=V) else some false) (λY=>if Y then some (.ret false) else some (.next ())))) x2.tags.length 0 ()) (el (λ(_:Unit)=>some true)<|λa0=>some a0))
def j_6 (x1:c_)(x2:d_):Option Bool :=
 if (x2.kind==1) then bd (α:=Bool) (bd (d_0 x2 true false false false 0) λG=>if G then bd (a_W x2.size 1 4) λH=>if H then if (!x2.little) then some true else some (decide<|1<x2.size) else some false else some false) (λI=>some I) else if (x2.kind==2) then bd (α:=Bool) (bd (d_0 x2 false true false false 0) λJ=>if J then bd (a_W (x2.bytes.length:Int) 1 16) λL=>some L else some false) (λO=>some O) else if (x2.kind==3) then bd (α:=Bool) (bd (d_0 x2 true false false false 0) λV=>if V then bd (a_W x2.size 1 64) λW=>some W else some false) (λY=>some Y) else if (x2.kind==4) then bd (α:=Bool) (bd (d_0 x2 false false false false 1) λa0=>if a0 then bd (idx x2.kids 0) λa1=>bd (e_Y x1 a1) λa2=>some (decide<|0<a2) else some false) (λa3=>some a3) else if (x2.kind==5) then bd (α:=Bool) (bd (d_0 x2 false false false false 2) λa4=>if a4 then bd (idx x2.kids 0) λa5=>bd (e_Y x1 a5) λa6=>some (decide<|0<a6) else some false) (λa7=>some a7) else if (x2.kind==6) then bd (α:=Bool) (bd (d_0 x2 false false true false (x2.names.length:Int)) λa8=>if a8 then bd (j_4 x2.names) λa9=>some a9 else some false) (λaa=>some aa) else if (x2.kind==7) then bd (α:=Bool) (bd (d_0 x2 false false false true (-1)) λab=>if ab then bd (j_5 x1 x2) λad=>some ad else some false) (λae=>some ae) else bd (α:=Bool) (if (x2.kind==8) then some (x2.kind==8) else some (x2.kind==9)) (λaf=>if af then bd (d_0 x2 false false false false 1) λah=>some ah else if (x2.kind==10) then bd (α:=Bool) (bd (d_0 x2 false true false false 0) λai=>if ai then if ((x2.bytes.length:Int)==1) then bd (idx x2.bytes 0) λaj=>some ((byteI aj) != (byteI (92:UInt8))) else some false else some false) (λak=>some ak) else some false)
def j_7 (x1:c_)(x2:Int):Option Bool :=
 bd (a_W x2 0<|l_ (x1.rules.length:Int) 1) λH=>if (!H) then some false else bd (idx x1.rules x2) λG=>bd (n_ (σ:=Unit) (ρ:=Bool) (λI=>(λ(_:Unit)=>bd (idx x1.rules (I:Int)) λJ=>if (J.name.b==G.name.b) then some (.ret false) else some (.next ()))) x2.toNat 0 ()) (el (λ(_:Unit)=>bd (n_ (σ:=Unit) (ρ:=Bool) (λL=>(λ(_:Unit)=>bd (idx G.kids (L:Int)) λO=>bd (a_W O 0<|l_ x2 1) λV=>if (!V) then some (.ret false) else some (.next ()))) G.kids.length 0 ()) (el (λ(_:Unit)=>bd (α:=Bool) (bd (g_M G.name) λW=>if W then bd (j_6 x1 G) λY=>some Y else some false)<|λa0=>some a0)<|λa1=>some a1))<|λa2=>some a2)
def j_8 (x1:c_):Option Bool :=
 bd (n_ (σ:=Unit) (ρ:=Bool) (λk10=>(λ(_:Unit)=>bd (j_7 x1 (k10:Int)) λG=>if (!G) then some (.ret false) else some (.next ()))) x1.rules.length 0 ()) (el (λ(_:Unit)=>bd (a_W (x1.rules.length:Int) 1 24) λH=>some H)<|λI=>some I)
def f_D (x1:c_):Option Int :=
 some (l_ (x1.rules.length:Int) 1)
def j_9 (x1:Bt)(x2:Bool):Option Int :=
 if (decide<|4<(x1.length:Int)) then some 0 else bd (n_ (σ:=Int) (ρ:=Int) (λH=>(λG=>bd (α:=Int) (if x2 then some (l_ (l_ (x1.length:Int) 1) (H:Int)) else some (H:Int))<|λI=>bd (idx x1 I) λJ=>some<|.next<|i_ (W_ G 256)<|byteI J)) x1.length 0 0) (el (λG=>some G)<|λL=>some L)
def f_E (x1:c_)(x2:Int)(x3:Bt)(x4:Int):Option (Int×Int×Bool) :=
 bd (idx x1.rules x2) λG=>if (decide<|(l_ (x3.length:Int) x4)<G.size) then some (0,x4,false) else bd (slc x3 x4<|i_ x4 G.size) λH=>bd (j_9 H G.little) λI=>some (I,i_ x4 G.size,true)
def a_D (x1:d_)(x2:Int)(x3:Int):Option Int :=
 if (x1.kind==5) then bd (idx x1.kids 1) λG=>some G else bd (α:=Sum Unit Int) (if (x1.kind==6) then if (decide<|x3<(x1.kids.length:Int)) then bd (idx x1.kids x3) λH=>some (.inr H) else some (.inl ()) else bd (α:=Sum Unit<|Sum Unit Int) (if (x1.kind==7) then bd (n_ (σ:=Unit) (ρ:=Int) (λk10=>(λ(_:Unit)=>bd (idx x1.tags (k10:Int)) λI=>if (I==x2) then bd (idx x1.kids ((k10+1:Nat):Int)) λJ=>some (.ret J) else some (.next ()))) x1.tags.length 0 ()) (el (λ(_:Unit)=>some<|.inl ())<|λL=>some<|.inr<|.inr L) else bd (α:=Bool) (if (x1.kind==8) then some (x1.kind==8) else some (x1.kind==9)) (λO=>if O then bd (idx x1.kids 0) λV=>some (.inr<|.inr V) else some (.inl ()))) (el (λ(_:Unit)=>some<|.inl ()) some)) (el (λ(_:Unit)=>some (-1)) some)
def m_P (x1:c_)(x2:d_)(x3:Bt)(x4:Int):Option (Int×Int×Int) :=
 if (x2.kind==6) then some (x4,(x2.kids.length:Int),0) else if (x2.kind==9) then some (x4,1,0) else bd (α:=Sum Unit<|Int×Int×Int) (if (x2.kind==8) then bd (α:=Bool) (if (decide<|x4<(x3.length:Int)) then bd (idx x3 x4) λI=>some ((byteI I)==(byteI (1:UInt8))) else some false) (λJ=>if J then some (.inr (i_ x4 1,1,0)) else some (.inl ())) else bd (α:=Bool) (if (x2.kind==5) then some (x2.kind==5) else some (x2.kind==7)) (λL=>bd (α:=Sum Unit<|Sum Unit<|Int×Int×Int) (if L then bd (idx x2.kids 0) λO=>bd3 (f_E x1 O x3 x4) λG H V=>bd (α:=Sum Unit<|Sum Unit<|Sum Unit<|Int×Int×Int) (if (!V) then some (.inl ()) else bd (α:=Bool) (if (x2.kind==5) then some (decide<|G<=40) else some false) (λW=>if W then some (.inr<|.inr<|.inr (H,G,0)) else bd (α:=Bool) (if (x2.kind==7) then bd (a_D x2 G 0) λY=>some (decide<|0<=Y) else some false) (λa0=>if a0 then some (.inr<|.inr<|.inr (H,1,G)) else some (.inl ())))) (el (λ(_:Unit)=>some<|.inl ()) some) else some (.inl ()))<|el (λ(_:Unit)=>some<|.inl ()) some)) (el (λ(_:Unit)=>some (x4,(-1),0)) some)
def c_M (n:Nat)(x1:d_)(x2:Int):Option Str :=
 if (x1.kind==5) then bd (c_4 n x2) λG=>some G else bd (α:=Bool) (if (x1.kind==6) then some (decide<|x2<(x1.names.length:Int)) else some false) (λH=>if H then bd (idx x1.names x2) λI=>some I else bd (α:=Bool) (if (x1.kind==7) then some (x2==0) else some false) (λJ=>if J then some (⟨[42]⟩:Str) else bd (α:=Bool) (if (x1.kind==8) then some (x2==0) else some false) (λL=>if L then some (⟨[63]⟩:Str) else bd (α:=Bool) (if (x1.kind==9) then some (x2==0) else some false) (λO=>if O then some (⟨[43]⟩:Str) else some (⟨[]⟩:Str)))))
def j_a (x1:d_)(x2:Bt)(x3:Int):Option (Val×Int×Int) :=
 bd (n_ (σ:=Unit) (ρ:=Val×Int×Int) (λk10=>(λ(_:Unit)=>if (decide<|(x2.length:Int)<=(i_ x3 (k10:Int))) then some (.ret ((⟨0,([]:Bt),([]:List Val)⟩:Val),x3,1)) else bd (idx x2<|i_ x3 (k10:Int)) λG=>bd (idx x1.bytes (k10:Int)) λH=>if ((byteI G) != (byteI H)) then some (.ret ((⟨0,([]:Bt),([]:List Val)⟩:Val),i_ x3 (k10:Int),2)) else some (.next ()))) x1.bytes.length 0 ()) (el (λ(_:Unit)=>some ((⟨0,([]:Bt),([]:List Val)⟩:Val),i_ x3 (x1.bytes.length:Int),0))<|λI=>some I)
def h_T (x1:Bt)(x2:Int)(x3:Int):Option (Val×Int×Int) :=
 if (decide<|(l_ (x1.length:Int) x2)<x3) then some ((⟨0,([]:Bt),([]:List Val)⟩:Val),x2,1) else bd (slc x1 x2<|i_ x2 x3) λG=>bd (app ([]:Bt) G) λH=>some ((⟨0,H,([]:List Val)⟩:Val),i_ x2 x3,0)
def j_b (n:Nat)(x1:Bt)(x2:Int)(x3:UInt8):Option (Bt×Int×Bool) :=
 bd (L_ (σ:=Bt×Int) (ρ:=Bt×Int×Bool) (un2 λH G=>bd (α:=Bool) (bd (a_W x2 0 (x1.length:Int)) λJ=>if J then some (decide<|G<(x1.length:Int)) else some false) (λL=>if L then bd (idx x1 G) λO=>if ((byteI O)==(byteI x3)) then some (.ret (H,i_ G 1,true)) else bd (idx x1 G) λV=>bd (α:=Sum Int<|Out (Bt×Int)<|Bt×Int×Bool) (if ((byteI V)==(byteI (92:UInt8))) then if ((i_ G 1)==(x1.length:Int)) then some (.inr<|.brk (H,i_ G 1)) else some (.inl<|i_ G 1) else some (.inl G)) (el (λI=>bd (idx x1 I) λW=>bd (psh H W) λY=>some<|.next (Y,i_ I 1)) some) else some (.brk (H,G)))) n (([]:Bt),x2)) (el (un2 λH G=>some (([]:Bt),x2,false))<|λa0=>some a0)
def h_U (x1:Bt):Option Int :=
 bd (n_ (σ:=Int) (ρ:=Int) (λH=>(λG=>bd (idx x1 (H:Int)) λI=>some<|.next<|b_3 (i_ G<|byteI I) 256)) x1.length 0 0) (el (λG=>some G)<|λJ=>some J)
structure h_V where
 spec_l11Read:c_->Int->Bt->Int->Option (Val×Int×Int)
 spec_l11Items:c_->d_->Int->Int->Bt->Int->Option (Val×Int×Int)
 spec_l11Choice:c_->d_->Bt->Int->Option (Val×Int×Int)
 spec_l11Option:c_->d_->Bt->Int->Option (Val×Int×Int)
 spec_l11Checked:c_->d_->Bt->Int->Option (Val×Int×Int)
def j_c (n:Nat)(rec:h_V)(x1:c_)(x2:Int)(x3:Bt)(x4:Int):Option (Val×Int×Int) :=
 bd (idx x1.rules x2) λG=>if (G.kind==1) then bd3 (f_E x1 x2 x3 x4) λJ L O=>if (!O) then some ((⟨0,([]:Bt),([]:List Val)⟩:Val),x4,1) else some ((⟨J,([]:Bt),([]:List Val)⟩:Val),L,0) else if (G.kind==2) then bd3 (j_a G x3 x4) λV W Y=>some (V,W,Y) else if (G.kind==3) then bd3 (h_T x3 x4 G.size) λa0 a1 a2=>some (a0,a1,a2) else if (G.kind==10) then bd (idx G.bytes 0) λa3=>bd3 (j_b n x3 x4 a3) λa4 a5 a6=>if (!a6) then some ((⟨0,([]:Bt),([]:List Val)⟩:Val),x4,1) else some ((⟨0,a4,([]:List Val)⟩:Val),a5,0) else if (G.kind==6) then bd3 (rec.spec_l11Items x1 G 0 (G.kids.length:Int) x3 x4) λa7 a8 a9=>some (a7,a8,a9) else if (G.kind==7) then bd3 (rec.spec_l11Choice x1 G x3 x4) λaa ab ad=>some (aa,ab,ad) else if (G.kind==8) then bd3 (rec.spec_l11Option x1 G x3 x4) λae af ah=>some (ae,af,ah) else if (G.kind==9) then bd3 (rec.spec_l11Checked x1 G x3 x4) λai aj ak=>some (ai,aj,ak) else bd (idx G.kids 0) λal=>bd3 (f_E x1 al x3 x4) λH I am=>if (!am) then some ((⟨0,([]:Bt),([]:List Val)⟩:Val),x4,1) else if (G.kind==4) then bd3 (h_T x3 I H) λan ap aq=>some (an,ap,aq) else if (decide<|40<H) then some ((⟨0,([]:Bt),([]:List Val)⟩:Val),x4,6) else bd3 (rec.spec_l11Items x1 G 0 H x3 I) λar au av=>some (ar,au,av)
def j_d (n:Nat)(rec:h_V)(x1:c_)(x2:d_)(x3:Int)(x4:Int)(x5:Bt)(x6:Int):Option (Val×Int×Int) :=
 bd (n_ (σ:=Int×(List Val)) (ρ:=Val×Int×Int) (λO=>un2 λG H=>bd (α:=Int×Bt×(List Val)×Int×Int) (bd (a_D x2 x3 (O:Int)) λV=>bd3 (rec.spec_l11Read x1 V x5 G) λI W Y=>some (I.number,I.bytes,I.items,W,Y)) (un5 λa0 a1 a2 J L=>if (L != 0) then some (.ret ((⟨0,([]:Bt),([]:List Val)⟩:Val),J,L)) else bd (psh H (⟨a0,a1,a2⟩:Val)) λa3=>some<|.next (J,a3))) x4.toNat 0 (x6,([]:List Val))) (el (un2 λG H=>some ((⟨0,([]:Bt),H⟩:Val),G,0))<|λa4=>some a4)
def j_e (n:Nat)(rec:h_V)(x1:c_)(x2:d_)(x3:Bt)(x4:Int):Option (Val×Int×Int) :=
 bd (idx x2.kids 0) λJ=>bd3 (f_E x1 J x3 x4) λG L O=>if (!O) then some ((⟨0,([]:Bt),([]:List Val)⟩:Val),x4,1) else bd (a_D x2 G 0) λV=>if (decide<|V<0) then some ((⟨0,([]:Bt),([]:List Val)⟩:Val),x4,3) else bd3 (rec.spec_l11Items x1 x2 G 1 x3 L) λH W I=>bd (α:=Int) (if (I==0) then some G else some H.number)<|λY=>some ((⟨Y,H.bytes,H.items⟩:Val),W,I)
def j_f (n:Nat)(rec:h_V)(x1:c_)(x2:d_)(x3:Bt)(x4:Int):Option (Val×Int×Int) :=
 if (decide<|(x3.length:Int)<=x4) then some ((⟨0,([]:Bt),([]:List Val)⟩:Val),x4,1) else bd (idx x3 x4) λG=>if (decide<|(byteI (1:UInt8))<(byteI G)) then some ((⟨0,([]:Bt),([]:List Val)⟩:Val),x4,4) else bd (idx x3 x4) λH=>bd3 (rec.spec_l11Items x1 x2 0 (byteI H) x3<|i_ x4 1) λI J L=>some (I,J,L)
def j_g (n:Nat)(rec:h_V)(x1:c_)(x2:d_)(x3:Bt)(x4:Int):Option (Val×Int×Int) :=
 bd3 (rec.spec_l11Items x1 x2 0 1 x3 x4) λH G I=>if (I != 0) then some (H,G,I) else if (decide<|(x3.length:Int)<=G) then some ((⟨0,([]:Bt),([]:List Val)⟩:Val),G,1) else bd (idx x3 G) λJ=>bd (slc x3 x4 G) λL=>bd (h_U L) λO=>if ((byteI J) != O) then some ((⟨0,([]:Bt),([]:List Val)⟩:Val),G,5) else some (H,i_ G 1,0)
def a_s:Nat->h_V
 | 0=>⟨λ_ _ _ _=>none,λ_ _ _ _ _ _=>none,λ_ _ _ _=>none,λ_ _ _ _=>none,λ_ _ _ _=>none⟩
 | n+1=>⟨j_c n<|a_s n,j_d n<|a_s n,j_e n<|a_s n,j_f n<|a_s n,j_g n<|a_s n⟩
def j_h (n:Nat):=(a_s n).spec_l11Read
def g_O (n:Nat):=(a_s n).spec_l11Items
def p_J (n:Nat)(x1:c_)(x2:Int)(x3:Bt)(x4:Int)(x5:Str):Option (Int×Int×Bool) :=
 bd (idx x1.rules x2) λG=>bd3 (m_P x1 G x3 x4) λL O V=>bd (n_ (σ:=Int) (ρ:=Int×Int×Bool) (λI=>(λH=>bd (a_D G V (I:Int)) λJ=>bd (c_M n G (I:Int)) λW=>if (W.b==x5.b) then some (.ret (J,H,true)) else bd3 (j_h n x1 J x3 H) λa2 Y a0=>if (a0 != 0) then some (.ret (0,0,false)) else some (.next Y))) O.toNat 0 L)<|el (λH=>some (0,0,false))<|λa1=>some a1
def d_q (x1:c_)(x2:Int):Option Bool :=
 bd (α:=Bool) (bd (a_W x2 0<|l_ (x1.rules.length:Int) 1) λG=>if G then bd (j_8 x1) λH=>some H else some false) (λI=>some I)
def j_i (n:Nat)(x1:c_)(x2:Int)(x3:Bt)(x4:Int):Option (Val×Int×Int) :=
 bd (α:=Bool) (bd (d_q x1 x2) λG=>if (!G) then some true else bd (a_W x4 0 (x3.length:Int)) λH=>if (!H) then some true else some (decide<|400<(x3.length:Int))) (λI=>if I then some ((⟨0,([]:Bt),([]:List Val)⟩:Val),0,8) else bd3 (j_h n x1 x2 x3 x4) λJ L O=>some (J,L,O))
def d_R (n:Nat)(x1:c_)(x2:Bt):Option (Val×Int×Int) :=
 bd (α:=Int×Bt×(List Val)×Int×Int) (bd (f_D x1) λJ=>bd3 (j_i n x1 J x2 0) λG L O=>some (G.number,G.bytes,G.items,L,O)) (un5 λV W Y H I=>bd (α:=Bool) (if (I==0) then some (decide<|H<(x2.length:Int)) else some false) (λa0=>if a0 then some ((⟨0,([]:Bt),([]:List Val)⟩:Val),H,7) else some ((⟨V,W,Y⟩:Val),H,I)))
def h_W (n:Nat)(x1:c_)(x2:Bt):Option Bool :=
 bd3 (d_R n x1 x2) λH I G=>some<|G==0
def h_X (x1:Str)(x2:UInt8):Option (List Str) :=
 bd (n_ (σ:=(List Str)×Int) (ρ:=List Str) (λI=>un2 λG H=>bd (idx x1.b (I:Int)) λJ=>bd (α:=(List Str)×Int) (if ((byteI J)==(byteI x2)) then bd (b_w x1 H (I:Int)) λL=>bd (psh G L) λO=>some (O,((I+1:Nat):Int)) else some (G,H))<|un2 λV W=>some<|.next (V,W)) x1.b.length 0 (([]:List Str),0)) (el (un2 λG H=>bd (b_w x1 H (x1.b.length:Int)) λY=>bd (psh G Y) λa0=>some a0)<|λa1=>some a1)
def f_F (n:Nat)(x1:Str):Option Bool :=
 bd (α:=Bool) (if (decide<|(x1.b.length:Int)<1) then some true else some (decide<|12<(x1.b.length:Int))) (λH=>if H then some false else bd (L_ (σ:=Nat) (ρ:=Bool) (λG=>if (decide<|G<x1.b.length) then bd (α:=Bool) (if (decide<|97<=((dec x1 G).1)) then some (decide<|((dec x1 G).1)<=122) else some false) (λI=>bd (α:=Bool) (if (decide<|48<=((dec x1 G).1)) then some (decide<|((dec x1 G).1)<=57) else some false) (λJ=>bd (α:=Bool) (if (!I) then if (!J) then some true else some ((G:Int)==0) else some false) (λL=>if L then some (.ret false) else some (.next<|G+(dec x1 G).2)))) else some (.brk G)) n 0) (el (λG=>some true)<|λO=>some O))
def f_G (x1:Str):Option (Int×Bool) :=
 bd (α:=Bool) (if (x1.b==(⟨[]⟩:Str).b) then some true else if (decide<|13<(x1.b.length:Int)) then some true else bd (idx x1.b 0) λI=>if ((byteI I)==(byteI (48:UInt8))) then some (decide<|1<(x1.b.length:Int)) else some false) (λJ=>if J then some (0,false) else bd (n_ (σ:=Int) (ρ:=Int×Bool) (λH=>(λG=>bd (α:=Bool) (bd (idx x1.b (H:Int)) λL=>if (decide<|(byteI L)<(byteI (48:UInt8))) then some true else bd (idx x1.b (H:Int)) λO=>some<|decide<|(byteI (57:UInt8))<(byteI O)) (λV=>if V then some (.ret (0,false)) else bd (idx x1.b (H:Int)) λW=>some<|.next<|i_ (W_ 10 G)<|byteI<|mkB<|byteI W - byteI (48:UInt8)))) x1.b.length 0 0) (el (λG=>if (decide<|1000000000000<G) then some (0,false) else some (G,true))<|λY=>some Y))
def g_P (n:Nat)(x1:Str):Option Bool :=
 bd (α:=Bool) (bd (f_F n x1) λG=>if G then some true else if (x1.b==(⟨[42]⟩:Str).b) then some true else if (x1.b==(⟨[63]⟩:Str).b) then some true else some (x1.b==(⟨[43]⟩:Str).b)) (λH=>if H then some true else bd2 (f_G x1) λJ I=>some I)
def k_M (n:Nat)(x1:Str):Option ((List Str)×Bool) :=
 if (x1.b==(⟨[]⟩:Str).b) then some ([],true) else bd (idx x1.b 0) λc=>if (byteI c != byteI (47:UInt8)) then some ([],false) else bd (h_X x1 (47:UInt8)) λl=>bd (slc l 1 (l.length:Int)) λparts=>bd (h_Q (g_P n) parts) λoks=>if parts.length<LIM then some (if oks.all id then (parts,true) else ([],false)) else none
def h_Y (n:Nat)(x1:Str):Option ((List Str)×Bool) :=
 bd2 (k_M n x1) λG H=>some (G,H)
def c_B (x1:Int)(x2:Int)(x3:Int):Option Bool :=
 bd (α:=Bool) (if (decide<|x2<=x1) then some (decide<|x1<=x3) else some false) (λG=>some G)
def f_H (x1:c_)(x2:Int):Option Bool :=
 bd (α:=Bool) (if (decide<|0<=x2) then some (decide<|x2<(x1.rules.length:Int)) else some false) (λG=>some G)
def d_1 (x1:d_)(x2:Bool)(x3:Bool)(x4:Bool)(x5:Bool)(x6:Int):Option Bool :=
 bd (α:=Bool) (bd (α:=Bool) (if x2 then some true else some (x1.size==0)) λG=>bd (α:=Bool) (if G then if x3 then some true else some ((x1.bytes.length:Int)==0) else some false) λH=>bd (α:=Bool) (if H then if x4 then some true else some ((x1.names.length:Int)==0) else some false) λI=>bd (α:=Bool) (if I then if x5 then some true else some ((x1.tags.length:Int)==0) else some false) λJ=>if J then if (decide<|x6<0) then some true else some ((x1.kids.length:Int)==x6) else some false) (λL=>some L)
def d_S (x1:c_)(x2:Int):Option Int :=
 bd (α:=Bool) (bd (f_H x1 x2) λH=>if (!H) then some true else bd (idx x1.rules x2) λI=>if (I.kind != 1) then some true else bd (idx x1.rules x2) λJ=>bd (c_B J.size 1 4) λL=>some (!L)) (λO=>if O then some (-1) else bd (idx x1.rules x2) λG=>bd (nn<|W_ 8 G.size) λV=>some<|l_ (b_I .i64 1<|W_ 8 G.size) 1)
def h_Z (x1:List Str)(x2:Str):Option Bool :=
 bd (n_ (σ:=Unit) (ρ:=Bool) (λk10=>(λ(_:Unit)=>bd (idx x1 (k10:Int)) λG=>if (G.b==x2.b) then some (.ret true) else some (.next ()))) x1.length 0 ()) (el (λ(_:Unit)=>some false)<|λH=>some H)
def j_j (n:Nat)(x1:d_):Option Bool :=
 bd (α:=Bool) (bd (d_1 x1 false false true false (-1)) λH=>if (!H) then some true else if ((x1.kids.length:Int) != (x1.names.length:Int)) then some true else bd (c_B (x1.kids.length:Int) 1 8) λI=>some (!I)) (λJ=>if J then some false else bd (n_ (σ:=Unit) (ρ:=Bool) (λk10=>(λ(_:Unit)=>bd (idx x1.names (k10:Int)) λG=>bd (α:=Bool) (bd (f_F n G) λL=>if (!L) then some true else bd (slc x1.names 0 (k10:Int)) λO=>bd (h_Z O G) λV=>some V) (λW=>if W then some (.ret false) else some (.next ())))) x1.names.length 0 ()) (el (λ(_:Unit)=>some true)<|λY=>some Y))
def j_k (x1:c_)(x2:d_):Option Bool :=
 bd (α:=Bool) (bd (d_1 x2 false false false true<|i_ (x2.tags.length:Int) 1) λI=>if (!I) then some true else bd (c_B (x2.tags.length:Int) 1 8) λJ=>some (!J)) (λL=>if L then some false else bd (idx x2.kids 0) λO=>bd (d_S x1 O) λG=>bd (n_ (σ:=Unit) (ρ:=Bool) (λk10=>(λ(_:Unit)=>bd (idx x2.tags (k10:Int)) λH=>bd (α:=Bool) (bd (c_B H 0 G) λV=>if (!V) then some true else if (decide<|0<(k10:Int)) then bd (idx x2.tags<|l_ (k10:Int) 1) λW=>some (decide<|H<=W) else some false) (λY=>if Y then some (.ret false) else some (.next ())))) x2.tags.length 0 ())<|el (λ(_:Unit)=>some<|decide<|0<G)<|λa0=>some a0)
def j_l (n:Nat)(x1:c_)(x2:d_):Option Bool :=
 if (x2.kind==1) then bd (α:=Bool) (bd (d_1 x2 true false false false 0) λG=>if G then bd (c_B x2.size 1 4) λH=>if H then if (!x2.little) then some true else some (decide<|1<x2.size) else some false else some false) (λI=>some I) else if (x2.kind==2) then bd (α:=Bool) (bd (d_1 x2 false true false false 0) λJ=>if J then bd (c_B (x2.bytes.length:Int) 1 16) λL=>some L else some false) (λO=>some O) else if (x2.kind==3) then bd (α:=Bool) (bd (d_1 x2 true false false false 0) λV=>if V then bd (c_B x2.size 1 64) λW=>some W else some false) (λY=>some Y) else if (x2.kind==4) then bd (α:=Bool) (bd (d_1 x2 false false false false 1) λa0=>if a0 then bd (idx x2.kids 0) λa1=>bd (d_S x1 a1) λa2=>some (decide<|0<a2) else some false) (λa3=>some a3) else if (x2.kind==5) then bd (α:=Bool) (bd (d_1 x2 false false false false 2) λa4=>if a4 then bd (idx x2.kids 0) λa5=>bd (d_S x1 a5) λa6=>some (decide<|0<a6) else some false) (λa7=>some a7) else if (x2.kind==6) then bd (j_j n x2) λa8=>some a8 else if (x2.kind==7) then bd (j_k x1 x2) λa9=>some a9 else bd (α:=Bool) (if (x2.kind==8) then some (x2.kind==8) else some (x2.kind==9)) (λaa=>if aa then bd (d_1 x2 false false false false 1) λab=>some ab else if (x2.kind==10) then bd (α:=Bool) (bd (d_1 x2 false true false false 0) λad=>if ad then if ((x2.bytes.length:Int)==1) then bd (idx x2.bytes 0) λae=>some ((byteI ae) != (byteI (92:UInt8))) else some false else some false) (λaf=>some af) else some false)
def j_m (n:Nat)(x1:c_)(x2:Int):Option Bool :=
 bd (f_H x1 x2) λJ=>if (!J) then some false else bd (idx x1.rules x2) λG=>bd (α:=Bool) (bd (f_F n G.name) λL=>if (!L) then some true else if G.little then some (G.kind != 1) else some false) (λO=>if O then some false else bd (slc x1.rules 0 x2) λH=>bd (n_ (σ:=Unit) (ρ:=Bool) (λV=>(λ(_:Unit)=>bd (idx H (V:Int)) λW=>if (W.name.b==G.name.b) then some (.ret false) else some (.next ()))) H.length 0 ()) (el (λ(_:Unit)=>bd (n_ (σ:=Unit) (ρ:=Bool) (λY=>(λ(_:Unit)=>bd (idx G.kids (Y:Int)) λI=>bd (α:=Bool) (if (decide<|I<0) then some true else some (decide<|x2<=I)) (λa0=>if a0 then some (.ret false) else some (.next ())))) G.kids.length 0 ())<|el (λ(_:Unit)=>bd (j_l n x1 G) λa1=>some a1)<|λa2=>some a2)<|λa3=>some a3))
def j_n (n:Nat)(x1:c_):Option Bool :=
 bd (c_B (x1.rules.length:Int) 1 24) λG=>if (!G) then some false else bd (n_ (σ:=Unit) (ρ:=Bool) (λH=>(λ(_:Unit)=>bd (j_m n x1 (H:Int)) λI=>if (!I) then some (.ret false) else some (.next ()))) x1.rules.length 0 ()) (el (λ(_:Unit)=>some true)<|λJ=>some J)
def e_g (x1:c_):Option Int :=
 some (l_ (x1.rules.length:Int) 1)
def f_I (n:Nat)(x1:c_)(x2:Int):Option Bool :=
 bd (α:=Bool) (bd (j_n n x1) λG=>if G then bd (f_H x1 x2) λH=>some H else some false) (λI=>some I)
def j_o (x1:Bt)(x2:Bool):Option Int :=
 if (decide<|4<(x1.length:Int)) then some 0 else bd (n_ (σ:=Int) (ρ:=Int) (λH=>(λG=>bd (α:=Int) (if x2 then bd (idx x1<|l_ (l_ (x1.length:Int) 1) (H:Int)) λI=>some (a_C .i64 (· ||| ·) (b_I .i64 G 8)<|byteI I) else bd (idx x1 (H:Int)) λJ=>some<|a_C .i64 (· ||| ·) (b_I .i64 G 8)<|byteI J)<|λL=>some<|.next L)) x1.length 0 0) (el (λG=>some G)<|λO=>some O)
def g_Q (x1:Bt):Option Int :=
 bd (n_ (σ:=Int) (ρ:=Int) (λH=>(λG=>bd (idx x1 (H:Int)) λI=>some<|.next<|i_ G<|byteI I)) x1.length 0 0) (el (λG=>some<|b_3 G 256)<|λJ=>some J)
def j_p (n:Nat)(x1:Bt)(x2:Int)(x3:UInt8):Option (Bt×Int×Bool) :=
 bd (α:=Bool) (if (decide<|x2<0) then some true else some (decide<|(x1.length:Int)<x2)) (λJ=>if J then some (([]:Bt),x2,false) else bd (L_ (σ:=Bt×Int) (ρ:=Bt×Int×Bool) (un2 λH G=>if (decide<|G<(x1.length:Int)) then bd (idx x1 G) λL=>if ((byteI L)==(byteI x3)) then some (.ret (H,i_ G 1,true)) else bd (idx x1 G) λO=>bd (α:=Sum Int<|Out (Bt×Int)<|Bt×Int×Bool) (if ((byteI O)==(byteI (92:UInt8))) then if ((i_ G 1)==(x1.length:Int)) then some (.inr<|.brk (H,i_ G 1)) else some (.inl<|i_ G 1) else some (.inl G)) (el (λI=>bd (idx x1 I) λV=>bd (psh H V) λW=>some<|.next (W,i_ I 1)) some) else some (.brk (H,G))) n (([]:Bt),x2)) (el (un2 λH G=>some (([]:Bt),x2,false))<|λY=>some Y))
def c_m (x1:Int)(x2:Int):Option (Option<|Int×Int) :=
 some (some (x1,x2))
def f_J (x1:a_A)(x2:Int)(x3:Int):Option (Bt×(Option<|Int×Int)) :=
 if (decide<|(l_ (x1.b.length:Int) x2)<x3) then bd (c_m x2 1) λG=>some (([]:Bt),G) else bd (slc x1.b x2<|i_ x2 x3) λH=>some (H,none)
def f_K (x1:a_A)(x2:Int)(x3:Int):Option (Int×Int×(Option<|Int×Int)) :=
 bd (idx x1.d.rules x2) λG=>bd2 (f_J x1 x3 G.size) λI H=>if H.isSome then some (0,x3,H) else bd (j_o I G.little) λJ=>some (J,i_ x3 G.size,none)
def j_q (x1:a_A)(x2:d_)(x3:Int):Option (Int×(Option<|Int×Int)) :=
 bd (n_ (σ:=Unit) (ρ:=Int×(Option<|Int×Int)) (λk10=>(λ(_:Unit)=>bd (idx x2.bytes (k10:Int)) λG=>if (decide<|(x1.b.length:Int)<=(i_ x3 (k10:Int))) then bd (c_m x3 1) λH=>some (.ret (x3,H)) else bd (idx x1.b<|i_ x3 (k10:Int)) λI=>if ((byteI I) != (byteI G)) then bd (c_m (i_ x3 (k10:Int)) 2) λJ=>some (.ret (x3,J)) else some (.next ()))) x2.bytes.length 0 ()) (el (λ(_:Unit)=>some (i_ x3 (x2.bytes.length:Int),none))<|λL=>some L)
def i_0 (x1:a_A)(x2:Int)(x3:Int):Option (Val×Int×(Option<|Int×Int)) :=
 bd2 (f_J x1 x2 x3) λH G=>if G.isSome then some ((⟨0,([]:Bt),([]:List Val)⟩:Val),x2,G) else bd (app ([]:Bt) H) λI=>some ((⟨0,I,([]:List Val)⟩:Val),i_ x2 x3,none)
structure g_R where
 impl_fileReader_value:a_A->Int->Int->Option (Val×Int×(Option<|Int×Int))
 impl_fileReader_array:a_A->d_->Int->Option (Val×Int×(Option<|Int×Int))
 impl_fileReader_items:a_A->Val->(List Int)->Int->Option (Val×Int×(Option<|Int×Int))
 impl_fileReader_choice:a_A->d_->Int->Option (Val×Int×(Option<|Int×Int))
 impl_fileReader_option:a_A->d_->Int->Option (Val×Int×(Option<|Int×Int))
 impl_fileReader_checked:a_A->d_->Int->Option (Val×Int×(Option<|Int×Int))
def j_r (n:Nat)(rec:g_R)(x1:a_A)(x2:Int)(x3:Int):Option (Val×Int×(Option<|Int×Int)) :=
 bd (idx x1.d.rules x2) λG=>if (G.kind==1) then bd3 (f_K x1 x2 x3) λI J L=>some ((⟨I,([]:Bt),([]:List Val)⟩:Val),J,L) else if (G.kind==2) then bd2 (j_q x1 G x3) λO V=>some ((⟨0,([]:Bt),([]:List Val)⟩:Val),O,V) else if (G.kind==3) then bd3 (i_0 x1 x3 G.size) λW Y a0=>some (W,Y,a0) else if (G.kind==4) then bd (idx G.kids 0) λa1=>bd3 (f_K x1 a1 x3) λa2 a3 H=>if H.isSome then some ((⟨0,([]:Bt),([]:List Val)⟩:Val),x3,H) else bd3 (i_0 x1 a3 a2) λa4 a5 a6=>some (a4,a5,a6) else if (G.kind==5) then bd3 (rec.impl_fileReader_array x1 G x3) λa7 a8 a9=>some (a7,a8,a9) else if (G.kind==6) then bd3 (rec.impl_fileReader_items x1 (⟨0,([]:Bt),([]:List Val)⟩:Val) G.kids x3) λaa ab ad=>some (aa,ab,ad) else if (G.kind==7) then bd3 (rec.impl_fileReader_choice x1 G x3) λae af ah=>some (ae,af,ah) else if (G.kind==8) then bd3 (rec.impl_fileReader_option x1 G x3) λai aj ak=>some (ai,aj,ak) else if (G.kind==9) then bd3 (rec.impl_fileReader_checked x1 G x3) λal am an=>some (al,am,an) else bd (idx G.bytes 0) λap=>bd3 (j_p n x1.b x3 ap) λaq ar au=>if (!au) then bd (c_m x3 1) λav=>some ((⟨0,([]:Bt),([]:List Val)⟩:Val),x3,av) else some ((⟨0,aq,([]:List Val)⟩:Val),ar,none)
def j_s (n:Nat)(rec:g_R)(x1:a_A)(x2:d_)(x3:Int):Option (Val×Int×(Option<|Int×Int)) :=
 bd (idx x2.kids 0) λL=>bd3 (f_K x1 L x3) λH O I=>if I.isSome then some ((⟨0,([]:Bt),([]:List Val)⟩:Val),x3,I) else if (decide<|40<H) then bd (c_m x3 6) λV=>some ((⟨0,([]:Bt),([]:List Val)⟩:Val),x3,V) else bd (mk0 0 H) λJ=>bd (n_ (σ:=List Int) (ρ:=Val×Int×(Option<|Int×Int)) (λW=>(λG=>bd (idx x2.kids 1) λY=>bd (upd G (W:Int) Y) λa0=>some<|.next a0)) J.length 0 J)<|el (λG=>bd3 (rec.impl_fileReader_items x1 (⟨0,([]:Bt),([]:List Val)⟩:Val) G O) λa1 a2 a3=>some (a1,a2,a3))<|λa4=>some a4
def j_t (n:Nat)(rec:g_R)(x1:a_A)(x2:Val)(x3:List Int)(x4:Int):Option (Val×Int×(Option<|Int×Int)) :=
 bd (n_ (σ:=Int×(List Val)) (ρ:=Val×Int×(Option<|Int×Int)) (λJ=>un2 λG H=>bd (idx x3 (J:Int)) λL=>bd3 (rec.impl_fileReader_value x1 L G) λO V I=>if I.isSome then some (.ret ((⟨0,([]:Bt),([]:List Val)⟩:Val),G,I)) else bd (psh H O) λW=>some<|.next (V,W)) x3.length 0 (x4,x2.items)) (el (un2 λG H=>some ((⟨x2.number,x2.bytes,H⟩:Val),G,none))<|λY=>some Y)
def j_u (n:Nat)(rec:g_R)(x1:a_A)(x2:d_)(x3:Int):Option (Val×Int×(Option<|Int×Int)) :=
 bd (idx x2.kids 0) λI=>bd3 (f_K x1 I x3) λG J H=>if H.isSome then some ((⟨0,([]:Bt),([]:List Val)⟩:Val),x3,H) else bd (n_ (σ:=Unit) (ρ:=Val×Int×(Option<|Int×Int)) (λk10=>(λ(_:Unit)=>bd (idx x2.tags (k10:Int)) λL=>if (L==G) then bd (slc x2.kids ((k10+1:Nat):Int)<|i_ (k10:Int) 2) λO=>bd3 (rec.impl_fileReader_items x1 (⟨G,([]:Bt),([]:List Val)⟩:Val) O J) λV W Y=>some (.ret (V,W,Y)) else some (.next ()))) x2.tags.length 0 ()) (el (λ(_:Unit)=>bd (c_m x3 3) λa0=>some ((⟨0,([]:Bt),([]:List Val)⟩:Val),x3,a0))<|λa1=>some a1)
def j_v (n:Nat)(rec:g_R)(x1:a_A)(x2:d_)(x3:Int):Option (Val×Int×(Option<|Int×Int)) :=
 bd2 (f_J x1 x3 1) λG H=>if H.isSome then some ((⟨0,([]:Bt),([]:List Val)⟩:Val),x3,H) else bd (idx G 0) λI=>if (decide<|(byteI (1:UInt8))<(byteI I)) then bd (c_m x3 4) λJ=>some ((⟨0,([]:Bt),([]:List Val)⟩:Val),x3,J) else bd (idx G 0) λL=>if ((byteI L)==(byteI (0:UInt8))) then some ((⟨0,([]:Bt),([]:List Val)⟩:Val),i_ x3 1,none) else bd3 (rec.impl_fileReader_items x1 (⟨0,([]:Bt),([]:List Val)⟩:Val) x2.kids<|i_ x3 1) λO V W=>some (O,V,W)
def j_w (n:Nat)(rec:g_R)(x1:a_A)(x2:d_)(x3:Int):Option (Val×Int×(Option<|Int×Int)) :=
 bd3 (rec.impl_fileReader_items x1 (⟨0,([]:Bt),([]:List Val)⟩:Val) x2.kids x3) λJ G H=>if H.isSome then some ((⟨0,([]:Bt),([]:List Val)⟩:Val),x3,H) else bd2 (f_J x1 G 1) λL I=>if I.isSome then some ((⟨0,([]:Bt),([]:List Val)⟩:Val),x3,I) else bd (idx L 0) λO=>bd (slc x1.b x3 G) λV=>bd (g_Q V) λW=>if ((byteI O) != W) then bd (c_m G 5) λY=>some ((⟨0,([]:Bt),([]:List Val)⟩:Val),x3,Y) else some (J,i_ G 1,none)
def a_h:Nat->g_R
 | 0=>⟨λ_ _ _=>none,λ_ _ _=>none,λ_ _ _ _=>none,λ_ _ _=>none,λ_ _ _=>none,λ_ _ _=>none⟩
 | n+1=>⟨j_r n<|a_h n,j_s n<|a_h n,j_t n<|a_h n,j_u n<|a_h n,j_v n<|a_h n,j_w n<|a_h n⟩
def k_N (n:Nat):=(a_h n).impl_fileReader_value
def g_S (n:Nat):=(a_h n).impl_fileReader_items
def j_x (n:Nat)(x1:c_)(x2:Int)(x3:Bt)(x4:Int):Option (Val×Int×Int) :=
 bd (α:=Bool) (bd (f_I n x1 x2) λH=>if (!H) then some true else if (decide<|x4<0) then some true else if (decide<|(x3.length:Int)<x4) then some true else some (decide<|400<(x3.length:Int))) (λI=>if I then some ((⟨0,([]:Bt),([]:List Val)⟩:Val),0,8) else bd3 (k_N n (⟨(⟨x1.rules⟩:c_),x3⟩:a_A) x2 x4) λJ L G=>if G.isSome then (bd2 G λO V=>some ((⟨0,([]:Bt),([]:List Val)⟩:Val),O,V)) else some (J,L,0))
def i_1 (n:Nat)(x1:c_)(x2:Bt):Option (Val×Int×Int) :=
 bd (α:=Int×Bt×(List Val)×Int×Int) (bd (e_g x1) λJ=>bd3 (j_x n x1 J x2 0) λG L O=>some (G.number,G.bytes,G.items,L,O)) (un5 λV W Y H I=>bd (α:=Bool) (if (I==0) then some (decide<|H<(x2.length:Int)) else some false) (λa0=>if a0 then some ((⟨0,([]:Bt),([]:List Val)⟩:Val),H,7) else some ((⟨V,W,Y⟩:Val),H,I)))
def m_Q (x1:Bt)(x2:Bt):Option Bool :=
 some ((⟨x1⟩:Str).b==(⟨x2⟩:Str).b)
def j_y (x1:Bt)(x2:Bt):Option Bool :=
 bd (m_Q x1 x2) λG=>some G
def g_T (x1:Int):Option Str :=
 bd (j_S x1) λG=>some G
def g_U (n:Nat)(x1:c_)(x2:Int)(x3:Int):Option Str :=
 bd (α:=Bool) (bd (f_I n x1 x2) λH=>if (!H) then some true else some (decide<|x3<0)) (λI=>if I then some (⟨[]⟩:Str) else bd (idx x1.rules x2) λG=>if (G.kind==5) then bd (g_T x3) λJ=>some J else bd (α:=Bool) (if (G.kind==6) then some (decide<|x3<(G.names.length:Int)) else some false) (λL=>if L then bd (idx G.names x3) λO=>some O else if (decide<|0<x3) then some (⟨[]⟩:Str) else if (G.kind==7) then some (⟨[42]⟩:Str) else if (G.kind==8) then some (⟨[63]⟩:Str) else if (G.kind==9) then some (⟨[43]⟩:Str) else some (⟨[]⟩:Str)))
def c_5 (x1:c_)(x2:Int)(x3:Val)(x4:Int):Option Int :=
 bd (idx x1.rules x2) λG=>if (G.kind==5) then bd (idx G.kids 1) λI=>some I else bd (α:=Sum Unit Int) (if (G.kind==6) then if (decide<|x4<(G.kids.length:Int)) then bd (idx G.kids x4) λJ=>some (.inr J) else some (.inl ()) else bd (α:=Sum Unit<|Sum Unit Int) (if (G.kind==7) then bd (n_ (σ:=Unit) (ρ:=Int) (λH=>(λ(_:Unit)=>bd (idx G.tags (H:Int)) λL=>if (L==x3.number) then bd (idx G.kids ((H+1:Nat):Int)) λO=>some (.ret O) else some (.next ()))) G.tags.length 0 ()) (el (λ(_:Unit)=>some<|.inl ())<|λV=>some<|.inr<|.inr V) else bd (α:=Bool) (if (G.kind==8) then some (G.kind==8) else some (G.kind==9)) (λW=>if W then bd (idx G.kids 0) λY=>some (.inr<|.inr Y) else some (.inl ()))) (el (λ(_:Unit)=>some<|.inl ()) some)) (el (λ(_:Unit)=>some (-1)) some)
def d_T (x1:Int)(x2:Int):Option Int :=
 if (decide<|x2<x1) then some x2 else some x1
def g_V (n:Nat)(x1:Int)(x2:Int):Option Bt :=
 bd (α:=Bool) (bd (a_W x2 1 4) λI=>if (!I) then some true else bd (d_Q x2) λJ=>bd (a_W x1 0<|l_ J 1) λL=>some (!L)) (λO=>if O then some ([]:Bt) else bd (L_ (σ:=Bt×Int) (ρ:=Bt) (un2 λH G=>if (decide<|0<=G) then bd (nn<|W_ 8 G) λY=>bd (psh H<|mkB<|a_t .i64 x1<|W_ 8 G) λV=>some (.next (V,l_ G 1)) else some (.brk (H,G))) n (([]:Bt),l_ x2 1)) (el (un2 λH G=>some H)<|λW=>some W))
def f_L (x1:Bt)(x2:Bt):Option Bool :=
 if ((x1.length:Int) != (x2.length:Int)) then some false else bd (n_ (σ:=Unit) (ρ:=Bool) (λk10=>(λ(_:Unit)=>bd (idx x1 (k10:Int)) λG=>bd (idx x2 (k10:Int)) λH=>if ((byteI G) != (byteI H)) then some (.ret false) else some (.next ()))) x1.length 0 ()) (el (λ(_:Unit)=>some true)<|λI=>some I)
def j_z (x1:Int)(x2:Int):Option Bool :=
 some (decide<|x1<x2)
def k_O (x2:Int)(x3:List Int):Option Int :=
 bd (n_ (σ:=Int) (ρ:=Int) (λI=>(λG=>bd (idx x3 (I:Int)) λH=>bd (j_z H G) λJ=>bd (α:=Int) (if J then some H else some G)<|λL=>some<|.next L)) x3.length 0 x2) (el (λG=>some G)<|λO=>some O)
def i_2 (x1:Int)(x2:Int):Option Int :=
 bd (k_O x1 [x2]) λG=>some G
end Go.Vw
namespace Go.Vw
open Go.RowKit Dat
structure j_ where
 path:Str
 part:Val
deriving Inhabited
structure f_T where
 d:c_
 changes:List j_
deriving Inhabited
instance:Dat j_:=Dat.via<|λr=>(r.path,r.part)
theorem f_5 {w:World}{B:Zone}{cs:List Value}{x:j_}(h:rep w B cs x):∃(G:Option Addr)(H I:Nat)(a2:Option Addr)(J L:Nat),cs=[x.path.v,vI x.part.number,.slice G H I,.slice a2 J L]/\x.path.b.length<=LEN/\inI x.part.number/\repS w B (.slice G H I) x.part.bytes/\repS w B (.slice a2 J L) x.part.items:=by
 obtain ⟨c1_,d1_,rfl,g1,O⟩:=h;obtain ⟨rfl,V⟩:=b_l g1;obtain ⟨G,H,I,a2,J,L,rfl,W,Y,p3⟩:=b_j O;exact ⟨G,H,I,a2,J,L,rfl,V,W,Y,p3⟩
theorem q_a {w:World}{B:Zone}{x:j_}{G:Option Addr}{H I:Nat}{a2:Option Addr}{J L:Nat}(O:x.path.b.length<=LEN)(V:inI x.part.number)(W:repS w B (.slice G H I) x.part.bytes)(Y:repS w B (.slice a2 J L) x.part.items):rep w B [x.path.v,vI x.part.number,.slice G H I,.slice a2 J L] x:=(q_l (Str_mk O)<|i_3 V W Y)
theorem h_3 {w:World}{x:j_}{G:Option Addr}{H I:Nat}{a2:Option Addr}{J L:Nat}{S1:List Nat}{S2:List Nat}(O:x.path.b.length<=LEN)(V:inI x.part.number)(W:a_ w S1 (.slice G H I) x.part.bytes)(Y:a_ w S2 (.slice a2 J L) x.part.items):own w (S1++(S2)) [x.path.v,vI x.part.number,.slice G H I,.slice a2 J L] x:=by
 have h:own w _ _ x:=(f_9 (b_U O)<|c_C V W Y)
 simpa using h
end Go.Vw
namespace Go.Vw
def j_G (x1:Bt):Option Bool :=
 some (decide<|1048576<(x1.length:Int))
def h_0 (n:Nat)(x1:Bt):Option p_ :=
 bd (L_ (σ:=Int×Int) (ρ:=p_) (un2 λH G=>bd (α:=Bool) (if (decide<|G<(x1.length:Int)) then some (decide<|G<4000) else some false) (λI=>if I then bd (idx x1 G) λJ=>some (.next (a_C .i64 (· &&& ·) (i_ (i_ (W_ H 137)<|byteI J) 11) 1073741823,i_ G 1)) else some (.brk (H,G)))) n (i_ 193017 (x1.length:Int),0)) (el (un2 λH G=>some (⟨x1,0,H⟩:p_))<|λL=>some L)
def d_X (x1:p_):Option (Int×Int×Int) :=
 bd (α:=Int×Int) (if (decide<|x1.i<(x1.b.length:Int)) then bd (idx x1.b x1.i) λG=>some (a_C .i64 (· &&& ·) (i_ (a_C .i64 (· &&& ·) (a_C .i64 (· ^^^ ·) (a_t .i64 (i_ (W_ x1.h 6364136223846793005) 1442695040888963407) 33)<|a_t .i64 (i_ (W_ x1.h 6364136223846793005) 1442695040888963407) 47) 255)<|byteI G) 255,i_ x1.i 1) else some (a_C .i64 (· &&& ·) (a_C .i64 (· ^^^ ·) (a_t .i64 (i_ (W_ x1.h 6364136223846793005) 1442695040888963407) 33)<|a_t .i64 (i_ (W_ x1.h 6364136223846793005) 1442695040888963407) 47) 255,x1.i)) (un2 λH I=>some (H,I,i_ (W_ x1.h 6364136223846793005) 1442695040888963407))
def a_p (x1:p_)(x2:Int):Option (Int×Int×Int) :=
 if (decide<|x2<=0) then some (0,x1.i,x1.h) else if (decide<|x2<=256) then bd3 (d_X x1) λG H I=>bd (nz x2) λa3=>some (b_3 G x2,H,I) else bd3 (d_X x1) λJ L O=>bd3 (d_X (⟨x1.b,L,O⟩:p_)) λV W Y=>bd3 (d_X (⟨x1.b,W,Y⟩:p_)) λa0 a1 a2=>bd (nz x2) λa4=>some (b_3 (i_ (i_ (W_ J 65536)<|W_ V 256) a0) x2,a1,a2)
def d_s (x1:p_)(x2:List Str):Option (Str×Int×Int) :=
 bd3 (a_p x1 (x2.length:Int)) λG H I=>bd (idx x2 G) λJ=>some (J,H,I)
def d_t (x1:p_)(x2:Int):Option (Bool×Int×Int) :=
 bd3 (a_p x1 x2) λG H I=>some (G==0,H,I)
def f_O (x1:p_)(x2:Int):Option (Bt×Int×Int) :=
 bd (n_ (σ:=Bt×Int×Int) (ρ:=Bt×Int×Int) (λY=>un3 λG H I=>bd3 (d_X (⟨x1.b,H,I⟩:p_)) λJ L O=>bd (psh G<|mkB J) λV=>some<|.next (V,L,O)) x2.toNat 0 (([]:Bt),x1.i,x1.h)) (el (un3 λG H I=>some (G,H,I))<|λW=>some W)
def e_j (x1:p_)(x2:List Int):Option (Int×Int×Int) :=
 bd3 (a_p x1 (x2.length:Int)) λG H I=>bd (idx x2 G) λJ=>some (J,H,I)
def f_P (x1:p_)(x2:c_):Option (Int×Int×Int) :=
 bd (n_ (σ:=List Int) (ρ:=Int×Int×Int) (λH=>(λG=>bd (idx x2.rules (H:Int)) λI=>bd (α:=List Int) (if (I.kind==1) then bd (psh G (H:Int)) λJ=>some J else some G)<|λL=>some<|.next L)) x2.rules.length 0 ([]:List Int)) (el (λG=>bd3 (e_j x1 G) λO V W=>some (O,V,W))<|λY=>some Y)
def f_4 (n:Nat)(x1:p_)(x2:c_)(x3:Int):Option (d_×Int×Int) :=
 bd3 (d_s x1 [(⟨[97]⟩:Str),(⟨[105,116,101,109]⟩:Str),(⟨[98]⟩:Str),(⟨[104,101,97,100]⟩:Str),(⟨[120]⟩:Str)]) λa6 G H=>bd (c_4 n (x2.rules.length:Int)) λa7=>bd (cat a6 a7) λa8=>bd (α:=Sum (Int×Int×Int×Bool×Bt×(List Str)×(List Int)×(List Int))<|d_×Int×Int) (if (x3==1) then bd3 (a_p (⟨x1.b,G,H⟩:p_) 3) λa3 a4 a5=>bd (α:=Int×Int×Bool) (if (decide<|1<(i_ 1 a3)) then bd3 (d_t (⟨x1.b,a4,a5⟩:p_) 2) λa9 aa ab=>some (aa,ab,a9) else some (a4,a5,false)) (un3 λad ae af=>some<|.inl (ad,ae,i_ 1 a3,af,([]:Bt),([]:List Str),([]:List Int),([]:List Int))) else bd (α:=Sum (Int×Int×Int×Bt×(List Str)×(List Int)×(List Int))<|Sum (Int×Int×Int×Bool×Bt×(List Str)×(List Int)×(List Int))<|d_×Int×Int) (if (x3==2) then bd3 (a_p (⟨x1.b,G,H⟩:p_) 3) λah ai aj=>bd3 (f_O (⟨x1.b,ai,aj⟩:p_)<|i_ 1 ah) λak al am=>some (.inl (al,am,0,ak,([]:List Str),([]:List Int),([]:List Int))) else bd (α:=Sum (Int×Int×Int×Bt×(List Str)×(List Int)×(List Int))<|Sum (Int×Int×Int×Bt×(List Str)×(List Int)×(List Int))<|Sum (Int×Int×Int×Bool×Bt×(List Str)×(List Int)×(List Int))<|d_×Int×Int) (if (x3==3) then bd3 (a_p (⟨x1.b,G,H⟩:p_) 4) λan ap aq=>some (.inl (ap,aq,i_ 1 an,([]:Bt),([]:List Str),([]:List Int),([]:List Int))) else bd (α:=Sum (Int×Int×Bt×(List Str)×(List Int)×(List Int))<|Sum (Int×Int×Int×Bt×(List Str)×(List Int)×(List Int))<|Sum (Int×Int×Int×Bt×(List Str)×(List Int)×(List Int))<|Sum (Int×Int×Int×Bool×Bt×(List Str)×(List Int)×(List Int))<|d_×Int×Int) (if (x3==4) then bd3 (f_P (⟨x1.b,G,H⟩:p_) x2) λar au av=>some (.inl (au,av,([]:Bt),([]:List Str),([]:List Int),[ar])) else bd (α:=Sum (Int×Int×Bt×(List Str)×(List Int)×(List Int))<|Sum (Int×Int×Bt×(List Str)×(List Int)×(List Int))<|Sum (Int×Int×Int×Bt×(List Str)×(List Int)×(List Int))<|Sum (Int×Int×Int×Bt×(List Str)×(List Int)×(List Int))<|Sum (Int×Int×Int×Bool×Bt×(List Str)×(List Int)×(List Int))<|d_×Int×Int) (if (x3==5) then bd3 (f_P (⟨x1.b,G,H⟩:p_) x2) λaw ax ay=>bd3 (a_p (⟨x1.b,ax,ay⟩:p_) (x2.rules.length:Int)) λaz aA aB=>some (.inl (aA,aB,([]:Bt),([]:List Str),([]:List Int),[aw,az])) else bd (α:=Sum (Int×Int×Bt×(List Str)×(List Int)×(List Int))<|Sum (Int×Int×Bt×(List Str)×(List Int)×(List Int))<|Sum (Int×Int×Bt×(List Str)×(List Int)×(List Int))<|Sum (Int×Int×Int×Bt×(List Str)×(List Int)×(List Int))<|Sum (Int×Int×Int×Bt×(List Str)×(List Int)×(List Int))<|Sum (Int×Int×Int×Bool×Bt×(List Str)×(List Int)×(List Int))<|d_×Int×Int) (if (x3==6) then bd3 (a_p (⟨x1.b,G,H⟩:p_) 3) λaC aD aE=>bd (L_ (σ:=Int×Int×Int×(List Str)×(List Int)) (ρ:=d_×Int×Int) (un5 λI L O V W=>if (decide<|0<I) then bd3 (d_s (⟨x1.b,L,O⟩:p_) [(⟨[112]⟩:Str),(⟨[113]⟩:Str),(⟨[114]⟩:Str)]) λaF aG aH=>bd (c_4 n I) λaI=>bd (cat aF aI) λaJ=>bd (psh V aJ) λaK=>bd3 (a_p (⟨x1.b,aG,aH⟩:p_) (x2.rules.length:Int)) λaL aM aN=>bd (psh W aL) λaO=>some (.next (l_ I 1,aM,aN,aK,aO)) else some (.brk (I,L,O,V,W))) n (i_ 1 aC,aD,aE,([]:List Str),([]:List Int))) (el (un5 λI L O V W=>some<|.inl (L,O,([]:Bt),V,([]:List Int),W))<|λaP=>some<|.inr<|.inr<|.inr<|.inr<|.inr<|.inr aP) else bd (α:=Sum (Int×Int×Bt×(List Int)×(List Int))<|Sum (Int×Int×Bt×(List Str)×(List Int)×(List Int))<|Sum (Int×Int×Bt×(List Str)×(List Int)×(List Int))<|Sum (Int×Int×Bt×(List Str)×(List Int)×(List Int))<|Sum (Int×Int×Int×Bt×(List Str)×(List Int)×(List Int))<|Sum (Int×Int×Int×Bt×(List Str)×(List Int)×(List Int))<|Sum (Int×Int×Int×Bool×Bt×(List Str)×(List Int)×(List Int))<|d_×Int×Int) (if (x3==7) then bd3 (f_P (⟨x1.b,G,H⟩:p_) x2) λaQ aR aS=>bd3 (a_p (⟨x1.b,aR,aS⟩:p_) 3) λaT aU aV=>bd (L_ (σ:=Int×Int×Int×(List Int)×(List Int)) (ρ:=d_×Int×Int) (un5 λY a0 a1 J a2=>if (decide<|0<Y) then bd3 (a_p (⟨x1.b,a0,a1⟩:p_) 4) λaW aX aY=>bd (psh J<|i_ (W_ 4 (J.length:Int)) aW) λaZ=>bd3 (a_p (⟨x1.b,aX,aY⟩:p_) (x2.rules.length:Int)) λb0 b3 b4=>bd (psh a2 b0) λb5=>some (.next (l_ Y 1,b3,b4,aZ,b5)) else some (.brk (Y,a0,a1,J,a2))) n (i_ 1 aT,aU,aV,([]:List Int),[aQ])) (el (un5 λY a0 a1 J a2=>some<|.inl (a0,a1,([]:Bt),J,a2))<|λb6=>some<|.inr<|.inr<|.inr<|.inr<|.inr<|.inr<|.inr b6) else bd (α:=Bool) (if (x3==8) then some (x3==8) else some (x3==9)) (λb7=>bd (α:=Int×Int×Bt×(List Int)) (if b7 then bd3 (a_p (⟨x1.b,G,H⟩:p_) (x2.rules.length:Int)) λb8 b9 ba=>some (b9,ba,([]:Bt),[b8]) else bd (α:=Int×Int×Bt) (if (x3==10) then bd3 (e_j (⟨x1.b,G,H⟩:p_) [0,10,59,255]) λbb bc be=>some (bc,be,[mkB bb]) else some (G,H,([]:Bt))) (un3 λbf bg bh=>some (bf,bg,bh,([]:List Int))))<|un4 λbi bj bk bm=>some<|.inl (bi,bj,bk,([]:List Int),bm))) (el (un5 λbn bo bp bq br=>some<|.inl (bn,bo,bp,([]:List Str),bq,br)) some)) (el (un6 λbs bt bu bv bw bx=>some<|.inl (bs,bt,bu,bv,bw,bx)) some)) (el (un6 λbz bA bB bC bD bE=>some<|.inl (bz,bA,bB,bC,bD,bE)) some)) (el (un6 λbF bG bH bI bJ bK=>some<|.inl (bF,bG,0,bH,bI,bJ,bK)) some)) (el (un7 λbL bM bN bO bP bR bS=>some<|.inl (bL,bM,bN,bO,bP,bR,bS)) some)) (el (un7 λbT bU bV bW bX bY bZ=>some<|.inl (bT,bU,bV,false,bW,bX,bY,bZ)) some))<|el (un8 λc0 c1 c2 c3 c4 c5 c6 c7=>some ((⟨a8,x3,c2,c3,c4,c5,c6,c7⟩:d_),c0,c1)) some
def i_7 (n:Nat)(x1:p_):Option (c_×Int×Int) :=
 bd3 (f_4 n x1 (⟨([]:List d_)⟩:c_) 1) λL O V=>bd (psh ([]:List d_) L) λW=>bd3 (a_p (⟨x1.b,O,V⟩:p_) 6) λY a0 a1=>bd (L_ (σ:=Int×Int×Int×(List d_)) (ρ:=c_×Int×Int) (un4 λH I J G=>if (decide<|0<H) then bd3 (a_p (⟨x1.b,I,J⟩:p_) 10) λa2 a3 a4=>bd3 (f_4 n (⟨x1.b,a3,a4⟩:p_) (⟨G⟩:c_)<|i_ 1 a2) λa5 a6 a7=>bd (psh G a5) λa8=>some (.next (l_ H 1,a6,a7,a8)) else some (.brk (H,I,J,G))) n (Y,a0,a1,W))<|el (un4 λH I J G=>some ((⟨G⟩:c_),I,J))<|λa9=>some a9
structure j_H where
 spec_l9Make:p_->c_->Int->Int->Option (Val×Int×Int)
def i_8 (n:Nat)(rec:j_H)(x1:p_)(x2:c_)(x3:Int)(x4:Int):Option (Val×Int×Int) :=
 bd (idx x2.rules x3) λG=>bd (α:=Sum (Int×Int×Int×Bt×(List Val))<|Val×Int×Int) (if (G.kind==1) then bd (d_Q G.size) λa7=>bd (d_T a7 70000) λa8=>bd3 (a_p x1 a8) λa9 aa ab=>some (.inl (aa,ab,a9,([]:Bt),([]:List Val))) else bd (α:=Sum (Int×Int×Int×Bt×(List Val))<|Sum (Int×Int×Int×Bt×(List Val))<|Val×Int×Int) (if (G.kind==3) then bd3 (f_O x1 G.size) λad ae af=>some (.inl (ae,af,0,ad,([]:List Val))) else bd (α:=Bool) (if (G.kind==4) then some (G.kind==4) else some (G.kind==10)) (λah=>bd (α:=Sum (Int×Int×Int×Bt×(List Val))<|Sum (Int×Int×Int×Bt×(List Val))<|Sum (Int×Int×Int×Bt×(List Val))<|Val×Int×Int) (if ah then bd (d_T x4 6) λai=>bd3 (a_p x1<|i_ ai 1) λaj ak al=>bd3 (f_O (⟨x1.b,ak,al⟩:p_) aj) λO V W=>bd (α:=Bool×Int×Int) (if (G.kind==10) then if (decide<|0<(O.length:Int)) then bd3 (d_t (⟨x1.b,V,W⟩:p_) 2) λam an ap=>some (am,an,ap) else some (false,V,W) else some (false,V,W)) (un3 λaq a2 a3=>bd (α:=Int×Int×Bt) (if aq then bd (idx G.bytes 0) λar=>bd3 (e_j (⟨x1.b,a2,a3⟩:p_) [byteI ar,92]) λau av aw=>bd (upd O 0<|mkB au) λax=>some (av,aw,ax) else some (a2,a3,O))<|un3 λay az aA=>some<|.inl (ay,az,0,aA,([]:List Val))) else bd (α:=Sum (Int×Int×Int×(List Val))<|Sum (Int×Int×Int×Bt×(List Val))<|Sum (Int×Int×Int×Bt×(List Val))<|Sum (Int×Int×Int×Bt×(List Val))<|Val×Int×Int) (if (G.kind==5) then bd (d_T x4 3) λaB=>bd3 (a_p x1<|i_ aB 1) λaC aD aE=>bd (L_ (σ:=Int×Int×Int×(List Val)) (ρ:=Val×Int×Int) (un4 λH I J L=>if (decide<|0<H) then bd (idx G.kids 1) λaF=>bd3 (rec.spec_l9Make (⟨x1.b,I,J⟩:p_) x2 aF<|c_1 x4 2) λaG aH aI=>bd (psh L aG) λaJ=>some (.next (l_ H 1,aH,aI,aJ)) else some (.brk (H,I,J,L))) n (aC,aD,aE,([]:List Val))) (el (un4 λH I J L=>some<|.inl (I,J,0,L))<|λaK=>some<|.inr<|.inr<|.inr<|.inr aK) else bd (α:=Sum (Int×Int×Int×(List Val))<|Sum (Int×Int×Int×(List Val))<|Sum (Int×Int×Int×Bt×(List Val))<|Sum (Int×Int×Int×Bt×(List Val))<|Sum (Int×Int×Int×Bt×(List Val))<|Val×Int×Int) (if (G.kind==6) then bd (n_ (σ:=Int×Int×(List Val)) (ρ:=Val×Int×Int) (λaL=>un3 λY a0 a1=>bd (idx G.kids (aL:Int)) λaM=>bd3 (rec.spec_l9Make (⟨x1.b,Y,a0⟩:p_) x2 aM<|c_1 x4 2) λaN aO aP=>bd (psh a1 aN) λaQ=>some<|.next (aO,aP,aQ)) G.kids.length 0 (x1.i,x1.h,([]:List Val))) (el (un3 λY a0 a1=>some<|.inl (Y,a0,0,a1))<|λaR=>some<|.inr<|.inr<|.inr<|.inr<|.inr aR) else bd (α:=Int×Int×Int×(List Val)) (if (G.kind==7) then bd3 (a_p x1 (G.tags.length:Int)) λa4 aS aT=>bd (idx G.tags a4) λaU=>bd (idx G.kids<|i_ a4 1) λaV=>bd3 (rec.spec_l9Make (⟨x1.b,aS,aT⟩:p_) x2 aV<|c_1 x4 2) λaW aX aY=>some (aX,aY,aU,[aW]) else bd (α:=Int×Int×(List Val)) (if (G.kind==8) then bd3 (d_t x1 2) λaZ a5 a6=>bd (α:=Int×Int×(List Val)) (if aZ then bd (idx G.kids 0) λb0=>bd3 (rec.spec_l9Make (⟨x1.b,a5,a6⟩:p_) x2 b0<|c_1 x4 2) λb3 b4 b5=>some (b4,b5,[b3]) else some (a5,a6,([]:List Val))) (un3 λb6 b7 b8=>some (b6,b7,b8)) else bd (α:=Int×Int×(List Val)) (if (G.kind==9) then bd (idx G.kids 0) λb9=>bd3 (rec.spec_l9Make x1 x2 b9<|c_1 x4 2) λba bb bc=>some (bb,bc,[ba]) else some (x1.i,x1.h,([]:List Val))) (un3 λbe bf bg=>some (be,bf,bg))) (un3 λbh bi bj=>some (bh,bi,0,bj))) (un4 λbk bm bn bo=>some<|.inl (bk,bm,bn,bo))) (el (un4 λbp bq br bs=>some<|.inl (bp,bq,br,bs)) some)) (el (un4 λbt bu bv bw=>some<|.inl (bt,bu,bv,([]:Bt),bw)) some))<|el (un5 λbx bz bA bB bC=>some<|.inl (bx,bz,bA,bB,bC)) some)) (el (un5 λbD bE bF bG bH=>some<|.inl (bD,bE,bF,bG,bH)) some))<|el (un5 λbI bJ bK bL bM=>some ((⟨bK,bL,bM⟩:Val),bI,bJ)) some
def f_Q:Nat->j_H
 | 0=>⟨λ_ _ _ _=>none⟩
 | n+1=>⟨i_8 n<|f_Q n⟩
def h_1 (n:Nat):=(f_Q n).spec_l9Make
def i_9 (n:Nat)(x1:Int)(x2:Int):Option Bt :=
 bd (g_V n x1 x2) λI=>bd (L_ (σ:=Bt×Int) (ρ:=Bt) (un2 λH G=>if (decide<|0<=G) then bd (idx I G) λJ=>bd (psh H J) λL=>some (.next (L,l_ G 1)) else some (.brk (H,G))) n (([]:Bt),l_ (I.length:Int) 1))<|el (un2 λH G=>some H)<|λO=>some O
def e_k (n:Nat)(x1:d_)(x2:Int):Option Bt :=
 if x1.little then bd (i_9 n x2 x1.size) λG=>some G else bd (g_V n x2 x1.size) λH=>some H
structure j_I where
 spec_l11Print:c_->Int->Val->Option Bt
def c_n (n:Nat)(rec:j_I)(x1:c_)(x2:Int)(x3:Val):Option Bt :=
 bd (idx x1.rules x2) λG=>bd (n_ (σ:=Bt) (ρ:=Bt) (λL=>(λH=>bd (idx x3.items (L:Int)) λO=>bd (a_D G x3.number (L:Int)) λV=>bd (rec.spec_l11Print x1 V O) λW=>bd (app H W) λY=>some<|.next Y)) x3.items.length 0 ([]:Bt)) (el (λH=>if (G.kind==1) then bd (e_k n G x3.number) λa0=>some a0 else if (G.kind==2) then bd (app ([]:Bt) G.bytes) λa1=>some a1 else if (G.kind==4) then bd (idx G.kids 0) λa2=>bd (idx x1.rules a2) λa3=>bd (e_k n a3 (x3.bytes.length:Int)) λa4=>bd (app a4 x3.bytes) λa5=>some a5 else if (G.kind==5) then bd (idx G.kids 0) λa6=>bd (idx x1.rules a6) λa7=>bd (e_k n a7 (x3.items.length:Int)) λa8=>bd (app a8 H) λa9=>some a9 else if (G.kind==7) then bd (idx G.kids 0) λaa=>bd (idx x1.rules aa) λab=>bd (e_k n ab x3.number) λad=>bd (app ad H) λae=>some ae else if (G.kind==8) then bd (app [mkB (x3.items.length:Int)] H) λaf=>some af else if (G.kind==9) then bd (h_U H) λah=>bd (psh H<|mkB ah) λai=>some ai else if (G.kind==10) then bd (n_ (σ:=Bt) (ρ:=Bt) (λJ=>(λI=>bd (α:=Bool) (bd (idx x3.bytes (J:Int)) λaj=>bd (idx G.bytes 0) λak=>if ((byteI aj)==(byteI ak)) then some true else bd (idx x3.bytes (J:Int)) λal=>some<|(byteI al)==(byteI (92:UInt8))) (λam=>bd (α:=Bt) (if am then bd (psh I (92:UInt8)) λan=>some an else some I)<|λap=>bd (idx x3.bytes (J:Int)) λaq=>bd (psh ap aq) λar=>some<|.next ar))) x3.bytes.length 0 H) (el (λI=>bd (idx G.bytes 0) λau=>bd (psh I au) λav=>some av)<|λaw=>some aw) else if (G.kind==3) then bd (app ([]:Bt) x3.bytes) λax=>some ax else some H)<|λay=>some ay)
def f_R:Nat->j_I
 | 0=>⟨λ_ _ _=>none⟩
 | n+1=>⟨c_n n<|f_R n⟩
def h_2 (n:Nat):=(f_R n).spec_l11Print
structure n_c where
 spec_l18Paths:c_->Int->Val->Str->Option (List Str)
def f_S (n:Nat)(rec:n_c)(x1:c_)(x2:Int)(x3:Val)(x4:Str):Option (List Str) :=
 bd (n_ (σ:=List Str) (ρ:=List Str) (λk10=>(λG=>bd (idx x1.rules x2) λH=>bd (idx x3.items (k10:Int)) λI=>bd (cat x4 (⟨[47]⟩:Str)) λJ=>bd (a_D H x3.number (k10:Int)) λL=>bd (c_M n H (k10:Int)) λO=>bd (cat J O) λV=>bd (rec.spec_l18Paths x1 L I V) λW=>bd (app G W) λY=>some<|.next Y)) x3.items.length 0 [x4]) (el (λG=>some G)<|λa0=>some a0)
def d_u:Nat->n_c
 | 0=>⟨λ_ _ _ _=>none⟩
 | n+1=>⟨f_S n<|d_u n⟩
def j_J (n:Nat):=(d_u n).spec_l18Paths
def e_l (n:Nat)(x1:p_)(x2:c_)(x3:Val):Option (Str×Int×Int) :=
 bd (j_J n x2 (l_ (x2.rules.length:Int) 1) x3 (⟨[]⟩:Str)) λI=>bd3 (a_p x1 (I.length:Int)) λO V W=>bd (idx I O) λJ=>bd3 (a_p (⟨x1.b,V,W⟩:p_) 8) λL G H=>if (L==0) then bd3 (d_s (⟨x1.b,G,H⟩:p_) [(⟨[47,48]⟩:Str),(⟨[47,42]⟩:Str),(⟨[47,63]⟩:Str),(⟨[47,43]⟩:Str),(⟨[47,112,49]⟩:Str),(⟨[47,48,48]⟩:Str),(⟨[47]⟩:Str),(⟨[120]⟩:Str),(⟨[47,57]⟩:Str)]) λY a0 a1=>bd (cat J Y) λa2=>some (a2,a0,a1) else if (L==1) then bd3 (d_s (⟨x1.b,G,H⟩:p_) [(⟨[112,49]⟩:Str),(⟨[47]⟩:Str),(⟨[47,47]⟩:Str),(⟨[47,112,49]⟩:Str),(⟨[47,48]⟩:Str)]) λa3 a4 a5=>some (a3,a4,a5) else some (J,G,H)
end Go.Vw
namespace Go.Vw
def g_C (x1:c_)(x2:d_)(x3:Val):Option Bool :=
 if (x2.kind==1) then bd (α:=Bool) (bd (d_Q x2.size) λG=>bd (a_W x3.number 0<|l_ G 1) λH=>if H then if ((x3.bytes.length:Int)==0) then some ((x3.items.length:Int)==0) else some false else some false) (λI=>some I) else if (x2.kind==2) then bd (α:=Bool) (if (x3.number==0) then if ((x3.bytes.length:Int)==0) then some ((x3.items.length:Int)==0) else some false else some false) (λJ=>some J) else if (x2.kind==3) then bd (α:=Bool) (if (x3.number==0) then if ((x3.bytes.length:Int)==x2.size) then some ((x3.items.length:Int)==0) else some false else some false) (λL=>some L) else if (x2.kind==4) then bd (α:=Bool) (if (x3.number==0) then bd (idx x2.kids 0) λO=>bd (e_Y x1 O) λV=>bd (d_T 400 V) λW=>if (decide<|(x3.bytes.length:Int)<=W) then some ((x3.items.length:Int)==0) else some false else some false) (λY=>some Y) else if (x2.kind==10) then bd (α:=Bool) (if (x3.number==0) then if (decide<|(x3.bytes.length:Int)<=400) then some ((x3.items.length:Int)==0) else some false else some false) (λa0=>some a0) else if (x2.kind==5) then bd (α:=Bool) (if (x3.number==0) then if ((x3.bytes.length:Int)==0) then bd (idx x2.kids 0) λa1=>bd (e_Y x1 a1) λa2=>bd (d_T 40 a2) λa3=>some (decide<|(x3.items.length:Int)<=a3) else some false else some false) (λa4=>some a4) else if (x2.kind==6) then bd (α:=Bool) (if (x3.number==0) then if ((x3.bytes.length:Int)==0) then some ((x3.items.length:Int)==(x2.kids.length:Int)) else some false else some false) (λa5=>some a5) else if (x2.kind==7) then bd (α:=Bool) (if ((x3.bytes.length:Int)==0) then if ((x3.items.length:Int)==1) then bd (a_D x2 x3.number 0) λa6=>some (decide<|0<=a6) else some false else some false) (λa7=>some a7) else if (x2.kind==8) then bd (α:=Bool) (if (x3.number==0) then if ((x3.bytes.length:Int)==0) then some (decide<|(x3.items.length:Int)<=1) else some false else some false) (λa8=>some a8) else bd (α:=Bool) (if (x3.number==0) then if ((x3.bytes.length:Int)==0) then some ((x3.items.length:Int)==1) else some false else some false) (λa9=>some a9)
structure p_a where
 spec_l9Valid:c_->Int->Val->Option Bool
def g_D (n:Nat)(rec:p_a)(x1:c_)(x2:Int)(x3:Val):Option Bool :=
 bd (idx x1.rules x2) λG=>bd (g_C x1 G x3) λI=>if (!I) then some false else bd (n_ (σ:=Unit) (ρ:=Bool) (λH=>(λ(_:Unit)=>bd (idx x3.items (H:Int)) λJ=>bd (a_D G x3.number (H:Int)) λL=>bd (rec.spec_l9Valid x1 L J) λO=>if (!O) then some (.ret false) else some (.next ()))) x3.items.length 0 ()) (el (λ(_:Unit)=>some true)<|λV=>some V)
def e_c:Nat->p_a
 | 0=>⟨λ_ _ _=>none⟩
 | n+1=>⟨g_D n<|e_c n⟩
def m_2 (n:Nat):=(e_c n).spec_l9Valid
def b_P (n:Nat)(x1:c_)(x2:Int)(x3:Val):Option Bool :=
 bd (α:=Bool) (bd (d_q x1 x2) λG=>if G then bd (m_2 n x1 x2 x3) λH=>some H else some false) (λI=>some I)
end Go.Vw
namespace Go.Vw
def p_L (n:Nat)(x1:Int)(x2:Str)(x3:Str)(x4:Str):Option Str :=
 bd (c_4 n x1) λG=>bd (cat G x2) λH=>bd (cat H x3) λI=>bd (cat I x4) λJ=>some J
def m_R (x1:Bt):Option Str :=
 bd (n_ (σ:=Str) (ρ:=Str) (λH=>(λG=>bd (idx x1 (H:Int)) λI=>bd (idx x1 (H:Int)) λJ=>bd (b_w (⟨[48,49,50,51,52,53,54,55,56,57,97,98,99,100,101,102]⟩:Str) (c_1 (byteI I) 16)<|i_ (c_1 (byteI I) 16) 1) λL=>bd (cat G L) λO=>bd (b_w (⟨[48,49,50,51,52,53,54,55,56,57,97,98,99,100,101,102]⟩:Str) (b_3 (byteI J) 16)<|i_ (b_3 (byteI J) 16) 1) λV=>bd (cat O V) λW=>some<|.next W)) x1.length 0 (⟨[]⟩:Str)) (el (λG=>some G)<|λY=>some Y)
structure k_Q where
 spec_l10Text:c_->Int->Val->Option Str
 spec_l10List:c_->d_->Val->Option Str
def b_p (n:Nat)(rec:k_Q)(x1:c_)(x2:Int)(x3:Val):Option Str :=
 bd (idx x1.rules x2) λG=>bd (rec.spec_l10List x1 G x3) λH=>if (G.kind==1) then bd (c_4 n x3.number) λI=>some I else if (G.kind==2) then some (⟨[33]⟩:Str) else if (G.kind==5) then bd (cat (⟨[91]⟩:Str) H) λJ=>bd (cat J (⟨[93]⟩:Str)) λL=>some L else if (G.kind==6) then bd (cat (⟨[123]⟩:Str) H) λO=>bd (cat O (⟨[125]⟩:Str)) λV=>some V else if (G.kind==7) then bd (p_L n x3.number (⟨[60]⟩:Str) H (⟨[62]⟩:Str)) λW=>some W else if (G.kind==8) then if ((x3.items.length:Int)==0) then some (⟨[45]⟩:Str) else bd (cat (⟨[63]⟩:Str) H) λY=>some Y else if (G.kind==9) then bd (cat (⟨[40]⟩:Str) H) λa0=>bd (cat a0 (⟨[41]⟩:Str)) λa1=>some a1 else bd (m_R x3.bytes) λa2=>bd (cat (⟨[120]⟩:Str) a2) λa3=>some a3
def m_S (n:Nat)(rec:k_Q)(x1:c_)(x2:d_)(x3:Val):Option Str :=
 bd (n_ (σ:=Str) (ρ:=Str) (λk10=>(λG=>bd (α:=Str) (if (decide<|0<(k10:Int)) then bd (cat G (⟨[44]⟩:Str)) λI=>some I else some G) (λH=>bd (α:=Str) (if (x2.kind==6) then bd (idx x2.names (k10:Int)) λJ=>bd (cat H J) λL=>bd (cat L (⟨[58]⟩:Str)) λO=>some O else some H)<|λV=>bd (idx x3.items (k10:Int)) λW=>bd (a_D x2 x3.number (k10:Int)) λY=>bd (rec.spec_l10Text x1 Y W) λa0=>bd (cat V a0) λa1=>some<|.next a1))) x3.items.length 0 (⟨[]⟩:Str)) (el (λG=>some G)<|λa2=>some a2)
def c_D:Nat->k_Q
 | 0=>⟨λ_ _ _=>none,λ_ _ _=>none⟩
 | n+1=>⟨b_p n<|c_D n,m_S n<|c_D n⟩
def m_T (n:Nat):=(c_D n).spec_l10Text
def m_U (n:Nat)(x1:c_)(x2:Int)(x3:Val):Option Str :=
 bd (b_P n x1 x2 x3) λG=>if (!G) then some (⟨[]⟩:Str) else bd (m_T n x1 x2 x3) λH=>some H
def g_Y (x1:c_)(x2:Int)(x3:Val):Option Bool :=
 bd (idx x1.rules x2) λG=>bd (α:=Sum (Int×Int×Int) Bool) (if (G.kind==1) then bd (d_S x1 x2) λI=>some (.inl (I,0,0)) else bd (α:=Sum (Int×Int×Int)<|Sum (Int×Int×Int) Bool) (if (G.kind==3) then if ((x3.bytes.length:Int) != G.size) then some (.inr<|.inr false) else some (.inl (0,G.size,0)) else bd (α:=Int×Int×Int) (if (G.kind==4) then bd (idx G.kids 0) λJ=>bd (d_S x1 J) λL=>bd (i_2 400 L) λO=>some (0,O,0) else bd (α:=Int×Int×Int) (if (G.kind==10) then some (0,400,0) else bd (α:=Int×Int) (if (G.kind==5) then bd (idx G.kids 0) λV=>bd (d_S x1 V) λW=>bd (i_2 40 W) λY=>some (0,Y) else bd (α:=Int×Int) (if (G.kind==6) then some (0,(G.kids.length:Int)) else bd (α:=Int×Int) (if (G.kind==7) then bd (idx G.kids 0) λa0=>bd (d_S x1 a0) λa1=>some (a1,1) else bd (α:=Bool) (if (G.kind==8) then some (G.kind==8) else some (G.kind==9)) (λa2=>bd (α:=Int) (if a2 then some 1 else some 0)<|λa3=>some (0,a3))) (un2 λa4 a5=>some (a4,a5))) (un2 λa6 a7=>some (a6,a7))) (un2 λa8 a9=>some (a8,0,a9))) (un3 λaa ab ad=>some (aa,ab,ad))) (un3 λae af ah=>some<|.inl (ae,af,ah))) (el (un3 λai aj ak=>some<|.inl (ai,aj,ak)) some)) (el (un3 λal am H=>bd (α:=Bool) (if (G.kind==6) then some ((x3.items.length:Int) != H) else bd (α:=Bool) (if (G.kind==7) then some true else some (G.kind==9)) λan=>if an then some ((x3.items.length:Int) != H) else some false) (λap=>if ap then some false else bd (α:=Bool) (bd (c_B x3.number 0 al) λaq=>if aq then if (decide<|(x3.bytes.length:Int)<=am) then some (decide<|(x3.items.length:Int)<=H) else some false else some false) (λar=>some ar))) some)
structure p_M where
 impl_validValue:c_->Int->Val->Option Bool
def g_Z (n:Nat)(rec:p_M)(x1:c_)(x2:Int)(x3:Val):Option Bool :=
 bd (g_Y x1 x2 x3) λH=>if (!H) then some false else bd (n_ (σ:=Unit) (ρ:=Bool) (λk10=>(λ(_:Unit)=>bd (c_5 x1 x2 x3 (k10:Int)) λG=>bd (α:=Bool) (if (decide<|G<0) then some true else bd (idx x3.items (k10:Int)) λI=>bd (rec.impl_validValue x1 G I) λJ=>some (!J)) (λL=>if L then some (.ret false) else some (.next ())))) x3.items.length 0 ()) (el (λ(_:Unit)=>some true)<|λO=>some O)
def e_h:Nat->p_M
 | 0=>⟨λ_ _ _=>none⟩
 | n+1=>⟨g_Z n<|e_h n⟩
def m_V (n:Nat):=(e_h n).impl_validValue
def c_E (n:Nat)(x1:c_)(x2:Int)(x3:Val):Option Bool :=
 bd (α:=Bool) (bd (f_I n x1 x2) λG=>if G then bd (m_V n x1 x2 x3) λH=>some H else some false) (λI=>some I)
def c_N (x1:d_):Option d_y :=
 if (x1.kind==1) then some ((1,([]:List Str)):d_y) else if (x1.kind==2) then some ((2,([]:List Str)):d_y) else if (x1.kind==5) then some ((5,([]:List Str)):d_y) else if (x1.kind==6) then some ((6,x1.names):d_y) else if (x1.kind==7) then some ((7,([]:List Str)):d_y) else if (x1.kind==8) then some ((8,([]:List Str)):d_y) else if (x1.kind==9) then some ((9,([]:List Str)):d_y) else some ((0,([]:List Str)):d_y)
def i_4 (x1:List Str)(x2:Str):Option Str :=
 bd (j_T x1 x2) λG=>some G
def k_R (x1:Int)(x2:Str)(x3:Str)(x4:Str):Option Str :=
 bd (g_T x1) λG=>bd (cat G x2) λH=>bd (cat H x3) λI=>bd (cat I x4) λJ=>some J
def j_A (x1:Bt):Option Str :=
 bd (mk0 ()<|W_ 2 (x1.length:Int)) λW=>bd (n_ (σ:=Bt) (ρ:=Str) (λI=>(λG=>bd (idx x1 (I:Int)) λH=>bd (idx (⟨[48,49,50,51,52,53,54,55,56,57,97,98,99,100,101,102]⟩:Str).b (byteI<|shU H 4)) λJ=>bd (idx (⟨[48,49,50,51,52,53,54,55,56,57,97,98,99,100,101,102]⟩:Str).b (byteI<|H &&& (15:UInt8))) λL=>bd (app G [J,L]) λO=>some<|.next O)) x1.length 0 ([]:Bt))<|el (λG=>some (⟨G⟩:Str))<|λV=>some V
structure m_W where
 impl_valueText:c_->Int->Val->Option Str
 impl_valueText_1:Int->c_->Int->Val->Option Str
def b_g (n:Nat)(rec:m_W)(x1:c_)(x2:Int)(x3:Val):Option Str :=
 bd (idx x1.rules x2) λL=>bd (c_N L) λG=>if (G.1==1) then bd (g_T x3.number) λO=>some O else if (G.1==2) then some (⟨[33]⟩:Str) else if (G.1==5) then bd (n_ (σ:=List Str) (ρ:=Str) (λV=>(λH=>bd (rec.impl_valueText_1 (V:Int) x1 x2 x3) λW=>bd (psh H W) λY=>some<|.next Y)) x3.items.length 0 ([]:List Str)) (el (λH=>bd (i_4 H (⟨[44]⟩:Str)) λa0=>bd (cat (⟨[91]⟩:Str) a0) λa1=>bd (cat a1 (⟨[93]⟩:Str)) λa2=>some a2)<|λa3=>some a3) else if (G.1==6) then bd (n_ (σ:=List Str) (ρ:=Str) (λJ=>(λI=>bd (idx G.2 (J:Int)) λa4=>bd (cat a4 (⟨[58]⟩:Str)) λa5=>bd (rec.impl_valueText_1 (J:Int) x1 x2 x3) λa6=>bd (cat a5 a6) λa7=>bd (psh I a7) λa8=>some<|.next a8)) G.2.length 0 ([]:List Str)) (el (λI=>bd (i_4 I (⟨[44]⟩:Str)) λa9=>bd (cat (⟨[123]⟩:Str) a9) λaa=>bd (cat aa (⟨[125]⟩:Str)) λab=>some ab)<|λad=>some ad) else if (G.1==7) then bd (rec.impl_valueText_1 0 x1 x2 x3) λae=>bd (k_R x3.number (⟨[60]⟩:Str) ae (⟨[62]⟩:Str)) λaf=>some af else if (G.1==8) then if ((x3.items.length:Int)==0) then some (⟨[45]⟩:Str) else bd (rec.impl_valueText_1 0 x1 x2 x3) λah=>bd (cat (⟨[63]⟩:Str) ah) λai=>some ai else if (G.1==9) then bd (rec.impl_valueText_1 0 x1 x2 x3) λaj=>bd (cat (⟨[40]⟩:Str) aj) λak=>bd (cat ak (⟨[41]⟩:Str)) λal=>some al else bd (j_A x3.bytes) λam=>bd (cat (⟨[120]⟩:Str) am) λan=>some an
def j_B (n:Nat)(rec:m_W)(x1:Int)(x2:c_)(x3:Int)(x4:Val):Option Str :=
 bd (idx x4.items x1) λG=>bd (c_5 x2 x3 x4 x1) λH=>bd (rec.impl_valueText x2 H G) λI=>some I
def b_8:Nat->m_W
 | 0=>⟨λ_ _ _=>none,λ_ _ _ _=>none⟩
 | n+1=>⟨b_g n<|b_8 n,j_B n<|b_8 n⟩
def m_X (n:Nat):=(b_8 n).impl_valueText
def j_C (n:Nat)(x1:c_)(x2:Int)(x3:Val):Option Str :=
 bd (c_E n x1 x2 x3) λG=>if (!G) then some (⟨[]⟩:Str) else bd (m_X n x1 x2 x3) λH=>some H
end Go.Vw
namespace Go.Vw
def j_K (x1:Str):Option Str :=
 if (x1.b==(⟨[]⟩:Str).b) then some (⟨[46]⟩:Str) else some x1
end Go.Vw
namespace Go.Vw
def d_Y (n:Nat)(x1:c_)(x2:Int)(x3:Val)(x4:Str):Option Int :=
 bd (L_ (σ:=Int) (ρ:=Int) (λG=>bd (α:=Bool) (if (decide<|G<(x3.items.length:Int)) then bd (d_q x1 x2) λI=>some I else some false) (λJ=>if J then bd (idx x1.rules x2) λL=>bd (c_M n L G) λH=>bd (α:=Bool) (if (H.b != (⟨[]⟩:Str).b) then some (H.b==x4.b) else some false) (λO=>if O then some (.ret G) else some (.next<|i_ G 1)) else some (.brk G))) n 0) (el (λG=>some (-1))<|λV=>some V)
structure n_i where
 spec_CopyValue:Val->Option Val
def f_V (n:Nat)(rec:n_i)(x1:Val):Option Val :=
 bd (α:=Int×Bt×(List Val)) (bd (app ([]:Bt) x1.bytes) λH=>some (x1.number,H,([]:List Val))) (un3 λI J L=>bd (n_ (σ:=List Val) (ρ:=Val) (λO=>(λG=>bd (idx x1.items (O:Int)) λV=>bd (rec.spec_CopyValue V) λW=>bd (psh G W) λY=>some<|.next Y)) x1.items.length 0 L)<|el (λG=>some (⟨I,J,G⟩:Val))<|λa0=>some a0)
def f_6:Nat->n_i
 | 0=>⟨λ_=>none⟩
 | n+1=>⟨f_V n<|f_6 n⟩
def b_Y (n:Nat):=(f_6 n).spec_CopyValue
def c_p (n:Nat)(x1:c_)(x2:Val)(x3:Str):Option (Val×Int×Bool) :=
 bd (f_D x1) λV=>bd2 (h_S n x3) λW Y=>bd (α:=Bool) (if (!Y) then some true else bd (b_P n x1 V x2) λa0=>some (!a0)) (λa1=>if a1 then some ((⟨0,([]:Bt),([]:List Val)⟩:Val),(-1),false) else bd (n_ (σ:=Int×Int×Bt×(List Val)) (ρ:=Val×Int×Bool) (λa2=>un4 λG H J I=>bd (idx W (a2:Int)) λa3=>bd (d_Y n x1 G (⟨H,J,I⟩:Val) a3) λL=>if (decide<|L<0) then some (.ret ((⟨0,([]:Bt),([]:List Val)⟩:Val),(-1),false)) else bd (idx x1.rules G) λa4=>bd (a_D a4 H L) λa5=>bd (idx I L) λO=>some<|.next (a5,O.number,O.bytes,O.items)) W.length 0 (V,x2.number,x2.bytes,x2.items)) (el (un4 λG H J I=>bd (b_Y n (⟨H,J,I⟩:Val)) λa6=>some (a6,G,true))<|λa7=>some a7))
structure n_j where
 spec_EqualValues:Val->Val->Option Bool
def c_O (n:Nat)(rec:n_j)(x1:Val)(x2:Val):Option Bool :=
 bd (α:=Bool) (if (x1.number != x2.number) then some true else bd (f_L x1.bytes x2.bytes) λG=>if (!G) then some true else some ((x1.items.length:Int) != (x2.items.length:Int))) (λH=>if H then some false else bd (n_ (σ:=Unit) (ρ:=Bool) (λk10=>(λ(_:Unit)=>bd (idx x1.items (k10:Int)) λI=>bd (idx x2.items (k10:Int)) λJ=>bd (rec.spec_EqualValues I J) λL=>if (!L) then some (.ret false) else some (.next ()))) x1.items.length 0 ()) (el (λ(_:Unit)=>some true)<|λO=>some O))
def d_6:Nat->n_j
 | 0=>⟨λ_ _=>none⟩
 | n+1=>⟨c_O n<|d_6 n⟩
def d_v (n:Nat):=(d_6 n).spec_EqualValues
end Go.Vw
namespace Go.Vw
def h_l (x1:Str)(x2:Str):Option Bool :=
 some (x1.b==x2.b)
def e_u (x1:List Str)(G:Str):Option Int :=
 bd (n_ (σ:=Unit) (ρ:=Int) (λk10=>(λ(_:Unit)=>bd (idx x1 (k10:Int)) λH=>bd (h_l H G) λI=>if I then some (.ret (k10:Int)) else some (.next ()))) x1.length 0 ()) (el (λ(_:Unit)=>some (-1))<|λJ=>some J)
def d_c (n:Nat)(x1:c_)(x2:Int)(x3:Val)(x4:Str):Option Int :=
 bd (f_I n x1 x2) λI=>if (!I) then some (-1) else bd (idx x1.rules x2) λH=>bd (α:=Sum Int Int) (if (H.kind==5) then bd2 (f_G x4) λJ L=>if (!L) then some (.inr (-1)) else some (.inl J) else bd (α:=Int) (if (H.kind==6) then bd (e_u H.names x4) λO=>some O else some 0) (λV=>some<|.inl V)) (el (λG=>bd (α:=Bool) (if (decide<|G<0) then some true else if (decide<|(x3.items.length:Int)<=G) then some true else bd (g_U n x1 x2 G) λW=>if (W.b != x4.b) then some true else some (x4.b==(⟨[]⟩:Str).b)) (λY=>if Y then some (-1) else some G)) some)
def i_p (n:Nat)(x1:c_)(x2:Val)(x3:List Str):Option ((Option Val)×Int) :=
 bd (e_g x1) λJ=>bd (n_ (σ:=Val×Int) (ρ:=(Option Val)×Int) (λL=>un2 λG H=>bd (idx x3 (L:Int)) λO=>bd (d_c n x1 H G O) λI=>if (decide<|I<0) then some (.ret (none,(-1))) else bd (idx G.items I) λV=>bd (c_5 x1 H G I) λW=>some<|.next (V,W)) x3.length 0 (x2,J))<|el (un2 λG H=>some (some G,H))<|λY=>some Y
structure n_I where
 impl_CopyValue:Val->Option Val
def g_m (n:Nat)(rec:n_I)(x1:Val):Option Val :=
 bd (α:=Int×Bt×(List Val)) (bd (app ([]:Bt) x1.bytes) λH=>bd (mk0 () (x1.items.length:Int)) λa1=>some (x1.number,H,([]:List Val))) (un3 λI J L=>bd (n_ (σ:=List Val) (ρ:=Val) (λO=>(λG=>bd (idx x1.items (O:Int)) λV=>bd (rec.impl_CopyValue V) λW=>bd (psh G W) λY=>some<|.next Y)) x1.items.length 0 L)<|el (λG=>some (⟨I,J,G⟩:Val))<|λa0=>some a0)
def f_n:Nat->n_I
 | 0=>⟨λ_=>none⟩
 | n+1=>⟨g_m n<|f_n n⟩
def b_H (n:Nat):=(f_n n).impl_CopyValue
def e_v (n:Nat)(x1:c_)(x2:Val)(x3:Str):Option (Val×Int×Bool) :=
 bd2 (h_Y n x3) λG H=>bd (α:=Bool) (if (!H) then some true else bd (e_g x1) λI=>bd (c_E n x1 I x2) λJ=>some (!J)) (λL=>if L then some ((⟨0,([]:Bt),([]:List Val)⟩:Val),(-1),false) else bd2 (i_p n x1 x2 G) λO V=>opS O (some ((⟨0,([]:Bt),([]:List Val)⟩:Val),(-1),false))<|λW=>bd (b_H n W) λY=>some (Y,V,true))
structure n_J where
 impl_EqualValues:Val->Val->Option Bool
def e_w (n:Nat)(rec:n_J)(x1:Val)(x2:Val):Option Bool :=
 bd (α:=Bool) (if (x1.number != x2.number) then some true else bd (j_y x1.bytes x2.bytes) λG=>if (!G) then some true else some ((x1.items.length:Int) != (x2.items.length:Int))) (λH=>if H then some false else bd (n_ (σ:=Unit) (ρ:=Bool) (λk10=>(λ(_:Unit)=>bd (idx x1.items (k10:Int)) λI=>bd (idx x2.items (k10:Int)) λJ=>bd (rec.impl_EqualValues I J) λL=>if (!L) then some (.ret false) else some (.next ()))) x1.items.length 0 ()) (el (λ(_:Unit)=>some true)<|λO=>some O))
def e_x:Nat->n_J
 | 0=>⟨λ_ _=>none⟩
 | n+1=>⟨e_w n<|e_x n⟩
def g_n (n:Nat):=(e_x n).impl_EqualValues
end Go.Vw
namespace Go.Vw
structure n_x where
 spec_l24Diff:c_->Int->Val->Val->Str->Option (List j_)
def d_z (n:Nat)(rec:n_x)(x1:c_)(x2:Int)(x3:Val)(x4:Val)(x5:Str):Option (List j_) :=
 bd (d_v n x3 x4) λJ=>if J then some ([]:List j_) else bd (α:=Bool) (if (x3.number != x4.number) then some true else bd (f_L x3.bytes x4.bytes) λL=>if (!L) then some true else if ((x3.items.length:Int) != (x4.items.length:Int)) then some true else some ((x3.items.length:Int)==0)) (λO=>if O then bd (b_Y n x4) λG=>bd (psh ([]:List j_) (⟨x5,(⟨G.number,G.bytes,G.items⟩:Val)⟩:j_)) λV=>some V else bd (idx x1.rules x2) λI=>bd (n_ (σ:=List j_) (ρ:=List j_) (λk10=>(λH=>bd (idx x3.items (k10:Int)) λW=>bd (idx x4.items (k10:Int)) λY=>bd (cat x5 (⟨[47]⟩:Str)) λa0=>bd (a_D I x3.number (k10:Int)) λa1=>bd (c_M n I (k10:Int)) λa2=>bd (cat a0 a2) λa3=>bd (rec.spec_l24Diff x1 a1 W Y a3) λa4=>bd (app H a4) λa5=>some<|.next a5)) x3.items.length 0 ([]:List j_))<|el (λH=>some H)<|λa6=>some a6)
def d_b:Nat->n_x
 | 0=>⟨λ_ _ _ _ _=>none⟩
 | n+1=>⟨d_z n<|d_b n⟩
def q_L (n:Nat):=(d_b n).spec_l24Diff
def e_1 (n:Nat)(x1:c_)(x2:Val)(x3:Val):Option (List j_) :=
 bd (f_D x1) λG=>bd (α:=Bool) (bd (b_P n x1 G x2) λH=>if (!H) then some true else bd (b_P n x1 G x3) λI=>some (!I)) (λJ=>if J then some ([]:List j_) else bd (q_L n x1 G x2 x3 (⟨[]⟩:Str)) λL=>some L)
def j_W (n:Nat)(x1:c_)(x2:Val)(x3:j_):Option Str :=
 bd3 (c_p n x1 x2 x3.path) λV G H=>if (!H) then some (⟨[]⟩:Str) else bd (α:=Str) (if (x3.path.b==(⟨[]⟩:Str).b) then some (⟨[46]⟩:Str) else some x3.path) (λI=>bd (cat I (⟨[61]⟩:Str)) λJ=>bd (m_U n x1 G (⟨x3.part.number,x3.part.bytes,x3.part.items⟩:Val)) λL=>bd (cat J L) λO=>some O)
def n_y (n:Nat)(x1:c_)(x2:Bt)(x3:Bt):Option (List Str) :=
 bd3 (d_R n x1 x2) λH a3 J=>bd3 (d_R n x1 x3) λL a4 O=>bd (α:=Bool) (if (J != 0) then some true else some (O != 0)) (λV=>if V then some ([]:List Str) else bd (e_1 n x1 H L) λI=>bd (n_ (σ:=List Str) (ρ:=List Str) (λW=>(λG=>bd (idx I (W:Int)) λY=>bd (j_W n x1 H Y) λa0=>bd (psh G a0) λa1=>some<|.next a1)) I.length 0 ([]:List Str))<|el (λG=>some G)<|λa2=>some a2)
def h_k (n:Nat)(x1:c_)(x2:Val)(x3:j_):Option Str :=
 bd3 (e_v n x1 x2 x3.path) λV G H=>if (!H) then some (⟨[]⟩:Str) else bd (j_K x3.path) λI=>bd (cat I (⟨[61]⟩:Str)) λJ=>bd (j_C n x1 G (⟨x3.part.number,x3.part.bytes,x3.part.items⟩:Val)) λL=>bd (cat J L) λO=>some O
end Go.Vw
namespace Go.Vw
structure n_C where
 impl_differ_compare:f_T->Int->Val->Val->Str->Option (List j_)
def e_s (n:Nat)(rec:n_C)(x1:f_T)(x2:Int)(x3:Val)(x4:Val)(x5:Str):Option (List j_) :=
 bd (g_n n x3 x4) λI=>if I then some x1.changes else bd (α:=Bool) (if (x3.number != x4.number) then some true else bd (j_y x3.bytes x4.bytes) λJ=>if (!J) then some true else if ((x3.items.length:Int) != (x4.items.length:Int)) then some true else some ((x3.items.length:Int)==0)) (λL=>if L then bd (b_H n x4) λG=>bd (psh x1.changes (⟨x5,(⟨G.number,G.bytes,G.items⟩:Val)⟩:j_)) λO=>some O else bd (n_ (σ:=List j_) (ρ:=List j_) (λk10=>(λH=>bd (idx x3.items (k10:Int)) λV=>bd (idx x4.items (k10:Int)) λW=>bd (cat x5 (⟨[47]⟩:Str)) λY=>bd (c_5 (⟨x1.d.rules⟩:c_) x2 x3 (k10:Int)) λa0=>bd (g_U n (⟨x1.d.rules⟩:c_) x2 (k10:Int)) λa1=>bd (cat Y a1) λa2=>bd (rec.impl_differ_compare (⟨(⟨x1.d.rules⟩:c_),H⟩:f_T) a0 V W a2) λa3=>some<|.next a3)) x3.items.length 0 x1.changes) (el (λH=>some H)<|λa4=>some a4))
def e_t:Nat->n_C
 | 0=>⟨λ_ _ _ _ _=>none⟩
 | n+1=>⟨e_s n<|e_t n⟩
def q_U (n:Nat):=(e_t n).impl_differ_compare
def i_m (n:Nat)(x1:c_)(x2:Val)(x3:Val):Option (List j_) :=
 bd (e_g x1) λG=>bd (α:=Bool) (bd (c_E n x1 G x2) λJ=>if (!J) then some true else bd (c_E n x1 G x3) λL=>some (!L)) (λO=>if O then some ([]:List j_) else bd (q_U n (⟨(⟨x1.rules⟩:c_),([]:List j_)⟩:f_T) G x2 x3 (⟨[]⟩:Str)) λI=>bd (n_ (σ:=List j_) (ρ:=List j_) (λV=>(λH=>bd (idx I (V:Int)) λW=>bd (psh H W) λY=>some<|.next Y)) I.length 0 ([]:List j_))<|el (λH=>some H)<|λa0=>some a0)
def i_n (n:Nat)(x1:c_)(x2:Bt)(x3:Bt):Option (List Str) :=
 bd3 (i_1 n x1 x2) λH a3 J=>bd3 (i_1 n x1 x3) λL a4 O=>bd (α:=Bool) (if (J != 0) then some true else some (O != 0)) (λV=>if V then some ([]:List Str) else bd (i_m n x1 H L) λI=>bd (n_ (σ:=List Str) (ρ:=List Str) (λW=>(λG=>bd (idx I (W:Int)) λY=>bd (h_k n x1 H Y) λa0=>bd (psh G a0) λa1=>some<|.next a1)) I.length 0 ([]:List Str))<|el (λG=>some G)<|λa2=>some a2)
end Go.Vw
namespace Go.Vw
open Go.RowKit Dat
structure c_G where
 d:c_
 out:Bt
deriving Inhabited
end Go.Vw
namespace Go.Vw
structure n_u where
 spec_l22Put:c_->Int->Val->(List Str)->Val->Option Val
def g_g (n:Nat)(rec:n_u)(x1:c_)(x2:Int)(x3:Val)(x4:List Str)(x5:Val):Option Val :=
 if ((x4.length:Int)==0) then bd (b_Y n x5) λI=>some I else bd (b_Y n x3) λG=>bd (idx x4 0) λJ=>bd (d_Y n x1 x2 x3 J) λH=>bd (idx x1.rules x2) λL=>bd (idx x3.items H) λO=>bd (slc x4 1 (x4.length:Int)) λV=>bd (a_D L x3.number H) λW=>bd (rec.spec_l22Put x1 W O V x5) λY=>bd (upd G.items H Y) λa0=>some (⟨G.number,G.bytes,a0⟩:Val)
def f_j:Nat->n_u
 | 0=>⟨λ_ _ _ _ _=>none⟩
 | n+1=>⟨g_g n<|f_j n⟩
def n_v (n:Nat):=(f_j n).spec_l22Put
def f_k (n:Nat)(x1:c_)(x2:Val)(x3:Str)(x4:Val):Option (Val×Bool) :=
 bd3 (c_p n x1 x2 x3) λY G H=>bd (α:=Bool) (if (!H) then some true else bd (b_P n x1 G x4) λI=>some (!I)) (λJ=>if J then bd (b_Y n x2) λL=>some (L,false) else bd2 (h_S n x3) λO a0=>bd (f_D x1) λV=>bd (n_v n x1 V x2 O x4) λW=>some (W,true))
def j_U (n:Nat)(x1:c_)(x2:Val)(x3:List Str):Option ((Option<|Val×(Val->Val))×Int) :=
 bd (e_g x1) λJ=>bd (n_ (σ:=(Val×(Val->Val))×Int) (ρ:=(Option<|Val×(Val->Val))×Int) (λL=>un2 λG H=>bd (idx x3 (L:Int)) λO=>bd (d_c n x1 H G.1 O) λI=>if (decide<|I<0) then some (.ret (none,(-1))) else bd (idx G.1.items I) λV=>bd (c_5 x1 H G.1 I) λW=>some<|.next ((V,λz=>G.2<|.mk G.1.number G.1.bytes<|G.1.items.set I.toNat z),W)) x3.length 0 ((x2,λy=>y),J))<|el (un2 λG H=>some (some G,H))<|λY=>some Y
def e_p (n:Nat)(x1:c_)(x2:Val)(x3:Str)(x4:Val):Option (Val×Bool) :=
 bd2 (h_Y n x3) λG H=>bd (α:=Bool) (if (!H) then some true else bd (e_g x1) λI=>bd (c_E n x1 I x2) λJ=>some (!J)) λL=>if L then bd (b_H n x2) λO=>some (O,false) else bd (b_H n x2) λV=>bd2 (j_U n x1 V G) λW Y=>opS W (bd (b_H n x2) λa0=>some (a0,false)) λa1=>bd (c_E n x1 Y x4) λa2=>if a2 then bd (b_H n x4) λa3=>some (a1.2 a3,true) else bd (b_H n x2) λa4=>some (a4,false)
def d_a (x1:c_G)(x2:Bt):Option Bt :=
 bd (app x1.out x2) λG=>some G
def l_4 (x1:Bt)(x2:UInt8):Option Bt :=
 bd (mk0 ()<|i_ (x1.length:Int) 1) λa0=>bd (n_ (σ:=Bt) (ρ:=Bt) (λI=>(λG=>bd (idx x1 (I:Int)) λH=>bd (α:=Bool) (if ((byteI H)==(byteI x2)) then some true else some ((byteI H)==(byteI (92:UInt8)))) (λJ=>bd (α:=Bt) (if J then bd (psh G (92:UInt8)) λL=>some L else some G)<|λO=>bd (psh O H) λV=>some<|.next V))) x1.length 0 ([]:Bt))<|el (λG=>bd (psh G x2) λW=>some W)<|λY=>some Y
def l_5 (x1:c_G):Option Bool :=
 some (decide<|400<(x1.out.length:Int))
def i_i (n:Nat)(x1:Int)(x2:Int):Option Bt :=
 bd (α:=Bool) (bd (c_B x2 1 4) λJ=>if (!J) then some true else if (decide<|x1<0) then some true else bd (nn<|W_ 8 x2) λY=>some<|decide<|(b_I .i64 1<|W_ 8 x2)<=x1) (λL=>if L then some ([]:Bt) else bd (mk0 (0:UInt8) x2) λO=>bd (L_ (σ:=Int×Bt×Int) (ρ:=Bt) (un3 λH I G=>if (decide<|0<=G) then bd (upd I G<|mkB H) λV=>some (.next (a_t .i64 H 8,V,l_ G 1)) else some (.brk (H,I,G))) n (x1,O,l_ x2 1))<|el (un3 λH I G=>some I)<|λW=>some W)
def l_6 (n:Nat)(x1:Int)(x2:Int):Option Bt :=
 bd (i_i n x1 x2) λJ=>bd (L_ (σ:=Bt×Int×Int) (ρ:=Bt) (un3 λG H I=>if (decide<|H<I) then bd (α:=Bt) (bd (idx G I) λL=>bd (idx G H) λO=>bd (upd G H L) λV=>bd (upd V I O) λW=>some W) (λY=>some<|.next (Y,i_ H 1,l_ I 1)) else some (.brk (G,H,I))) n (J,0,l_ (J.length:Int) 1))<|el (un3 λG H I=>some G)<|λa0=>some a0
def i_j (n:Nat)(x1:d_)(x2:Int):Option Bt :=
 if x1.little then bd (l_6 n x2 x1.size) λG=>some G else bd (i_i n x2 x1.size) λH=>some H
def h_j (n:Nat)(x1:Int)(x2:Int)(x3:c_G):Option Bt :=
 bd (idx x3.d.rules x1) λG=>bd (i_j n G x2) λH=>bd (d_a x3 H) λI=>some I
structure i_k where
 impl_printer_value:c_G->Int->Val->Option Bt
 impl_printer_items:c_G->Int->Val->Option Bt
def c_Q (n:Nat)(rec:i_k)(x1:c_G)(x2:Int)(x3:Val):Option Bt :=
 bd (idx x1.d.rules x2) λG=>bd (α:=Bt) (if (G.kind==1) then bd (h_j n x2 x3.number x1) λJ=>some J else bd (α:=Bt) (if (G.kind==2) then bd (d_a x1 G.bytes) λL=>some L else bd (α:=Bt) (if (G.kind==3) then bd (d_a x1 x3.bytes) λO=>some O else bd (α:=Bt) (if (G.kind==4) then bd (idx G.kids 0) λV=>bd (h_j n V (x3.bytes.length:Int) x1) λW=>bd (d_a (⟨(⟨x1.d.rules⟩:c_),W⟩:c_G) x3.bytes) λY=>some Y else bd (α:=Bt) (if (G.kind==5) then bd (idx G.kids 0) λa0=>bd (h_j n a0 (x3.items.length:Int) x1) λa1=>some a1 else bd (α:=Bt) (if (G.kind==7) then bd (idx G.kids 0) λa2=>bd (h_j n a2 x3.number x1) λa3=>some a3 else bd (α:=Bt) (if (G.kind==8) then bd (d_a x1 [mkB (x3.items.length:Int)]) λa4=>some a4 else bd (α:=Bt) (if (G.kind==10) then bd (idx G.bytes 0) λa5=>bd (l_4 x3.bytes a5) λa6=>bd (d_a x1 a6) λa7=>some a7 else some x1.out) (λa8=>some a8)) (λa9=>some a9)) (λaa=>some aa)) (λab=>some ab)) (λad=>some ad)) (λae=>some ae)) (λaf=>some af)) (λI=>bd (rec.impl_printer_items (⟨(⟨x1.d.rules⟩:c_),I⟩:c_G) x2 x3) λH=>bd (α:=Bt) (if (G.kind==9) then bd (slc H (I.length:Int) (H.length:Int)) λah=>bd (g_Q ah) λai=>bd (d_a (⟨(⟨x1.d.rules⟩:c_),H⟩:c_G) [mkB ai]) λaj=>some aj else some H)<|λak=>some ak)
def l_7 (n:Nat)(rec:i_k)(x1:c_G)(x2:Int)(x3:Val):Option Bt :=
 bd (n_ (σ:=Bt) (ρ:=Bt) (λH=>(λG=>bd (l_5 (⟨(⟨x1.d.rules⟩:c_),G⟩:c_G)) λI=>if I then some (.ret G) else bd (idx x3.items (H:Int)) λJ=>bd (c_5 (⟨x1.d.rules⟩:c_) x2 x3 (H:Int)) λL=>bd (rec.impl_printer_value (⟨(⟨x1.d.rules⟩:c_),G⟩:c_G) L J) λO=>some<|.next O)) x3.items.length 0 x1.out) (el (λG=>some G)<|λV=>some V)
def g_h:Nat->i_k
 | 0=>⟨λ_ _ _=>none,λ_ _ _=>none⟩
 | n+1=>⟨c_Q n<|g_h n,l_7 n<|g_h n⟩
def j_V (n:Nat):=(g_h n).impl_printer_value
end Go.Vw
namespace Go.Vw
structure n_1 where
 spec_l9Bent:p_->Val->Option (Val×Int×Int)
def f_N (n:Nat)(rec:n_1)(x1:p_)(x2:Val):Option (Val×Int×Int) :=
 bd3 (a_p x1 5) λI G H=>bd (α:=Int×Int×Int×Bt×(List Val)) (if (I==0) then bd3 (e_j (⟨x1.b,G,H⟩:p_) [(-1),1,256,4294967296]) λL O V=>some (O,V,L,x2.bytes,x2.items) else bd (α:=Int×Int×Bt×(List Val)) (if (I==1) then bd (psh x2.bytes (1:UInt8)) λW=>some (G,H,W,x2.items) else bd (α:=Int×Int×(List Val)) (if (I==2) then bd (psh x2.items (⟨0,([]:Bt),([]:List Val)⟩:Val)) λY=>some (G,H,Y) else bd (α:=Int×Int×(List Val)) (if (I==3) then bd (α:=Int×Int×(List Val)) (if (decide<|0<(x2.items.length:Int)) then bd3 (a_p (⟨x1.b,G,H⟩:p_) (x2.items.length:Int)) λJ a0 a1=>bd (idx x2.items J) λa2=>bd3 (rec.spec_l9Bent (⟨x1.b,a0,a1⟩:p_) a2) λa3 a4 a5=>some (a4,a5,x2.items.set (J).toNat a3) else some (G,H,x2.items)) (un3 λa6 a7 a8=>some (a6,a7,a8)) else bd (α:=List Val) (if (decide<|0<(x2.items.length:Int)) then bd (slc x2.items 1 (x2.items.length:Int)) λa9=>some a9 else some x2.items) (λaa=>some (G,H,aa))) (un3 λab ad ae=>some (ab,ad,ae))) (un3 λaf ah ai=>some (af,ah,x2.bytes,ai))) (un4 λaj ak al am=>some (aj,ak,x2.number,al,am)))<|un5 λan ap aq ar au=>some ((⟨aq,ar,au⟩:Val),an,ap)
def f_0:Nat->n_1
 | 0=>⟨λ_ _=>none⟩
 | n+1=>⟨f_N n<|f_0 n⟩
def n_2 (n:Nat):=(f_0 n).spec_l9Bent
def i_6 (n:Nat)(x1:p_)(x2:Int):Option (c_×Val×Str×Int×Int×Int) :=
 bd3 (i_7 n x1) λY a0 a1=>bd (α:=Sum (Int×Int×(List d_))<|c_×Val×Str×Int×Int×Int) (if (decide<|0<x2) then bd (n_ (σ:=Int×Int×(List d_)) (ρ:=c_×Val×Str×Int×Int×Int) (λaP=>un3 λJ L I=>bd3 (e_j (⟨x1.b,J,L⟩:p_) [x2,x2,6,9]) λad ae af=>bd3 (f_4 n (⟨x1.b,ae,af⟩:p_) (⟨I⟩:c_) ad) λah ai aj=>bd (psh I ah) λak=>some<|.next (ai,aj,ak)) ((3:Int).toNat) 0 (a0,a1,Y.rules)) (el (un3 λJ L I=>some<|.inl (J,L,I))<|λal=>some<|.inr al) else some (.inl (a0,a1,Y.rules))) (el (un3 λam an G=>bd3 (h_1 n (⟨x1.b,am,an⟩:p_) (⟨G⟩:c_) (l_ (G.length:Int) 1) 10) λH ap aq=>bd3 (e_l n (⟨x1.b,ap,aq⟩:p_) (⟨G⟩:c_) H) λa2 a3 a4=>bd (α:=Bool×Int×Int) (if (decide<|0<x2) then bd3 (d_t (⟨x1.b,a3,a4⟩:p_) 4) λar au av=>some (!ar,au,av) else some (false,a3,a4)) (un3 λaw ax ay=>bd (α:=Sum Str<|c_×Val×Str×Int×Int×Int) (if aw then bd (j_J n (⟨G⟩:c_) (l_ (G.length:Int) 1) H (⟨[]⟩:Str)) λO=>bd (n_ (σ:=Str) (ρ:=c_×Val×Str×Int×Int×Int) (λa5=>(λV=>bd (α:=Int×Bool) (bd (idx O (a5:Int)) λaz=>bd3 (c_p n (⟨G⟩:c_) H az) λaQ aA aB=>some (aA,aB)) (un2 λaC aD=>bd (α:=Bool) (if aD then bd (idx G aC) λaE=>some (aE.kind==x2) else some false) (λaF=>bd (α:=Str) (if aF then bd (idx O (a5:Int)) λaG=>some aG else some V)<|λaH=>some<|.next aH)))) O.length 0 a2) (el (λV=>some<|.inl V)<|λaI=>some<|.inr aI) else some (.inl a2)) (el (λa6=>bd3 (d_t (⟨x1.b,ax,ay⟩:p_) 12) λaJ a7 a8=>bd (α:=Int×Int×Int×Bt×(List Val)) (if aJ then bd3 (n_2 n (⟨x1.b,a7,a8⟩:p_) H) λW aK aL=>some (aK,aL,W.number,W.bytes,W.items) else some (a7,a8,H.number,H.bytes,H.items))<|un5 λaM aN a9 aa ab=>bd3 (c_p n (⟨G⟩:c_) (⟨a9,aa,ab⟩:Val) a6) λaR aO aS=>some ((⟨G⟩:c_),(⟨a9,aa,ab⟩:Val),a6,aO,aM,aN)) some))) some)
end Go.Vw
namespace Go.Vw
def i_5 (n:Nat)(x1:c_)(x2:Bt)(x3:Bt):Option Bool :=
 bd3 (d_R n x1 x2) λG V H=>bd3 (d_R n x1 x3) λI W J=>bd (α:=Bool) (if (H==0) then if (J==0) then bd (d_v n G I) λL=>some L else some false else some false)<|λO=>some O
end Go.Vw
namespace Go.Vw
def h_H (n:Nat)(x1:p_):Option (c_×Val×Val×Int×Int) :=
 bd6 (i_6 n x1 0) λG a1 aH aI a7 a8=>bd3 (h_1 n (⟨x1.b,a7,a8⟩:p_) G (l_ (G.rules.length:Int) 1) 8) λW a9 aa=>bd3 (d_t (⟨x1.b,a9,aa⟩:p_) 3) λab a2 a3=>bd (α:=Sum (Int×Int×Int×Bt×(List Val))<|c_×Val×Val×Int×Int) (if (!ab) then bd (b_Y n a1) λY=>bd3 (a_p (⟨x1.b,a2,a3⟩:p_) 2) λad ae af=>bd (L_ (σ:=Int×Int×Int×Int×Bt×(List Val)) (ρ:=c_×Val×Val×Int×Int) (un6 λL O V H I J=>bd (α:=Bool) (if (decide<|0<L) then bd (b_P n G (l_ (G.rules.length:Int) 1) (⟨H,I,J⟩:Val)) λah=>some ah else some false) (λai=>if ai then bd3 (e_l n (⟨x1.b,O,V⟩:p_) G (⟨H,I,J⟩:Val)) λa4 a5 a6=>bd3 (c_p n G (⟨H,I,J⟩:Val) a4) λaJ aj ak=>bd (α:=Int×Int×Int×Bt×(List Val)) (if ak then bd (α:=Int×Int×Int×Bt×(List Val)) (bd3 (h_1 n (⟨x1.b,a5,a6⟩:p_) G aj 5) λal am an=>bd2 (f_k n G (⟨H,I,J⟩:Val) a4 al) λa0 aK=>some (am,an,a0.number,a0.bytes,a0.items)) (un5 λap aq ar au av=>some (ap,aq,ar,au,av)) else some (a5,a6,H,I,J)) (un5 λaw ax ay az aA=>some<|.next (l_ L 1,aw,ax,ay,az,aA)) else some (.brk (L,O,V,H,I,J)))) n (i_ 1 ad,ae,af,Y.number,Y.bytes,Y.items)) (el (un6 λL O V H I J=>some<|.inl (O,V,H,I,J))<|λaB=>some<|.inr aB) else some (.inl (a2,a3,W.number,W.bytes,W.items)))<|el (un5 λaC aD aE aF aG=>some (G,a1,(⟨aE,aF,aG⟩:Val),aC,aD)) some
def i_I (n:Nat)(x1:Bt):Option (c_×Bt×Bt) :=
 bd (h_0 n x1) λH=>bd5 (h_H n H) λG I J O V=>bd (α:=Bool) (bd (b_P n G (l_ (G.rules.length:Int) 1) I) λW=>if (!W) then some true else bd (b_P n G (l_ (G.rules.length:Int) 1) J) λY=>some (!Y)) (λa0=>if a0 then some (G,[(1:UInt8)],([]:Bt)) else bd (h_2 n G (l_ (G.rules.length:Int) 1) I) λa1=>bd (h_2 n G (l_ (G.rules.length:Int) 1) J) λL=>bd3 (d_t (⟨H.b,O,V⟩:p_) 8) λa2 a5 a6=>bd (α:=Bt) (if a2 then bd (psh L (0:UInt8)) λa3=>some a3 else some L)<|λa4=>some (G,a1,a4))
def i_J (n:Nat)(x1:List j_):Option (List j_) :=
 bd (n_ (σ:=List j_) (ρ:=List j_) (λJ=>(λG=>bd (idx x1 (J:Int)) λL=>bd (idx x1 (J:Int)) λH=>bd (b_Y n (⟨H.part.number,H.part.bytes,H.part.items⟩:Val)) λI=>bd (psh G (⟨L.path,(⟨I.number,I.bytes,I.items⟩:Val)⟩:j_)) λO=>some<|.next O)) x1.length 0 ([]:List j_)) (el (λG=>some G)<|λV=>some V)
def k_w (n:Nat)(x1:Bt):Option (c_×Val×(List j_)) :=
 bd (h_0 n x1) λH=>bd5 (h_H n H) λI J W Y a0=>bd (e_1 n I J W) λG=>bd3 (a_p (⟨H.b,Y,a0⟩:p_) 6) λL O V=>bd (α:=(List j_)×Int×Int) (if (L==0) then bd3 (d_s (⟨H.b,O,V⟩:p_) [(⟨[]⟩:Str),(⟨[47,48]⟩:Str),(⟨[47,110,111,110,101]⟩:Str)]) λa1 a2 a3=>bd (psh G (⟨a1,(⟨0,([]:Bt),([]:List Val)⟩:Val)⟩:j_)) λa4=>some (a4,a2,a3) else bd (α:=List j_) (if (L==1) then bd (i_J n G) λa5=>bd (app G a5) λa6=>some a6 else some G) (λa7=>some (a7,O,V)))<|un3 λa8 a9 aa=>some (I,J,a8)
def i_K (n:Nat)(x1:Bt):Option (c_×Val×(List j_)) :=
 bd3 (k_w n x1) λG H I=>some (G,H,I)
def h_I (n:Nat)(x1:c_)(x2:Val)(x3:List j_):Option (Val×Bool) :=
 bd (b_H n x2) λH=>bd (n_ (σ:=Int×Bt×(List Val)) (ρ:=Val×Bool) (λV=>un3 λI J L=>bd (idx x3 (V:Int)) λG=>bd2 (e_p n x1 (⟨I,J,L⟩:Val) G.path (⟨G.part.number,G.part.bytes,G.part.items⟩:Val)) λO W=>if (!W) then bd (b_H n x2) λY=>some (.ret (Y,false)) else some (.next (O.number,O.bytes,O.items))) x3.length 0 (H.number,H.bytes,H.items))<|el (un3 λI J L=>some ((⟨I,J,L⟩:Val),true))<|λa0=>some a0
def h_J (n:Nat)(x1:c_)(x2:Val)(x3:List j_):Option (Val×Bool) :=
 bd (b_Y n x2) λG=>bd (n_ (σ:=Int×Bt×(List Val)) (ρ:=Val×Bool) (λV=>un3 λH I J=>bd (α:=Int×Bt×(List Val)×Bool) (bd (idx x3 (V:Int)) λW=>bd (idx x3 (V:Int)) λL=>bd2 (f_k n x1 (⟨H,I,J⟩:Val) W.path (⟨L.part.number,L.part.bytes,L.part.items⟩:Val)) λO Y=>some (O.number,O.bytes,O.items,Y)) (un4 λa0 a1 a2 a3=>if (!a3) then bd (b_Y n x2) λa4=>some (.ret (a4,false)) else some (.next (a0,a1,a2)))) x3.length 0 (G.number,G.bytes,G.items))<|el (un3 λH I J=>some ((⟨H,I,J⟩:Val),true))<|λa5=>some a5
def i_L (n:Nat)(x1:c_)(x2:Val)(x3:Val):Option Int :=
 bd (e_1 n x1 x2 x3) λG=>some (G.length:Int)
def i_M (n:Nat)(x1:c_)(x2:Val)(x3:List j_):Option (List j_) :=
 bd (mk0 (⟨(⟨[]⟩:Str),(⟨0,([]:Bt),([]:List Val)⟩:Val)⟩:j_) (x3.length:Int)) λY=>bd (n_ (σ:=(List j_)×Int×Bt×(List Val)) (ρ:=List j_) (λW=>un4 λH I J L=>bd (idx x3 (W:Int)) λG=>bd3 (e_v n x1 (⟨I,J,L⟩:Val) G.path) λO a3 a4=>bd2 (e_p n x1 (⟨I,J,L⟩:Val) G.path (⟨G.part.number,G.part.bytes,G.part.items⟩:Val)) λV a0=>if (!a0) then some (.ret ([]:List j_)) else bd (upd H (l_ (l_ (x3.length:Int) 1) (W:Int)) (⟨G.path,(⟨O.number,O.bytes,O.items⟩:Val)⟩:j_)) λa1=>some<|.next (a1,V.number,V.bytes,V.items)) x3.length 0 (Y,x2.number,x2.bytes,x2.items))<|el (un4 λH I J L=>some H)<|λa2=>some a2
def i_N (n:Nat)(x1:Bt):Option Bool :=
 bd (j_G x1) λY=>if Y then some true else bd3 (i_I n x1) λG H I=>bd (i_n n G H I) λL=>bd (α:=Bool) (bd (h_W n G H) λa0=>if (!a0) then some true else bd (h_W n G I) λa1=>some (!a1)) (λa2=>if a2 then some ((L.length:Int)==0) else bd3 (d_R n G H) λa3 ad ae=>bd3 (d_R n G I) λa4 af ah=>bd3 (i_K n x1) λO J V=>bd2 (h_I n O J V) λa5 W=>bd2 (h_J n O J V) λai a6=>bd (α:=Bool) (bd (i_L n G a3 a4) λa7=>if ((L.length:Int)==a7) then bd (i_5 n G H I) λa8=>if (((L.length:Int)==0)==a8) then if (W==a6) then if W then some true else bd (d_v n a5 J) λa9=>if a9 then bd (i_M n O J V) λaa=>some ((aa.length:Int)==0) else some false else some false else some false else some false)<|λab=>some ab)
end Go.Vw
namespace Go.Vw
open Go.RowKit Dat
theorem q_6 {P:Program}{o:Oper}{a:Act}{w:World}{K K' K1 K2:Act->World->Prop}{Q:Exit->Act->World->Prop}(h:∀a w,K a w->K' a w)(hh:o.wp P a w K (Exit.then K1 Q)):o.wp P a w K' (Exit.then K2 Q):=by
 unfold Oper.wp at *
 generalize (execOp a.eval o).run P w=r at *
 cases r with
 | ok n w' =>
  cases n <;> simp only [Oper.upon] at hh ⊢ <;>
   first
    | exact h _ _ hh
    | exact Calls.mono hh (λe w'' he=>by cases e <;> first | exact h _ _ he | exact he)
    | exact Rows.mono hh<|λ_ _ he=>h _ _ he
 | halt x w'=>cases x <;> simp only [Oper.upon] at hh ⊢ <;> exact hh
theorem k_V {P:Program}{ops:Array Oper}{K K1:Act->World->Prop}{Q:Exit->Act->World->Prop}{G:List Oper}(hk:∀a w,K1 a w->wpList P ops (Exit.then K Q) G a w):∀(l1:List Oper)(a:Act)(w:World),wpList P ops (Exit.then K1 Q) l1 a w->wpList P ops (Exit.then K Q) (l1++G) a w
 | [],a,w,h=>hk a w h
 | o::l1,a,w,h=>by
  rw [List.cons_append]
  unfold wpList at h ⊢
  split at h
  .rename_i hw
   rw [if_pos hw]
   rcases h with h | ⟨h1,h2⟩
   .exact .inl<|q_6 (k_V hk l1) h
   .exact .inr ⟨h1,h2⟩
  .rename_i hw
   rw [if_neg hw]
   exact k_V hk l1 _ _ h
section
variable {P:Program}{N:Nat}{ops:Array Oper}{K:Act->World->Prop}{Q:Exit->Act->World->Prop}{e:Env}{w:World}{l:List Oper}
theorem q_7 (k:Nat)(l:List Oper):l.take k++l.drop k=l:=List.take_append_drop k l
theorem d_W (d:Nat)(u:Bool)(k:Nat)(h1:WL P N ops (λa w'=>w'=w/\Sat N ((d,vB u)::e) a) Q (l.take k) e w)(h2:WL P N ops K Q (l.drop k) ((d,vB u)::e) w):WL P N ops K Q l e w:=λa ha=>by
 rw [← q_7 k l]
 exact k_V (λa w' ⟨hw,hs⟩=>by subst hw;exact h2 a hs) _ a w<|h1 a ha
variable {d:Nat}{u c:Bool}
def k_W (n:Nat)(e:Env):Bool:=(e.take n).all λp=>(e.drop n).all λq=>!Nat.beq p.1 q.1
theorem n_a:∀{e:Env}{t:Nat},(∀q∈e,Nat.beq t q.1=false)->t_ e t=none
 | [],_,_=>rfl
 | (k,v)::e,t,h=>by
  have h1:=h (k,v) List.mem_cons_self;have h2:Nat.beq k t=false:=by rw [← Bool.not_eq_true,Nat.beq_eq] at *;exact λh=>h1 h.symm
  rw [t_,h2]
  exact n_a λq hq=>h q<|List.mem_cons_of_mem _ hq
theorem n_b:∀{G H:Env}{t:Nat},(∀p∈G,Nat.beq p.1 t=false)->t_ (G++H) t=t_ H t
 | [],_,_,_=>rfl
 | (k,v)::G,H,t,h=>by
  rw [List.cons_append,t_,h (k,v) List.mem_cons_self]
  exact n_b λp hp=>h p<|List.mem_cons_of_mem _ hp
theorem q_8 {n:Nat}{e:Env}(h:k_W n e=true){t:Nat}{v:Value}(hl:t_ (e.drop n) t=some v):t_ e t=some v:=by
 have:t_ (e.take n++e.drop n) t=t_ (e.drop n) t:=by
  refine n_b λp hp=>?_
  cases hb:Nat.beq p.1 t with
  | false=>rfl
  | true =>
   exfalso
   have hpt:p.1=t:=Nat.eq_of_beq_eq_true hb;have h1:=List.all_eq_true.1 h p hp
   rw [List.all_eq_true] at h1
   have:=n_a (e:=e.drop n) (t:=t) λq hq=>by
    have:=h1 q hq
    rw [Bool.not_eq_true'] at this
    rw [← hpt];exact this
   rw [this] at hl;cases hl
 rw [List.take_append_drop] at this
 rw [this];exact hl
theorem q_9 (n:Nat){e':Env}{a:Act}(hu:c=u)(G:t_ e' d=some (vB c))(hf:k_W n e'=true)(he:e'.drop n=e)(ha:Sat N e' a):Sat N ((d,vB u)::e) a:=by
 subst hu;subst he;refine ⟨ha.defers,ha.size,λt v ht=>?_⟩
 simp only [t_] at ht
 by_cases hk:d=t
 .subst hk;have hb:Nat.beq d d=true:=by simp
  rw [hb] at ht
  simp only [cond_true,Option.some.injEq] at ht
  subst ht;exact ha.at_ d _ G
 .have hb:Nat.beq d t=false:=by rw [← Bool.not_eq_true,Nat.beq_eq];exact hk
  rw [hb] at ht
  simp only [cond_false] at ht
  exact ha.at_ t v<|q_8 hf ht
theorem WLq (n:Nat){e':Env}(hu:some c=some u)(G:t_ e' d=some (vB c))(hf:k_W n e'=true)(he:e'.drop n=e):WL P N ops (λa w'=>w'=w/\Sat N ((d,vB u)::e) a) Q [] e' w :=
 a_5 λ_ ha=>⟨rfl,q_9 n (Option.some.inj hu) G hf he ha⟩
end
end Go.Vw
universe u
namespace Go.Vw
open Go.RowKit Dat
section
variable {P:Program}{N:Nat}{ops:Array Oper}{K:Act->World->Prop}{Q:Exit->Act->World->Prop}{e:Env}{w:World}{rest:List Oper}
variable {d:Nat}{op:Op}{ty:TypeId}{pos:String}{aft:Array Edge}{x:Operand}
theorem Wn {y:Code}{Q':Exit->Act->World->Prop}(h:WC P N y K Q e w):WL P N ops (KC P y K Q) Q' [] e w:=a_5<|WC.of_KC h
theorem Ws {id:Nat}{l:List Oper}{y:Code}(h:WL P N l.toArray (KC P y K Q) Q l e w):WC P N (.seq (.region id l.toArray false) y) K Q e w:=S_<|a_b h
theorem Wk {y:Code}{Q':Exit->Act->World->Prop}(h:WC P N y K Q e w):WC P N .skip (KC P y K Q) Q' e w:=a_7<|WC.of_KC h
theorem e_f {b:Bool}{o:Option Value}{v:Value}(h:(bif b then o else none)=some v):b=true/\o=some v:=by
 cases b
 .cases h
 .exact ⟨rfl,h⟩
theorem Rm {v:Value}(h:(bif Nat.blt d N then ev e x else none)=some v)(k:WL P N ops K Q rest ((d,v)::e) w):WL P N ops K Q (⟨some d,.move x,ty,pos,aft,none⟩::rest) e w:=R (e_f h).1 (a_c (e_f h).2) k
theorem Ra {v:Value}(h:(bif Nat.blt d N then ev e x else none)=some v)(k:WL P N ops K Q rest ((d,v)::e) w):WL P N ops K Q (⟨some d,.assign x,ty,pos,aft,none⟩::rest) e w:=R (e_f h).1 (a_u (e_f h).2) k
section
variable {j:Nat}{want b:Bool}
theorem bind_some {o:Option Nat}{v:Value}(h:o.bind (t_ e)=some v):∃gd,o=some gd/\t_ e gd=some v:=by
 cases o with
 | none=>cases h
 | some g=>exact ⟨g,rfl,h⟩
theorem Rh {v:Value}(h:(bif Nat.blt d N then ((ops[j]?).bind (·.dst)).bind (t_ e) else none)=some (.bool b))(hw:b=want)(hr:Rd noX P N ⟨some d,op,ty,pos,aft,some (j,want)⟩ e w v)(k:WL P N ops K Q rest ((d,v)::e) w):WL P N ops K Q (⟨some d,op,ty,pos,aft,some (j,want)⟩::rest) e w:=by
 obtain ⟨gd,h1,h2⟩:=bind_some (e_f h).2;exact Rg h1 h2 hw (e_f h).1 hr k
theorem Nh (h:(bif Nat.blt d N then ((ops[j]?).bind (·.dst)).bind (t_ e) else none)=some (.bool b))(hw:b = !want)(k:WL P N ops K Q rest ((d,undef)::e) w):WL P N ops K Q (⟨some d,op,ty,pos,aft,some (j,want)⟩::rest) e w:=by
 obtain ⟨gd,h1,h2⟩:=bind_some (e_f h).2;exact Ng h1 h2 hw (e_f h).1 k
theorem Nv (h:(bif Nat.blt d N then ((ops[j]?).bind (·.dst)).bind (t_ e) else none)=some undef)(k:WL P N ops K Q rest ((d,undef)::e) w):WL P N ops K Q (⟨some d,op,ty,pos,aft,some (j,want)⟩::rest) e w:=by
 obtain ⟨gd,h1,h2⟩:=bind_some (e_f h).2;exact Nu h1 h2 (e_f h).1 k
end
end
theorem goF {P:Program}{f:FuncId}{G:Func}{c:Code}{N:Nat}{args:List Value}{w:World}{R:Value->World->Prop}(hf:P.funcs[f]? = some G)(hb:G.body=some c)(hN:G.ntmps=N)(hle:args.length<=N)(h:∀fn:Func,fn.results=G.results->WC P N c (b_G P fn R) (QR P fn R) (f_l 0 args) w):g_ P f args w R:=g_i hf hb hN hle<|h G rfl
theorem goG {P:Program}{f:FuncId}{G:Func}{c:Code}{N:Nat}{args:List Value}{w:World}{R:Value->World->Prop}(hf:P.funcs[f]? = some G)(hb:G.body=some c)(hN:G.ntmps=N)(hle:Nat.ble args.length N=true)(h:∀fn:Func,fn.results=G.results->WC P N c (b_G P fn R) (QR P fn R) (f_l 0 args) w):g_ P f args w R:=goF hf hb hN (Nat.le_of_ble_eq_true hle) h
section
variable {P:Program}{N:Nat}{e:Env}{w:World}{ty:TypeId}{pos:String}{aft:Array Edge}{gd:Option (Nat×Bool)}{x y:Operand}
theorem fs0 {T n g o:Nat}{v:Value}{cur cur':List Value}(hs:∀w,(sizeOf T).run P w = .ok n w)(hp:ev e x=some (.pointer<|some ⟨g,o,none⟩))(hv:ev e y=some v)(hB:Blk w g cur)(hn:v.cells.size=n)
  (ho:Nat.ble (o+n) cur.length=true) (h1:v.cells.toList.all Value.oneCell'=true) (hcur:cur.take o++v.cells.toList++cur.drop (o+v.cells.toList.length)=cur') :
  Ef P N ⟨none,.store T x y,ty,pos,aft,gd⟩ e w (λ_ w'=>Blk w' g cur'/\Chg (· = g) w w'):=b_0 hs hp hv hB hn (Nat.le_of_ble_eq_true ho) (b_h h1) hcur
end
abbrev rQ {ρ:Type}(P:Program)(fn:Func)(Q:ρ->Value->World->Prop)(r:ρ)(ex:Exit)(a:Act)(w:World):Prop:=ex = .ret/\b_G P fn (Q r) a w
abbrev _root_.Go.World.z (w:World):Nat:=w.heap.size
abbrev sl (a:Option Addr)(n c:Nat):Value:=.slice a n c
abbrev sN:Value:=sl none 0 0
abbrev pt (g:Nat):Value:=.pointer<|some ⟨g,0,none⟩
abbrev Bw (a b:World):Prop:=Below a.heap.size a b
abbrev vR (x:d_)(G:Option Addr)(H I:Nat)(a2:Option Addr)(J L:Nat)(O:Option Addr)(V W:Nat)(Y:Option Addr)(n4 c4:Nat):List Value:=[x.name.v,vI x.kind,vI x.size,vB x.little,.slice G H I,.slice a2 J L,.slice O V W,.slice Y n4 c4]
theorem z {α:Sort u}{a:α}:a=a:=rfl
theorem Sat.k {N:Nat}{e e':Env}{a:Act}(h:Sat N e a)(hs:sub e e'):Sat N e' a:=h.weaken hs
theorem fid {a:Prop}(h:a):a:=h
theorem lt_ {a b c:Nat}(h:a<=b)(h':b<=c):a<=c:=Nat.le_trans h h'
theorem lr {a:Nat}:a<=a:=Nat.le_refl a
theorem lb {a b:Nat}(h:Nat.ble a b=true):a<=b:=Nat.le_of_ble_eq_true h
theorem ii {x:Int}(h:(decide (-9223372036854775808<=x) && decide (x<=9223372036854775807))=true):inI x:=n_l x h
section
variable {S T A M:List Nat}{m n g k:Nat}
theorem h_R (h:m<=n):∀k∈[n],m<=k:=a_m h
theorem mno (h:∀ k∈T,k<m)(h':m<=n):∀k∈[n],k∉T:=a_m<|λht=>absurd (h n ht)<|Nat.not_lt.2 h'
theorem mnr (h:∀ k∈T,k<m):∀k∈[m],k∉T:=mno h lr
theorem mm1 (h:g<m)(h':m<=n):∀k∈[n],k∉[g]:=mno (a_m h) h'
theorem mmr (h:g<m):∀k∈[m],k∉[g]:=mno (a_m h) lr
theorem mor (h:m<=n):∀k∈[n],k∈M∨m<=k:=a_m<|.inr h
theorem o0n1 (hs:∀k∈S,n<=k)(h:g<m)(h':m<=n):∀k∈S,k∉[g]:=or0 hs<|f_a (a_m h) h'
theorem djs (h:∀k∈S,k∉[g]):g∉S:=λhg=>h g hg<|List.mem_singleton.2 rfl
theorem atp {p:Nat->Prop}(h:∀k∈[g],p k):p g:=h g<|List.mem_singleton.2 rfl
theorem nd0:([]++[]:List Nat).Nodup:=f_b x_ x_ c_8
theorem al0 {p:Nat->Prop}:∀k∈([]++[]:List Nat),p k:=d_x c_8 c_8
end
section
variable {e e':Env}{v1 v2 v3 v4 v5 v6 v7 v8 v9:Value}{k1 k2 k3 k4 k5 k6 k7 k8 k9:Nat}
theorem s1 (h1:t_ e k1=some v1):sub e [(k1,v1)]:=⟨h1,trivial⟩
theorem s2 (h1:t_ e k1=some v1)(h2:t_ e k2=some v2):sub e [(k1,v1),(k2,v2)]:=⟨h1,s1 h2⟩
theorem s3 (h1:t_ e k1=some v1)(h2:t_ e k2=some v2)(h3:t_ e k3=some v3):sub e [(k1,v1),(k2,v2),(k3,v3)]:=⟨h1,s2 h2 h3⟩
theorem s4 (h1:t_ e k1=some v1)(h2:t_ e k2=some v2)(h3:t_ e k3=some v3)(h4:t_ e k4=some v4):sub e [(k1,v1),(k2,v2),(k3,v3),(k4,v4)]:=⟨h1,s3 h2 h3 h4⟩
theorem s5 (h1:t_ e k1=some v1)(h2:t_ e k2=some v2)(h3:t_ e k3=some v3)(h4:t_ e k4=some v4)(h5:t_ e k5=some v5):sub e [(k1,v1),(k2,v2),(k3,v3),(k4,v4),(k5,v5)]:=⟨h1,s4 h2 h3 h4 h5⟩
theorem s6 (h1:t_ e k1=some v1)(h2:t_ e k2=some v2)(h3:t_ e k3=some v3)(h4:t_ e k4=some v4)(h5:t_ e k5=some v5)(h6:t_ e k6=some v6):sub e [(k1,v1),(k2,v2),(k3,v3),(k4,v4),(k5,v5),(k6,v6)]:=⟨h1,s5 h2 h3 h4 h5 h6⟩
theorem s7 (h1:t_ e k1=some v1)(h2:t_ e k2=some v2)(h3:t_ e k3=some v3)(h4:t_ e k4=some v4)(h5:t_ e k5=some v5)(h6:t_ e k6=some v6)(G:t_ e k7=some v7):sub e [(k1,v1),(k2,v2),(k3,v3),(k4,v4),(k5,v5),(k6,v6),(k7,v7)]:=⟨h1,s6 h2 h3 h4 h5 h6 G⟩
theorem s8 (h1:t_ e k1=some v1)(h2:t_ e k2=some v2)(h3:t_ e k3=some v3)(h4:t_ e k4=some v4)(h5:t_ e k5=some v5)(h6:t_ e k6=some v6)(G:t_ e k7=some v7)(H:t_ e k8=some v8):sub e [(k1,v1),(k2,v2),(k3,v3),(k4,v4),(k5,v5),(k6,v6),(k7,v7),(k8,v8)]:=⟨h1,s7 h2 h3 h4 h5 h6 G H⟩
theorem s9 (h1:t_ e k1=some v1)(h2:t_ e k2=some v2)(h3:t_ e k3=some v3)(h4:t_ e k4=some v4)(h5:t_ e k5=some v5)(h6:t_ e k6=some v6)(G:t_ e k7=some v7)(H:t_ e k8=some v8)(I:t_ e k9=some v9):sub e [(k1,v1),(k2,v2),(k3,v3),(k4,v4),(k5,v5),(k6,v6),(k7,v7),(k8,v8),(k9,v9)]:=⟨h1,s8 h2 h3 h4 h5 h6 G H I⟩
end
theorem onL {α:Type}[Dat α]{w:World}:a_ w [] (.slice none 0 0) ([]:List α):=l_2 w
theorem _root_.Go.RowKit.Below.s {b:Nat}{w w':World}(h:Below b w w'):w.heap.size<=w'.heap.size:=h.size
theorem Chg.s {X:Nat->Prop}{w w':World}(h:Chg X w w'):w.heap.size<=w'.heap.size:=h.size
abbrev Chg.e:=@Chg.ext
abbrev repS.e:=@repS.ext
abbrev repS.c:=@repS.chg
abbrev a_.e:=@a_.ext
abbrev a_.c:=@a_.chg
abbrev u_.e:=@u_.ext
abbrev u_.c:=@u_.chg
abbrev a_H.e:=@a_H.ext
abbrev a_H.c:=@a_H.chg
abbrev b_9.e:=@b_9.ext
abbrev b_9.c:=@b_9.chg
abbrev GlW.e:=@GlW.ext
abbrev GlW.c:=@GlW.chg
abbrev Blk.e:=@Blk.ext
abbrev Blk.c:=@Blk.chg
abbrev a_z.e:=@a_z.ext
abbrev a_z.c:=@a_z.chg
section
variable {P:Program}{N:Nat}{ops:Array Oper}{K:Act->World->Prop}{Q:Exit->Act->World->Prop}{e:Env}{w:World}{rest:List Oper}{X:Nat->Prop}{T:Nat}{p:a_y}
variable {d d':Nat}{ty ty':TypeId}{pos pos':String}{aft aft':Array Edge}{x x':Operand}{v v':Value}
theorem Rw {c:Code}{Q':Exit->Act->World->Prop}(h:(bif Nat.blt d N then ev e x else none)=some v)(k:WC P N c K Q ((d,v)::e) w):WL P N ops (KC P c K Q) Q' [⟨some d,.assign x,ty,pos,aft,none⟩] e w:=Ra h<|Wn k
theorem Wm {id:Nat}{l:List Oper}{c:Code}(h:(bif Nat.blt d N then ev e x else none)=some v)(k:WL P N (⟨some d,.move x,ty,pos,aft,none⟩::l).toArray (KC P c K Q) Q l ((d,v)::e) w):WC P N (.seq (.region id (⟨some d,.move x,ty,pos,aft,none⟩::l).toArray false) c) K Q e w:=Ws<|Rm h k
theorem RM (h:(bif Nat.blt d N then ev e x else none)=some v)(h':(bif Nat.blt d' N then ev ((d,v)::e) x' else none)=some v')(k:WL P N ops K Q rest ((d',v')::(d,v)::e) w):WL P N ops K Q (⟨some d,.move x,ty,pos,aft,none⟩::⟨some d',.move x',ty',pos',aft',none⟩::rest) e w:=Rm h<|Rm h' k
theorem RA (h:(bif Nat.blt d N then ev e x else none)=some v)(h':(bif Nat.blt d' N then ev ((d,v)::e) x' else none)=some v')(k:WL P N ops K Q rest ((d',v')::(d,v)::e) w):WL P N ops K Q (⟨some d,.assign x,ty,pos,aft,none⟩::⟨some d',.assign x',ty',pos',aft',none⟩::rest) e w:=Ra h<|Ra h' k
theorem dM {i:Nat}(ho:ops[i]? = some ⟨some d,.move x,ty,pos,aft,none⟩)(hf:Nat.blt d N=true)(h:ev e x=some v)(k:PR X P N ops T K p ((d,v)::e) w):PR X P N ops T K (.rd i p) e w:=dR ho hf (a_c h) k
theorem dQ {i:Nat}(ho:ops[i]? = some ⟨some d,.assign x,ty,pos,aft,none⟩)(hf:Nat.blt d N=true)(h:ev e x=some v)(k:PR X P N ops T K p ((d,v)::e) w):PR X P N ops T K (.rd i p) e w:=dR ho hf (a_u h) k
theorem Wx {y y':Code}{b:Bool}{Q':Exit->Act->World->Prop}(hc:ev e x=some (.bool b))(ht:b=true->WC P N y K Q e w)(hf:b=false->WC P N y' K Q e w):WL P N ops (KC P (.cond x y y') K Q) Q' [] e w:=Wn<|b_F hc ht hf
section
variable {t u i:Nat}{k:IntKind}{a b:Int}
theorem Rl (hf:Nat.blt d N=true)(h1:ev e x=some (.int k a))(h2:ev e x'=some (.int k b))(h:WL P N ops K Q rest ((d,vB<|decide<|a<b)::e) w):WL P N ops K Q (⟨some d,.binOp .lss t x x' u,ty,pos,aft,none⟩::rest) e w:=R hf (d_A h1 h2) h
theorem Rq (hf:Nat.blt d N=true)(h1:ev e x=some (.int k a))(h2:ev e x'=some (.int k b))(h:WL P N ops K Q rest ((d,vB<|a==b)::e) w):WL P N ops K Q (⟨some d,.binOp .eql t x x' u,ty,pos,aft,none⟩::rest) e w:=R hf (g_p h1 h2) h
theorem Rf {g o j:Nat}(hf:Nat.blt d N=true)(h1:Fld P t i j)(h2:ev e x=some (.pointer<|some ⟨g,o,none⟩))(h:WL P N ops K Q rest ((d,.pointer<|some ⟨g,o+j,none⟩)::e) w):WL P N ops K Q (⟨some d,.fieldAddr t x i,ty,pos,aft,none⟩::rest) e w:=R hf (f_o h1 h2) h
theorem Re {vs:Array Value}(hf:Nat.blt d N=true)(h1:ev e x=some (.tuple vs))(h2:vs[i]? = some v)(h:WL P N ops K Q rest ((d,v)::e) w):WL P N ops K Q (⟨some d,.extract x i,ty,pos,aft,none⟩::rest) e w:=R hf (c_R h1 h2) h
end
theorem l0 {t g o:Nat}{dst:Option Tmp}{gd:Option (Nat×Bool)}(hT:∀w,(isAgg t).run P w = .ok false w)(h:ev e x=some (.pointer<|some ⟨g,o,none⟩))(hc:w.cell? ⟨g,o,none⟩=some v):Rd noX P N ⟨dst,.load t x,ty,pos,aft,gd⟩ e w v:=c_c hT h (λh=>h) hc
def plA:Nat->Nat->List Nat->a_y
 | _,0,_=>.done
 | i,n+1,l=>bif l.elem i then .ef i (plA (i+1) n l) else .rd i (plA (i+1) n l)
abbrev pl_ (n:Nat)(l:List Nat):a_y:=plA 0 n l
end
end Go.Vw
namespace Go.Vw
open Go.RowKit Dat
section
variable {w w' a b c : World} {M A S T : List Nat} {B : Zone} {v : Value} {g m n : Nat} {p : Prop}
section
variable {P : Nat → Prop} {S1 S2 S3 S4 : List Nat}
theorem z_ (h : (S1 ++ S2).Nodup) (g : ∀ k ∈ S1 ++ S2, P k) : S1.Nodup ∧ S2.Nodup ∧ (∀ k ∈ S1, k ∉ S2) ∧ (∀ k ∈ S1, P k) ∧ ∀ k ∈ S2, P k := ⟨g_7 h, g_8 h, g_a h, λk hk => g k (List.mem_append_left _ hk), λk hk => g k (List.mem_append_right _ hk)⟩
theorem apQ3 (h : (S1 ++ (S2 ++ S3)).Nodup) (g : ∀ k ∈ S1 ++ (S2 ++ S3), P k) : S1.Nodup ∧ S2.Nodup ∧ S3.Nodup ∧ (∀ k ∈ S1, k ∉ S2) ∧ (∀ k ∈ S1, k ∉ S3) ∧ (∀ k ∈ S2, k ∉ S3) ∧ (∀ k ∈ S1, P k) ∧ (∀ k ∈ S2, P k) ∧ ∀ k ∈ S3, P k := by
 obtain ⟨a, b, c, d, e⟩ := z_ h g
 obtain ⟨a', b', c', d', e'⟩ := z_ b e
 exact ⟨a, a', b', λk hk h => c k hk (List.mem_append_left _ h), λk hk h => c k hk (List.mem_append_right _ h), c', d, d', e'⟩
theorem apQ4 (h : (S1 ++ (S2 ++ (S3 ++ S4))).Nodup) (g : ∀ k ∈ S1 ++ (S2 ++ (S3 ++ S4)), P k) : S1.Nodup ∧ S2.Nodup ∧ S3.Nodup ∧ S4.Nodup ∧ (∀ k ∈ S1, k ∉ S2) ∧ (∀ k ∈ S1, k ∉ S3) ∧ (∀ k ∈ S1, k ∉ S4) ∧ (∀ k ∈ S2, k ∉ S3) ∧ (∀ k ∈ S2, k ∉ S4) ∧ (∀ k ∈ S3, k ∉ S4) ∧ (∀ k ∈ S1, P k) ∧ (∀ k ∈ S2, P k) ∧ (∀ k ∈ S3, P k) ∧ ∀ k ∈ S4, P k := by
 obtain ⟨a, b, c, d, e⟩ := z_ h g
 obtain ⟨n1, n2, n3, d1, d2, d3, g1, g2, g3⟩ := apQ3 b e
 exact ⟨a, n1, n2, n3, λk hk h => c k hk (List.mem_append_left _ h), λk hk h => c k hk (List.mem_append_right _ (List.mem_append_left _ h)), λk hk h => c k hk (List.mem_append_right _ (List.mem_append_right _ h)), d1, d2, d3, d, g1, g2, g3⟩
end
theorem kM1 {k : Nat} (hb : Below k w w') (h : m ≤ w.heap.size) : m ≤ w'.heap.size := Nat.le_trans h hb.size
theorem kM2 {X : Nat → Prop} (hb : Chg X w w') (h : m ≤ w.heap.size) : m ≤ w'.heap.size := Nat.le_trans h hb.size
theorem kM3 {k : Nat} (hb : Below k w w') (h : B ≤ bl w.heap.size) : B ≤ bl w'.heap.size := zt' h hb.size
theorem kM4 {X : Nat → Prop} (hb : Chg X w w') (h : B ≤ bl w.heap.size) : B ≤ bl w'.heap.size := zt' h hb.size
theorem kM5 {k : Nat} (hb : Below k w w') (h : g < w.heap.size) : g < w'.heap.size := Nat.lt_of_lt_of_le h hb.size
theorem kM6 {X : Nat → Prop} (hb : Chg X w w') (h : g < w.heap.size) : g < w'.heap.size := Nat.lt_of_lt_of_le h hb.size
theorem kM (h : p := by
 first
 | ((repeat' first
   | with_reducible assumption
   | exact Nat.le_refl _
   | ((with_reducible apply Blk.lt); (· with_reducible assumption))
   | ((with_reducible apply kM5); (· with_reducible assumption))
   | ((with_reducible apply kM6); (· with_reducible assumption))
   | ((with_reducible apply kM1); (· with_reducible assumption))
   | ((with_reducible apply kM2); (· with_reducible assumption))
   | ((with_reducible apply kM3); (· with_reducible assumption))
   | ((with_reducible apply kM4); (· with_reducible assumption))
   | with_reducible apply V_
   | with_reducible apply a_1
   | exact zr); done)
 | fail) : p := h
theorem kL1 {k : Nat} (hb : Below k w w') (h : ∀ k ∈ S, k < w.heap.size) : ∀ k ∈ S, k < w'.heap.size := λk hk => Nat.lt_of_lt_of_le (h k hk) hb.size
theorem kL2 {X : Nat → Prop} (hb : Chg X w w') (h : ∀ k ∈ S, k < w.heap.size) : ∀ k ∈ S, k < w'.heap.size := λk hk => Nat.lt_of_lt_of_le (h k hk) hb.size
theorem kL3 {α : Type} {d : Dat α} {l : List α} (h : a_ w S v l) : ∀ k ∈ S, k < w.heap.size := h.lt
theorem kL4 {α : Type} {d : Dat α} {l : List α} (h : a_z w S B v l) : ∀ k ∈ S, k < w.heap.size := h.lt
theorem kL5 {α : Type} {d : Dat α} {l : List α} (h : a_I w S v l) : ∀ k ∈ S, k < w.heap.size := h.lt
theorem kL6 {o : Option (Int × Int)} (h : a_H g w S v o) : ∀ k ∈ S, k < w.heap.size := h.lt
theorem kL (h : p := by
 first
 | ((repeat' first
   | with_reducible assumption
   | exact c_8
   | ((with_reducible apply d_x))
   | ((with_reducible apply kL3); (· with_reducible assumption))
   | ((with_reducible apply kL4); (· with_reducible assumption))
   | ((with_reducible apply kL5); (· with_reducible assumption))
   | ((with_reducible apply kL6); (· with_reducible assumption))
   | ((with_reducible apply a_m); exact kM)
   | ((with_reducible apply kL1); (· with_reducible assumption))
   | ((with_reducible apply kL2); (· with_reducible assumption))); done)
 | fail) : p := h
section
variable {P : Nat → Prop}
theorem h_4 (h : ∀ k, n ≤ k → P k) : ∀ k ∈ [n], P k := a_m (h n (Nat.le_refl n))
theorem h_5 (hg : n ≤ g) (h : ∀ k, n ≤ k → P k) : ∀ k ∈ [g], P k := a_m (h g hg)
theorem lit1 (h : ∀ k, n ≤ k → P k) (hs : ∀ k ∈ S, P k) : ∀ k ∈ n :: S, P k := λk hk => (List.mem_cons.1 hk).elim (λe => e ▸ h n (Nat.le_refl n)) (hs k)
theorem or1' (hs : ∀ k ∈ S, k ∈ A ∨ n ≤ k) (h : ∀ k, n ≤ k → P k) (ha : ∀ k ∈ A, P k) : ∀ k ∈ S, P k := or1 hs ha h
theorem or2' (hs : ∀ k ∈ S, k ∈ A ∨ k ∈ T ∨ n ≤ k) (h : ∀ k, n ≤ k → P k) (ha : ∀ k ∈ A, P k) (hb : ∀ k ∈ T, P k) : ∀ k ∈ S, P k := or2 hs ha hb h
theorem ltnotL (h : ∀ k ∈ T, k < n) : ∀ k, n ≤ k → k ∉ T := λk hk ht => absurd (h k ht) (Nat.not_lt.2 hk)
theorem ltgeb (h : ∀ k ∈ A, n ≤ k) : ∀ k, bl n k → k ∉ A := g_1 h
theorem memJ (hg : g ∈ S) (h : ∀ k ∈ S, k ∉ T) : g ∉ T := h g hg
theorem singM (h : ∀ k ∈ [g], k ∉ T) : g ∉ T := h g (List.mem_singleton.2 rfl)
theorem singN {i j : Nat} (h : ∀ k ∈ [g], ¬ zn B i j k) : ¬ zn B i j g := h g (List.mem_singleton.2 rfl)
theorem singB (h : ∀ k ∈ [g], ¬ bl n k) : ¬ bl n g := h g (List.mem_singleton.2 rfl)
theorem nznL' {i j : Nat} (h1 : ∀ k ∈ A, k < i) (h : ∀ k ∈ A, ¬ B k) : ∀ k ∈ A, ¬ zn B i j k := nznL h h1 (Nat.le_refl _)
theorem nznR' {i j : Nat} (h1 : ∀ k ∈ A, j ≤ k) (h : ∀ k ∈ A, ¬ B k) : ∀ k ∈ A, ¬ zn B i j k := nznR h h1
end
theorem kU (h : p := by
 first
 | ((first
   | ((with_reducible apply lele); exact kM)
   | ((with_reducible apply g_2); exact kM)
   | ((with_reducible apply ltnotL); exact kL)
   | ((with_reducible apply f_i); exact kM)); done)
 | fail) : p := h
theorem sG (h : p := by
 first
 | ((repeat' first
   | with_reducible assumption
   | exact c_8
   | ((with_reducible apply d_x))
   | ((with_reducible apply h_4); exact kU)
   | ((with_reducible apply h_5); (· with_reducible assumption); exact kU)
   | ((with_reducible apply or0); (· with_reducible assumption); exact kU)
   | ((with_reducible apply or1'); (· with_reducible assumption); (· exact kU))
   | ((with_reducible apply or2'); (· with_reducible assumption); (· exact kU))
   | ((with_reducible apply lit1); (· exact kU))); done)
 | fail) : p := h
theorem sZ (h : p := by
 first
 | ((repeat' first
   | with_reducible assumption
   | exact c_8
   | ((with_reducible apply d_x))
   | ((with_reducible apply a_m); (· with_reducible assumption))
   | ((with_reducible apply nbl); exact sG)
   | ((with_reducible apply h_4); exact kU)
   | ((with_reducible apply h_5); (· with_reducible assumption); exact kU)
   | ((with_reducible apply or0); (· with_reducible assumption); exact kU)
   | ((with_reducible apply or1'); (· with_reducible assumption); (· exact kU))
   | ((with_reducible apply or2'); (· with_reducible assumption); (· exact kU))
   | ((with_reducible apply lit1); (· exact kU))
   | ((with_reducible apply nznL'); (· exact kL))
   | ((with_reducible apply nznR'); (· exact sG))); done)
 | fail) : p := h
theorem sJ (h : p := by
 first
 | ((repeat' first
   | with_reducible assumption
   | ((with_reducible apply nmA))
   | with_reducible exact b_y (by with_reducible assumption)
   | ((with_reducible apply h_4); exact kU)
   | ((with_reducible apply h_5); (· with_reducible assumption); exact kU)
   | ((with_reducible apply b_y); (with_reducible apply h_4); exact kU)
   | ((with_reducible apply b_y); (with_reducible apply h_5); (· with_reducible assumption); exact kU)
   | ((with_reducible apply b_y); (with_reducible apply or0); (· with_reducible assumption); exact kU)
   | ((with_reducible apply b_y); (with_reducible apply or1'); (· with_reducible assumption); (· exact kU))
   | ((with_reducible apply b_y); (with_reducible apply or2'); (· with_reducible assumption); (· exact kU))
   | ((with_reducible apply b_y); (with_reducible apply lit1); (· exact kU))); done)
 | fail) : p := h
theorem nBg {Z : Zone} (hg : n ≤ g) (hb : Z ≤ bl n) : ¬ Z g := λh => absurd (hb g h) (Nat.not_lt.2 hg)
theorem sQ (h : p := by
 first
 | ((repeat' first
   | with_reducible assumption
   | exact c_8
   | exact nmN _
   | ((with_reducible show ∀ k ∈ (_ : List Nat), _); first
     | ((with_reducible apply b_y); (· with_reducible assumption))
     | (with_reducible apply d_x)
     | (with_reducible apply nmA)
     | ((with_reducible apply g_6); (first | exact c_P | exact b_1 c_P | exact a_k c_P | exact a_k (b_1 c_P) | exact a_k (a_k c_P) | exact a_k (a_k (b_1 c_P)) | exact a_k (a_k (a_k c_P))))
     | ((with_reducible apply h_4); exact kU)
     | ((with_reducible apply h_5); (· with_reducible assumption); exact kU)
     | ((with_reducible apply or0); (· with_reducible assumption); exact kU)
     | ((with_reducible apply or1'); (· with_reducible assumption); (· exact kU))
     | ((with_reducible apply or2'); (· with_reducible assumption); (· exact kU))
     | ((with_reducible apply lit1); (· exact kU))
     | ((with_reducible apply b_y); (with_reducible apply h_4); exact kU)
     | ((with_reducible apply b_y); (with_reducible apply h_5); (· with_reducible assumption); exact kU)
     | ((with_reducible apply b_y); (with_reducible apply or0); (· with_reducible assumption); exact kU)
     | ((with_reducible apply b_y); (with_reducible apply or1'); (· with_reducible assumption); (· exact kU))
     | ((with_reducible apply b_y); (with_reducible apply or2'); (· with_reducible assumption); (· exact kU))
     | ((with_reducible apply b_y); (with_reducible apply lit1); (· exact kU))
     | exact sZ)
   | ((show ∀ _ : Nat, _ → _); first
     | (with_reducible apply nmA)
     | ((with_reducible apply c_9); exact sZ)
     | ((with_reducible apply ltgeb); exact sG))
   | ((with_reducible apply memJ); (· with_reducible assumption); (with_reducible apply or0); (· with_reducible assumption); exact kU)
   | ((with_reducible apply memJ); (· with_reducible assumption); (· exact sJ))
   | ((with_reducible refine singM ?_); exact sJ)
   | ((with_reducible apply nBg); (· with_reducible assumption); exact kM)
   | ((with_reducible refine singN ?_); exact sZ)
   | ((with_reducible refine singB ?_); exact sZ)
   | exact kM); done)
 | fail) : p := h
theorem a_X {X : Nat → Prop} (h : Cg S w w') (hs : ∀ k ∈ S, X k := by exact sQ) : Chg X w w' := h.mono λk _ hk => hs k hk
theorem sQB {Z : Zone} (hk : Z g) (h : ∀ k, Z k → k ∉ M := by exact sQ) : g ∉ M := h g hk
theorem kW1 (h' : Below b.heap.size b c) (h : Below a.heap.size a b) : Below a.heap.size a c := bup h h'
theorem kW2 (h' : Cg A b c) (hx : ∀ k ∈ A, a.heap.size ≤ k) (h : Below a.heap.size a b) : Below a.heap.size a c := d_8 h h' hx
theorem kW3 (h' : Below b.heap.size b c) (h : Cg M a b) : Cg M a c := g_d h h'
theorem kW4 (h' : Cg A b c) (hx : ∀ k ∈ A, k ∈ M ∨ a.heap.size ≤ k) (h : Cg M a b) : Cg M a c := g_c h h' hx
theorem kW (h : p := by
 first
 | ((repeat' first
   | with_reducible assumption
   | with_reducible exact f_7 _
   | with_reducible exact g_b _ _
   | ((with_reducible apply kW1); (· with_reducible assumption))
   | ((with_reducible apply kW2); (· with_reducible assumption); (· exact sQ))
   | ((with_reducible apply kW3); (· with_reducible assumption))
   | ((with_reducible apply kW4); (· with_reducible assumption); (· exact sQ))); done)
 | fail) : p := h
theorem Val.bytes_mk' (x : Int) (y : Bt) (z : List Val) : (Val.mk x y z).bytes = y := rfl
theorem Val.items_mk' (x : Int) (y : Bt) (z : List Val) : (Val.mk x y z).items = z := rfl
theorem kBx {l : List Value} (hb : Below w.heap.size w w') (h : Blk w g l) : Blk w' g l := h.ext hb
theorem kBy {l : List Value} (hc : Cg M w w') (h : Blk w g l) (hx : ∀ k ∈ [g], k ∉ M) : Blk w' g l := h.chg hc (hx g (List.mem_singleton.2 rfl))
theorem kB {l : List Value} (h : Blk w g l := by
 first
 | ((repeat' first
   | with_reducible assumption
   | ((with_reducible apply kBx); (· with_reducible assumption))
   | ((with_reducible apply kBy); (· with_reducible assumption))
   | exact sQ); done)
 | fail) : Blk w g l := h
theorem kBa {l : List Value} {i : Nat} (h : Blk w g l := by exact kB) (hv : l[i]? = some v := by exact rfl) : w.cell? ⟨g, i, none⟩ = some v := h.at hv
theorem kBr {l vs : List Value} (o n : Nat) (h : Blk w g l := by exact kB) (hv : (l.drop o).take n = vs := by exact rfl) : u_ w g o vs := h.row o n hv
theorem kRx {α : Type} {d : Dat α} {l : List α} (hb : Below w.heap.size w w') (h : repS w B v l) : repS w' B v l := h.ext hb
theorem kRy {α : Type} {d : Dat α} {l : List α} (hc : Cg M w w') (h : repS w B v l) (hx : ∀ k, B k → k ∉ M) : repS w' B v l := h.chg hc hx
theorem kR {α : Type} {d : Dat α} {l : List α} (h : repS w B v l := by
 first
 | ((repeat' first
   | with_reducible assumption
   | ((with_reducible apply kRx); (· with_reducible assumption))
   | ((with_reducible apply kRy); (· with_reducible assumption))
   | exact sQ); done)
 | (dsimp only [Val.bytes_mk', Val.items_mk']; (repeat' first
   | with_reducible assumption
   | ((with_reducible apply kRx); (· with_reducible assumption))
   | ((with_reducible apply kRy); (· with_reducible assumption))
   | exact sQ); done)
 | fail) : repS w B v l := h
theorem kOx {α : Type} {d : Dat α} {l : List α} (hb : Below w.heap.size w w') (h : a_ w S v l) : a_ w' S v l := h.ext hb
theorem kOy {α : Type} {d : Dat α} {l : List α} (hc : Cg M w w') (h : a_ w S v l) (hx : ∀ k ∈ S, k ∉ M) : a_ w' S v l := h.chg hc hx
theorem kO {α : Type} {d : Dat α} {l : List α} (h : a_ w S v l := by
 first
 | ((repeat' first
   | with_reducible assumption
   | ((with_reducible apply kOx); (· with_reducible assumption))
   | ((with_reducible apply kOy); (· with_reducible assumption))
   | exact sQ); done)
 | (dsimp only [Val.bytes_mk', Val.items_mk']; (repeat' first
   | with_reducible assumption
   | ((with_reducible apply kOx); (· with_reducible assumption))
   | ((with_reducible apply kOy); (· with_reducible assumption))
   | exact sQ); done)
 | fail) : a_ w S v l := h
theorem kOmx {α : Type} {d : Dat α} {l : List α} (hb : Below w.heap.size w w') (h : a_I w S v l) : a_I w' S v l := h.ext hb
theorem kOmy {α : Type} {d : Dat α} {l : List α} (hc : Cg M w w') (h : a_I w S v l) (hx : ∀ k ∈ S, k ∉ M) : a_I w' S v l := h.chg hc hx
theorem kOm {α : Type} {d : Dat α} {l : List α} (h : a_I w S v l := by
 first
 | ((repeat' first
   | with_reducible assumption
   | ((with_reducible apply kOmx); (· with_reducible assumption))
   | ((with_reducible apply kOmy); (· with_reducible assumption))
   | exact sQ); done)
 | (dsimp only [Val.bytes_mk', Val.items_mk']; (repeat' first
   | with_reducible assumption
   | ((with_reducible apply kOmx); (· with_reducible assumption))
   | ((with_reducible apply kOmy); (· with_reducible assumption))
   | exact sQ); done)
 | fail) : a_I w S v l := h
theorem kHx {α : Type} {d : Dat α} {l : List α} (hb : Below w.heap.size w w') (h : a_z w S B v l) : a_z w' S B v l := h.ext hb
theorem kHy {α : Type} {d : Dat α} {l : List α} (hc : Cg M w w') (h : a_z w S B v l) (hx : ∀ k ∈ S, k ∉ M) (hy : ∀ k, B k → k ∉ M) : a_z w' S B v l := h.chg hc hx hy
theorem kH {α : Type} {d : Dat α} {l : List α} (h : a_z w S B v l := by
 first
 | ((repeat' first
   | with_reducible assumption
   | ((with_reducible apply kHx); (· with_reducible assumption))
   | ((with_reducible apply kHy); (· with_reducible assumption))
   | exact sQ); done)
 | (dsimp only [Val.bytes_mk', Val.items_mk']; (repeat' first
   | with_reducible assumption
   | ((with_reducible apply kHx); (· with_reducible assumption))
   | ((with_reducible apply kHy); (· with_reducible assumption))
   | exact sQ); done)
 | fail) : a_z w S B v l := h
theorem kEx {o : Option (Int × Int)} (hb : Below w.heap.size w w') (h : a_H g w S v o) : a_H g w' S v o := h.ext hb
theorem kEy {o : Option (Int × Int)} (hc : Cg M w w') (h : a_H g w S v o) (hx : ∀ k ∈ S, k ∉ M) : a_H g w' S v o := h.chg hc hx
theorem kE {o : Option (Int × Int)} (h : a_H g w S v o := by
 first
 | ((repeat' first
   | assumption
   | ((with_reducible apply kEx); (· with_reducible assumption))
   | ((with_reducible apply kEy); (· with_reducible assumption))
   | exact sQ); done)
 | fail) : a_H g w S v o := h
theorem kGx {D : World → Prop} (hb : Below w.heap.size w w') (h : GlW n D w B) : GlW n D w' B := h.ext hb
theorem kGy {D : World → Prop} (hc : Cg M w w') (h : GlW n D w B) (hx : ∀ k, B k → k ∉ M) : GlW n D w' B := h.chg hc hx
theorem kG {D : World → Prop} (h : GlW n D w B := by
 first
 | ((repeat' first
   | with_reducible assumption
   | ((with_reducible apply kGx); (· with_reducible assumption))
   | ((with_reducible apply kGy); (· with_reducible assumption))
   | exact sQ); done)
 | fail) : GlW n D w B := h
theorem kIx {x : Str} {q : Nat} (hb : Below w.heap.size w w') (h : b_9 w g x q) : b_9 w' g x q := h.ext hb
theorem kIy {x : Str} {q : Nat} (hc : Cg M w w') (h : b_9 w g x q) (hx : ∀ k ∈ [g], k ∉ M) : b_9 w' g x q := h.chg hc (hx g (List.mem_singleton.2 rfl))
theorem kI {x : Str} {q : Nat} (h : b_9 w g x q := by
 first
 | ((repeat' first
   | with_reducible assumption
   | ((with_reducible apply kIx); (· with_reducible assumption))
   | ((with_reducible apply kIy); (· with_reducible assumption))
   | exact sQ); done)
 | fail) : b_9 w g x q := h
theorem kCx {o : Nat} {l : List Value} (hb : Below w.heap.size w w') (h : u_ w g o l) : u_ w' g o l := h.ext hb
theorem kC {o : Nat} {l : List Value} (h : u_ w g o l := by
 first
 | ((repeat' first
   | with_reducible assumption
   | ((with_reducible apply kCx); (· with_reducible assumption))); done)
 | fail) : u_ w g o l := h
theorem kCa {o j : Nat} {l : List Value} (h : u_ w g o l := by exact kC) (hv : l[j]? = some v := by exact rfl) : w.cell? ⟨g, o + j, none⟩ = some v := h.at hv
theorem kC0 {o : Nat} {l : List Value} (h : u_ w g o l := by exact kC) (hv : l[0]? = some v := by exact rfl) : w.cell? ⟨g, o, none⟩ = some v := h.at (j := 0) hv
end
end Go.Vw
namespace Go.Vw
open Go.RowKit Dat
abbrev pq (b o:Nat):Value:=.pointer<|some ⟨b,o,none⟩
abbrev rp {α:Type}[Dat α](w:World)(B:Zone)(a:Option Addr)(n c:Nat)(l:List α):Prop:=repS w B (.slice a n c) l
section
variable {P:Program}{N:Nat}{ops:Array Oper}{K:Act->World->Prop}{Q:Exit->Act->World->Prop}{e:Env}{w:World}{rest:List Oper}
variable {d:Nat}{op:Op}{ty:TypeId}{pos:String}{aft:Array Edge}{gd:Option (Nat×Bool)}{x y:Operand}{X:Nat->Prop}{T i:Nat}{p:a_y}{t g o n:Nat}{v:Value}{cur vs:List Value}
theorem EvX (cs:List Value)(hf:Nat.blt d N=true)(hx:ev e x=some v)(hc:v.cells.toList=cs)(k:∀w',Below w.heap.size w w'->Blk w' w.heap.size cs->WL P N ops K Q rest ((d,.pointer<|some ⟨w.heap.size,0,none⟩)::e) w'):WL P N ops K Q (⟨some d,.box t x,ty,pos,aft,none⟩::rest) e w :=
 E hf (c_o hx) λ_ w' q=>by
  obtain ⟨rfl,c⟩:=q;exact k w' c.below<|hc ▸ c.blk
theorem EvZ (cs:List Value)(hf:Nat.blt d N=true)(hz:∀w,(zeroValue t).run P w = .ok v w)(hc:v.cells.toList=cs)(k:∀w',Below w.heap.size w w'->Blk w' w.heap.size cs->WL P N ops K Q rest ((d,.pointer<|some ⟨w.heap.size,0,none⟩)::e) w'):WL P N ops K Q (⟨some d,.alloc t,ty,pos,aft,none⟩::rest) e w :=
 E hf (c_H hz) λ_ w' q=>by
  obtain ⟨rfl,c⟩:=q;exact k w' c.below<|hc ▸ c.blk
theorem dNb (cs:List Value)(ho:ops[i]? = some ⟨some d,.alloc t,ty,pos,aft,none⟩)(hf:Nat.blt d N=true)(hz:∀w,(zeroValue t).run P w = .ok v w)(hc:v.cells.toList=cs)(k:∀w',Below w.heap.size w w'->Blk w' w.heap.size cs->PR X P N ops T K p ((d,.pointer<|some ⟨w.heap.size,0,none⟩)::e) w'):PR X P N ops T K (.ef i p) e w :=
 dE ho hf (c_H hz) (.inr λ_ _ h=>a_l h.2.below) λ_ w' q=>by
  obtain ⟨rfl,c⟩:=q;exact k w' c.below<|hc ▸ c.blk
theorem fs9 (cs:List Value)(hs:∀w,(sizeOf t).run P w = .ok n w)(hp:ev e x=some (.pointer<|some ⟨g,o,none⟩))(hv:ev e y=some v)(hB:Blk w g cur)(h:(v.cells.size,Nat.ble (o+n) cur.length,v.cells.toList.all Value.oneCell',cur.take o++v.cells.toList++cur.drop (o+v.cells.toList.length))=(n,true,true,cs)) :
  Ef P N ⟨none,.store t x y,ty,pos,aft,gd⟩ e w (λ_ w'=>Blk w' g cs/\Chg (· = g) w w'):=by
 simp only [Prod.mk.injEq] at h
 exact fs0 hs hp hv hB h.1 h.2.1 h.2.2.1 h.2.2.2
theorem E0q (cs:List Value)(hs:∀w,(sizeOf t).run P w = .ok n w)(hp:ev e x=some (.pointer<|some ⟨g,o,none⟩))(hv:ev e y=some v)(hB:Blk w g cur)(h:(v.cells.size,Nat.ble (o+n) cur.length,v.cells.toList.all Value.oneCell',cur.take o++v.cells.toList++cur.drop (o+v.cells.toList.length))=(n,true,true,cs))(k:∀w',Blk w' g cs->Cg [g] w w'->WL P N ops K Q rest e w'):WL P N ops K Q (⟨none,.store t x y,ty,pos,aft,none⟩::rest) e w :=
 E0 (fs9 cs hs hp hv hB h) λ_ w' h=>k w' h.1 h.2.one
theorem dS {m:Nat}{M:List Nat}(cs:List Value)(ho:ops[i]? = some ⟨none,.store t x y,ty,pos,aft,none⟩)(hs:∀w,(sizeOf t).run P w = .ok n w)(hp:ev e x=some (.pointer<|some ⟨g,o,none⟩))(hv:ev e y=some v)(hB:Blk w g cur)(h:(v.cells.size,Nat.ble (o+n) cur.length,v.cells.toList.all Value.oneCell',cur.take o++v.cells.toList++cur.drop (o+v.cells.toList.length))=(n,true,true,cs))(hm:m<=g)(k:∀w',Blk w' g cs->Cg [g] w w'->PR (λk=>k∈M∨m<=k) P N ops T K p e w'):PR (λk=>k∈M∨m<=k) P N ops T K (.ef i p) e w :=
 dE0 ho (fs9 cs hs hp hv hB h) (.inr λ_ _ h=>chgNew hm h.2) λ_ w' q=>k w' q.1 q.2.one
theorem iB {R:Value->World->Prop}:T.testBit i=true∨∀v w',(Below w.heap.size w w'/\R v w')->Chg X w w':=.inr λ_ _ h=>a_l h.1
theorem lC (vs:List Value)(hT:∀w,(isAgg t).run P w = .ok true w)(hs:∀w,(sizeOf t).run P w = .ok n w)(h:ev e x=some (.pointer<|some ⟨g,0,none⟩))(hl:vs.length=n:=by exact rfl)(hc:Blk w g vs:=by exact kB):Rd noX P N ⟨some d,.load t x,ty,pos,aft,gd⟩ e w (.agg vs.toArray):=b_a hT hs h hl (λh=>h) hc.all
theorem bQ {zs:List Value}{places:List (Nat×Nat)}{us:List (Nat×Value)}(parts:List (Nat×Operand))(cs:List Value)(hB:b_x P t zs places)(hv:evp e parts=some us)(hf:Instr.fill (places.toArray[·]?) zs.toArray us=some cs.toArray):Rd X P N ⟨some d,.build t parts.toArray,ty,pos,aft,gd⟩ e w (.agg cs.toArray):=g_e hB hv hf
variable {ao:Option Addr}{B:Zone}{c sz':Nat}{l:Int}{kk:IntKind}{E:Nat}{α:Type}
theorem xA [Dat α]{u:List α}{v:α}(hf:Nat.blt d N=true)(hT:P.underlying t=some (.slice E))(hs:∀w,(sizeOf E).run P w = .ok sz' w)(hsz:sz'=sz α)(hx:ev e x=some (.slice ao n c))(hy:ev e y=some (.int kk l))(hr:repS w B (.slice ao n c) u)(hi:idx u l=some v)
  (k:∀b o cs,u_ w b o cs->rep w B cs v->B b->WL P N ops K Q rest ((d,.pointer<|some ⟨b,o,none⟩)::e) w):WL P N ops K Q (⟨some d,.indexAddr t x y,ty,pos,aft,none⟩::rest) e w :=
 RX hf (d_Z hT hs hsz hx hy hr hi) (by rintro _ ⟨b,o,cs,rfl,h1,h2,h3⟩;exact k b o cs h1 h2 h3)
theorem xI {u:List Int}{v:Int}(hf:Nat.blt d N=true)(hT:P.underlying t=some (.slice E))(hs:∀w,(sizeOf E).run P w = .ok sz' w)(hsz:sz'=sz Int)(hx:ev e x=some (.slice ao n c))(hy:ev e y=some (.int kk l))(hr:repS w B (.slice ao n c) u)(hi:idx u l=some v)
  (k:∀b o,u_ w b o [vI v]->inI v->WL P N ops K Q rest ((d,.pointer<|some ⟨b,o,none⟩)::e) w):WL P N ops K Q (⟨some d,.indexAddr t x y,ty,pos,aft,none⟩::rest) e w :=
 xA hf hT hs hsz hx hy hr hi (by rintro b o _ h1 h2 _;obtain ⟨rfl,h3⟩:=a_U h2;exact k b o h1 h3)
theorem dxA [Dat α]{u:List α}{v:α}(ho:ops[i]? = some ⟨some d,.indexAddr t x y,ty,pos,aft,none⟩)(hf:Nat.blt d N=true)(hT:P.underlying t=some (.slice E))(hs:∀w,(sizeOf E).run P w = .ok sz' w)(hsz:sz'=sz α)(hx:ev e x=some (.slice ao n c))(hy:ev e y=some (.int kk l))(hr:repS w B (.slice ao n c) u)(hi:idx u l=some v)
  (k:∀b o cs,u_ w b o cs->rep w B cs v->B b->PR X P N ops T K p ((d,.pointer<|some ⟨b,o,none⟩)::e) w):PR X P N ops T K (.rd i p) e w :=
 dRX ho hf (d_Z hT hs hsz hx hy hr hi) (by rintro _ ⟨b,o,cs,rfl,h1,h2,h3⟩;exact k b o cs h1 h2 h3)
end
section
variable {P:Program}{N:Nat}{e:Env}{w:World}{fn:Func}{ρ:Type}{R:ρ->Value->World->Prop}{r s:ρ}{r1 r2 r3:ResultVar}{u v x:Value}
theorem rS1 (hq:some r=some s)(hr:fn.results = #[r1])(h1:b_z P e w r1 u)(hR:R r u w):∀a,Sat N e a->b_G P fn (R s) a w:=by
 cases hq
 exact a_R hr h1 hR
theorem rS2 (hq:some r=some s)(hr:fn.results = #[r1,r2])(h1:b_z P e w r1 u)(h2:b_z P e w r2 v)(hR:R r (.tuple #[u,v]) w):∀a,Sat N e a->b_G P fn (R s) a w:=by
 cases hq
 exact b_A hr h1 h2 hR
theorem rS3 (hq:some r=some s)(hr:fn.results = #[r1,r2,r3])(h1:b_z P e w r1 u)(h2:b_z P e w r2 v)(h3:b_z P e w r3 x)(hR:R r (.tuple #[u,v,x]) w):∀a,Sat N e a->b_G P fn (R s) a w:=by
 cases hq
 exact e_q hr h1 h2 h3 hR
end
end Go.Vw
namespace Go.Vw
open Go.RowKit Dat Go.ChangeShapes Go.WideShapes Go.ChangeAt
structure IsT (P:Program)(t:TypeId)(α:Type)[Dat α](L:α->Prop):Prop where
 rd:∀{H:Type}(enc:TypeId×Value->H)(W:World)(fuel:Nat)(cs:List Value)(x:DataW H×List MemPlace),DataW.trod enc P W 0 (λ_=>true) true fuel t cs=some x->(x.1.weights P t).all (· <= reachBytes)=true->∃v:α,rep W W.heap.size cs v/\L v
section
variable {P:Program}{t:TypeId}
theorem q_M (ht:P.underlying t=some (.int .u8)):IsT P t UInt8 (λ_=>True):=⟨λenc W fuel cs x h _=>by
 obtain ⟨n,rfl,_,hw⟩:=DataW.trod_int ht h;have hb:=bounds_u8 hw
 have e:n=byteI (UInt8.ofNat n.toNat):=by
  unfold byteI
  rw [UInt8.toNat_ofNat']
  omega
 refine ⟨UInt8.ofNat n.toNat,⟨_,rfl,?_⟩,trivial⟩
 show Value.int .u8 n=vU (byteI<|UInt8.ofNat n.toNat)
 rw [← e]⟩
theorem n_z {H:Type}{e:TypeId}:∀{l:List (DataW H)}{d:DataW H},(DataW.weightsAll P e l).all (· <= reachBytes)=true->d∈l->(d.weights P e).all (· <= reachBytes)=true
 | [],_,_,h=>by cases h
 | y::l,d,hw,h=>by
  unfold DataW.weightsAll at hw
  rw [List.all_append,Bool.and_eq_true] at hw
  rcases List.mem_cons.1 h with rfl | h
  .exact hw.1
  .exact n_z hw.2 h
theorem n_A {H:Type}:∀{ts:List TypeId}{l:List (DataW H)}{i:Nat}{t:TypeId}{d:DataW H},(DataW.weightsEach P ts l).all (· <= reachBytes)=true->ts[i]? = some t->l[i]? = some d->(d.weights P t).all (· <= reachBytes)=true
 | [],_,_,_,_,_,h,_=>by simp at h
 | _::_,[],_,_,_,_,_,h=>by simp at h
 | t::ts,y::l,i,t',d,hw,h1,h2=>by
  unfold DataW.weightsEach at hw
  rw [List.all_append,Bool.and_eq_true] at hw
  cases i with
  | zero=>simp at h1 h2;subst h1 h2;exact hw.1
  | succ i=>simp at h1 h2;exact n_A hw.2 h1 h2
theorem cells?_spec {w:World}{a:Addr}{n:Nat}{cs:List Value}(h:w.cells? 0 a n=some cs):cs.length=n/\∀j v,cs[j]? = some v->w.cell? (a.add j)=some v:=by
 unfold World.cells? at h
 rw [if_pos (Nat.zero_le _)] at h
 refine ⟨by simpa using mapM_some_length h,λj v hv=>?_⟩
 have hj:j<n:=by
  have h1:=(List.getElem?_eq_some_iff.1 hv).1;have h2:=mapM_some_length h
  simp at h2
  omega
 have:=mapM_some_get h j j (by rw [List.getElem?_range hj])
 rw [this];exact hv
theorem q_N {w:World}{a:Addr}{v:Value}(h:w.cell? a=some v):a.spot=none:=by
 unfold World.cell? at h
 split at h
 .cases hs:a.spot with
  | none=>rfl
  | some x=>rw [hs] at h;simp at h
 .cases h
theorem l_8 {α:Type}(Q:Nat->α->Prop):∀(len:Nat),(∀i,i<len->∃v,Q i v)->∃l:List α,l.length=len/\∀(i:Nat)(x:α),l[i]? = some x->Q i x
 | 0,_=>⟨[],rfl,λi x h=>by simp at h⟩
 | n+1,h=>by
  obtain ⟨l,hl,hq⟩:=l_8 Q n<|λi hi=>h i (by omega);obtain ⟨v,hv⟩:=h n (by omega);refine ⟨l++[v],by simp [hl],λi x hx=>?_⟩
  by_cases hi:i<l.length
  .rw [List.getElem?_append_left hi] at hx;exact hq i x hx
  .rw [List.getElem?_append_right (by omega)] at hx
   have h1:=(List.getElem?_eq_some_iff.1 hx).1
   simp only [List.length_cons,List.length_nil] at h1
   have h2:i=n:=by omega
   subst h2
   rw [show i - l.length=0 by omega] at hx
   simp at hx
   exact hx ▸ hv
theorem q_O {α:Type}[Dat α]{L:α->Prop}{e:TypeId}(ht:P.underlying t=some (.slice e))(he:IsT P e α L)(hc:P.cellsOf e=sz α)(hb:1<=P.bytesOf e):IsT P t (List α) (λl=>l.length<=LEN/\∀x∈l,L x):=⟨λenc W fuel cs x h hw=>by
 have hr:reachBytes=140737488351232:=rfl;have hL:LEN=140737488355328:=rfl
 rcases DataW.trod_slice ht h with ⟨rfl,rfl⟩ | ⟨a,len,cap,elems,rest,n,_,rfl,rfl,_,hlc,_,hlen,hel,hsp,_⟩
 .exact ⟨[],⟨_,rfl,none,0,rfl,Nat.le_refl _,Nat.zero_le _,λ_=>rfl,λp hp=>by cases hp⟩,by simp,λx hx=>by cases hx⟩
 .obtain ⟨hrl,_⟩:=hsp rfl
  have hw':(elems.length+rest.length) * P.bytesOf e<=reachBytes/\(DataW.weightsAll P e<|elems.map (·.1)).all (· <= reachBytes)=true:=by
   unfold DataW.weights at hw
   rw [ht] at hw
   simp only [List.all_cons,List.all_append,Bool.and_eq_true,decide_eq_true_eq,List.length_map] at hw
   exact ⟨hw.1,hw.2.1⟩
  have hcap:cap<=LEN:=by
   have h1:elems.length+rest.length<=(elems.length+rest.length) * P.bytesOf e:=Nat.le_mul_of_pos_right _ hb
   omega
  have hone:∀i:Nat,i<len->∃v:α,a.spot=none/\a.block<W.heap.size/\(∃cs,u_ W a.block (a.off+i * sz α) cs/\rep W W.heap.size cs v)/\L v:=by
   intro i hi;have h1:=hel i hi;have hie:i<elems.length:=by omega
   rw [List.getElem?_eq_getElem hie] at h1
   cases hcs:W.cells? 0 (a.add<|i * P.cellsOf e) (P.cellsOf e) with
   | none=>rw [hcs] at h1;cases h1
   | some cs =>
    rw [hcs] at h1
    simp only [Option.bind_some] at h1
    obtain ⟨v,hv,hl⟩:=he.rd enc W n cs _ h1<|n_z hw'.2<|List.mem_map_of_mem<|List.getElem_mem hie;obtain ⟨J,O⟩:=cells?_spec hcs;have hpos:0<cs.length:=by rw [J,hc];exact Dat.pos
    have hsp:a.spot=none:=by
     have G:=hel 0 (by omega)
     rw [List.getElem?_eq_getElem (show 0<elems.length by omega)] at G
     cases H:W.cells? 0 (a.add<|0 * P.cellsOf e) (P.cellsOf e) with
     | none=>rw [H] at G;cases G
     | some I =>
      obtain ⟨V,Y⟩:=cells?_spec H;have hpos0:0<I.length:=by rw [V,hc];exact Dat.pos
      have:=Y 0 I[0] (by rw [List.getElem?_eq_getElem hpos0]);have:=q_N this
      simpa [Addr.add] using this
    have ha:a=⟨a.block,a.off,none⟩:=by cases a;simp only at hsp;rw [hsp]
    have hcells:u_ W a.block (a.off+i * sz α) cs:=by
     intro j u hu;have:=O j u hu
     rw [ha,Addr.add_lit,Addr.add_lit,hc] at this
     exact this
    exact ⟨v,hsp,hcells.lt (by intro h;rw [h] at hpos;cases hpos),⟨cs,hcells,hv⟩,hl⟩
  obtain ⟨l,hll,hq⟩:=l_8 _ len hone;refine ⟨l,⟨_,rfl,some a,cap,by rw [hll],by omega,by omega,λh=>(by cases h),λp hp=>?_⟩,by omega,λx hx=>?_⟩
  .obtain rfl:=Option.some.inj hp;refine ⟨λhne=>?_,λhne=>?_,λi x hx=>(hq i x hx).2.2.1⟩
   .cases l with
    | nil=>exact absurd rfl hne
    | cons y l=>exact (hq 0 y rfl).1
   .cases l with
    | nil=>exact absurd rfl hne
    | cons y l=>exact (hq 0 y rfl).2.1
  .obtain ⟨i,hi⟩:=List.getElem?_of_mem hx
   exact (hq i x hi).2.2.2⟩
structure OkW (P:Program)(W:World)(base:Nat)(t:TypeId)(v:Value):Prop where
 h:Value.okWide P W .any base t v
structure OkWs (P:Program)(W:World)(base:Nat)(ts:Array TypeId)(vs:Array Value):Prop where
 h:∀(j:Nat) t v,ts[j]? = some t->vs[j]? = some v->Value.okWide P W .any base t v
theorem OkWs.at {W:World}{base:Nat}{ts:Array TypeId}{vs:Array Value}(h:OkWs P W base ts vs)(j:Nat)(t:TypeId)(v:Value)(h1:ts[j]? = some t)(h2:vs[j]? = some v):OkW P W base t v:=⟨h.h j t v h1 h2⟩
theorem q_P {W:World}{base:Nat}{t:TypeId}{v:Value}{e:TypeId}(ht:P.underlying t=some (.slice e))(h:OkW P W base t v):∃a n c,v = .slice a n c:=okWide_slice ht h.h
theorem n_B {H:Type}{enc:TypeId×Value->H}(hl:laidOutB P=true){W W':World}(hb:Below W.heap.size W W'):∀(ts:List TypeId)(vs:List Value)(ds:List (DataW H))(ps:List MemPlace),(∀t∈ts,P.readableRec t=true/\t<P.types.size) ->
  DataW.TrodAll enc P W 0 (λ_=>true) true ts vs ds ps->(∀x∈ps,x.block<W.heap.size)->∀(sp:Nat->Bool),(∀b,b<W.heap.size->sp b=true)->DataW.TrodAll enc P W' 0 sp true ts vs ds ps
 | [],[],[],_,_,h,_,_,_=>h
 | t::ts,v::vs,d::ds,ps,hr,h,hlt,sp,hsp=>by
  obtain ⟨p,q,h1,h2,rfl⟩:=h;refine ⟨p,q,?_,n_B hl hb ts vs ds q (λt ht=>hr t<|List.mem_cons_of_mem _ ht) h2 (λx hx=>hlt x<|List.mem_append_right _ hx) sp hsp,rfl⟩;have hlp:∀x∈p,x.block<W.heap.size:=λx hx=>hlt x<|List.mem_append_left _ hx
  exact WideElems.Trod_stays hl (hr t List.mem_cons_self).1 (hr t List.mem_cons_self).2 h1 (λx hx=>hb.same<|hlp x hx) (λx hx=>hsp _<|hlp x hx)
 | [],_::_,_,_,_,h,_,_,_=>by cases h
 | [],[],_::_,_,_,h,_,_,_=>by cases h
 | _::_,[],_,_,_,h,_,_,_=>by cases h
 | _::_,_::_,[],_,_,h,_,_,_=>by cases h
theorem q_Q {H:Type}{enc:TypeId×Value->H}{f:Func}{s:ChangeSpec}{apart fresh handsOn again:Bool}{W W':World}{args:Array Value}{ds gs:List (DataW H)}{before:List MemPlace}{tb:TypeId}(hl:laidOutB P=true)(hread:∀t∈f.params.toList,P.readableRec t=true/\t<P.types.size)
  (hb:Below W.heap.size W W') (hW:DataW.Whole enc P f.params.toList s.vars apart W args.toList ds gs before) (hres:f.resultTypes = #[tb]) (htb:P.underlying tb=some .bool) (hvars:s.vars=[]) (hfn:s.fn H (ds++gs)={ results:=[.lit (.bool true)],args:=ds }) :
  s.post enc P f apart fresh handsOn again W args (.bool true) W':=by
 have hlt:∀x∈before,x.block<W.heap.size:=λp hp=>hW.lt p hp
 have hW':=hW;obtain ⟨p,q,hA,hV,rfl,hz,hn⟩:=hW
 rw [hvars] at hV
 obtain ⟨rfl,rfl⟩:=trodVars_none hV;have hA':=λsp hsp=>n_B hl hb _ _ _ _ hread hA (λx hx=>hlt x (by simpa using hx)) sp hsp
 have hr:∀(b:Nat)(sp:Nat->Bool)(hd:Bool),DataW.TrodAll enc P W' b sp hd f.resultTypes.toList ((Value.bool true).resultList f.resultTypes.size) (s.fn H<|ds++[]).results []:=λb sp hd=>by
  rw [hfn,hres];exact trodAll_cons_mk (shut_bool htb _) trodAll_mk0
 have hvs:∀sp:Nat->Bool,DataW.TrodVars enc P W' sp s.vars (s.fn H<|ds++[]).vars []:=λsp=>by rw [hfn,hvars];rfl
 refine ⟨ds,[],p++[],[],p,[],hW',hr _ _ _,by rw [hfn];exact hA' _ (λb hb=>by simpa using hb),hvs _,hb.frame _,λ_=>⟨?_,([.lit (.bool true)]:List (DataW H))++ds,[],([]++p)++[],⟨[]++p,[],?_,?_,rfl,?_,?_⟩,?_⟩⟩
 .exact ok_one hres rfl<|okWide_bool_mk htb _
 .have h1:=hr 0 (λ_=>true) true
  rw [hfn] at h1
  exact trodAll_append (hA' _<|λ_ _=>rfl) h1
 .rw [hvars];rfl
 .intro b off hp;have hp':MemPlace.cell b off∈p++[]:=by simpa using hp
  have:=hlt _ hp'
  rw [hb.frozen (p:=⟨b,off,none⟩) this]
  exact hz b off hp'
 .intro ha;have:=hn ha;simpa using this
 .intro x hx _;simpa using hx
end
end Go.Vw
namespace Go.Vw
open Go.RowKit Dat
theorem t_b {x y:Int}(h1 : -9223372036854775808<=x+y)(h2:x+y<=9223372036854775807):i_ x y=x+y:=by
 unfold i_;rw [IntKind.wrap_i64];omega
theorem b_i {x y:Int}(h1 : -9223372036854775808<=x - y)(h2:x - y<=9223372036854775807):l_ x y=x - y:=by
 unfold l_;rw [IntKind.wrap_i64];omega
theorem e_a {x y:Int}(h1 : -9223372036854775808<=x * y)(h2:x * y<=9223372036854775807):W_ x y=x * y:=by
 unfold W_;rw [IntKind.wrap_i64];omega
theorem l_W {x y:Int}(G:0<=x)(hx:x<=9223372036854775807)(hy:0<y):c_1 x y=x / y:=by
 unfold c_1
 rw [Int.tdiv_eq_ediv_of_nonneg G,IntKind.wrap_i64]
 have h1:=Int.ediv_nonneg G<|Int.le_of_lt hy;have h2:=Int.ediv_le_self y G
 omega
theorem k_y {x y:Int}(G:0<=x):b_3 x y=x % y:=by
 unfold b_3;exact Int.tmod_eq_emod_of_nonneg G
theorem t_c {a b:UInt8}:byteI a=byteI b ↔ a=b:=by
 unfold byteI
 constructor
 .intro h;have:a.toNat=b.toNat:=by omega
  exact UInt8.toNat_inj.1 this
 .rintro rfl;rfl
section
variable {α:Type}
theorem l_X {l:List α}{k:Nat}(h:k<l.length):idx l (k:Int)=some l[k]:=by rw [n_k];simp [h]
theorem e_N {l:List α}{i:Int}(G:0<=i)(h:i.toNat<l.length):idx l i=some l[i.toNat]:=by
 unfold idx;rw [if_pos G];simp [h]
theorem a_S {l:List α}(h:0<l.length):idx l 0=some l[0]:=l_X (k:=0) h
theorem l_Y {l:List α}(h:1<l.length):idx l 1=some l[1]:=l_X (k:=1) h
theorem f_A {l:List α}{a b:Int}(G:0<=a)(h1:a<=b)(h2:b<=l.length):slc l a b=some ((l.take b.toNat).drop a.toNat):=by
 unfold slc;rw [if_pos ⟨G,h1,h2⟩]
theorem a_a {l:List α}{x:α}(h:l.length<LIM):psh l x=some (l++[x]):=by unfold psh;rw [if_pos h]
theorem b_r {l m:List α}(h:l.length+m.length<=LIM):app l m=some (l++m):=by unfold app;rw [if_pos h]
theorem a_4 {s t:Str}(h:s.b.length+t.b.length<=LIM):cat s t=some ⟨s.b++t.b⟩:=by unfold cat;rw [if_pos h]
theorem l_Z {l:List α}{k:Nat}{x:α}(h:k<l.length):upd l (k:Int) x=some (l.set k x):=by
 unfold upd;rw [if_pos ⟨by omega,by omega⟩];rfl
theorem t_d {l:List α}{i:Int}{x:α}(G:0<=i)(h:i<l.length):upd l i x=some (l.set i.toNat x):=by
 unfold upd;rw [if_pos ⟨G,h⟩]
theorem k_z {z:α}{n:Nat}(h:n<=LIM):mk0 z (n:Int)=some (List.replicate n z):=by
 unfold mk0;rw [if_pos ⟨by omega,by omega⟩];simp
theorem t_e {z:α}{n:Int}(G:0<=n)(h:n<=LIM):mk0 z n=some (List.replicate n.toNat z):=by
 unfold mk0;rw [if_pos ⟨G,h⟩]
end
section
variable {σ ρ:Type}
theorem p_7 {body:Nat->σ->Option (Out σ ρ)}(st:Nat->σ):∀n k,(∀j,k<=j->j<k+n->body j (st j)=some (.next<|st<|j+1))->n_ body n k (st k)=some (.inl<|st<|k+n)
 | 0,k,_=>rfl
 | n+1,k,h=>by
  have h1:=h k (Nat.le_refl _) (by omega);have h2:=p_7 st n (k+1)<|λj a b=>h j (by omega) (by omega);unfold n_
  rw [h1]
  simp only
  rw [h2,show k+1+n=k+(n+1) by omega]
theorem e_O {body:Nat->σ->Option (Out σ ρ)}(st:Nat->σ){n:Nat}(h:∀j,j<n->body j (st j)=some (.next<|st<|j+1)):n_ body n 0 (st 0)=some (.inl<|st n):=by
 have:=p_7 st n 0<|λj _ b=>h j (by omega)
 simpa using this
theorem forN_ret' {body:Nat->σ->Option (Out σ ρ)}(st:Nat->σ){r:ρ}:∀n k j0,k<=j0->j0<k+n->(∀j,k<=j->j<j0->body j (st j)=some (.next<|st<|j+1))->body j0 (st j0)=some (.ret r)->n_ body n k (st k)=some (.inr r)
 | 0,k,j0,a,b,_,_=>by omega
 | n+1,k,j0,a,b,h,hr=>by
  unfold n_
  by_cases hk:k=j0
  .subst hk;rw [hr]
  .rw [h k (Nat.le_refl _) (by omega)]
   exact forN_ret' st n (k+1) j0 (by omega) (by omega) (λj c d=>h j (by omega) d) hr
theorem i_O {body:Nat->σ->Option (Out σ ρ)}(st:Nat->σ){r:ρ}{n j0:Nat}(G:j0<n)(h:∀j,j<j0->body j (st j)=some (.next<|st<|j+1))(hr:body j0 (st j0)=some (.ret r)):n_ body n 0 (st 0)=some (.inr r) :=
 forN_ret' st n 0 j0 (by omega) (by omega) (λj _ b=>h j b) hr
theorem k_A {body:Nat->Unit->Option (Out Unit ρ)}{n:Nat}(p:Nat->Bool)(r:Nat->ρ)(h:∀k,k<n->(∀j,j<k->p j=false)->body k ()=some (if p k then .ret (r k) else .next ())) :
  n_ body n 0 ()=some (match (List.range n).find? p with | some k=>.inr (r k) | none=>.inl ()):=by
 cases hf:(List.range n).find? p with
 | none =>
  have hn:∀k,k<n->p k=false:=λk hk=>by
   have:=List.find?_eq_none.1 hf k<|List.mem_range.2 hk
   simpa using this
  exact e_O (λ_=>()) (λj hj=>by rw [h j hj (λi hi=>hn i (by omega)),hn j hj];rfl)
 | some k =>
  obtain ⟨hp,as,bs,hl,has⟩:=List.find?_eq_some_iff_append.1 hf
  have hk:as.length<n/\as.length=k:=by
   have h1:as.length<(List.range n).length:=by rw [hl];simp
   simp at h1
   refine ⟨h1,?_⟩;have h2:(List.range n)[as.length]? = some k:=by rw [hl];simp
   rw [List.getElem?_range h1] at h2
   exact Option.some.inj h2
  obtain ⟨h1,rfl⟩:=hk
  have hb:∀j,j<as.length->p j=false:=λj hj=>by
   have h2:(List.range n)[j]? = some (as[j]):=by rw [hl,List.getElem?_append_left hj];simp
   rw [List.getElem?_range (by omega)] at h2
   have h3:=has as[j] (List.getElem_mem hj)
   rw [← Option.some.inj h2] at h3
   simpa using h3
  exact i_O (λ_=>()) h1 (λj hj=>by rw [h j (by omega) (λi hi=>hb i (by omega)),hb j hj];rfl) (by rw [h _ h1 hb,if_pos hp])
theorem t_f {α:Type}(l:List α)(p:α->Bool)(q:Nat->Bool)(h:∀k (hk:k<l.length),q k=p l[k]):(List.range l.length).any q=l.any p:=by
 rw [Bool.eq_iff_iff]
 simp only [List.any_eq_true,List.mem_range]
 constructor
 .rintro ⟨k,hk,hq⟩;exact ⟨l[k],List.getElem_mem hk,by rw [← h k hk];exact hq⟩
 .rintro ⟨x,hx,hp⟩;obtain ⟨k,hk,rfl⟩:=List.getElem_of_mem hx;exact ⟨k,hk,by rw [h k hk];exact hp⟩
theorem e_b {body:Nat->Unit->Option (Out Unit ρ)}{n:Nat}(p:Nat->Bool)(r:ρ)(h:∀k,k<n->(∀j,j<k->p j=false)->body k ()=some (if p k then .ret r else .next ())) :
  n_ body n 0 ()=some (if (List.range n).any p then .inr r else .inl ()):=by
 rw [k_A p (λ_=>r) h]
 cases hf:(List.range n).find? p with
 | none =>
  have:(List.range n).any p=false:=by
   rw [List.any_eq_false];exact λx hx=>by simpa using List.find?_eq_none.1 hf x hx
  rw [this];rfl
 | some k =>
  have:(List.range n).any p=true:=List.any_eq_true.2 ⟨k,List.mem_of_find?_eq_some hf,List.find?_some hf⟩
  rw [this];rfl
theorem e_P {α:Type}{body:Nat->Unit->Option (Out Unit ρ)}{l:List α}(p:α->Bool)(r:ρ)(h:∀k (hk:k<l.length),body k ()=some (if p l[k] then .ret r else .next ())) :
  n_ body l.length 0 ()=some (if l.any p then .inr r else .inl ()):=by
 rw [e_b (λk=>if hk:k<l.length then p l[k] else false) r (λk hk _=>by rw [dif_pos hk];exact h k hk)]
 rw [t_f l p _ (λk hk=>by rw [dif_pos hk])]
theorem iter_brk' {step:σ->Option (Out σ ρ)}(st:Nat->σ){s:σ}:∀m k j0,k<=j0->j0<k+m->(∀j,k<=j->j<j0->step (st j)=some (.next<|st<|j+1))->step (st j0)=some (.brk s)->L_ step m (st k)=some (.inl s)
 | 0,k,j0,a,b,_,_=>by omega
 | m+1,k,j0,a,b,h,hr=>by
  unfold L_
  by_cases hk:k=j0
  .subst hk;rw [hr]
  .rw [h k (Nat.le_refl _) (by omega)]
   exact iter_brk' st m (k+1) j0 (by omega) (by omega) (λj c d=>h j (by omega) d) hr
theorem p_8 {step:σ->Option (Out σ ρ)}(st:Nat->σ){s:σ}{m j0:Nat}(G:j0<m)(h:∀j,j<j0->step (st j)=some (.next<|st<|j+1))(hr:step (st j0)=some (.brk s)):L_ step m (st 0)=some (.inl s) :=
 iter_brk' st m 0 j0 (by omega) (by omega) (λj _ b=>h j b) hr
theorem iter_ret' {step:σ->Option (Out σ ρ)}(st:Nat->σ){r:ρ}:∀m k j0,k<=j0->j0<k+m->(∀j,k<=j->j<j0->step (st j)=some (.next<|st<|j+1))->step (st j0)=some (.ret r)->L_ step m (st k)=some (.inr r)
 | 0,k,j0,a,b,_,_=>by omega
 | m+1,k,j0,a,b,h,hr=>by
  unfold L_
  by_cases hk:k=j0
  .subst hk;rw [hr]
  .rw [h k (Nat.le_refl _) (by omega)]
   exact iter_ret' st m (k+1) j0 (by omega) (by omega) (λj c d=>h j (by omega) d) hr
theorem m_0 {step:σ->Option (Out σ ρ)}(st:Nat->σ){r:ρ}{m j0:Nat}(G:j0<m)(h:∀j,j<j0->step (st j)=some (.next<|st<|j+1))(hr:step (st j0)=some (.ret r)):L_ step m (st 0)=some (.inr r) :=
 iter_ret' st m 0 j0 (by omega) (by omega) (λj _ b=>h j b) hr
end
theorem p_9 {s:Str}{p:Nat}(h:p<s.b.length)(ha:s.b[p].toNat<128):dec s p=((s.b[p].toNat:Int),1):=by
 have h':p<(⟨s.b.toArray⟩:ByteArray).size:=by simpa [ByteArray.size] using h
 have hb:(⟨s.b.toArray⟩:ByteArray)[p]'h'=s.b[p]:=rfl;unfold dec
 rw [decode_ascii _ p h' (by rw [hb];exact ha),hb]
theorem t_g {s:Str}{p:Nat}(h:p<s.b.length)(ha:128<=s.b[p].toNat):128<=(dec s p).1:=by
 have h':p<(⟨s.b.toArray⟩:ByteArray).size:=by simpa [ByteArray.size] using h
 have hb:(⟨s.b.toArray⟩:ByteArray)[p]'h'=s.b[p]:=rfl;unfold dec;have:=(decode_high _ p h' (by rw [hb];exact ha)).1
 simp only
 omega
abbrev bF_:=@Bool.false_eq_true
abbrev dT_:=@decide_eq_true
abbrev dF_:=@decide_eq_false
abbrev bQ_:=@beq_self_eq_true
abbrev mT_:=@List.mem_cons_of_mem
abbrev mS_:=@List.mem_cons_self
abbrev gE_:=@List.getElem_mem
abbrev oI_:=@Option.some.injEq
abbrev gG_:=@List.getElem?_eq_getElem
abbrev gD_:=@List.getD_eq_getElem?_getD
abbrev aE_:=@Bool.and_eq_true
abbrev dE_:=@decide_eq_true_eq
abbrev tN_:=@Int.toNat_natCast
abbrev gS_:=@List.getElem?_eq_some_iff
abbrev iP_:=@if_pos
abbrev iN_:=@if_neg
abbrev fF_:=@if_false
abbrev fT_:=@if_true
abbrev gN_:=@List.getElem?_eq_none
abbrev nT_:=@Bool.not_true
abbrev ix_:=@l_X
abbrev ia_:=@t_b
abbrev lC_:=@List.length_cons
abbrev bN_:=@bne_self_eq_false
abbrev dC_:=@List.drop_eq_getElem_cons
end Go.Vw
